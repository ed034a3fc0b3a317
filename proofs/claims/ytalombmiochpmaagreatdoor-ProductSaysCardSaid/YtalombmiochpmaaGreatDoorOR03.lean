/- The walk of sets.Parts. -/
import Derived.Test.YtalombmiochpmaaGreatDoorOR02
import Derived.Shelf.SlSortCmp.NoneTotal
set_option maxRecDepth 100000
set_option maxHeartbeats 16000000
open Go.Lib (hid)
namespace Go.Proofs.YtalombmiochpmaaGreatDoor
section
open Go Go.RowKit Go.Shelf
def dF (s:BS):Nat:=(List.range 256).countP fun c=>s.getLsbD c
theorem Ei (p q:Nat->Bool) (l:List Nat):l.countP p=l.countP (fun c=>p c&&q c)+l.countP (fun c=>p c&& !q c):=by
 induction l with
 | nil=>rfl
 | cons a l ih=>
  simp only[List.countP_cons,ih];cases p a<;>cases q a<;>simp<;>omega
theorem Az (p s:BS):dF p=dF (p&&& s)+dF (p&&& ~~~s):=by
 unfold dF;rw[Ei _ (fun c=>s.getLsbD c)];congr 1
 ·apply List.countP_congr;intro c _;simp[BitVec.getLsbD_and]
 ·apply List.countP_congr;intro c hc
  have:c<256:=by simpa using hc
  simp[this]
theorem Ej:dF 0#256=0:=by unfold dF;rw[List.countP_eq_zero];intro c _;simp
theorem GR {s:BS} (h:s≠0):1<=dF s:=by
 rcases Nat.eq_zero_or_pos (dF s)with h0 | h0
 ·exfalso
  apply h;apply BitVec.eq_of_getLsbD_eq;intro c hc;unfold dF at h0;rw[List.countP_eq_zero]at h0;have:=h0 c (by simpa using hc);simpa using this
 ·exact h0
def cut (s p:BS):List BS:=[p&&& s,p&&& ~~~s].filter fun x=> !(x==0)
def bA (s:BS) (parts:List BS):List BS:=parts.flatMap (cut s)
def bp (l:List BS):List BS:=l.foldl (fun p s=>bA s p) [~~~0]
theorem VP (s p:BS):((cut s p).map dF).sum=dF p:=by unfold cut;rw[Az p s];generalize p&&& s=a;generalize p&&& ~~~s=b;by_cases h1:a=0#256<;>by_cases h2:b=0#256<;>simp[h1,h2,Ej]
theorem AA (s:BS) (l:List BS):((bA s l).map dF).sum=(l.map dF).sum:=by
 induction l with
 | nil=>rfl
 | cons p l ih=>
  unfold bA at*;rw[List.flatMap_cons,List.map_append,List.sum_append,ih,VP];rfl
theorem VQ (s p:BS):(cut s p).length<=2:=by unfold cut;exact List.length_filter_le _ _
theorem AB (s:BS) (l:List BS):(bA s l).length<=2*l.length:=by
 induction l with
 | nil=>exact Nat.le_refl _
 | cons p l ih=>
  have:=VQ s p;unfold bA at*;rw[List.flatMap_cons,List.length_append,List.length_cons];omega
theorem aal (s p:BS):∀ x∈cut s p,x≠0:=by intro x hx;unfold cut at hx;simp only[List.mem_filter,Bool.not_eq_true',beq_eq_false_iff_ne]at hx;exact hx.2
theorem GU:dF (~~~0)=256:=by
 unfold dF;have:(List.range 256).countP (fun c=>(~~~(0:BS)).getLsbD c)=(List.range 256).length:=by
  rw[List.countP_eq_length];intro c hc;have:c<256:=by simpa using hc
  rw[BitVec.getLsbD_not];have h0:BitVec.getLsbD (0:BS) c=false:=BitVec.getLsbD_zero;simp only[this,h0,decide_true,Bool.not_false,Bool.true_and]
 rw[this,List.length_range]
theorem AD (l:List BS) (h0:∀ x∈l,x≠0):l.length<=(l.map dF).sum:=by
 induction l with
 | nil=>simp
 | cons p l ih=>
  have h1:=GR (h0 p (by simp));have h2:=ih (fun x hx=>h0 x (by simp[hx]));simp only[List.length_cons,List.map_cons,List.sum_cons];omega
theorem vM (l:List BS) (p:List BS) (hp:∀ x∈p,x≠0):(∀ x∈l.foldl (fun p s=>bA s p) p,x≠0)/\((l.foldl (fun p s=>bA s p) p).map dF).sum=(p.map dF).sum:=by
 induction l generalizing p with
 | nil=>exact⟨hp,rfl⟩
 | cons s l ih=>
  have h:=ih (bA s p) (by
   intro x hx;unfold bA at hx;rw[List.mem_flatMap]at hx;obtain⟨q,_,hq⟩:=hx
   exact aal s q x hq)
  rw[List.foldl_cons];exact⟨h.1,h.2.trans (AA s p)⟩
theorem vN (l:List BS):∀ x∈bp l,x≠0:=(vM l _ (by simp)).1
theorem s8 (l:List BS):((bp l).map dF).sum=256:=by unfold bp;rw[(vM l _ (by simp)).2];simp only[List.map_cons,List.map_nil,List.sum_cons,List.sum_nil,GU,Nat.add_zero]
theorem dW (l:List BS):(bp l).length<=256:=by have:=AD _ (vN l);rwa[s8]at this
theorem ju (l:List BS) (s:BS):bp (l++ [s])=bA s (bp l):=by unfold bp;rw[List.foldl_append];rfl
/-! The order of sets. -/
theorem s9 (s:BS):((bC s).2=false/\s=0)\/((bC s).2=true/\(bC s).1<256/\s.getLsbD (bC s).1=true/\∀ d,d<(bC s).1->s.getLsbD d=false):=by
 have key:∀ n,n<=256->(bF s n=[]/\∀ d,d<n->s.getLsbD d=false)\/(∃ c r,bF s n=c::r/\c<n/\s.getLsbD c=true/\∀ d,d<c->s.getLsbD d=false):=by
  intro n;induction n with
  | zero=>intro _;exact .inl ⟨rfl,fun d hd=>by omega⟩
  | succ n ih=>
   intro hn;rcases ih (by omega)with⟨h1,h2⟩ | ⟨c,r,h1,h2,h3,h4⟩
   ·by_cases hb:s.getLsbD n=true
    ·refine .inr ⟨n,[],?_,by omega,hb,h2⟩
     rw[fR,h1,if_pos hb];rfl
    ·refine .inl ⟨?_,fun d hd=>?_⟩
     ·rw[fR,h1,if_neg hb];rfl
     ·by_cases hdn:d=n
      ·subst hdn;simpa using hb
      ·exact h2 d (by omega)
   ·exact .inr ⟨c,r++(if s.getLsbD n then [n]else []),by rw[fR,h1];rfl,by omega,h3,h4⟩
 unfold bC;rcases key 256 (Nat.le_refl _)with⟨h1,h2⟩ | ⟨c,r,h1,h2,h3,h4⟩
 ·left
  rw[h1];exact⟨rfl,BS.ext fun d hd=>by rw[h2 d hd];simp⟩
 ·right
  rw[h1];exact⟨rfl,h2,h3,h4⟩
def U0 (s t:BS):Prop:=∃ c,c<256/\(∀ d,d<c->s.getLsbD d=t.getLsbD d)/\s.getLsbD c=true/\t.getLsbD c=false
theorem yg (s t:BS) {c:Nat} (hc:c<256):((s&&& ~~~t) ||| (t&&& ~~~s)).getLsbD c=(s.getLsbD c != t.getLsbD c):=by simp only[BitVec.getLsbD_or,BitVec.getLsbD_and,BitVec.getLsbD_not,hc,decide_true,Bool.true_and];cases s.getLsbD c<;>cases t.getLsbD c<;>rfl
theorem py (s t:BS):(bM s t=0/\s=t)\/(bM s t= -1/\U0 s t)\/(bM s t=1/\U0 t s):=by
 unfold bM;rcases s9 ((s&&& ~~~t) ||| (t&&& ~~~s))with⟨h1,h2⟩ | ⟨h1,h2,h3,h4⟩
 ·left
  rw[h1];refine⟨rfl,BS.ext fun c hc=>?_⟩;have:=yg s t hc;rw[h2]at this;simp at this;exact this
 ·right
  rw[h1];generalize (bC ((s&&& ~~~t) ||| (t&&& ~~~s))).1=c at*;rw[yg s t h2]at h3;have h5:∀ d,d<c->s.getLsbD d=t.getLsbD d:=fun d hd=>by
   have:=h4 d hd;rw[yg s t (by omega)]at this;simpa using this
  cases hs:s.getLsbD c with
  | true=>
   have ht:t.getLsbD c=false:=by rw[hs]at h3;simpa using h3
   exact .inl ⟨by simp,c,h2,h5,hs,ht⟩
  | false=>
   have ht:t.getLsbD c=true:=by rw[hs]at h3;simpa using h3
   exact .inr ⟨by simp,c,h2,fun d hd=>(h5 d hd).symm,ht,hs⟩
theorem nC (s:BS):¬U0 s s:=by rintro⟨c,_,_,h1,h2⟩;rw[h1]at h2;cases h2
theorem mD {s t u:BS} (h:U0 s t) (k:U0 t u):U0 s u:=by
 obtain⟨c,hc,h1,h2,h3⟩:=h;obtain⟨d,hd,k1,k2,k3⟩:=k;rcases Nat.lt_trichotomy c d with VB | VB | VB
 ·exact⟨c,hc,fun e he=>(h1 e he).trans (k1 e (by omega)),h2,by rw[<-k1 c VB];exact h3⟩
 ·subst VB;rw[h3]at k2;cases k2
 ·exact⟨d,hd,fun e he=>(h1 e (by omega)).trans (k1 e he),by rw[h1 d VB];exact k2,k3⟩
theorem jw (s t:BS):ltOf bM s t=true↔U0 s t:=by
 unfold ltOf;rcases py s t with⟨h1,h2⟩ | ⟨h1,h2⟩ | ⟨h1,h2⟩
 ·rw[h1];subst h2;simp[nC]
 ·rw[h1];simp[h2]
 ·rw[h1];simp;exact fun k=>nC _ (mD h2 k)
theorem uP (s t:BS):s=t\/U0 s t\/U0 t s:=by
 rcases py s t with⟨_,h2⟩ | ⟨_,h2⟩ | ⟨_,h2⟩
 ·exact .inl h2
 ·exact .inr (.inl h2)
 ·exact .inr (.inr h2)
theorem aiQ:Sort.SWO (ltOf bM) where
 irrefl x:=by
  rw[<-Bool.not_eq_true,jw];exact nC x
 trans x y z h k:=by rw[jw]at*;exact mD h k
 ntrans x y z h k:=by
  rw[<-Bool.not_eq_true,jw]at*;intro hz;rcases uP x y with e | e | e
  ·subst e;exact k hz
  ·exact h e
  ·exact k (mD e hz)
theorem adM (x y:BS) (h:ltOf bM x y=false) (k:ltOf bM y x=false):x=y:=by
 rw[<-Bool.not_eq_true,jw]at*;rcases uP x y with e | e | e
 ·exact e
 ·exact absurd e h
 ·exact absurd e k
def partsOf (l:List BS):List BS:=(bp l).mergeSort fun x y=> !ltOf bM y x
end
section
open Go Go.RowKit Go.Shelf Go.Sort
def aN (l:List BS):List Value:=l.flatMap fun s=>(encS s).toList
theorem cT (l:List BS):(aN l).length=l.length*4:=by
 induction l with
 | nil=>rfl
 | cons s l ih=>simp only[aN,List.flatMap_cons,List.length_append]at*;rw[ih];simp[j6];omega
theorem fS (l m:List BS):aN (l++m)=aN l++aN m:=by simp[aN]
theorem Ny (s:BS):aN [s]=(encS s).toList:=by simp[aN]
theorem ji (l:List BS) {i:Nat} {s:BS} (h:l[i]? =some s) {j:Nat} (hj:j<4):(aN l)[i*4+j]? =(encS s)[j]? :=by
 induction l generalizing i with
 | nil=>simp at h
 | cons t l ih=>
  have hs:(encS t).toList.length=4:=rfl;simp only[aN,List.flatMap_cons];cases i with
  | zero=>
   simp at h;subst h;rw[Nat.zero_mul,Nat.zero_add,List.getElem?_append_left (by omega)];simp
  | succ i=>
   rw[List.getElem?_append_right (by omega),hs,show(i+1)*4+j-4=i*4+j by omega];exact ih (by simpa using h)
def th (s:BS):List Value:=(encS s).toList
theorem GV (l:List BS):flatK th 4 l.toArray=(aN l).toArray:=by
 apply Array.ext_getElem?;intro t;by_cases ht:t<l.length*4
 ·have hi:t/4<l.length:=by omega
  have h1:=ji l (List.getElem?_eq_getElem hi) (show t%4<4 by omega);rw[show t/4*4+t%4=t by omega]at h1;have h2:(flatK th 4 l.toArray)[t]? =some ((th (l[t/4]))[t%4]!):=by unfold flatK;simp[ht,hi]
  rw[h2,List.getElem?_toArray,h1];have h3:t%4<(th (l[t/4])).length:=by simp[th,j6];omega
  rw[getElem!_pos (th (l[t/4])) (t%4) h3];simp[th]
 ·rw[Array.getElem?_eq_none (by simp;omega),List.getElem?_toArray,List.getElem?_eq_none (by rw[cT];omega)]
theorem J8 {w:World} {g q:Nat} {os:Array Obj} {cur:Array Value} {e:TypeId} {fr:Nat×Nat} (l:List BS) (hb:w.heap[g]? =some (.cells cur e fr)): (sortWorldK th 4 w g 0 q l.toArray os).heap[g]? =some (.cells (putCells id 0 (aN l).toArray cur) e fr):=by have hg:g<w.heap.size:=(Array.getElem?_eq_some_iff.1 hb).1;unfold sortWorldK;rw[heap_grow_old _ _ (by simpa[putRowK,putRow,mapBlock,Sort.ahead]using hg)];simp[putRowK,putRow,mapBlock,Sort.ahead,Array.getElem?_modify,hb,onCells,GV]
theorem AE {w:World} {g q:Nat} {os:Array Obj} (d:Array BS):w.grownBy (sortWorldK th 4 w g 0 q d os) (some g):=by
 unfold sortWorldK;refine⟨rfl,rfl,rfl,by simp[putRowK,putRow,mapBlock,Sort.ahead],fun k hk hne=>?_⟩;rw[heap_grow_old _ _ (by simpa[putRowK,putRow,mapBlock,Sort.ahead]using hk)];have:g≠k:=fun e=>hne (by rw[e])
 simp[putRowK,putRow,mapBlock,Sort.ahead,Array.getElem?_modify,this]
theorem Nz (cur:Array Value) (ts:List Value) (h:ts.length<=cur.size):(putCells id 0 ts.toArray cur).toList.take ts.length=ts:=by
 apply List.ext_getElem?;intro j;by_cases hj:j<ts.length
 ·rw[List.getElem?_take_of_lt hj,Array.getElem?_toList]
  simp[putCells,hj,show j<cur.size by omega]
 ·rw[List.getElem?_take_eq_none (by omega),List.getElem?_eq_none (by omega)]
theorem AG {w:World} {base g cap n q:Nat} {e:TypeId} {os:Array Obj} {cur:Array Value} {ts:List BS} (hl:ts.length=n) (hbase:base<=g) (hb:w.heap[g]? =some (.cells cur e (0,0))) (h1:n<=cap) (h2:cap<=maxLen) (h3:cur.size=cap*4): (sortWorldK th 4 w g 0 q ts.toArray os).ownsRow base e 4 (.slice (some ⟨g,0,none⟩) n cap) n (aN ts):=
 ⟨by rw[cT,hl],.inr ⟨g,cap,_,rfl,hbase,J8 _ hb,h1,h2,by simp[putCells,h3],by
  rw[<-hl, <-cT];exact Nz cur (aN ts) (by rw[cT,hl,h3];exact Nat.mul_le_mul_right 4 h1)⟩⟩
theorem J9 {w:World} {g:Nat} {e:TypeId} {cur:Array Value} {ts:List BS} (hb:w.heap[g]? =some (.cells cur e (0,0))) (ht:cur.toList.take (ts.length*4)=aN ts):HoldsK th 4 w g 0 ts.toArray:=by
 unfold HoldsK;rw[GV];intro j hj;have hj':j<(aN ts).length:=by simpa using hj
 refine⟨?_,by simp[World.frozen?,hb]⟩;have hc:w.cell? ⟨g,0+j,none⟩=cur[j]? :=by simp[World.cell?,hb]
 rw[hc];have h1:(aN ts)[j]? =cur[j]? :=by rw[<-ht,List.getElem?_take,if_pos (by rw[<-cT];exact hj')];simp
 rw[<-h1,List.getElem?_eq_getElem hj',getElem!_pos (aN ts).toArray j (by simpa using hj')];simp
end
end Go.Proofs.YtalombmiochpmaaGreatDoor
namespace Go.Proofs
open Go.Shelf
def Tryz.Ek:Go.Shelf.Ren:=⟨fun | 6=>69 | 15=>90 | 14=>89 | 28=>118 | 29=>119 | 20=>110 | 21=>111 | 22=>112 | 23=>113 | 24=>114 | 25=>115 | 26=>116 | 27=>117 | 46=>146 | 47=>147 | 48=>148 | 49=>149 | 50=>150 | 57=>165 | n=>n,fun | 22=>25 | 24=>59 | 25=>124 | 3=>3 | 39=>159 | 0=>0 | 53=>191 | 55=>57 | 4=>4 | 46=>185 | 45=>184 | 50=>83 | 5=>5 | 9=>9 | 66=>208 | 70=>212 | 76=>235 | 77=>236 | n=>n,fun | n=>n⟩
theorem Tryz.Rb:Go.Proofs.SlLaysF0.n6 Tryz.prog Tryz.Ek:= {
 mixed:=by kernel_rfl
 f6:=⟨Tryz.f69.name,by decide,Tryz.func69.trans (congrArg some (by kernel_rfl))⟩
 f14:=⟨Tryz.f89.name,by decide,Tryz.func89.trans (congrArg some (by kernel_rfl))⟩
 f15:=Tryz.func90.trans (congrArg some (by kernel_rfl))
 f20:=⟨Tryz.f110.name,by decide,Tryz.func110.trans (congrArg some (by kernel_rfl))⟩
 f21:=⟨Tryz.f111.name,by decide,Tryz.func111.trans (congrArg some (by kernel_rfl))⟩
 f22:=⟨Tryz.f112.name,by decide,Tryz.func112.trans (congrArg some (by kernel_rfl))⟩
 f23:=⟨Tryz.f113.name,by decide,Tryz.func113.trans (congrArg some (by kernel_rfl))⟩
 f24:=⟨Tryz.f114.name,by decide,Tryz.func114.trans (congrArg some (by kernel_rfl))⟩
 f25:=⟨Tryz.f115.name,by decide,Tryz.func115.trans (congrArg some (by kernel_rfl))⟩
 f26:=⟨Tryz.f116.name,by decide,Tryz.func116.trans (congrArg some (by kernel_rfl))⟩
 f27:=⟨Tryz.f117.name,by decide,Tryz.func117.trans (congrArg some (by kernel_rfl))⟩
 f28:=Tryz.func118.trans (congrArg some (by kernel_rfl))
 f29:=Tryz.func119.trans (congrArg some (by kernel_rfl))
 f46:=⟨Tryz.f146.name,by decide,Tryz.func146.trans (congrArg some (by kernel_rfl))⟩
 f47:=Tryz.func147.trans (congrArg some (by kernel_rfl))
 f48:=Tryz.func148.trans (congrArg some (by kernel_rfl))
 f49:=⟨Tryz.f149.name,by decide,Tryz.func149.trans (congrArg some (by kernel_rfl))⟩
 f50:=⟨Tryz.f150.name,by decide,Tryz.func150.trans (congrArg some (by kernel_rfl))⟩
 f57:=⟨Tryz.f165.name,by decide,Tryz.func165.trans (congrArg some (by kernel_rfl))⟩
 t0:=Tryz.underlying0
 a0:=Tryz.isAgg0
 z0:=Tryz.sizeOf0
 v0:=Tryz.zeroValue0
 t3:=Tryz.underlying3
 a3:=Tryz.isAgg3
 z3:=Tryz.sizeOf3
 v3:=Tryz.zeroValue3
 t4:=Tryz.underlying4
 a4:=Tryz.isAgg4
 z4:=Tryz.sizeOf4
 v4:=Tryz.zeroValue4
 t5:=Tryz.underlying5
 a5:=Tryz.isAgg5
 z5:=Tryz.sizeOf5
 v5:=Tryz.zeroValue5
 t9:=Tryz.underlying9
 a9:=Tryz.isAgg9
 z9:=Tryz.sizeOf9
 v9:=Tryz.zeroValue9
 t22:=Tryz.underlying25
 a22:=Tryz.isAgg25
 z22:=Tryz.sizeOf25
 v22:=Tryz.zeroValue25
 t25:=Tryz.underlying124
 a25:=Tryz.isAgg124
 z25:=Tryz.sizeOf124
 v25:=Tryz.zeroValue124
 t39:=Tryz.underlying159
 a39:=Tryz.isAgg159
 z39:=Tryz.sizeOf159
 v39:=Tryz.zeroValue159
 t45:=Tryz.underlying184
 a45:=Tryz.isAgg184
 z45:=Tryz.sizeOf184
 v45:=Tryz.zeroValue184
 t46:=Tryz.underlying185
 a46:=Tryz.isAgg185
 z46:=Tryz.sizeOf185
 v46:=Tryz.zeroValue185
 t50:=Tryz.underlying83
 a50:=Tryz.isAgg83
 z50:=Tryz.sizeOf83
 v50:=Tryz.zeroValue83
 t53:=Tryz.underlying191
 a53:=Tryz.isAgg191
 z53:=Tryz.sizeOf191
 v53:=Tryz.zeroValue191
 t55:=Tryz.underlying57
 a55:=Tryz.isAgg57
 z55:=Tryz.sizeOf57
 v55:=Tryz.zeroValue57
 t66:=Tryz.underlying208
 a66:=Tryz.isAgg208
 z66:=Tryz.sizeOf208
 v66:=Tryz.zeroValue208
 t70:=Tryz.underlying212
 a70:=Tryz.isAgg212
 z70:=Tryz.sizeOf212
 v70:=Tryz.zeroValue212
 t76:=Tryz.underlying235
 a76:=Tryz.isAgg235
 z76:=Tryz.sizeOf235
 v76:=Tryz.zeroValue235
 t77:=Tryz.underlying236
 a77:=Tryz.isAgg236
 z77:=Tryz.sizeOf236
 v77:=Tryz.zeroValue236}
end Go.Proofs
namespace Go.Proofs.YtalombmiochpmaaGreatDoor
open Go Go.RowKit Go.Shelf Go.Maps
attribute [local go_sem] encS
def dm (w:World) (v:Value) (l:List BS):Prop:=
 (v=.slice none 0 0/\l=[])\/∃ b off cap,v=.slice (some ⟨b,off,none⟩) l.length cap/\b<w.heap.size/\∀ i s,l[i]? =some s->∀ j,j<4->w.cell? ⟨b,off+i*4+j,none⟩=(encS s)[j]?
theorem dm.keeps {w w':World} {v:Value} {l:List BS} (h:dm w v l) {R:Nat->Prop} (hk:aa R w w') (hr:∀ k,k<w.heap.size->R k):dm w' v l:=by
 rcases h with h | ⟨b,off,cap,hv,hb,h⟩
 ·exact .inl h
 ·exact .inr ⟨b,off,cap,hv,Nat.lt_of_lt_of_le hb hk.size,fun i s hi j hj=>(hk.cell (p:=⟨b,off+i*4+j,none⟩) (hr b hb)).trans (h i s hi j hj)⟩
theorem dm.below {w w':World} {v:Value} {l:List BS} (h:dm w v l) (hk:Below w.heap.size w w'):dm w' v l:=h.keeps (aa.ag hk fun _ h=>h) (fun _ h=>h)
theorem jT {w:World} {base:Nat} {v:Value} {l:List BS} (h:w.ownsRow base 59 4 v l.length (aN l)):dm w v l:=by
 rcases h.2 with⟨h1,h2⟩ | ⟨g,cap,cur,hv,_,hg,hn,_,hs,ht⟩
 ·exact .inl ⟨h1,List.eq_nil_of_length_eq_zero h2⟩
 ·refine .inr ⟨g,0,cap,hv,(Array.getElem?_eq_some_iff.1 hg).1,fun i s hi j hj=>?_⟩
  have hc:w.cell? ⟨g,0+i*4+j,none⟩=cur[0+i*4+j]? :=by simp[World.cell?,hg]
  rw[hc,Nat.zero_add, <-ji l hi hj, <-ht];have hlt:i<l.length:=(List.getElem?_eq_some_iff.1 hi).1;rw[List.getElem?_take,if_pos (by omega)];simp
theorem jU {w:World} {base n:Nat} {v:Value} {l:List BS} (h:w.ownsRow base 59 4 v n (aN l)) (hn:n=l.length) {i:Nat} {s:BS} (hi:l[i]? =some s): ∃ g cap,v=.slice (some ⟨g,0,none⟩) n cap/\base<=g/\g<w.heap.size/\∀ j,j<4->w.cell? ⟨g,i*4+j,none⟩=(encS s)[j]? :=by
 have hlt:i<l.length:=(List.getElem?_eq_some_iff.1 hi).1;rcases h.2 with⟨h1,h2⟩ | ⟨g,cap,cur,hv,hb,hg,_,_,hs,ht⟩
 ·omega
 ·refine⟨g,cap,hv,hb,(Array.getElem?_eq_some_iff.1 hg).1,fun j hj=>?_⟩
  have hc:w.cell? ⟨g,i*4+j,none⟩=cur[i*4+j]? :=by simp[World.cell?,hg]
  rw[hc, <-ji l hi hj, <-ht];rw[List.getElem?_take,if_pos (by omega)];simp
theorem Tryz.BU:(Tryz.prog.info? 59).map (fun i=>(i.zero,i.size,i.bytes))=some (some (.agg #[.int .u64 0,.int .u64 0,.int .u64 0,.int .u64 0]),4,32):=by kernel_rfl
theorem Ca (l:List BS) (v0:Value) (w:World) (hl:dm w v0 l) (hlen:l.length<=9223372036854775807): Calls Tryz.prog 37 #[v0] w fun e w'=>∃ v,e=.returned v/\w'.ownsRow w.heap.size 59 4 v (partsOf l).length (aN (partsOf l))/\Below w.heap.size w w':=by
 obtain⟨i0,hi,hz0,hz1,hz2⟩:=info_parts Tryz.BU;have HA:=hid fun W=>VO W
 obtain⟨ua,hua⟩:∃ ua:BS,ua= ~~~0:=⟨_,rfl⟩;rw[<-hua]at HA;have HUA:=hid hua;clear hua;obtain⟨n,hn⟩:∃ n,n=l.length:=⟨_,rfl⟩;obtain⟨ad,cap,hv0⟩:∃ ad cap,v0=.slice ad n cap:=by
  rcases hl with⟨h1,h2⟩ | ⟨b,off,cap,h1,_⟩
  ·exact⟨none,0,by rw[h1,hn,h2];rfl⟩
  ·exact⟨_,cap,by rw[h1,hn]⟩
 subst hv0;have HL:=hid hl;have HN:=hid hn;have hn':n<=9223372036854775807:=by omega
 clear hl hn hlen;go_enter Tryz.func37,Tryz.ntmps37;go_wp2_with (go_at_call 66;refine(HA.out _).mono ?_;rintro e w1 ⟨rfl,hx⟩;have lI:=hid hx;clear hx);refine aw ?_;intro W0 hW0;have hx0:Below w.heap.size w W0:=by rw[hW0];exact(lI.out.alloc _).below
 have ho0:W0.ownsRow w.heap.size 59 4 (.slice (some ⟨w1.heap.size,0,none⟩) 1 1) (bp []).length (aN (bp [])):=by rw[hW0,show bp []=[ua] from by rw[HUA.out];rfl];exact⟨rfl,.inr ⟨w1.heap.size,1,encS ua,rfl,lI.out.size,World.alloc_heap_new _ _,Nat.le_refl _,by decide,rfl,rfl⟩⟩
 have UY:=hid hx0;have HO0:=hid ho0;clear hx0 ho0 hW0;go_loopw [15,3] (fun i v wr=>∃ k:Nat,k<=n/\i=.int .i64 k/\wr.ownsRow w.heap.size 59 4 v (bp (l.take k)).length (aN (bp (l.take k)))/\Below w.heap.size w wr) (fun i _ _=>n-(intOf i).toNat);case atStart=>exact⟨0,by omega,rfl,HO0.out,UY.out⟩
 case round=>
  obtain⟨wo,rfl⟩:∃ wo:World,wo=wr:=⟨_,rfl⟩;obtain⟨k,hk,rfl,ho,hb⟩:=hrel;obtain⟨a3,NA,rfl⟩:=ownsRow_form ho;have HO:=hid ho;have HB:=hid hb;clear ho hb HO0 UY;by_cases hlt:k<n
  ·obtain⟨b,off,aiS,GX,s,hs,hcs⟩:∃ b off,ad=some ⟨b,off,none⟩/\b<w.heap.size/\∃ s,l[k]? =some s/\∀ j,j<4->w.cell? ⟨b,off+k*4+j,none⟩=(encS s)[j]? :=by
    have Jz:k<l.length:=by rw[<-HN.out];exact hlt
    rcases HL.out with⟨h1,h2⟩ | ⟨b,off,cap',h1,h2,h3⟩
    ·rw[h2]at Jz;simp at Jz
    ·cases h1
     exact⟨b,off,rfl,h2,l[k],List.getElem?_eq_getElem Jz,h3 k _ (List.getElem?_eq_getElem Jz)⟩
   subst aiS;have c0:wo.cell? ⟨b,off+k*4,none⟩=some (.int .u64 (wd s 0).toNat):=(HB.out.cell (p:=⟨b,off+k*4,none⟩) GX).trans (hcs 0 (by decide));have c1:wo.cell? ⟨b,off+k*4+1,none⟩=some (.int .u64 (wd s 1).toNat):=(HB.out.cell (p:=⟨b,off+k*4+1,none⟩) GX).trans (hcs 1 (by decide));have c2:wo.cell? ⟨b,off+k*4+2,none⟩=some (.int .u64 (wd s 2).toNat):=(HB.out.cell (p:=⟨b,off+k*4+2,none⟩) GX).trans (hcs 2 (by decide));have c3:wo.cell? ⟨b,off+k*4+3,none⟩=some (.int .u64 (wd s 3).toNat):=(HB.out.cell (p:=⟨b,off+k*4+3,none⟩) GX).trans (hcs 3 (by decide));have HS:=hid hs;have hP:bp (l.take (k+1))=bA s (bp (l.take k)):=by rw[List.take_add_one,hs];exact ju _ _
   have HP:=hid hP;have HM:=hid (dW (l.take k));clear hs hcs hP;generalize bp (l.take k)=pk at HO HP HM;obtain⟨m,hm⟩:∃ m,m=pk.length:=⟨_,rfl⟩;have al9:m<=256:=by rw[hm];exact HM.out
   rw[<-hm]at HO ⊢;have HMM:=hid hm;clear hm HM;go_wp2;refine aw ?_;intro W1 hW1;have sW:ah W1 wo.heap.size (encS s) 59:=by rw[hW1];exact ah.new _ _ _
   have hb1:Below wo.heap.size wo W1:=by rw[hW1];exact((Ext.refl wo).alloc _).below
   have hz1:W1.heap.size=wo.heap.size+1:=by rw[hW1];simp
   have Rc:=hid (HO.out.alloc (.cells (encS s) 59 (0,0)));have aiT:Hid (W1.ownsRow w.heap.size 59 4 (.slice a3 m NA) m (aN pk)):=by rw[hW1];exact Rc.out
   have HSB:=hid sW;have oK:=hid hb1;have HZ1:=hid hz1;clear sW hb1 hz1 hW1 Rc c0 c1 c2 c3;go_loopw [21,6] (fun i v w2=>∃ j:Nat,j<=m/\i=.int .i64 j/\w2.ownsRow W1.heap.size 59 4 v (bA s (pk.take j)).length (aN (bA s (pk.take j)))/\Below W1.heap.size W1 w2) (fun i _ _=>m-(intOf i).toNat);case atStart=>exact⟨0,by omega,rfl,World.ownsRow_nil _ _ _ _,Below.refl _ _⟩
   case round=>
    obtain⟨j,hj,rfl,Re,hb2⟩:=hrel;obtain⟨a6,aam,rfl⟩:=ownsRow_form Re;obtain⟨w2,rfl⟩:∃ w2:World,w2=wr:=⟨_,rfl⟩;have j8:=hid Re;have eT:=hid hb2;clear Re hb2;by_cases JA:j<m
    ·obtain⟨g3,ha3,hg3,p,hp,yh⟩:∃ g3,a3=some ⟨g3,0,none⟩/\g3<W1.heap.size/\∃ p,pk[j]? =some p/\∀ i,i<4->W1.cell? ⟨g3,j*4+i,none⟩=(encS p)[i]? :=by
      have hjp:j<pk.length:=by rw[<-HMM.out];exact JA
      obtain⟨g,cap',h1,_,h2,h3⟩:=jU aiT.out HMM.out (List.getElem?_eq_getElem hjp);cases h1;exact⟨_,rfl,h2,pk[j],List.getElem?_eq_getElem hjp,h3⟩
     subst ha3;have d0:w2.cell? ⟨g3,j*4,none⟩=some (.int .u64 (wd p 0).toNat):=(eT.out.cell (p:=⟨g3,j*4,none⟩) hg3).trans (yh 0 (by decide));have d1:w2.cell? ⟨g3,j*4+1,none⟩=some (.int .u64 (wd p 1).toNat):=(eT.out.cell (p:=⟨g3,j*4+1,none⟩) hg3).trans (yh 1 (by decide));have d2:w2.cell? ⟨g3,j*4+2,none⟩=some (.int .u64 (wd p 2).toNat):=(eT.out.cell (p:=⟨g3,j*4+2,none⟩) hg3).trans (yh 2 (by decide));have d3:w2.cell? ⟨g3,j*4+3,none⟩=some (.int .u64 (wd p 3).toNat):=(eT.out.cell (p:=⟨g3,j*4+3,none⟩) hg3).trans (yh 3 (by decide));have hQ:bA s (pk.take (j+1))=bA s (pk.take j)++cut s p:=by rw[List.take_add_one,hp];simp[bA]
     have HQ:=hid hQ;have HPj:=hid hp;have HAnd:=hid fun W=>VM p s W
     have Rf:=hid fun W=>ya p s W
     have VR:Hid (cut s p=[p&&& s,p&&& ~~~s].filter fun x=> !(x==0)):=rfl;clear hQ hp yh;generalize cut s p=cs at HQ VR;generalize p&&& s=xa at HAnd VR;generalize p&&& ~~~s=xb at Rf VR;go_wp2;refine aw ?_;intro W2 hW2;have wU:ah W2 w2.heap.size (encS p) 59:=by rw[hW2];exact ah.new _ _ _
     have hx2:Below w2.heap.size w2 W2:=by rw[hW2];exact((Ext.refl w2).alloc _).below
     have sW:ah W2 wo.heap.size (encS s) 59:=(HSB.out.below eT.out (by have:=HZ1.out;omega)).below hx2 (by have:=HZ1.out;have:=eT.out.size;omega);have Re:W2.ownsRow W1.heap.size 59 4 (.slice a6 (bA s (pk.take j)).length aam) (bA s (pk.take j)).length (aN (bA s (pk.take j))):=by rw[hW2];exact j8.out.alloc _
     have hz2:W2.heap.size=w2.heap.size+1:=by rw[hW2];simp
     have gP:=hid hx2;have aan:=hid Re;have HZ2:=hid hz2;clear hx2 Re hz2 hW2 d0 d1 d2 d3 j8;have aiU:wo.heap.size<W2.heap.size:=sW.lt;refine iD (fun b=>b=w2.heap.size\/b=wo.heap.size) (by kernel_rfl) (fun i=>i==2 || i==5 || i==6) (by kernel_rfl) ?_;intro C hC hne W3 hK3 hblk hsz hx3;obtain⟨a0,a1,a2,a3⟩:=Ec hC (.inl rfl) wU;obtain⟨b0,b1,b2,b3⟩:=Ec hC (.inr rfl) sW;have HC:=hid hC;have Yi:=hid hK3;have rT:=hid hx3;have JC:=hid wU;have aiV:=hid sW;have HS:Hid (∀ b,(b=w2.heap.size\/b=wo.heap.size)->b<W2.heap.size):=fun b hb=>by have h1:=JC.out.lt;have h2:=aiV.out.lt;omega
     clear hC hK3 hx3 wU sW hblk hsz aiU
     repeat (refine bZ (fun K hK=>?_);refine dU rfl ?_;unfold ai;go_simp;refine hK _ _ ?_;clear hK K)
     refine bZ (fun K hK=>?_);refine eV rfl ?_;go_simp;refine fA ((HAnd.out _).mono ?_);rintro e w4 ⟨rfl,hx⟩;have hk4:=aa.step Yi.out HS hx;refine⟨_,rfl,(HC.out _).2 hk4,hK _ _ ?_⟩;have HK4:=hid hk4;have Eg:=hid hx;clear hK K hk4 hx
     repeat (refine bZ (fun K hK=>?_);refine dU rfl ?_;unfold ai;go_simp;refine hK _ _ ?_;clear hK K)
     refine bZ (fun K hK=>?_);refine eV rfl ?_;go_simp;refine fA ((Rf.out _).mono ?_);rintro e w5 ⟨rfl,hx⟩;have hk5:=aa.step HK4.out HS hx;refine⟨_,rfl,(HC.out _).2 hk5,hK _ _ ?_⟩;have HK5:=hid hk5;have HX5:=hid hx;clear hK K hk5 hx;refine bZ (fun K hK=>?_);refine eV rfl ?_;go_simp;refine⟨(HC.out _).2 (HK5.out.alloc (fun b hb=>Nat.lt_of_lt_of_le (HS.out b hb) HK5.out.size) _),hK _ _ ?_⟩;clear hK K
     repeat (refine bZ (fun K hK=>?_);refine dU rfl ?_;unfold ai;go_simp;refine hK _ _ ?_;clear hK K)
     refine uG ?_;go_wp2;refine aw ?_;intro W6 xD;have hx6:Below W2.heap.size W2 W6:=by rw[xD];exact(((rT.out.trans Eg.out).trans HX5.out).alloc _).below
     have h31:ah W6 w5.heap.size (aN [xa,xb]).toArray 59:=by rw[xD];exact ah.new _ _ _
     have hz6:W6.heap.size=w5.heap.size+1:=by rw[xD];simp
     have ho6:W6.ownsRow W1.heap.size 59 4 (.slice a6 (bA s (pk.take j)).length aam) (bA s (pk.take j)).length (aN (bA s (pk.take j))):=aj aan.out (aa.ag hx6 fun _ h=>h) (fun k e=>(aan.out.lt k e).2);have h6b:∀ c,(Value.slice a6 (bA s (pk.take j)).length aam).ownBlock=some c->c≠w5.heap.size:=fun c e=>by
      have h1:=(aan.out.lt c e).2;have h2:=rT.out.size;have h3:=Eg.out.size;have h4:=HX5.out.size;omega
     have UZ:=hid hx6;have H31:=hid h31;have HZ6:=hid hz6;have HO6:=hid ho6;have H6b:=hid h6b;clear a0 a1 a2 a3 b0 b1 b2 b3 Yi HK4 HK5 HC HS rT Eg HX5 hx6 h31 hz6 ho6 h6b xD hne C HAnd Rf
     go_loopw [33,6] (fun i v w7=>∃ q:Nat,q<=2/\i=.int .i64 q/\w7.ownsRow W1.heap.size 59 4 v (bA s (pk.take j)++([xa,xb].take q).filter fun x=> !(x==0)).length (aN (bA s (pk.take j)++([xa,xb].take q).filter fun x=> !(x==0)))/\
       (∀ c,v.ownBlock=some c->c≠w5.heap.size)/\ah w7 w5.heap.size (aN [xa,xb]).toArray 59/\Below W1.heap.size W6 w7) (fun i _ _=>2-(intOf i).toNat)
     case atStart=>
      refine⟨0,by omega,rfl,?_,H6b.out,H31.out,Below.refl _ _⟩;rw[show([xa,xb].take 0).filter (fun x=> !(x==0))=[] from rfl,List.append_nil];exact HO6.out
     case round=>
      obtain⟨w7,rfl⟩:∃ w7:World,w7=wr:=⟨_,rfl⟩;obtain⟨q,hq,rfl,ho7,uD,h31,hb7⟩:=hrel;obtain⟨a7,aiZ,rfl⟩:=ownsRow_form ho7;have HO7:=hid ho7;have U4:=hid uD;have aap:=hid h31;have HB7:=hid hb7;clear ho7 uD h31 hb7;by_cases Yj:q<2
      ·obtain⟨x,hx⟩:∃ x,[xa,xb][q]? =some x:=⟨[xa,xb][q],List.getElem?_eq_getElem Yj⟩
       have ht:[xa,xb].take (q+1)=[xa,xb].take q++ [x]:=by rw[List.take_add_one,hx];rfl
       have Rg:∀ i,i<4->w7.cell? ⟨w5.heap.size,q*4+i,none⟩=(encS x)[i]? :=fun i hi=>by
        rw[aap.out.cell];have:=ji [xa,xb] hx hi;simpa using this
       have e0:w7.cell? ⟨w5.heap.size,q*4,none⟩=some (.int .u64 (wd x 0).toNat):=Rg 0 (by decide);have e1:w7.cell? ⟨w5.heap.size,q*4+1,none⟩=some (.int .u64 (wd x 1).toNat):=Rg 1 (by decide);have e2:w7.cell? ⟨w5.heap.size,q*4+2,none⟩=some (.int .u64 (wd x 2).toNat):=Rg 2 (by decide);have e3:w7.cell? ⟨w5.heap.size,q*4+3,none⟩=some (.int .u64 (wd x 3).toNat):=Rg 3 (by decide);have HT:=hid ht;have Gi:=hid (AB s (pk.take j));clear hx ht Rg;generalize bA s (pk.take j)=nj at HO7 HQ Gi U4 ⊢;by_cases hz:x=0#256
       ·have he:∀ W,(Op.equalIn 10000 59 (.agg #[.int .u64 (wd x 0).toNat,.int .u64 (wd x 1).toNat,.int .u64 (wd x 2).toNat,.int .u64 (wd x 3).toNat]) (.agg #[.int .u64 0,.int .u64 0,.int .u64 0,.int .u64 0])).run Tryz.prog W=.ok true W:=fun W=>by
         have h1:=j7 x 0 W;rw[fQ,hz]at h1;rw[hz];exact h1
        have hf:([x].filter fun x=> !(x==0))=[]:=by rw[hz];rfl
        have HF:=hid hf;clear hz hf;go_wp2;go_roundw;case rel=>
         refine⟨q+1,by omega,by go_num,?_,U4.out,aap.out.alloc _,HB7.out.alloc (by have:=HB7.out.size;have:=HZ6.out;have:=UZ.out.size;have:=gP.out.size;have:=eT.out.size;omega) _⟩;rw[HT.out,List.filter_append,HF.out,List.append_nil];exact HO7.out.alloc _
        case measure=>simp[intOf];omega
       ·have he:∀ W,(Op.equalIn 10000 59 (.agg #[.int .u64 (wd x 0).toNat,.int .u64 (wd x 1).toNat,.int .u64 (wd x 2).toNat,.int .u64 (wd x 3).toNat]) (.agg #[.int .u64 0,.int .u64 0,.int .u64 0,.int .u64 0])).run Tryz.prog W=.ok false W:=fun W=>by
         have h1:=j7 x 0 W;rw[fQ,show(x==0)=false from by simpa using hz]at h1;exact h1
        have hf:([x].filter fun x=> !(x==0))=[x]:=by simp[hz]
        have HF:=hid hf;have hlq:([xa,xb].take q).length<=2:=by simp;omega
        have hlf:=Nat.le_trans (List.length_filter_le (fun x=> !(x==0)) ([xa,xb].take q)) hlq;have hlj:(pk.take j).length<=256:=by simp;omega
        have HLQ:Hid ((nj++([xa,xb].take q).filter fun x=> !(x==0)).length<=514):=by have h1:=Gi.out;show List.length _<=514;rw[List.length_append];omega
        clear hz hf hlq hlf hlj;obtain⟨nq,hnq⟩:∃ nq,nq=nj++([xa,xb].take q).filter fun x=> !(x==0):=⟨_,rfl⟩
        rw[<-hnq]at HO7 HLQ U4 ⊢;have HNQ:=hid hnq;clear hnq;go_wp2_with (at_builtin;refine wpList_append_own_at _ rfl _ _ 25 rfl W1.heap.size 59 i0 (.agg #[.int .u64 0,.int .u64 0,.int .u64 0,.int .u64 0]) 4 32 Tryz.underlying25 hi hz0 hz1 hz2 rfl (by decide) _ _ _ rfl ((HO7.out.alloc _).alloc _) ⟨w7.heap.size+1,0,none⟩ 1 1 (encS x).toList rfl rfl (bU ((ah.new _ (encS x) 59).at (by simp))) (by intro u hu;simp[encS]at hu;rcases hu with rfl | rfl | rfl | rfl<;>rfl) (by have:=HLQ.out;unfold maxLen;omega) (by have:=HLQ.out;omega) (by have:=HB7.out.size;have:=UZ.out.size;have:=gP.out.size;have:=eT.out.size;simp;omega) ?_;intro v' w8 hown' hgrow hh hat;have HO8:=hid hown';have HG:=hid hgrow;have Mp:=hid hat;clear hown' hgrow hh hat);have Rh:w5.heap.size<w7.heap.size:=by have:=HB7.out.size;have:=HZ6.out;omega
        have ai1:W1.heap.size<=w7.heap.size:=by have:=HB7.out.size;have:=UZ.out.size;have:=gP.out.size;have:=eT.out.size;omega
        go_roundw
        case rel=>
         refine⟨q+1,by omega,by go_num,?_,fun c e=>?_,?_,?_⟩
         ·rw[HT.out,List.filter_append,HF.out, <-List.append_assoc, <-HNQ.out,List.length_append,fS,Ny]
          exact HO8.out
         ·have hat':v'.ownBlock=(Value.slice a7 nq.length aiZ).ownBlock\/_:=Mp.out
          rcases hat' with h | h
          ·exact U4.out c (by rw[<-h];exact e)
          ·rw[h]at e;simp at e;omega
         ·exact((aap.out.alloc _).alloc _).grown HG.out (fun e=>U4.out _ e.symm rfl)
         ·exact((HB7.out.alloc ai1 _).alloc (by simp;omega) _).grown HG.out (by simp;omega) (fun c e=>(HO7.out.lt c e).1)
        case measure=>simp[intOf];omega
      ·obtain rfl:q=2:=by omega
       have hcs:bA s (pk.take j)++([xa,xb].take 2).filter (fun x=> !(x==0))=bA s (pk.take (j+1)):=by rw[HQ.out,VR.out];rfl
       rw[hcs]at HO7 ⊢;clear hcs;go_wp2;go_roundw;case rel=>
        refine⟨j+1,by omega,by go_num,HO7.out,?_⟩;exact((eT.out.trans (gP.out.mono (by have:=eT.out.size;omega))).trans (UZ.out.mono (by have:=gP.out.size;have:=eT.out.size;omega))).trans HB7.out
       case measure=>simp[intOf];omega
    ·obtain rfl:j=m:=by omega
     have hpk:pk.take j=pk:=by rw[HMM.out];exact List.take_length
     rw[hpk, <-HP.out]at j8 ⊢;clear hpk;go_wp2;go_roundw;case rel=>
      refine⟨k+1,by omega,by go_num,aA j8.out (by have:=HZ1.out;have:=HB.out.size;omega),?_⟩;exact(HB.out.trans (oK.out.mono HB.out.size)).trans (eT.out.mono (by have:=HZ1.out;have:=HB.out.size;omega))
     case measure=>simp[intOf];omega
  ·obtain rfl:k=n:=by omega
   have eH:l.take k=l:=by rw[HN.out];exact List.take_length
   rw[eH]at HO ⊢;clear eH;have hne:bp l≠[]:=fun e=>by have:=s8 l;rw[e]at this;simp at this
   obtain⟨g,cur,hg,Qg,El,hcc,hcm,hcs,eH⟩:∃ g cur,a3=some ⟨g,0,none⟩/\w.heap.size<=g/\wo.heap[g]? =some (.cells cur 59 (0,0))/\(bp l).length<=NA/\NA<=maxLen/\cur.size=NA*4/\cur.toList.take ((bp l).length*4)=aN (bp l):=by
    rcases HO.out.2 with⟨_,h2⟩ | ⟨g,cap',cur,h1,h2,h3,h4,h5,h6,h7⟩
    ·exact absurd (List.eq_nil_of_length_eq_zero h2) hne
    ·cases h1
     exact⟨g,cur,rfl,h2,h3,h4,h5,h6,h7⟩
   subst hg;have eg:∀ args w,(callFunc 70 args).run Tryz.prog w=.ok (.enter 70 args) w:=enters_of Tryz.func70 (by kernel_rfl) rfl;have hcon:=AnyQ.slices_SortFunc_total Tryz.Rb 4 Tryz.isAgg59 Tryz.sizeOf59 th (fun _=>rfl) (fun x v hv=>by simp[th,encS]at hv;rcases hv with rfl | rfl | rfl | rfl<;>rfl) bM aiQ 70 #[] g 0 NA (bp l).toArray wo eg
    (fun m os dk _ x y=>(GK x y _).mono fun e w' ⟨he,hx⟩=>⟨he,hx.grow⟩) (J9 El eH) (Array.getElem?_eq_some_iff.1 El).1 (by have:=dW l;simp;omega) adM
   have Yk:Hid (Calls Tryz.prog 69 #[.slice (some ⟨g,0,none⟩) (bp l).length NA,.func (.func 70) #[] #[]] wo fun e w'=>
    e=.returned (.tuple #[])/\∃ n os,w'=sortWorldK th 4 wo g 0 n (partsOf l).toArray os):=hcon
   clear hcon hne;have hpl:(partsOf l).length=(bp l).length:=by unfold partsOf;exact List.length_mergeSort _
   have HPL:=hid hpl;clear hpl;obtain⟨po,hpo⟩:∃ po,po=partsOf l:=⟨_,rfl⟩;rw[<-hpo]at Yk HPL;have HPO:=hid hpo;clear hpo;go_wp2_with (go_at_call 69;refine Yk.out.mono ?_;rintro e ws ⟨rfl,nd,os,Yl⟩;have HWS:=hid Yl;clear Yl);go_ret;refine⟨_,rfl,?_,?_⟩
   ·rw[HWS.out, <-HPO.out,HPL.out]
    exact AG HPL.out Qg El hcc hcm hcs
   ·rw[HWS.out]
    exact HB.out.grown (AE _) HB.out.size (fun c e=>by cases e;exact Qg)
end Go.Proofs.YtalombmiochpmaaGreatDoor
