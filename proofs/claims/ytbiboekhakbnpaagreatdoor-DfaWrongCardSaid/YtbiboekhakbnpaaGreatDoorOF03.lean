/- The walk of sets.Parts. -/
import Derived.Test.YtbiboekhakbnpaaGreatDoorOF02
import Derived.Shelf.SlSortCmp.NoneTotal
set_option maxRecDepth 100000
set_option maxHeartbeats 16000000
open Go.Lib (hid)
namespace Go.Proofs.YtbiboekhakbnpaaGreatDoor
open Go Go.RowKit Go.Shelf
def cq (s:BS):Nat:=(List.range 256).countP fun c=>s.getLsbD c
theorem yf (p q:Nat->Bool) (l:List Nat):l.countP p=l.countP (fun c=>p c&&q c)+l.countP (fun c=>p c&& !q c):=by
 induction l with
 | nil=>rfl
 | cons a l ih=>
  simp only[List.countP_cons,ih];cases p a<;>cases q a<;>simp<;>omega
theorem vF (p s:BS):cq p=cq (p&&& s)+cq (p&&& ~~~s):=by
 unfold cq;rw[yf _ (fun c=>s.getLsbD c)];congr 1
 ·apply List.countP_congr;intro c _;simp[BitVec.getLsbD_and]
 ·apply List.countP_congr;intro c hc
  have:c<256:=by simpa using hc
  simp[this]
theorem yg:cq 0#256=0:=by unfold cq;rw[List.countP_eq_zero];intro c _;simp
theorem Aw {s:BS} (h:s≠0):1<=cq s:=by
 rcases Nat.eq_zero_or_pos (cq s)with h0 | h0
 ·exfalso
  apply h;apply BitVec.eq_of_getLsbD_eq;intro c hc;unfold cq at h0;rw[List.countP_eq_zero]at h0;have:=h0 c (by simpa using hc);simpa using this
 ·exact h0
def cut (s p:BS):List BS:=[p&&& s,p&&& ~~~s].filter fun x=> !(x==0)
def aJ (s:BS) (parts:List BS):List BS:=parts.flatMap (cut s)
def aM (l:List BS):List BS:=l.foldl (fun p s=>aJ s p) [~~~0]
theorem PD (s p:BS):((cut s p).map cq).sum=cq p:=by unfold cut;rw[vF p s];generalize p&&& s=a;generalize p&&& ~~~s=b;by_cases h1:a=0#256<;>by_cases h2:b=0#256<;>simp[h1,h2,yg]
theorem vG (s:BS) (l:List BS):((aJ s l).map cq).sum=(l.map cq).sum:=by
 induction l with
 | nil=>rfl
 | cons p l ih=>
  unfold aJ at*;rw[List.flatMap_cons,List.map_append,List.sum_append,ih,PD];rfl
theorem PE (s p:BS):(cut s p).length<=2:=by unfold cut;exact List.length_filter_le _ _
theorem vH (s:BS) (l:List BS):(aJ s l).length<=2*l.length:=by
 induction l with
 | nil=>exact Nat.le_refl _
 | cons p l ih=>
  have:=PE s p;unfold aJ at*;rw[List.flatMap_cons,List.length_append,List.length_cons];omega
theorem TA (s p:BS):∀ x∈cut s p,x≠0:=by intro x hx;unfold cut at hx;simp only[List.mem_filter,Bool.not_eq_true',beq_eq_false_iff_ne]at hx;exact hx.2
theorem Ax:cq (~~~0)=256:=by
 unfold cq;have:(List.range 256).countP (fun c=>(~~~(0:BS)).getLsbD c)=(List.range 256).length:=by
  rw[List.countP_eq_length];intro c hc;have:c<256:=by simpa using hc
  rw[BitVec.getLsbD_not];have h0:BitVec.getLsbD (0:BS) c=false:=BitVec.getLsbD_zero;simp only[this,h0,decide_true,Bool.not_false,Bool.true_and]
 rw[this,List.length_range]
theorem vI (l:List BS) (h0:∀ x∈l,x≠0):l.length<=(l.map cq).sum:=by
 induction l with
 | nil=>simp
 | cons p l ih=>
  have h1:=Aw (h0 p (by simp));have h2:=ih (fun x hx=>h0 x (by simp[hx]));simp only[List.length_cons,List.map_cons,List.sum_cons];omega
theorem qT (l:List BS) (p:List BS) (hp:∀ x∈p,x≠0):(∀ x∈l.foldl (fun p s=>aJ s p) p,x≠0)/\((l.foldl (fun p s=>aJ s p) p).map cq).sum=(p.map cq).sum:=by
 induction l generalizing p with
 | nil=>exact⟨hp,rfl⟩
 | cons s l ih=>
  have h:=ih (aJ s p) (by
   intro x hx;unfold aJ at hx;rw[List.mem_flatMap]at hx;obtain⟨q,_,hq⟩:=hx
   exact TA s q x hq)
  rw[List.foldl_cons];exact⟨h.1,h.2.trans (vG s p)⟩
theorem qU (l:List BS):∀ x∈aM l,x≠0:=(qT l _ (by simp)).1
theorem oN (l:List BS):((aM l).map cq).sum=256:=by unfold aM;rw[(qT l _ (by simp)).2];simp only[List.map_cons,List.map_nil,List.sum_cons,List.sum_nil,Ax,Nat.add_zero]
theorem eo (l:List BS):(aM l).length<=256:=by have:=vI _ (qU l);rwa[oN]at this
theorem gz (l:List BS) (s:BS):aM (l++ [s])=aJ s (aM l):=by unfold aM;rw[List.foldl_append];rfl
/-! The order of sets. -/
theorem oO (s:BS):((aB s).2=false/\s=0)\/((aB s).2=true/\(aB s).1<256/\s.getLsbD (aB s).1=true/\∀ d,d<(aB s).1->s.getLsbD d=false):=by
 have key:∀ n,n<=256->(aX s n=[]/\∀ d,d<n->s.getLsbD d=false)\/(∃ c r,aX s n=c::r/\c<n/\s.getLsbD c=true/\∀ d,d<c->s.getLsbD d=false):=by
  intro n;induction n with
  | zero=>intro _;exact .inl ⟨rfl,fun d hd=>by omega⟩
  | succ n ih=>
   intro hn;rcases ih (by omega)with⟨h1,h2⟩ | ⟨c,r,h1,h2,h3,h4⟩
   ·by_cases hb:s.getLsbD n=true
    ·refine .inr ⟨n,[],?_,by omega,hb,h2⟩
     rw[fq,h1,if_pos hb];rfl
    ·refine .inl ⟨?_,fun d hd=>?_⟩
     ·rw[fq,h1,if_neg hb];rfl
     ·by_cases hdn:d=n
      ·subst hdn;simpa using hb
      ·exact h2 d (by omega)
   ·exact .inr ⟨c,r++(if s.getLsbD n then [n]else []),by rw[fq,h1];rfl,by omega,h3,h4⟩
 unfold aB;rcases key 256 (Nat.le_refl _)with⟨h1,h2⟩ | ⟨c,r,h1,h2,h3,h4⟩
 ·left
  rw[h1];exact⟨rfl,BS.ext fun d hd=>by rw[h2 d hd];simp⟩
 ·right
  rw[h1];exact⟨rfl,h2,h3,h4⟩
def OE (s t:BS):Prop:=∃ c,c<256/\(∀ d,d<c->s.getLsbD d=t.getLsbD d)/\s.getLsbD c=true/\t.getLsbD c=false
theorem sV (s t:BS) {c:Nat} (hc:c<256):((s&&& ~~~t) ||| (t&&& ~~~s)).getLsbD c=(s.getLsbD c != t.getLsbD c):=by simp only[BitVec.getLsbD_or,BitVec.getLsbD_and,BitVec.getLsbD_not,hc,decide_true,Bool.true_and];cases s.getLsbD c<;>cases t.getLsbD c<;>rfl
theorem lh (s t:BS):(aI s t=0/\s=t)\/(aI s t= -1/\OE s t)\/(aI s t=1/\OE t s):=by
 unfold aI;rcases oO ((s&&& ~~~t) ||| (t&&& ~~~s))with⟨h1,h2⟩ | ⟨h1,h2,h3,h4⟩
 ·left
  rw[h1];refine⟨rfl,BS.ext fun c hc=>?_⟩;have:=sV s t hc;rw[h2]at this;simp at this;exact this
 ·right
  rw[h1];generalize (aB ((s&&& ~~~t) ||| (t&&& ~~~s))).1=c at*;rw[sV s t h2]at h3;have h5:∀ d,d<c->s.getLsbD d=t.getLsbD d:=fun d hd=>by
   have:=h4 d hd;rw[sV s t (by omega)]at this;simpa using this
  cases hs:s.getLsbD c with
  | true=>
   have ht:t.getLsbD c=false:=by rw[hs]at h3;simpa using h3
   exact .inl ⟨by simp,c,h2,h5,hs,ht⟩
  | false=>
   have ht:t.getLsbD c=true:=by rw[hs]at h3;simpa using h3
   exact .inr ⟨by simp,c,h2,fun d hd=>(h5 d hd).symm,ht,hs⟩
theorem iA (s:BS):¬OE s s:=by rintro⟨c,_,_,h1,h2⟩;rw[h1]at h2;cases h2
theorem fV {s t u:BS} (h:OE s t) (k:OE t u):OE s u:=by
 obtain⟨c,hc,h1,h2,h3⟩:=h;obtain⟨d,hd,k1,k2,k3⟩:=k;rcases Nat.lt_trichotomy c d with Po | Po | Po
 ·exact⟨c,hc,fun e he=>(h1 e he).trans (k1 e (by omega)),h2,by rw[<-k1 c Po];exact h3⟩
 ·subst Po;rw[h3]at k2;cases k2
 ·exact⟨d,hd,fun e he=>(h1 e (by omega)).trans (k1 e he),by rw[h1 d Po];exact k2,k3⟩
theorem dS (s t:BS):ltOf aI s t=true↔OE s t:=by
 unfold ltOf;rcases lh s t with⟨h1,h2⟩ | ⟨h1,h2⟩ | ⟨h1,h2⟩
 ·rw[h1];subst h2;simp[iA]
 ·rw[h1];simp[h2]
 ·rw[h1];simp;exact fun k=>iA _ (fV h2 k)
theorem mj (s t:BS):s=t\/OE s t\/OE t s:=by
 rcases lh s t with⟨_,h2⟩ | ⟨_,h2⟩ | ⟨_,h2⟩
 ·exact .inl h2
 ·exact .inr (.inl h2)
 ·exact .inr (.inr h2)
theorem acI:Sort.SWO (ltOf aI) where
 irrefl x:=by
  rw[<-Bool.not_eq_true,dS];exact iA x
 trans x y z h k:=by rw[dS]at*;exact fV h k
 ntrans x y z h k:=by
  rw[<-Bool.not_eq_true,dS]at*;intro hz;rcases mj x y with e | e | e
  ·subst e;exact k hz
  ·exact h e
  ·exact k (fV e hz)
theorem Xx (x y:BS) (h:ltOf aI x y=false) (k:ltOf aI y x=false):x=y:=by
 rw[<-Bool.not_eq_true,dS]at*;rcases mj x y with e | e | e
 ·exact e
 ·exact absurd e h
 ·exact absurd e k
def partsOf (l:List BS):List BS:=(aM l).mergeSort fun x y=> !ltOf aI y x
end Go.Proofs.YtbiboekhakbnpaaGreatDoor
namespace Go.Proofs.YtbiboekhakbnpaaGreatDoor
open Go Go.RowKit Go.Shelf Go.Sort
def aD (l:List BS):List Value:=l.flatMap fun s=>(encS s).toList
theorem cr (l:List BS):(aD l).length=l.length*4:=by
 induction l with
 | nil=>rfl
 | cons s l ih=>simp only[aD,List.flatMap_cons,List.length_append]at*;rw[ih];simp[im];omega
theorem ft (l m:List BS):aD (l++m)=aD l++aD m:=by simp[aD]
theorem H6 (s:BS):aD [s]=(encS s).toList:=by simp[aD]
theorem fW (l:List BS) {i:Nat} {s:BS} (h:l[i]? =some s) {j:Nat} (hj:j<4):(aD l)[i*4+j]? =(encS s)[j]? :=by
 induction l generalizing i with
 | nil=>simp at h
 | cons t l ih=>
  have hs:(encS t).toList.length=4:=rfl;simp only[aD,List.flatMap_cons];cases i with
  | zero=>
   simp at h;subst h;rw[Nat.zero_mul,Nat.zero_add,List.getElem?_append_left (by omega)];simp
  | succ i=>
   rw[List.getElem?_append_right (by omega),hs,show(i+1)*4+j-4=i*4+j by omega];exact ih (by simpa using h)
def oP (s:BS):List Value:=(encS s).toList
theorem Ay (l:List BS):flatK oP 4 l.toArray=(aD l).toArray:=by
 apply Array.ext_getElem?;intro t;by_cases ht:t<l.length*4
 ·have hi:t/4<l.length:=by omega
  have h1:=fW l (List.getElem?_eq_getElem hi) (show t%4<4 by omega);rw[show t/4*4+t%4=t by omega]at h1;have h2:(flatK oP 4 l.toArray)[t]? =some ((oP (l[t/4]))[t%4]!):=by unfold flatK;simp[ht,hi]
  rw[h2,List.getElem?_toArray,h1];have h3:t%4<(oP (l[t/4])).length:=by simp[oP,im];omega
  rw[getElem!_pos (oP (l[t/4])) (t%4) h3];simp[oP]
 ·rw[Array.getElem?_eq_none (by simp;omega),List.getElem?_toArray,List.getElem?_eq_none (by rw[cr];omega)]
theorem El {w:World} {g q:Nat} {os:Array Obj} {cur:Array Value} {e:TypeId} {fr:Nat×Nat} (l:List BS) (hb:w.heap[g]? =some (.cells cur e fr)): (sortWorldK oP 4 w g 0 q l.toArray os).heap[g]? =some (.cells (putCells id 0 (aD l).toArray cur) e fr):=by have hg:g<w.heap.size:=(Array.getElem?_eq_some_iff.1 hb).1;unfold sortWorldK;rw[heap_grow_old _ _ (by simpa[putRowK,putRow,mapBlock,Sort.ahead]using hg)];simp[putRowK,putRow,mapBlock,Sort.ahead,Array.getElem?_modify,hb,onCells,Ay]
theorem vJ {w:World} {g q:Nat} {os:Array Obj} (d:Array BS):w.grownBy (sortWorldK oP 4 w g 0 q d os) (some g):=by
 unfold sortWorldK;refine⟨rfl,rfl,rfl,by simp[putRowK,putRow,mapBlock,Sort.ahead],fun k hk hne=>?_⟩;rw[heap_grow_old _ _ (by simpa[putRowK,putRow,mapBlock,Sort.ahead]using hk)];have:g≠k:=fun e=>hne (by rw[e])
 simp[putRowK,putRow,mapBlock,Sort.ahead,Array.getElem?_modify,this]
theorem H7 (cur:Array Value) (ts:List Value) (h:ts.length<=cur.size):(putCells id 0 ts.toArray cur).toList.take ts.length=ts:=by
 apply List.ext_getElem?;intro j;by_cases hj:j<ts.length
 ·rw[List.getElem?_take_of_lt hj,Array.getElem?_toList]
  simp[putCells,hj,show j<cur.size by omega]
 ·rw[List.getElem?_take_eq_none (by omega),List.getElem?_eq_none (by omega)]
theorem vK {w:World} {base g cap n q:Nat} {e:TypeId} {os:Array Obj} {cur:Array Value} {ts:List BS} (hl:ts.length=n) (hbase:base<=g) (hb:w.heap[g]? =some (.cells cur e (0,0))) (h1:n<=cap) (h2:cap<=maxLen) (h3:cur.size=cap*4): (sortWorldK oP 4 w g 0 q ts.toArray os).ownsRow base e 4 (.slice (some ⟨g,0,none⟩) n cap) n (aD ts):=
 ⟨by rw[cr,hl],.inr ⟨g,cap,_,rfl,hbase,El _ hb,h1,h2,by simp[putCells,h3],by
  rw[<-hl, <-cr];exact H7 cur (aD ts) (by rw[cr,hl,h3];exact Nat.mul_le_mul_right 4 h1)⟩⟩
theorem Em {w:World} {g:Nat} {e:TypeId} {cur:Array Value} {ts:List BS} (hb:w.heap[g]? =some (.cells cur e (0,0))) (ht:cur.toList.take (ts.length*4)=aD ts):HoldsK oP 4 w g 0 ts.toArray:=by
 unfold HoldsK;rw[Ay];intro j hj;have hj':j<(aD ts).length:=by simpa using hj
 refine⟨?_,by simp[World.frozen?,hb]⟩;have hc:w.cell? ⟨g,0+j,none⟩=cur[j]? :=by simp[World.cell?,hb]
 rw[hc];have h1:(aD ts)[j]? =cur[j]? :=by rw[<-ht,List.getElem?_take,if_pos (by rw[<-cr];exact hj')];simp
 rw[<-h1,List.getElem?_eq_getElem hj',getElem!_pos (aD ts).toArray j (by simpa using hj')];simp
end Go.Proofs.YtbiboekhakbnpaaGreatDoor
namespace Go.Proofs
open Go.Shelf
def Tryz.yh:Go.Shelf.Ren:=⟨fun | 6=>88 | 15=>59 | 14=>126 | 28=>104 | 29=>105 | 20=>161 | 21=>162 | 22=>163 | 23=>164 | 24=>165 | 25=>166 | 26=>167 | 27=>168 | 46=>177 | 47=>131 | 48=>132 | 49=>178 | 50=>179 | 57=>184 | n=>n,fun | 22=>28 | 24=>70 | 25=>155 | 3=>3 | 39=>116 | 0=>0 | 53=>167 | 55=>68 | 4=>4 | 46=>161 | 45=>160 | 50=>164 | 5=>5 | 9=>9 | 66=>197 | 70=>201 | 76=>231 | 77=>232 | n=>n,fun | n=>n⟩
theorem Tryz.Lf:Go.Proofs.SlLaysF0.n6 Tryz.prog Tryz.yh:= {
 mixed:=by kernel_rfl
 f6:=⟨Tryz.f88.name,by decide,Tryz.func88.trans (congrArg some (by kernel_rfl))⟩
 f14:=⟨Tryz.f126.name,by decide,Tryz.func126.trans (congrArg some (by kernel_rfl))⟩
 f15:=Tryz.func59.trans (congrArg some (by kernel_rfl))
 f20:=⟨Tryz.f161.name,by decide,Tryz.func161.trans (congrArg some (by kernel_rfl))⟩
 f21:=⟨Tryz.f162.name,by decide,Tryz.func162.trans (congrArg some (by kernel_rfl))⟩
 f22:=⟨Tryz.f163.name,by decide,Tryz.func163.trans (congrArg some (by kernel_rfl))⟩
 f23:=⟨Tryz.f164.name,by decide,Tryz.func164.trans (congrArg some (by kernel_rfl))⟩
 f24:=⟨Tryz.f165.name,by decide,Tryz.func165.trans (congrArg some (by kernel_rfl))⟩
 f25:=⟨Tryz.f166.name,by decide,Tryz.func166.trans (congrArg some (by kernel_rfl))⟩
 f26:=⟨Tryz.f167.name,by decide,Tryz.func167.trans (congrArg some (by kernel_rfl))⟩
 f27:=⟨Tryz.f168.name,by decide,Tryz.func168.trans (congrArg some (by kernel_rfl))⟩
 f28:=Tryz.func104.trans (congrArg some (by kernel_rfl))
 f29:=Tryz.func105.trans (congrArg some (by kernel_rfl))
 f46:=⟨Tryz.f177.name,by decide,Tryz.func177.trans (congrArg some (by kernel_rfl))⟩
 f47:=Tryz.func131.trans (congrArg some (by kernel_rfl))
 f48:=Tryz.func132.trans (congrArg some (by kernel_rfl))
 f49:=⟨Tryz.f178.name,by decide,Tryz.func178.trans (congrArg some (by kernel_rfl))⟩
 f50:=⟨Tryz.f179.name,by decide,Tryz.func179.trans (congrArg some (by kernel_rfl))⟩
 f57:=⟨Tryz.f184.name,by decide,Tryz.func184.trans (congrArg some (by kernel_rfl))⟩
 t0:=Tryz.underlying0
 a0:=Tryz.isAgg0
 z0:=Tryz.sizeOf0
 v0:=Tryz.zeroValue0
 t3:=Tryz.underlying3
 a3:=Tryz.isAgg3
 z3:=Tryz.sizeOf3
 v3:=Tryz.zeroValue3
 t4:=Tryz.underlying4
 a4:=Tryz.isAgg4
 z4:=Tryz.sizeOf4
 v4:=Tryz.zeroValue4
 t5:=Tryz.underlying5
 a5:=Tryz.isAgg5
 z5:=Tryz.sizeOf5
 v5:=Tryz.zeroValue5
 t9:=Tryz.underlying9
 a9:=Tryz.isAgg9
 z9:=Tryz.sizeOf9
 v9:=Tryz.zeroValue9
 t22:=Tryz.underlying28
 a22:=Tryz.isAgg28
 z22:=Tryz.sizeOf28
 v22:=Tryz.zeroValue28
 t25:=Tryz.underlying155
 a25:=Tryz.isAgg155
 z25:=Tryz.sizeOf155
 v25:=Tryz.zeroValue155
 t39:=Tryz.underlying116
 a39:=Tryz.isAgg116
 z39:=Tryz.sizeOf116
 v39:=Tryz.zeroValue116
 t45:=Tryz.underlying160
 a45:=Tryz.isAgg160
 z45:=Tryz.sizeOf160
 v45:=Tryz.zeroValue160
 t46:=Tryz.underlying161
 a46:=Tryz.isAgg161
 z46:=Tryz.sizeOf161
 v46:=Tryz.zeroValue161
 t50:=Tryz.underlying164
 a50:=Tryz.isAgg164
 z50:=Tryz.sizeOf164
 v50:=Tryz.zeroValue164
 t53:=Tryz.underlying167
 a53:=Tryz.isAgg167
 z53:=Tryz.sizeOf167
 v53:=Tryz.zeroValue167
 t55:=Tryz.underlying68
 a55:=Tryz.isAgg68
 z55:=Tryz.sizeOf68
 v55:=Tryz.zeroValue68
 t66:=Tryz.underlying197
 a66:=Tryz.isAgg197
 z66:=Tryz.sizeOf197
 v66:=Tryz.zeroValue197
 t70:=Tryz.underlying201
 a70:=Tryz.isAgg201
 z70:=Tryz.sizeOf201
 v70:=Tryz.zeroValue201
 t76:=Tryz.underlying231
 a76:=Tryz.isAgg231
 z76:=Tryz.sizeOf231
 v76:=Tryz.zeroValue231
 t77:=Tryz.underlying232
 a77:=Tryz.isAgg232
 z77:=Tryz.sizeOf232
 v77:=Tryz.zeroValue232}
end Go.Proofs
namespace Go.Proofs.YtbiboekhakbnpaaGreatDoor
open Go Go.RowKit Go.Shelf Go.Maps
attribute [local go_sem] encS
def cd (w:World) (v:Value) (l:List BS):Prop:=
 (v=.slice none 0 0/\l=[])\/∃ b off cap,v=.slice (some ⟨b,off,none⟩) l.length cap/\b<w.heap.size/\∀ i s,l[i]? =some s->∀ j,j<4->w.cell? ⟨b,off+i*4+j,none⟩=(encS s)[j]?
theorem cd.keeps {w w':World} {v:Value} {l:List BS} (h:cd w v l) {R:Nat->Prop} (hk:aa R w w') (hr:∀ k,k<w.heap.size->R k):cd w' v l:=by
 rcases h with h | ⟨b,off,cap,hv,hb,h⟩
 ·exact .inl h
 ·exact .inr ⟨b,off,cap,hv,Nat.lt_of_lt_of_le hb hk.size,fun i s hi j hj=>(hk.cell (p:=⟨b,off+i*4+j,none⟩) (hr b hb)).trans (h i s hi j hj)⟩
theorem cd.below {w w':World} {v:Value} {l:List BS} (h:cd w v l) (hk:Below w.heap.size w w'):cd w' v l:=h.keeps (aa.ah hk fun _ h=>h) (fun _ h=>h)
theorem j3 {w:World} {base:Nat} {v:Value} {l:List BS} (h:w.ownsRow base 70 4 v l.length (aD l)):cd w v l:=by
 rcases h.2 with⟨h1,h2⟩ | ⟨g,cap,cur,hv,_,hg,hn,_,hs,ht⟩
 ·exact .inl ⟨h1,List.eq_nil_of_length_eq_zero h2⟩
 ·refine .inr ⟨g,0,cap,hv,(Array.getElem?_eq_some_iff.1 hg).1,fun i s hi j hj=>?_⟩
  have hc:w.cell? ⟨g,0+i*4+j,none⟩=cur[0+i*4+j]? :=by simp[World.cell?,hg]
  rw[hc,Nat.zero_add, <-fW l hi hj, <-ht];have hlt:i<l.length:=(List.getElem?_eq_some_iff.1 hi).1;rw[List.getElem?_take,if_pos (by omega)];simp
theorem j4 {w:World} {base n:Nat} {v:Value} {l:List BS} (h:w.ownsRow base 70 4 v n (aD l)) (hn:n=l.length) {i:Nat} {s:BS} (hi:l[i]? =some s): ∃ g cap,v=.slice (some ⟨g,0,none⟩) n cap/\base<=g/\g<w.heap.size/\∀ j,j<4->w.cell? ⟨g,i*4+j,none⟩=(encS s)[j]? :=by
 have hlt:i<l.length:=(List.getElem?_eq_some_iff.1 hi).1;rcases h.2 with⟨h1,h2⟩ | ⟨g,cap,cur,hv,hb,hg,_,_,hs,ht⟩
 ·omega
 ·refine⟨g,cap,hv,hb,(Array.getElem?_eq_some_iff.1 hg).1,fun j hj=>?_⟩
  have hc:w.cell? ⟨g,i*4+j,none⟩=cur[i*4+j]? :=by simp[World.cell?,hg]
  rw[hc, <-fW l hi hj, <-ht];rw[List.getElem?_take,if_pos (by omega)];simp
theorem Tryz.Az:(Tryz.prog.info? 70).map (fun i=>(i.zero,i.size,i.bytes))=some (some (.agg #[.int .u64 0,.int .u64 0,.int .u64 0,.int .u64 0]),4,32):=by kernel_rfl
theorem wI (l:List BS) (v0:Value) (w:World) (hl:cd w v0 l) (hlen:l.length<=9223372036854775807): Calls Tryz.prog 50 #[v0] w fun e w'=>∃ v,e=.returned v/\w'.ownsRow w.heap.size 70 4 v (partsOf l).length (aD (partsOf l))/\Below w.heap.size w w':=by
 obtain⟨i0,hi,hz0,hz1,hz2⟩:=info_parts Tryz.Az;have HA:=hid fun W=>PC W
 obtain⟨ua,hua⟩:∃ ua:BS,ua= ~~~0:=⟨_,rfl⟩;rw[<-hua]at HA;have HUA:=hid hua;clear hua;obtain⟨n,hn⟩:∃ n,n=l.length:=⟨_,rfl⟩;obtain⟨ad,cap,hv0⟩:∃ ad cap,v0=.slice ad n cap:=by
  rcases hl with⟨h1,h2⟩ | ⟨b,off,cap,h1,_⟩
  ·exact⟨none,0,by rw[h1,hn,h2];rfl⟩
  ·exact⟨_,cap,by rw[h1,hn]⟩
 subst hv0;have HL:=hid hl;have HN:=hid hn;have hn':n<=9223372036854775807:=by omega
 clear hl hn hlen;go_enter Tryz.func50,Tryz.ntmps50;go_wp2_with (go_at_call 85;refine(HA.out _).mono ?_;rintro e w1 ⟨rfl,hx⟩;have iZ:=hid hx;clear hx);refine au ?_;intro W0 hW0;have hx0:Below w.heap.size w W0:=by rw[hW0];exact(iZ.out.alloc _).below
 have ho0:W0.ownsRow w.heap.size 70 4 (.slice (some ⟨w1.heap.size,0,none⟩) 1 1) (aM []).length (aD (aM [])):=by rw[hW0,show aM []=[ua] from by rw[HUA.out];rfl];exact⟨rfl,.inr ⟨w1.heap.size,1,encS ua,rfl,iZ.out.size,World.alloc_heap_new _ _,Nat.le_refl _,by decide,rfl,rfl⟩⟩
 have JT:=hid hx0;have HO0:=hid ho0;clear hx0 ho0 hW0;go_loopw [15,3] (fun i v wr=>∃ k:Nat,k<=n/\i=.int .i64 k/\wr.ownsRow w.heap.size 70 4 v (aM (l.take k)).length (aD (aM (l.take k)))/\Below w.heap.size w wr) (fun i _ _=>n-(intOf i).toNat);case atStart=>exact⟨0,by omega,rfl,HO0.out,JT.out⟩
 case round=>
  obtain⟨wo,rfl⟩:∃ wo:World,wo=wr:=⟨_,rfl⟩;obtain⟨k,hk,rfl,ho,hb⟩:=hrel;obtain⟨a3,H8,rfl⟩:=ownsRow_form ho;have HO:=hid ho;have HB:=hid hb;clear ho hb HO0 JT;by_cases hlt:k<n
  ·obtain⟨b,off,acK,JW,s,hs,hcs⟩:∃ b off,ad=some ⟨b,off,none⟩/\b<w.heap.size/\∃ s,l[k]? =some s/\∀ j,j<4->w.cell? ⟨b,off+k*4+j,none⟩=(encS s)[j]? :=by
    have vr:k<l.length:=by rw[<-HN.out];exact hlt
    rcases HL.out with⟨h1,h2⟩ | ⟨b,off,cap',h1,h2,h3⟩
    ·rw[h2]at vr;simp at vr
    ·cases h1
     exact⟨b,off,rfl,h2,l[k],List.getElem?_eq_getElem vr,h3 k _ (List.getElem?_eq_getElem vr)⟩
   subst acK;have c0:wo.cell? ⟨b,off+k*4,none⟩=some (.int .u64 (wd s 0).toNat):=(HB.out.cell (p:=⟨b,off+k*4,none⟩) JW).trans (hcs 0 (by decide));have c1:wo.cell? ⟨b,off+k*4+1,none⟩=some (.int .u64 (wd s 1).toNat):=(HB.out.cell (p:=⟨b,off+k*4+1,none⟩) JW).trans (hcs 1 (by decide));have c2:wo.cell? ⟨b,off+k*4+2,none⟩=some (.int .u64 (wd s 2).toNat):=(HB.out.cell (p:=⟨b,off+k*4+2,none⟩) JW).trans (hcs 2 (by decide));have c3:wo.cell? ⟨b,off+k*4+3,none⟩=some (.int .u64 (wd s 3).toNat):=(HB.out.cell (p:=⟨b,off+k*4+3,none⟩) JW).trans (hcs 3 (by decide));have HS:=hid hs;have hP:aM (l.take (k+1))=aJ s (aM (l.take k)):=by rw[List.take_add_one,hs];exact gz _ _
   have HP:=hid hP;have HM:=hid (eo (l.take k));clear hs hcs hP;generalize aM (l.take k)=pk at HO HP HM;obtain⟨m,hm⟩:∃ m,m=pk.length:=⟨_,rfl⟩;have afI:m<=256:=by rw[hm];exact HM.out
   rw[<-hm]at HO ⊢;have HMM:=hid hm;clear hm HM;go_wp2;refine au ?_;intro W1 hW1;have oI:ak W1 wo.heap.size (encS s) 70:=by rw[hW1];exact ak.new _ _ _
   have hb1:Below wo.heap.size wo W1:=by rw[hW1];exact((Ext.refl wo).alloc _).below
   have hz1:W1.heap.size=wo.heap.size+1:=by rw[hW1];simp
   have Lg:=hid (HO.out.alloc (.cells (encS s) 70 (0,0)));have acM:Hid (W1.ownsRow w.heap.size 70 4 (.slice a3 m H8) m (aD pk)):=by rw[hW1];exact Lg.out
   have HSB:=hid oI;have kP:=hid hb1;have HZ1:=hid hz1;clear oI hb1 hz1 hW1 Lg c0 c1 c2 c3;go_loopw [21,6] (fun i v w2=>∃ j:Nat,j<=m/\i=.int .i64 j/\w2.ownsRow W1.heap.size 70 4 v (aJ s (pk.take j)).length (aD (aJ s (pk.take j)))/\Below W1.heap.size W1 w2) (fun i _ _=>m-(intOf i).toNat);case atStart=>exact⟨0,by omega,rfl,World.ownsRow_nil _ _ _ _,Below.refl _ _⟩
   case round=>
    obtain⟨j,hj,rfl,PF,hb2⟩:=hrel;obtain⟨a6,TC,rfl⟩:=ownsRow_form PF;obtain⟨w2,rfl⟩:∃ w2:World,w2=wr:=⟨_,rfl⟩;have jq:=hid PF;have eB:=hid hb2;clear PF hb2;by_cases Dx:j<m
    ·obtain⟨g3,ha3,hg3,p,hp,OG⟩:∃ g3,a3=some ⟨g3,0,none⟩/\g3<W1.heap.size/\∃ p,pk[j]? =some p/\∀ i,i<4->W1.cell? ⟨g3,j*4+i,none⟩=(encS p)[i]? :=by
      have Wh:j<pk.length:=by rw[<-HMM.out];exact Dx
      obtain⟨g,cap',h1,_,h2,h3⟩:=j4 acM.out HMM.out (List.getElem?_eq_getElem Wh);cases h1;exact⟨_,rfl,h2,pk[j],List.getElem?_eq_getElem Wh,h3⟩
     subst ha3;have d0:w2.cell? ⟨g3,j*4,none⟩=some (.int .u64 (wd p 0).toNat):=(eB.out.cell (p:=⟨g3,j*4,none⟩) hg3).trans (OG 0 (by decide));have d1:w2.cell? ⟨g3,j*4+1,none⟩=some (.int .u64 (wd p 1).toNat):=(eB.out.cell (p:=⟨g3,j*4+1,none⟩) hg3).trans (OG 1 (by decide));have d2:w2.cell? ⟨g3,j*4+2,none⟩=some (.int .u64 (wd p 2).toNat):=(eB.out.cell (p:=⟨g3,j*4+2,none⟩) hg3).trans (OG 2 (by decide));have d3:w2.cell? ⟨g3,j*4+3,none⟩=some (.int .u64 (wd p 3).toNat):=(eB.out.cell (p:=⟨g3,j*4+3,none⟩) hg3).trans (OG 3 (by decide));have hQ:aJ s (pk.take (j+1))=aJ s (pk.take j)++cut s p:=by rw[List.take_add_one,hp];simp[aJ]
     have HQ:=hid hQ;have HPj:=hid hp;have HAnd:=hid fun W=>Pz p s W
     have Lh:=hid fun W=>sR p s W
     have PG:Hid (cut s p=[p&&& s,p&&& ~~~s].filter fun x=> !(x==0)):=rfl;clear hQ hp OG;generalize cut s p=cs at HQ PG;generalize p&&& s=xa at HAnd PG;generalize p&&& ~~~s=xb at Lh PG;go_wp2;refine au ?_;intro W2 hW2;have En:ak W2 w2.heap.size (encS p) 70:=by rw[hW2];exact ak.new _ _ _
     have hx2:Below w2.heap.size w2 W2:=by rw[hW2];exact((Ext.refl w2).alloc _).below
     have oI:ak W2 wo.heap.size (encS s) 70:=(HSB.out.below eB.out (by have:=HZ1.out;omega)).below hx2 (by have:=HZ1.out;have:=eB.out.size;omega);have PF:W2.ownsRow W1.heap.size 70 4 (.slice a6 (aJ s (pk.take j)).length TC) (aJ s (pk.take j)).length (aD (aJ s (pk.take j))):=by rw[hW2];exact jq.out.alloc _
     have hz2:W2.heap.size=w2.heap.size+1:=by rw[hW2];simp
     have eZ:=hid hx2;have TD:=hid PF;have HZ2:=hid hz2;clear hx2 PF hz2 hW2 d0 d1 d2 d3 jq;have acN:wo.heap.size<W2.heap.size:=oI.lt;refine fj (fun b=>b=w2.heap.size\/b=wo.heap.size) (by kernel_rfl) (fun i=>i==2 || i==5 || i==6) (by kernel_rfl) ?_;intro C hC hne W3 hK3 hblk hsz hx3;obtain⟨a0,a1,a2,a3⟩:=ya hC (.inl rfl) En;obtain⟨b0,b1,b2,b3⟩:=ya hC (.inr rfl) oI;have HC:=hid hC;have Xw:=hid hK3;have nG:=hid hx3;have Dz:=hid En;have acO:=hid oI;have HS:Hid (∀ b,(b=w2.heap.size\/b=wo.heap.size)->b<W2.heap.size):=fun b hb=>by have h1:=Dz.out.lt;have h2:=acO.out.lt;omega
     clear hC hK3 hx3 En oI hblk hsz acN
     repeat (refine bj (fun K hK=>?_);refine cC rfl ?_;unfold ar;go_simp;refine hK _ _ ?_;clear hK K)
     refine bj (fun K hK=>?_);refine dJ rfl ?_;go_simp;refine eK ((HAnd.out _).mono ?_);rintro e w4 ⟨rfl,hx⟩;have hk4:=aa.step Xw.out HS hx;refine⟨_,rfl,(HC.out _).2 hk4,hK _ _ ?_⟩;have HK4:=hid hk4;have Au:=hid hx;clear hK K hk4 hx
     repeat (refine bj (fun K hK=>?_);refine cC rfl ?_;unfold ar;go_simp;refine hK _ _ ?_;clear hK K)
     refine bj (fun K hK=>?_);refine dJ rfl ?_;go_simp;refine eK ((Lh.out _).mono ?_);rintro e w5 ⟨rfl,hx⟩;have hk5:=aa.step HK4.out HS hx;refine⟨_,rfl,(HC.out _).2 hk5,hK _ _ ?_⟩;have HK5:=hid hk5;have Ty:=hid hx;clear hK K hk5 hx;refine bj (fun K hK=>?_);refine dJ rfl ?_;go_simp;refine⟨(HC.out _).2 (HK5.out.alloc (fun b hb=>Nat.lt_of_lt_of_le (HS.out b hb) HK5.out.size) _),hK _ _ ?_⟩;clear hK K
     repeat (refine bj (fun K hK=>?_);refine cC rfl ?_;unfold ar;go_simp;refine hK _ _ ?_;clear hK K)
     refine mh ?_;go_wp2;refine au ?_;intro W6 sj;have hx6:Below W2.heap.size W2 W6:=by rw[sj];exact(((nG.out.trans Au.out).trans Ty.out).alloc _).below
     have Xy:ak W6 w5.heap.size (aD [xa,xb]).toArray 70:=by rw[sj];exact ak.new _ _ _
     have hz6:W6.heap.size=w5.heap.size+1:=by rw[sj];simp
     have ho6:W6.ownsRow W1.heap.size 70 4 (.slice a6 (aJ s (pk.take j)).length TC) (aJ s (pk.take j)).length (aD (aJ s (pk.take j))):=ae TD.out (aa.ah hx6 fun _ h=>h) (fun k e=>(TD.out.lt k e).2);have h6b:∀ c,(Value.slice a6 (aJ s (pk.take j)).length TC).ownBlock=some c->c≠w5.heap.size:=fun c e=>by
      have h1:=(TD.out.lt c e).2;have h2:=nG.out.size;have h3:=Au.out.size;have h4:=Ty.out.size;omega
     have RU:=hid hx6;have H31:=hid Xy;have HZ6:=hid hz6;have HO6:=hid ho6;have H6b:=hid h6b;clear a0 a1 a2 a3 b0 b1 b2 b3 Xw HK4 HK5 HC HS nG Au Ty hx6 Xy hz6 ho6 h6b sj hne C HAnd Lh
     go_loopw [33,6] (fun i v w7=>∃ q:Nat,q<=2/\i=.int .i64 q/\w7.ownsRow W1.heap.size 70 4 v (aJ s (pk.take j)++([xa,xb].take q).filter fun x=> !(x==0)).length (aD (aJ s (pk.take j)++([xa,xb].take q).filter fun x=> !(x==0)))/\
       (∀ c,v.ownBlock=some c->c≠w5.heap.size)/\ak w7 w5.heap.size (aD [xa,xb]).toArray 70/\Below W1.heap.size W6 w7) (fun i _ _=>2-(intOf i).toNat)
     case atStart=>
      refine⟨0,by omega,rfl,?_,H6b.out,H31.out,Below.refl _ _⟩;rw[show([xa,xb].take 0).filter (fun x=> !(x==0))=[] from rfl,List.append_nil];exact HO6.out
     case round=>
      obtain⟨w7,rfl⟩:∃ w7:World,w7=wr:=⟨_,rfl⟩;obtain⟨q,hq,rfl,ho7,mm,Xy,Xz⟩:=hrel;obtain⟨a7,acS,rfl⟩:=ownsRow_form ho7;have TE:=hid ho7;have Gr:=hid mm;have TF:=hid Xy;have TG:=hid Xz;clear ho7 mm Xy Xz;by_cases XD:q<2
      ·obtain⟨x,hx⟩:∃ x,[xa,xb][q]? =some x:=⟨[xa,xb][q],List.getElem?_eq_getElem XD⟩
       have ht:[xa,xb].take (q+1)=[xa,xb].take q++ [x]:=by rw[List.take_add_one,hx];rfl
       have Li:∀ i,i<4->w7.cell? ⟨w5.heap.size,q*4+i,none⟩=(encS x)[i]? :=fun i hi=>by
        rw[TF.out.cell];have:=fW [xa,xb] hx hi;simpa using this
       have e0:w7.cell? ⟨w5.heap.size,q*4,none⟩=some (.int .u64 (wd x 0).toNat):=Li 0 (by decide);have e1:w7.cell? ⟨w5.heap.size,q*4+1,none⟩=some (.int .u64 (wd x 1).toNat):=Li 1 (by decide);have e2:w7.cell? ⟨w5.heap.size,q*4+2,none⟩=some (.int .u64 (wd x 2).toNat):=Li 2 (by decide);have e3:w7.cell? ⟨w5.heap.size,q*4+3,none⟩=some (.int .u64 (wd x 3).toNat):=Li 3 (by decide);have HT:=hid ht;have zO:=hid (vH s (pk.take j));clear hx ht Li;generalize aJ s (pk.take j)=nj at TE HQ zO Gr ⊢;by_cases hz:x=0#256
       ·have he:∀ W,(Op.equalIn 10000 70 (.agg #[.int .u64 (wd x 0).toNat,.int .u64 (wd x 1).toNat,.int .u64 (wd x 2).toNat,.int .u64 (wd x 3).toNat]) (.agg #[.int .u64 0,.int .u64 0,.int .u64 0,.int .u64 0])).run Tryz.prog W=.ok true W:=fun W=>by
         have h1:=iq x 0 W;rw[ej,hz]at h1;rw[hz];exact h1
        have hf:([x].filter fun x=> !(x==0))=[]:=by rw[hz];rfl
        have HF:=hid hf;clear hz hf;go_wp2;go_roundw;case rel=>
         refine⟨q+1,by omega,by go_num,?_,Gr.out,TF.out.alloc _,TG.out.alloc (by have:=TG.out.size;have:=HZ6.out;have:=RU.out.size;have:=eZ.out.size;have:=eB.out.size;omega) _⟩;rw[HT.out,List.filter_append,HF.out,List.append_nil];exact TE.out.alloc _
        case measure=>simp[intOf];omega
       ·have he:∀ W,(Op.equalIn 10000 70 (.agg #[.int .u64 (wd x 0).toNat,.int .u64 (wd x 1).toNat,.int .u64 (wd x 2).toNat,.int .u64 (wd x 3).toNat]) (.agg #[.int .u64 0,.int .u64 0,.int .u64 0,.int .u64 0])).run Tryz.prog W=.ok false W:=fun W=>by
         have h1:=iq x 0 W;rw[ej,show(x==0)=false from by simpa using hz]at h1;exact h1
        have hf:([x].filter fun x=> !(x==0))=[x]:=by simp[hz]
        have HF:=hid hf;have hlq:([xa,xb].take q).length<=2:=by simp;omega
        have hlf:=Nat.le_trans (List.length_filter_le (fun x=> !(x==0)) ([xa,xb].take q)) hlq;have hlj:(pk.take j).length<=256:=by simp;omega
        have HLQ:Hid ((nj++([xa,xb].take q).filter fun x=> !(x==0)).length<=514):=by have h1:=zO.out;show List.length _<=514;rw[List.length_append];omega
        clear hz hf hlq hlf hlj;obtain⟨nq,hnq⟩:∃ nq,nq=nj++([xa,xb].take q).filter fun x=> !(x==0):=⟨_,rfl⟩
        rw[<-hnq]at TE HLQ Gr ⊢;have HNQ:=hid hnq;clear hnq;go_wp2_with (at_builtin;refine wpList_append_own_at _ rfl _ _ 28 rfl W1.heap.size 70 i0 (.agg #[.int .u64 0,.int .u64 0,.int .u64 0,.int .u64 0]) 4 32 Tryz.underlying28 hi hz0 hz1 hz2 rfl (by decide) _ _ _ rfl ((TE.out.alloc _).alloc _) ⟨w7.heap.size+1,0,none⟩ 1 1 (encS x).toList rfl rfl (bZ ((ak.new _ (encS x) 70).at (by simp))) (by intro u hu;simp[encS]at hu;rcases hu with rfl | rfl | rfl | rfl<;>rfl) (by have:=HLQ.out;unfold maxLen;omega) (by have:=HLQ.out;omega) (by have:=TG.out.size;have:=RU.out.size;have:=eZ.out.size;have:=eB.out.size;simp;omega) ?_;intro v' w8 hown' hgrow hh hat;have HO8:=hid hown';have HG:=hid hgrow;have Le:=hid hat;clear hown' hgrow hh hat);have acV:w5.heap.size<w7.heap.size:=by have:=TG.out.size;have:=HZ6.out;omega
        have acW:W1.heap.size<=w7.heap.size:=by have:=TG.out.size;have:=RU.out.size;have:=eZ.out.size;have:=eB.out.size;omega
        go_roundw
        case rel=>
         refine⟨q+1,by omega,by go_num,?_,fun c e=>?_,?_,?_⟩
         ·rw[HT.out,List.filter_append,HF.out, <-List.append_assoc, <-HNQ.out,List.length_append,ft,H6]
          exact HO8.out
         ·have hat':v'.ownBlock=(Value.slice a7 nq.length acS).ownBlock\/_:=Le.out
          rcases hat' with h | h
          ·exact Gr.out c (by rw[<-h];exact e)
          ·rw[h]at e;simp at e;omega
         ·exact((TF.out.alloc _).alloc _).grown HG.out (fun e=>Gr.out _ e.symm rfl)
         ·exact((TG.out.alloc acW _).alloc (by simp;omega) _).grown HG.out (by simp;omega) (fun c e=>(TE.out.lt c e).1)
        case measure=>simp[intOf];omega
      ·obtain rfl:q=2:=by omega
       have hcs:aJ s (pk.take j)++([xa,xb].take 2).filter (fun x=> !(x==0))=aJ s (pk.take (j+1)):=by rw[HQ.out,PG.out];rfl
       rw[hcs]at TE ⊢;clear hcs;go_wp2;go_roundw;case rel=>
        refine⟨j+1,by omega,by go_num,TE.out,?_⟩;exact((eB.out.trans (eZ.out.mono (by have:=eB.out.size;omega))).trans (RU.out.mono (by have:=eZ.out.size;have:=eB.out.size;omega))).trans TG.out
       case measure=>simp[intOf];omega
    ·obtain rfl:j=m:=by omega
     have hpk:pk.take j=pk:=by rw[HMM.out];exact List.take_length
     rw[hpk, <-HP.out]at jq ⊢;clear hpk;go_wp2;go_roundw;case rel=>
      refine⟨k+1,by omega,by go_num,ax jq.out (by have:=HZ1.out;have:=HB.out.size;omega),?_⟩;exact(HB.out.trans (kP.out.mono HB.out.size)).trans (eB.out.mono (by have:=HZ1.out;have:=HB.out.size;omega))
     case measure=>simp[intOf];omega
  ·obtain rfl:k=n:=by omega
   have dw:l.take k=l:=by rw[HN.out];exact List.take_length
   rw[dw]at HO ⊢;clear dw;have hne:aM l≠[]:=fun e=>by have:=oN l;rw[e]at this;simp at this
   obtain⟨g,cur,hg,OC,sW,hcc,hcm,hcs,dw⟩:∃ g cur,a3=some ⟨g,0,none⟩/\w.heap.size<=g/\wo.heap[g]? =some (.cells cur 70 (0,0))/\(aM l).length<=H8/\H8<=maxLen/\cur.size=H8*4/\cur.toList.take ((aM l).length*4)=aD (aM l):=by
    rcases HO.out.2 with⟨_,h2⟩ | ⟨g,cap',cur,h1,h2,h3,h4,h5,h6,h7⟩
    ·exact absurd (List.eq_nil_of_length_eq_zero h2) hne
    ·cases h1
     exact⟨g,cur,rfl,h2,h3,h4,h5,h6,h7⟩
   subst hg;have eg:∀ args w,(callFunc 89 args).run Tryz.prog w=.ok (.enter 89 args) w:=enters_of Tryz.func89 (by kernel_rfl) rfl;have hcon:=AnyQ.slices_SortFunc_total Tryz.Lf 4 Tryz.isAgg70 Tryz.sizeOf70 oP (fun _=>rfl) (fun x v hv=>by simp[oP,encS]at hv;rcases hv with rfl | rfl | rfl | rfl<;>rfl) aI acI 89 #[] g 0 H8 (aM l).toArray wo eg
    (fun m os dk _ x y=>(Ar x y _).mono fun e w' ⟨he,hx⟩=>⟨he,hx.grow⟩) (Em sW dw) (Array.getElem?_eq_some_iff.1 sW).1 (by have:=eo l;simp;omega) Xx
   have RV:Hid (Calls Tryz.prog 88 #[.slice (some ⟨g,0,none⟩) (aM l).length H8,.func (.func 89) #[] #[]] wo fun e w'=>
    e=.returned (.tuple #[])/\∃ n os,w'=sortWorldK oP 4 wo g 0 n (partsOf l).toArray os):=hcon
   clear hcon hne;have hpl:(partsOf l).length=(aM l).length:=by unfold partsOf;exact List.length_mergeSort _
   have HPL:=hid hpl;clear hpl;obtain⟨po,hpo⟩:∃ po,po=partsOf l:=⟨_,rfl⟩;rw[<-hpo]at RV HPL;have HPO:=hid hpo;clear hpo;go_wp2_with (go_at_call 88;refine RV.out.mono ?_;rintro e ws ⟨rfl,nd,os,RY⟩;have HWS:=hid RY;clear RY);go_ret;refine⟨_,rfl,?_,?_⟩
   ·rw[HWS.out, <-HPO.out,HPL.out]
    exact vK HPL.out OC sW hcc hcm hcs
   ·rw[HWS.out]
    exact HB.out.grown (vJ _) HB.out.size (fun c e=>by cases e;exact OC)
end Go.Proofs.YtbiboekhakbnpaaGreatDoor
