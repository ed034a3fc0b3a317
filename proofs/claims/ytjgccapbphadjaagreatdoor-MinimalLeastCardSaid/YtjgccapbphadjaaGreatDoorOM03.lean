/- Walks of package alphabet: Join. -/
import Derived.Test.YtjgccapbphadjaaGreatDoorOM02
import Derived.Shelf.SlSortCmp.NoneTotal
import Derived.Deep.WholeRow
set_option maxRecDepth 100000
set_option maxHeartbeats 16000000
open Go.Lib (hid)
namespace Go.Proofs.YtjgccapbphadjaaGreatDoor
section
open Go Go.RowKit Go.Shelf
def dp (s:BS):Nat:=(List.range 256).countP fun c=>s.getLsbD c
theorem A9 (p q:Nat->Bool) (l:List Nat):l.countP p=l.countP (fun c=>p c&&q c)+l.countP (fun c=>p c&& !q c):=by
 induction l with
 | nil=>rfl
 | cons a l ih=>
  simp only[List.countP_cons,ih];cases p a<;>cases q a<;>simp<;>omega
theorem yK (p s:BS):dp p=dp (p&&& s)+dp (p&&& ~~~s):=by
 unfold dp;rw[A9 _ (fun c=>s.getLsbD c)];congr 1
 ·apply List.countP_congr;intro c _;simp[BitVec.getLsbD_and]
 ·apply List.countP_congr;intro c hc
  have:c<256:=by simpa using hc
  simp[this]
theorem Ba:dp 0#256=0:=by unfold dp;rw[List.countP_eq_zero];intro c _;simp
theorem Eb {s:BS} (h:s≠0):1<=dp s:=by
 rcases Nat.eq_zero_or_pos (dp s)with h0 | h0
 ·exfalso
  apply h;apply BitVec.eq_of_getLsbD_eq;intro c hc;unfold dp at h0;rw[List.countP_eq_zero]at h0;have:=h0 c (by simpa using hc);simpa using this
 ·exact h0
def cut (s p:BS):List BS:=[p&&& s,p&&& ~~~s].filter fun x=> !(x==0)
def aU (s:BS) (parts:List BS):List BS:=parts.flatMap (cut s)
def bc (l:List BS):List BS:=l.foldl (fun p s=>aU s p) [~~~0]
theorem TW (s p:BS):((cut s p).map dp).sum=dp p:=by unfold cut;rw[yK p s];generalize p&&& s=a;generalize p&&& ~~~s=b;by_cases h1:a=0#256<;>by_cases h2:b=0#256<;>simp[h1,h2,Ba]
theorem yL (s:BS) (l:List BS):((aU s l).map dp).sum=(l.map dp).sum:=by
 induction l with
 | nil=>rfl
 | cons p l ih=>
  unfold aU at*;rw[List.flatMap_cons,List.map_append,List.sum_append,ih,TW];rfl
theorem TX (s p:BS):(cut s p).length<=2:=by unfold cut;exact List.length_filter_le _ _
theorem yM (s:BS) (l:List BS):(aU s l).length<=2*l.length:=by
 induction l with
 | nil=>exact aD _
 | cons p l ih=>
  have:=TX s p;unfold aU at*;rw[List.flatMap_cons,aG,List.length_cons];omega
theorem Xr (s p:BS):∀ x∈cut s p,x≠0:=by intro x hx;unfold cut at hx;simp only[List.mem_filter,Bool.not_eq_true',beq_eq_false_iff_ne]at hx;exact hx.2
theorem Ec:dp (~~~0)=256:=by
 unfold dp;have:(List.range 256).countP (fun c=>(~~~(0:BS)).getLsbD c)=(List.range 256).length:=by
  rw[List.countP_eq_length];intro c hc;have:c<256:=by simpa using hc
  rw[BitVec.getLsbD_not];have h0:BitVec.getLsbD (0:BS) c=false:=BitVec.getLsbD_zero;simp only[this,h0,decide_true,Bool.not_false,Bool.true_and]
 rw[this,List.length_range]
theorem yN (l:List BS) (h0:∀ x∈l,x≠0):l.length<=(l.map dp).sum:=by
 induction l with
 | nil=>simp
 | cons p l ih=>
  have h1:=Eb (h0 p (by simp));have h2:=ih (fun x hx=>h0 x (by simp[hx]));simp only[List.length_cons,List.map_cons,List.sum_cons];omega
theorem tH (l:List BS) (p:List BS) (hp:∀ x∈p,x≠0):(∀ x∈l.foldl (fun p s=>aU s p) p,x≠0)/\((l.foldl (fun p s=>aU s p) p).map dp).sum=(p.map dp).sum:=by
 induction l generalizing p with
 | nil=>exact⟨hp,rfl⟩
 | cons s l ih=>
  have h:=ih (aU s p) (by
   intro x hx;unfold aU at hx;rw[List.mem_flatMap]at hx;obtain⟨q,_,hq⟩:=hx
   exact Xr s q x hq)
  rw[List.foldl_cons];exact⟨h.1,h.2.trans (yL s p)⟩
theorem tI (l:List BS):∀ x∈bc l,x≠0:=(tH l _ (by simp)).1
theorem qT (l:List BS):((bc l).map dp).sum=256:=by unfold bc;rw[(tH l _ (by simp)).2];simp only[List.map_cons,List.map_nil,List.sum_cons,List.sum_nil,Ec,Nat.add_zero]
theorem eu (l:List BS):(bc l).length<=256:=by have:=yN _ (tI l);rwa[qT]at this
theorem iM (l:List BS) (s:BS):bc (l++ [s])=aU s (bc l):=by unfold bc;rw[List.foldl_append];rfl
/-! The order of sets. -/
theorem qU (s:BS):((aS s).2=false/\s=0)\/((aS s).2=true/\(aS s).1<256/\s.getLsbD (aS s).1=true/\∀ d,d<(aS s).1->s.getLsbD d=false):=by
 have key:∀ n,n<=256->(bL s n=[]/\∀ d,d<n->s.getLsbD d=false)\/(∃ c r,bL s n=c::r/\c<n/\s.getLsbD c=true/\∀ d,d<c->s.getLsbD d=false):=by
  intro n;induction n with
  | zero=>intro _;exact .inl ⟨rfl,fun d hd=>by omega⟩
  | succ n ih=>
   intro hn;rcases ih (by omega)with⟨h1,h2⟩ | ⟨c,r,h1,h2,h3,h4⟩
   ·by_cases hb:s.getLsbD n=true
    ·refine .inr ⟨n,[],?_,by omega,hb,h2⟩
     rw[gN,h1,if_pos hb];rfl
    ·refine .inl ⟨?_,fun d hd=>?_⟩
     ·rw[gN,h1,if_neg hb];rfl
     ·by_cases hdn:d=n
      ·subst hdn;simpa using hb
      ·exact h2 d (by omega)
   ·exact .inr ⟨c,r++(if s.getLsbD n then [n]else []),by rw[gN,h1];rfl,by omega,h3,h4⟩
 unfold aS;rcases key 256 (aD _)with⟨h1,h2⟩ | ⟨c,r,h1,h2,h3,h4⟩
 ·left
  rw[h1];exact⟨rfl,BS.ext fun d hd=>by rw[h2 d hd];simp⟩
 ·right
  rw[h1];exact⟨rfl,h2,h3,h4⟩
def Tg (s t:BS):Prop:=∃ c,c<256/\(∀ d,d<c->s.getLsbD d=t.getLsbD d)/\s.getLsbD c=true/\t.getLsbD c=false
theorem vJ (s t:BS) {c:Nat} (hc:c<256):((s&&& ~~~t) ||| (t&&& ~~~s)).getLsbD c=(s.getLsbD c != t.getLsbD c):=by simp only[BitVec.getLsbD_or,BitVec.getLsbD_and,BitVec.getLsbD_not,hc,decide_true,Bool.true_and];cases s.getLsbD c<;>cases t.getLsbD c<;>rfl
theorem mY (s t:BS):(aT s t=0/\s=t)\/(aT s t= -1/\Tg s t)\/(aT s t=1/\Tg t s):=by
 unfold aT;rcases qU ((s&&& ~~~t) ||| (t&&& ~~~s))with⟨h1,h2⟩ | ⟨h1,h2,h3,h4⟩
 ·left
  rw[h1];refine⟨rfl,BS.ext fun c hc=>?_⟩;have:=vJ s t hc;rw[h2]at this;simp at this;exact this
 ·right
  rw[h1];generalize (aS ((s&&& ~~~t) ||| (t&&& ~~~s))).1=c at*;rw[vJ s t h2]at h3;have h5:∀ d,d<c->s.getLsbD d=t.getLsbD d:=fun d hd=>by
   have:=h4 d hd;rw[vJ s t (by omega)]at this;simpa using this
  cases hs:s.getLsbD c with
  | true=>
   have ht:t.getLsbD c=false:=by rw[hs]at h3;simpa using h3
   exact .inl ⟨by simp,c,h2,h5,hs,ht⟩
  | false=>
   have ht:t.getLsbD c=true:=by rw[hs]at h3;simpa using h3
   exact .inr ⟨by simp,c,h2,fun d hd=>(h5 d hd).symm,ht,hs⟩
theorem jH (s:BS):¬Tg s s:=by rintro⟨c,_,_,h1,h2⟩;rw[h1]at h2;cases h2
theorem iz {s t u:BS} (h:Tg s t) (k:Tg t u):Tg s u:=by
 obtain⟨c,hc,h1,h2,h3⟩:=h;obtain⟨d,hd,k1,k2,k3⟩:=k;rcases Nat.lt_trichotomy c d with TG | TG | TG
 ·exact⟨c,hc,fun e he=>(h1 e he).trans (k1 e (by omega)),h2,by rw[<-k1 c TG];exact h3⟩
 ·subst TG;rw[h3]at k2;cases k2
 ·exact⟨d,hd,fun e he=>(h1 e (by omega)).trans (k1 e he),by rw[h1 d TG];exact k2,k3⟩
theorem eU (s t:BS):ltOf aT s t=true↔Tg s t:=by
 unfold ltOf;rcases mY s t with⟨h1,h2⟩ | ⟨h1,h2⟩ | ⟨h1,h2⟩
 ·rw[h1];subst h2;simp[jH]
 ·rw[h1];simp[h2]
 ·rw[h1];simp;exact fun k=>jH _ (iz h2 k)
theorem oh (s t:BS):s=t\/Tg s t\/Tg t s:=by
 rcases mY s t with⟨_,h2⟩ | ⟨_,h2⟩ | ⟨_,h2⟩
 ·exact .inl h2
 ·exact .inr (.inl h2)
 ·exact .inr (.inr h2)
theorem afk:Sort.SWO (ltOf aT) where
 irrefl x:=by
  rw[<-Bool.not_eq_true,eU];exact jH x
 trans x y z h k:=by rw[eU]at*;exact iz h k
 ntrans x y z h k:=by
  rw[<-Bool.not_eq_true,eU]at*;intro hz;rcases oh x y with e | e | e
  ·subst e;exact k hz
  ·exact h e
  ·exact k (iz e hz)
theorem abj (x y:BS) (h:ltOf aT x y=false) (k:ltOf aT y x=false):x=y:=by
 rw[<-Bool.not_eq_true,eU]at*;rcases oh x y with e | e | e
 ·exact e
 ·exact absurd e h
 ·exact absurd e k
def partsOf (l:List BS):List BS:=(bc l).mergeSort fun x y=> !ltOf aT y x
end
section
open Go Go.RowKit Go.Shelf Go.Sort
def aM (l:List BS):List Value:=l.flatMap fun s=>(encS s).toList
theorem cL (l:List BS):(aM l).length=l.length*4:=by
 induction l with
 | nil=>rfl
 | cons s l ih=>simp only[aM,List.flatMap_cons,aG]at*;rw[ih];simp[jD];omega
theorem gO (l m:List BS):aM (l++m)=aM l++aM m:=by simp[aM]
theorem LP (s:BS):aM [s]=(encS s).toList:=by simp[aM]
theorem iA (l:List BS) {i:Nat} {s:BS} (h:l[i]? =some s) {j:Nat} (hj:j<4):(aM l)[i*4+j]? =(encS s)[j]? :=by
 induction l generalizing i with
 | nil=>simp at h
 | cons t l ih=>
  have hs:(encS t).toList.length=4:=rfl;simp only[aM,List.flatMap_cons];cases i with
  | zero=>
   simp at h;subst h;rw[Nat.zero_mul,Nat.zero_add,bJ (by omega)];simp
  | succ i=>
   rw[cH (by omega),hs,show(i+1)*4+j-4=i*4+j by omega];exact ih (by simpa using h)
def qV (s:BS):List Value:=(encS s).toList
theorem Ed (l:List BS):flatK qV 4 l.toArray=(aM l).toArray:=by
 apply Array.ext_getElem?;intro t;by_cases ht:t<l.length*4
 ·have hi:t/4<l.length:=by omega
  have h1:=iA l (az hi) (show t%4<4 by omega);rw[show t/4*4+t%4=t by omega]at h1;have h2:(flatK qV 4 l.toArray)[t]? =some ((qV (l[t/4]))[t%4]!):=by unfold flatK;simp[ht,hi]
  rw[h2,List.getElem?_toArray,h1];have h3:t%4<(qV (l[t/4])).length:=by simp[qV,jD];omega
  rw[getElem!_pos (qV (l[t/4])) (t%4) h3];simp[qV]
 ·rw[Array.getElem?_eq_none (by simp;omega),List.getElem?_toArray,aX (by rw[cL];omega)]
theorem Ho {w:World} {g q:Nat} {os:Array Obj} {cur:Array Value} {e:TypeId} {fr:Nat×Nat} (l:List BS) (hb:w.heap[g]? =some (.cells cur e fr)): (sortWorldK qV 4 w g 0 q l.toArray os).heap[g]? =some (.cells (putCells id 0 (aM l).toArray cur) e fr):=by have hg:g<w.heap.size:=(Array.getElem?_eq_some_iff.1 hb).1;unfold sortWorldK;rw[heap_grow_old _ _ (by simpa[putRowK,putRow,mapBlock,Sort.ahead]using hg)];simp[putRowK,putRow,mapBlock,Sort.ahead,Array.getElem?_modify,hb,onCells,Ed]
theorem yO {w:World} {g q:Nat} {os:Array Obj} (d:Array BS):w.grownBy (sortWorldK qV 4 w g 0 q d os) (some g):=by
 unfold sortWorldK;refine⟨rfl,rfl,rfl,by simp[putRowK,putRow,mapBlock,Sort.ahead],fun k hk hne=>?_⟩;rw[heap_grow_old _ _ (by simpa[putRowK,putRow,mapBlock,Sort.ahead]using hk)];have:g≠k:=fun e=>hne (by rw[e])
 simp[putRowK,putRow,mapBlock,Sort.ahead,Array.getElem?_modify,this]
theorem LQ (cur:Array Value) (ts:List Value) (h:ts.length<=cur.size):(putCells id 0 ts.toArray cur).toList.take ts.length=ts:=by
 apply List.ext_getElem?;intro j;by_cases hj:j<ts.length
 ·rw[List.getElem?_take_of_lt hj,Array.getElem?_toList]
  simp[putCells,hj,show j<cur.size by omega]
 ·rw[List.getElem?_take_eq_none (by omega),aX (by omega)]
theorem yP {w:World} {base g cap n q:Nat} {e:TypeId} {os:Array Obj} {cur:Array Value} {ts:List BS} (hl:ts.length=n) (hbase:base<=g) (hb:w.heap[g]? =some (.cells cur e (0,0))) (h1:n<=cap) (h2:cap<=maxLen) (h3:cur.size=cap*4): (sortWorldK qV 4 w g 0 q ts.toArray os).ownsRow base e 4 (.slice (some ⟨g,0,none⟩) n cap) n (aM ts):=
 ⟨by rw[cL,hl],.inr ⟨g,cap,_,rfl,hbase,Ho _ hb,h1,h2,by simp[putCells,h3],by
  rw[<-hl, <-cL];exact LQ cur (aM ts) (by rw[cL,hl,h3];exact Nat.mul_le_mul_right 4 h1)⟩⟩
theorem Hp {w:World} {g:Nat} {e:TypeId} {cur:Array Value} {ts:List BS} (hb:w.heap[g]? =some (.cells cur e (0,0))) (ht:cur.toList.take (ts.length*4)=aM ts):HoldsK qV 4 w g 0 ts.toArray:=by
 unfold HoldsK;rw[Ed];intro j hj;have hj':j<(aM ts).length:=by simpa using hj
 refine⟨?_,by simp[World.frozen?,hb]⟩;have hc:w.cell? ⟨g,0+j,none⟩=cur[j]? :=by simp[World.cell?,hb]
 rw[hc];have h1:(aM ts)[j]? =cur[j]? :=by rw[<-ht,List.getElem?_take,if_pos (by rw[<-cL];exact hj')];simp
 rw[<-h1,az hj',getElem!_pos (aM ts).toArray j (by simpa using hj')];simp
end
end Go.Proofs.YtjgccapbphadjaaGreatDoor
namespace Go.Proofs
open Go.Shelf
def Tryz.Bb:Go.Shelf.Ren:=⟨fun | 6=>119 | 15=>75 | 14=>177 | 28=>134 | 29=>135 | 20=>218 | 21=>219 | 22=>220 | 23=>221 | 24=>222 | 25=>223 | 26=>224 | 27=>225 | 46=>243 | 47=>179 | 48=>180 | 49=>244 | 50=>245 | 57=>259 | n=>n,fun | 22=>26 | 24=>56 | 25=>62 | 3=>3 | 39=>122 | 0=>0 | 53=>221 | 55=>54 | 4=>4 | 46=>214 | 45=>213 | 50=>218 | 5=>5 | 9=>9 | 66=>272 | 70=>276 | 76=>302 | 77=>303 | n=>n,fun | n=>n⟩
theorem Tryz.Pm:Go.Proofs.SlLaysF0.n6 Tryz.prog Tryz.Bb:= {
 mixed:=by kernel_rfl
 f6:=⟨Tryz.f119.name,by decide,Tryz.func119.trans (congrArg some (by kernel_rfl))⟩
 f14:=⟨Tryz.f177.name,by decide,Tryz.func177.trans (congrArg some (by kernel_rfl))⟩
 f15:=Tryz.func75.trans (congrArg some (by kernel_rfl))
 f20:=⟨Tryz.f218.name,by decide,Tryz.func218.trans (congrArg some (by kernel_rfl))⟩
 f21:=⟨Tryz.f219.name,by decide,Tryz.func219.trans (congrArg some (by kernel_rfl))⟩
 f22:=⟨Tryz.f220.name,by decide,Tryz.func220.trans (congrArg some (by kernel_rfl))⟩
 f23:=⟨Tryz.f221.name,by decide,Tryz.func221.trans (congrArg some (by kernel_rfl))⟩
 f24:=⟨Tryz.f222.name,by decide,Tryz.func222.trans (congrArg some (by kernel_rfl))⟩
 f25:=⟨Tryz.f223.name,by decide,Tryz.func223.trans (congrArg some (by kernel_rfl))⟩
 f26:=⟨Tryz.f224.name,by decide,Tryz.func224.trans (congrArg some (by kernel_rfl))⟩
 f27:=⟨Tryz.f225.name,by decide,Tryz.func225.trans (congrArg some (by kernel_rfl))⟩
 f28:=Tryz.func134.trans (congrArg some (by kernel_rfl))
 f29:=Tryz.func135.trans (congrArg some (by kernel_rfl))
 f46:=⟨Tryz.f243.name,by decide,Tryz.func243.trans (congrArg some (by kernel_rfl))⟩
 f47:=Tryz.func179.trans (congrArg some (by kernel_rfl))
 f48:=Tryz.func180.trans (congrArg some (by kernel_rfl))
 f49:=⟨Tryz.f244.name,by decide,Tryz.func244.trans (congrArg some (by kernel_rfl))⟩
 f50:=⟨Tryz.f245.name,by decide,Tryz.func245.trans (congrArg some (by kernel_rfl))⟩
 f57:=⟨Tryz.f259.name,by decide,Tryz.func259.trans (congrArg some (by kernel_rfl))⟩
 t0:=Tryz.underlying0
 a0:=Tryz.isAgg0
 z0:=Tryz.sizeOf0
 v0:=Tryz.zeroValue0
 t3:=Tryz.underlying3
 a3:=Tryz.isAgg3
 z3:=Tryz.sizeOf3
 v3:=Tryz.zeroValue3
 t4:=Tryz.underlying4
 a4:=Tryz.isAgg4
 z4:=Tryz.sizeOf4
 v4:=Tryz.zeroValue4
 t5:=Tryz.underlying5
 a5:=Tryz.isAgg5
 z5:=Tryz.sizeOf5
 v5:=Tryz.zeroValue5
 t9:=Tryz.underlying9
 a9:=Tryz.isAgg9
 z9:=Tryz.sizeOf9
 v9:=Tryz.zeroValue9
 t22:=Tryz.underlying26
 a22:=Tryz.isAgg26
 z22:=Tryz.sizeOf26
 v22:=Tryz.zeroValue26
 t25:=Tryz.underlying62
 a25:=Tryz.isAgg62
 z25:=Tryz.sizeOf62
 v25:=Tryz.zeroValue62
 t39:=Tryz.underlying122
 a39:=Tryz.isAgg122
 z39:=Tryz.sizeOf122
 v39:=Tryz.zeroValue122
 t45:=Tryz.underlying213
 a45:=Tryz.isAgg213
 z45:=Tryz.sizeOf213
 v45:=Tryz.zeroValue213
 t46:=Tryz.underlying214
 a46:=Tryz.isAgg214
 z46:=Tryz.sizeOf214
 v46:=Tryz.zeroValue214
 t50:=Tryz.underlying218
 a50:=Tryz.isAgg218
 z50:=Tryz.sizeOf218
 v50:=Tryz.zeroValue218
 t53:=Tryz.underlying221
 a53:=Tryz.isAgg221
 z53:=Tryz.sizeOf221
 v53:=Tryz.zeroValue221
 t55:=Tryz.underlying54
 a55:=Tryz.isAgg54
 z55:=Tryz.sizeOf54
 v55:=Tryz.zeroValue54
 t66:=Tryz.underlying272
 a66:=Tryz.isAgg272
 z66:=Tryz.sizeOf272
 v66:=Tryz.zeroValue272
 t70:=Tryz.underlying276
 a70:=Tryz.isAgg276
 z70:=Tryz.sizeOf276
 v70:=Tryz.zeroValue276
 t76:=Tryz.underlying302
 a76:=Tryz.isAgg302
 z76:=Tryz.sizeOf302
 v76:=Tryz.zeroValue302
 t77:=Tryz.underlying303
 a77:=Tryz.isAgg303
 z77:=Tryz.sizeOf303
 v77:=Tryz.zeroValue303}
end Go.Proofs
namespace Go.Proofs.YtjgccapbphadjaaGreatDoor
section
open Go Go.RowKit Go.Shelf Go.Maps
attribute [local go_sem] encS
def cW (w:World) (v:Value) (l:List BS):Prop:=
 (v=.slice none 0 0/\l=[])\/∃ b off cap,v=.slice (some ⟨b,off,none⟩) l.length cap/\b<w.heap.size/\∀ i s,l[i]? =some s->∀ j,j<4->w.cell? ⟨b,off+i*4+j,none⟩=(encS s)[j]?
theorem cW.keeps {w w':World} {v:Value} {l:List BS} (h:cW w v l) {R:Nat->Prop} (hk:ae R w w') (hr:∀ k,k<w.heap.size->R k):cW w' v l:=by
 rcases h with h | ⟨b,off,cap,hv,hb,h⟩
 ·exact .inl h
 ·exact .inr ⟨b,off,cap,hv,aA hb hk.size,fun i s hi j hj=>(hk.cell (p:=⟨b,off+i*4+j,none⟩) (hr b hb)).trans (h i s hi j hj)⟩
theorem cW.below {w w':World} {v:Value} {l:List BS} (h:cW w v l) (hk:aa w w'):cW w' v l:=h.keeps (ae.ak hk fun _ h=>h) (fun _ h=>h)
theorem jq {w:World} {base:Nat} {v:Value} {l:List BS} (h:w.ownsRow base 56 4 v l.length (aM l)):cW w v l:=by
 rcases h.2 with⟨h1,h2⟩ | ⟨g,cap,cur,hv,_,hg,hn,_,hs,ht⟩
 ·exact .inl ⟨h1,List.eq_nil_of_length_eq_zero h2⟩
 ·refine .inr ⟨g,0,cap,hv,(Array.getElem?_eq_some_iff.1 hg).1,fun i s hi j hj=>?_⟩
  have hc:w.cell? ⟨g,0+i*4+j,none⟩=cur[0+i*4+j]? :=by simp[World.cell?,hg]
  rw[hc,Nat.zero_add, <-iA l hi hj, <-ht];have hlt:i<l.length:=(List.getElem?_eq_some_iff.1 hi).1;rw[List.getElem?_take,if_pos (by omega)];simp
theorem js {w:World} {base n:Nat} {v:Value} {l:List BS} (h:w.ownsRow base 56 4 v n (aM l)) (hn:n=l.length) {i:Nat} {s:BS} (hi:l[i]? =some s): ∃ g cap,v=.slice (some ⟨g,0,none⟩) n cap/\base<=g/\g<w.heap.size/\∀ j,j<4->w.cell? ⟨g,i*4+j,none⟩=(encS s)[j]? :=by
 have hlt:i<l.length:=(List.getElem?_eq_some_iff.1 hi).1;rcases h.2 with⟨h1,h2⟩ | ⟨g,cap,cur,hv,hb,hg,_,_,hs,ht⟩
 ·omega
 ·refine⟨g,cap,hv,hb,(Array.getElem?_eq_some_iff.1 hg).1,fun j hj=>?_⟩
  have hc:w.cell? ⟨g,i*4+j,none⟩=cur[i*4+j]? :=by simp[World.cell?,hg]
  rw[hc, <-iA l hi hj, <-ht];rw[List.getElem?_take,if_pos (by omega)];simp
theorem Tryz.zE:(Tryz.prog.info? 56).map (fun i=>(i.zero,i.size,i.bytes))=some (some (.agg #[.int .u64 0,.int .u64 0,.int .u64 0,.int .u64 0]),4,32):=by kernel_rfl
theorem zF (l:List BS) (v0:Value) (w:World) (hl:cW w v0 l) (hlen:l.length<=9223372036854775807): ah 64 #[v0] w fun e w'=>∃ v,e=.returned v/\w'.ownsRow w.heap.size 56 4 v (partsOf l).length (aM (partsOf l))/\aa w w':=by
 obtain⟨i0,hi,hz0,hz1,hz2⟩:=info_parts Tryz.zE;have HA:=hid fun W=>TU W
 obtain⟨ua,hua⟩:=ag (~~~0:BS);rw[<-hua]at HA;have HUA:=hid hua;clear hua;obtain⟨n,hn⟩:=ag l.length;obtain⟨ad,cap,hv0⟩:∃ ad cap,v0=.slice ad n cap:=by
  rcases hl with⟨h1,h2⟩ | ⟨b,off,cap,h1,_⟩
  ·exact⟨none,0,by rw[h1,hn,h2];rfl⟩
  ·exact⟨_,cap,by rw[h1,hn]⟩
 subst hv0;have HL:=hid hl;have HN:=hid hn;have hn':n<=9223372036854775807:=by omega
 clear hl hn hlen;go_enter Tryz.func64,Tryz.ntmps64;go_wp2_with (go_at_call 117;refine(HA.out _).mono ?_;rintro e w1 ⟨rfl,hx⟩;have j7:=hid hx;clear hx);refine ax ?_;intro W0 hW0;have hx0:aa w W0:=by rw[hW0];exact(j7.out.alloc _).below
 have ho0:W0.ownsRow w.heap.size 56 4 (.slice (some ⟨w1.heap.size,0,none⟩) 1 1) (bc []).length (aM (bc [])):=by rw[hW0,show bc []=[ua] from by rw[HUA.out];rfl];exact⟨rfl,.inr ⟨w1.heap.size,1,encS ua,rfl,j7.out.size,World.alloc_heap_new _ _,aD _,by decide,rfl,rfl⟩⟩
 have LJ:=hid hx0;have HO0:=hid ho0;clear hx0 ho0 hW0;go_loopw [15,3] (fun i v wr=>∃ k:Nat,k<=n/\i=.int .i64 k/\wr.ownsRow w.heap.size 56 4 v (bc (l.take k)).length (aM (bc (l.take k)))/\aa w wr) (fun i _ _=>n-(intOf i).toNat);case atStart=>exact⟨0,by omega,rfl,HO0.out,LJ.out⟩
 case round=>
  obtain⟨wo,rfl⟩:=ag (wr:World);obtain⟨k,hk,rfl,ho,hb⟩:=hrel;obtain⟨a3,LS,rfl⟩:=ownsRow_form ho;have HO:=hid ho;have HB:=hid hb;clear ho hb HO0 LJ;by_cases hlt:k<n
  ·obtain⟨b,off,afm,Od,s,hs,hcs⟩:∃ b off,ad=some ⟨b,off,none⟩/\b<w.heap.size/\∃ s,l[k]? =some s/\∀ j,j<4->w.cell? ⟨b,off+k*4+j,none⟩=(encS s)[j]? :=by
    have AZ:k<l.length:=by rw[<-HN.out];exact hlt
    rcases HL.out with⟨h1,h2⟩ | ⟨b,off,cap',h1,h2,h3⟩
    ·rw[h2]at AZ;simp at AZ
    ·cases h1
     exact⟨b,off,rfl,h2,l[k],az AZ,h3 k _ (az AZ)⟩
   subst afm;have c0:wo.cell? ⟨b,off+k*4,none⟩=some (.int .u64 (wd s 0).toNat):=(HB.out.cell (p:=⟨b,off+k*4,none⟩) Od).trans (hcs 0 (by decide));have c1:wo.cell? ⟨b,off+k*4+1,none⟩=some (.int .u64 (wd s 1).toNat):=(HB.out.cell (p:=⟨b,off+k*4+1,none⟩) Od).trans (hcs 1 (by decide));have c2:wo.cell? ⟨b,off+k*4+2,none⟩=some (.int .u64 (wd s 2).toNat):=(HB.out.cell (p:=⟨b,off+k*4+2,none⟩) Od).trans (hcs 2 (by decide));have c3:wo.cell? ⟨b,off+k*4+3,none⟩=some (.int .u64 (wd s 3).toNat):=(HB.out.cell (p:=⟨b,off+k*4+3,none⟩) Od).trans (hcs 3 (by decide));have HS:=hid hs;have hP:bc (l.take (k+1))=aU s (bc (l.take k)):=by rw[List.take_add_one,hs];exact iM _ _
   have HP:=hid hP;have HM:=hid (eu (l.take k));clear hs hcs hP;generalize bc (l.take k)=pk at HO HP HM;obtain⟨m,hm⟩:=ag pk.length;have aiz:m<=256:=by rw[hm];exact HM.out
   rw[<-hm]at HO ⊢;have HMM:=hid hm;clear hm HM;go_wp2;refine ax ?_;intro W1 hW1;have my:ar W1 wo.heap.size (encS s) 56:=by rw[hW1];exact ar.new _ _ _
   have hb1:aa wo W1:=by rw[hW1];exact((Ext.refl wo).alloc _).below
   have hz1:W1.heap.size=wo.heap.size+1:=by rw[hW1];simp
   have J2:=hid (HO.out.alloc (.cells (encS s) 56 (0,0)));have afn:Hid (W1.ownsRow w.heap.size 56 4 (.slice a3 m LS) m (aM pk)):=by rw[hW1];exact J2.out
   have HSB:=hid my;have qD:=hid hb1;have HZ1:=hid hz1;clear my hb1 hz1 hW1 J2 c0 c1 c2 c3;go_loopw [21,6] (fun i v w2=>∃ j:Nat,j<=m/\i=.int .i64 j/\w2.ownsRow W1.heap.size 56 4 v (aU s (pk.take j)).length (aM (aU s (pk.take j)))/\aa W1 w2) (fun i _ _=>m-(intOf i).toNat);case atStart=>exact⟨0,by omega,rfl,World.ownsRow_nil _ _ _ _,Below.refl _ _⟩
   case round=>
    obtain⟨j,hj,rfl,Oe,hb2⟩:=hrel;obtain⟨a6,Xs,rfl⟩:=ownsRow_form Oe;obtain⟨w2,rfl⟩:=ag (wr:World);have j8:=hid Oe;have iV:=hid hb2;clear Oe hb2;by_cases GI:j<m
    ·obtain⟨g3,ha3,hg3,p,hp,LU⟩:∃ g3,a3=some ⟨g3,0,none⟩/\g3<W1.heap.size/\∃ p,pk[j]? =some p/\∀ i,i<4->W1.cell? ⟨g3,j*4+i,none⟩=(encS p)[i]? :=by
      have hjp:j<pk.length:=by rw[<-HMM.out];exact GI
      obtain⟨g,cap',h1,_,h2,h3⟩:=js afn.out HMM.out (az hjp);cases h1;exact⟨_,rfl,h2,pk[j],az hjp,h3⟩
     subst ha3;have d0:w2.cell? ⟨g3,j*4,none⟩=some (.int .u64 (wd p 0).toNat):=(iV.out.cell (p:=⟨g3,j*4,none⟩) hg3).trans (LU 0 (by decide));have d1:w2.cell? ⟨g3,j*4+1,none⟩=some (.int .u64 (wd p 1).toNat):=(iV.out.cell (p:=⟨g3,j*4+1,none⟩) hg3).trans (LU 1 (by decide));have d2:w2.cell? ⟨g3,j*4+2,none⟩=some (.int .u64 (wd p 2).toNat):=(iV.out.cell (p:=⟨g3,j*4+2,none⟩) hg3).trans (LU 2 (by decide));have d3:w2.cell? ⟨g3,j*4+3,none⟩=some (.int .u64 (wd p 3).toNat):=(iV.out.cell (p:=⟨g3,j*4+3,none⟩) hg3).trans (LU 3 (by decide));have hQ:aU s (pk.take (j+1))=aU s (pk.take j)++cut s p:=by rw[List.take_add_one,hp];simp[aU]
     have HQ:=hid hQ;have HPj:=hid hp;have HAnd:=hid fun W=>TR p s W
     have Pn:=hid fun W=>vH p s W
     have TY:Hid (cut s p=[p&&& s,p&&& ~~~s].filter fun x=> !(x==0)):=rfl;clear hQ hp LU;generalize cut s p=cs at HQ TY;generalize p&&& s=xa at HAnd TY;generalize p&&& ~~~s=xb at Pn TY;go_wp2;refine ax ?_;intro W2 hW2;have om:ar W2 w2.heap.size (encS p) 56:=by rw[hW2];exact ar.new _ _ _
     have hx2:aa w2 W2:=by rw[hW2];exact((Ext.refl w2).alloc _).below
     have my:ar W2 wo.heap.size (encS s) 56:=(HSB.out.below iV.out (by have:=HZ1.out;omega)).below hx2 (by have:=HZ1.out;have:=iV.out.size;omega);have Oe:W2.ownsRow W1.heap.size 56 4 (.slice a6 (aU s (pk.take j)).length Xs) (aU s (pk.take j)).length (aM (aU s (pk.take j))):=by rw[hW2];exact j8.out.alloc _
     have hz2:W2.heap.size=w2.heap.size+1:=by rw[hW2];simp
     have fK:=hid hx2;have Xt:=hid Oe;have HZ2:=hid hz2;clear hx2 Oe hz2 hW2 d0 d1 d2 d3 j8;have afo:wo.heap.size<W2.heap.size:=my.lt;refine eQ (fun b=>b=w2.heap.size\/b=wo.heap.size) (by kernel_rfl) (fun i=>i==2 || i==5 || i==6) (by kernel_rfl) ?_;intro C hC hne W3 hK3 hblk hsz hx3;obtain⟨a0,a1,a2,a3⟩:=A7 hC (.inl rfl) om;obtain⟨b0,b1,b2,b3⟩:=A7 hC (.inr rfl) my;have HC:=hid hC;have VO:=hid hK3;have od:=hid hx3;have Dv:=hid om;have afp:=hid my;have HS:Hid (∀ b,(b=w2.heap.size\/b=wo.heap.size)->b<W2.heap.size):=fun b hb=>by have h1:=Dv.out.lt;have h2:=afp.out.lt;omega
     clear hC hK3 hx3 om my hblk hsz afo
     repeat (refine bN (fun K hK=>?_);refine dw rfl ?_;unfold aB;go_simp;refine hK _ _ ?_;clear hK K)
     refine bN (fun K hK=>?_);refine eH rfl ?_;go_simp;refine eP ((HAnd.out _).mono ?_);rintro e w4 ⟨rfl,hx⟩;have hk4:=ae.step VO.out HS hx;refine⟨_,rfl,(HC.out _).2 hk4,hK _ _ ?_⟩;have HK4:=hid hk4;have D9:=hid hx;clear hK K hk4 hx
     repeat (refine bN (fun K hK=>?_);refine dw rfl ?_;unfold aB;go_simp;refine hK _ _ ?_;clear hK K)
     refine bN (fun K hK=>?_);refine eH rfl ?_;go_simp;refine eP ((Pn.out _).mono ?_);rintro e w5 ⟨rfl,hx⟩;have hk5:=ae.step HK4.out HS hx;refine⟨_,rfl,(HC.out _).2 hk5,hK _ _ ?_⟩;have HK5:=hid hk5;have Xp:=hid hx;clear hK K hk5 hx;refine bN (fun K hK=>?_);refine eH rfl ?_;go_simp;refine⟨(HC.out _).2 (HK5.out.alloc (fun b hb=>aA (HS.out b hb) HK5.out.size) _),hK _ _ ?_⟩;clear hK K
     repeat (refine bN (fun K hK=>?_);refine dw rfl ?_;unfold aB;go_simp;refine hK _ _ ?_;clear hK K)
     refine nV ?_;go_wp2;refine ax ?_;intro W6 uL;have hx6:aa W2 W6:=by rw[uL];exact(((od.out.trans D9.out).trans Xp.out).alloc _).below
     have h31:ar W6 w5.heap.size (aM [xa,xb]).toArray 56:=by rw[uL];exact ar.new _ _ _
     have hz6:W6.heap.size=w5.heap.size+1:=by rw[uL];simp
     have ho6:W6.ownsRow W1.heap.size 56 4 (.slice a6 (aU s (pk.take j)).length Xs) (aU s (pk.take j)).length (aM (aU s (pk.take j))):=ai Xt.out (ae.ak hx6 fun _ h=>h) (fun k e=>(Xt.out.lt k e).2);have h6b:∀ c,(Value.slice a6 (aU s (pk.take j)).length Xs).ownBlock=some c->c≠w5.heap.size:=fun c e=>by
      have h1:=(Xt.out.lt c e).2;have h2:=od.out.size;have h3:=D9.out.size;have h4:=Xp.out.size;omega
     have VP:=hid hx6;have H31:=hid h31;have HZ6:=hid hz6;have HO6:=hid ho6;have H6b:=hid h6b;clear a0 a1 a2 a3 b0 b1 b2 b3 VO HK4 HK5 HC HS od D9 Xp hx6 h31 hz6 ho6 h6b uL hne C HAnd Pn
     go_loopw [33,6] (fun i v w7=>∃ q:Nat,q<=2/\i=.int .i64 q/\w7.ownsRow W1.heap.size 56 4 v (aU s (pk.take j)++([xa,xb].take q).filter fun x=> !(x==0)).length (aM (aU s (pk.take j)++([xa,xb].take q).filter fun x=> !(x==0)))/\
       (∀ c,v.ownBlock=some c->c≠w5.heap.size)/\ar w7 w5.heap.size (aM [xa,xb]).toArray 56/\Below W1.heap.size W6 w7) (fun i _ _=>2-(intOf i).toNat)
     case atStart=>
      refine⟨0,by omega,rfl,?_,H6b.out,H31.out,Below.refl _ _⟩;rw[show([xa,xb].take 0).filter (fun x=> !(x==0))=[] from rfl,List.append_nil];exact HO6.out
     case round=>
      obtain⟨w7,rfl⟩:=ag (wr:World);obtain⟨q,hq,rfl,ho7,vK,h31,hb7⟩:=hrel;obtain⟨a7,aft,rfl⟩:=ownsRow_form ho7;have Xu:=hid ho7;have Po:=hid vK;have Xv:=hid h31;have Xw:=hid hb7;clear ho7 vK h31 hb7;by_cases Th:q<2
      ·obtain⟨x,hx⟩:∃ x,[xa,xb][q]? =some x:=⟨[xa,xb][q],az Th⟩
       have ht:[xa,xb].take (q+1)=[xa,xb].take q++ [x]:=by rw[List.take_add_one,hx];rfl
       have Pp:∀ i,i<4->w7.cell? ⟨w5.heap.size,q*4+i,none⟩=(encS x)[i]? :=fun i hi=>by
        rw[Xv.out.cell];have:=iA [xa,xb] hx hi;simpa using this
       have e0:w7.cell? ⟨w5.heap.size,q*4,none⟩=some (.int .u64 (wd x 0).toNat):=Pp 0 (by decide);have e1:w7.cell? ⟨w5.heap.size,q*4+1,none⟩=some (.int .u64 (wd x 1).toNat):=Pp 1 (by decide);have e2:w7.cell? ⟨w5.heap.size,q*4+2,none⟩=some (.int .u64 (wd x 2).toNat):=Pp 2 (by decide);have e3:w7.cell? ⟨w5.heap.size,q*4+3,none⟩=some (.int .u64 (wd x 3).toNat):=Pp 3 (by decide);have HT:=hid ht;have Dw:=hid (yM s (pk.take j));clear hx ht Pp;generalize aU s (pk.take j)=nj at Xu HQ Dw Po ⊢;by_cases hz:x=0#256
       ·have he:∀ W,(Op.equalIn 10000 56 (.agg #[.int .u64 (wd x 0).toNat,.int .u64 (wd x 1).toNat,.int .u64 (wd x 2).toNat,.int .u64 (wd x 3).toNat]) (.agg #[.int .u64 0,.int .u64 0,.int .u64 0,.int .u64 0])).run Tryz.prog W=.ok true W:=fun W=>by
         have h1:=iy x 0 W;rw[gi,hz]at h1;rw[hz];exact h1
        have hf:([x].filter fun x=> !(x==0))=[]:=by rw[hz];rfl
        have HF:=hid hf;clear hz hf;go_wp2;go_roundw;case rel=>
         refine⟨q+1,by omega,by go_num,?_,Po.out,Xv.out.alloc _,Xw.out.alloc (by have:=Xw.out.size;have:=HZ6.out;have:=VP.out.size;have:=fK.out.size;have:=iV.out.size;omega) _⟩;rw[HT.out,List.filter_append,HF.out,List.append_nil];exact Xu.out.alloc _
        case measure=>simp[intOf];omega
       ·have he:∀ W,(Op.equalIn 10000 56 (.agg #[.int .u64 (wd x 0).toNat,.int .u64 (wd x 1).toNat,.int .u64 (wd x 2).toNat,.int .u64 (wd x 3).toNat]) (.agg #[.int .u64 0,.int .u64 0,.int .u64 0,.int .u64 0])).run Tryz.prog W=.ok false W:=fun W=>by
         have h1:=iy x 0 W;rw[gi,show(x==0)=false from by simpa using hz]at h1;exact h1
        have hf:([x].filter fun x=> !(x==0))=[x]:=by simp[hz]
        have HF:=hid hf;have hlq:([xa,xb].take q).length<=2:=by simp;omega
        have hlf:=Nat.le_trans (List.length_filter_le (fun x=> !(x==0)) ([xa,xb].take q)) hlq;have hlj:(pk.take j).length<=256:=by simp;omega
        have HLQ:Hid ((nj++([xa,xb].take q).filter fun x=> !(x==0)).length<=514):=by have h1:=Dw.out;show List.length _<=514;rw[aG];omega
        clear hz hf hlq hlf hlj;obtain⟨nq,hnq⟩:=ag (nj++([xa,xb].take q).filter fun x=> !(x==0));rw[<-hnq]at Xu HLQ Po ⊢;have HNQ:=hid hnq;clear hnq;go_wp2_with (at_builtin;refine wpList_append_own_at _ rfl _ _ 26 rfl W1.heap.size 56 i0 (.agg #[.int .u64 0,.int .u64 0,.int .u64 0,.int .u64 0]) 4 32 Tryz.underlying26 hi hz0 hz1 hz2 rfl (by decide) _ _ _ rfl ((Xu.out.alloc _).alloc _) ⟨w7.heap.size+1,0,none⟩ 1 1 (encS x).toList rfl rfl (cK ((ar.new _ (encS x) 56).at (by simp))) (by intro u hu;simp[encS]at hu;rcases hu with rfl | rfl | rfl | rfl<;>rfl) (by have:=HLQ.out;unfold maxLen;omega) (by have:=HLQ.out;omega) (by have:=Xw.out.size;have:=VP.out.size;have:=fK.out.size;have:=iV.out.size;simp;omega) ?_;intro v' w8 hown' hgrow hh hat;have HO8:=hid hown';have HG:=hid hgrow;have LL:=hid hat;clear hown' hgrow hh hat);have afw:w5.heap.size<w7.heap.size:=by have:=Xw.out.size;have:=HZ6.out;omega
        have afx:W1.heap.size<=w7.heap.size:=by have:=Xw.out.size;have:=VP.out.size;have:=fK.out.size;have:=iV.out.size;omega
        go_roundw
        case rel=>
         refine⟨q+1,by omega,by go_num,?_,fun c e=>?_,?_,?_⟩
         ·rw[HT.out,List.filter_append,HF.out, <-List.append_assoc, <-HNQ.out,aG,gO,LP]
          exact HO8.out
         ·have hat':v'.ownBlock=(Value.slice a7 nq.length aft).ownBlock\/_:=LL.out
          rcases hat' with h | h
          ·exact Po.out c (by rw[<-h];exact e)
          ·rw[h]at e;simp at e;omega
         ·exact((Xv.out.alloc _).alloc _).grown HG.out (fun e=>Po.out _ e.symm rfl)
         ·exact((Xw.out.alloc afx _).alloc (by simp;omega) _).grown HG.out (by simp;omega) (fun c e=>(Xu.out.lt c e).1)
        case measure=>simp[intOf];omega
      ·obtain rfl:q=2:=by omega
       have hcs:aU s (pk.take j)++([xa,xb].take 2).filter (fun x=> !(x==0))=aU s (pk.take (j+1)):=by rw[HQ.out,TY.out];rfl
       rw[hcs]at Xu ⊢;clear hcs;go_wp2;go_roundw;case rel=>
        refine⟨j+1,by omega,by go_num,Xu.out,?_⟩;exact((iV.out.trans (fK.out.mono (by have:=iV.out.size;omega))).trans (VP.out.mono (by have:=fK.out.size;have:=iV.out.size;omega))).trans Xw.out
       case measure=>simp[intOf];omega
    ·obtain rfl:j=m:=by omega
     have T9:pk.take j=pk:=by rw[HMM.out];exact List.take_length
     rw[T9, <-HP.out]at j8 ⊢;clear T9;go_wp2;go_roundw;case rel=>
      refine⟨k+1,by omega,by go_num,aF j8.out (by have:=HZ1.out;have:=HB.out.size;omega),?_⟩;exact(HB.out.trans (qD.out.mono HB.out.size)).trans (iV.out.mono (by have:=HZ1.out;have:=HB.out.size;omega))
     case measure=>simp[intOf];omega
  ·obtain rfl:k=n:=by omega
   have fD:l.take k=l:=by rw[HN.out];exact List.take_length
   rw[fD]at HO ⊢;clear fD;have hne:bc l≠[]:=fun e=>by have:=qT l;rw[e]at this;simp at this
   obtain⟨g,cur,hg,VK,Bc,hcc,hcm,hcs,fD⟩:∃ g cur,a3=some ⟨g,0,none⟩/\w.heap.size<=g/\wo.heap[g]? =some (.cells cur 56 (0,0))/\(bc l).length<=LS/\LS<=maxLen/\cur.size=LS*4/\cur.toList.take ((bc l).length*4)=aM (bc l):=by
    rcases HO.out.2 with⟨_,h2⟩ | ⟨g,cap',cur,h1,h2,h3,h4,h5,h6,h7⟩
    ·exact absurd (List.eq_nil_of_length_eq_zero h2) hne
    ·cases h1
     exact⟨g,cur,rfl,h2,h3,h4,h5,h6,h7⟩
   subst hg;have eg:∀ args w,(callFunc 30 args).run Tryz.prog w=.ok (.enter 30 args) w:=enters_of Tryz.func30 (by kernel_rfl) rfl;have hcon:=AnyQ.slices_SortFunc_total Tryz.Pm 4 Tryz.isAgg56 Tryz.sizeOf56 qV (fun _=>rfl) (fun x v hv=>by simp[qV,encS]at hv;rcases hv with rfl | rfl | rfl | rfl<;>rfl) aT afk 30 #[] g 0 LS (bc l).toArray wo eg
    (fun m os dk _ x y=>(D8 x y _).mono fun e w' ⟨he,hx⟩=>⟨he,hx.grow⟩) (Hp Bc fD) (Array.getElem?_eq_some_iff.1 Bc).1 (by have:=eu l;simp;omega) abj
   have VQ:Hid (ah 119 #[.slice (some ⟨g,0,none⟩) (bc l).length LS,.func (.func 30) #[] #[]] wo fun e w'=>
    e=.returned (.tuple #[])/\∃ n os,w'=sortWorldK qV 4 wo g 0 n (partsOf l).toArray os):=hcon
   clear hcon hne;have hpl:(partsOf l).length=(bc l).length:=by unfold partsOf;exact List.length_mergeSort _
   have HPL:=hid hpl;clear hpl;obtain⟨po,hpo⟩:=ag (partsOf l);rw[<-hpo]at VQ HPL;have HPO:=hid hpo;clear hpo;go_wp2_with (go_at_call 119;refine VQ.out.mono ?_;rintro e ws ⟨rfl,nd,os,GN⟩;have HWS:=hid GN;clear GN);go_ret;refine⟨_,rfl,?_,?_⟩
   ·rw[HWS.out, <-HPO.out,HPL.out]
    exact yP HPL.out VK Bc hcc hcm hcs
   ·rw[HWS.out]
    exact HB.out.grown (yO _) HB.out.size (fun c e=>by cases e;exact VK)
end
section
open Go Go.RowKit Go.Shelf Go.Maps
def cB (p:List BS):List (Nat×Nat):=p.zipIdx.flatMap fun x=>(bL x.1 256).map fun c=>(x.2,c)
theorem Ee:cB []=[]:=rfl
theorem Bd (p:List BS) (s:BS):cB (p++ [s])=cB p++(bL s 256).map fun c=>(p.length,c):=by unfold cB;rw[List.zipIdx_append];simp
theorem qW {p:List BS} {k:Nat} {s:BS} (h:p[k]? =some s):cB (p.take (k+1))=cB (p.take k)++(bL s 256).map fun c=>(k,c):=by have hk:k<p.length:=(List.getElem?_eq_some_iff.1 h).1;rw[List.take_add_one,h];show cB (p.take k++ [s])=_;rw[Bd,List.length_take,Nat.min_eq_left (by omega)]
theorem vL {p:List BS} {k:Nat} {s:BS} (h:p[k]? =some s) (j:Nat):cB (p.take k)++((bL s 256).take j).map (fun c=>(k,c))<+:cB p:=by
 have h1:cB (p.take (k+1))<+:cB p:=by
  have:p=p.take (k+1)++p.drop (k+1):=(List.take_append_drop _ _).symm;have h2:∀ (a b:List BS),cB a<+:cB (a++b):=by intro a b;unfold cB;rw[List.zipIdx_append,List.flatMap_append];exact List.prefix_append _ _
  conv=>rhs;rw[this]
  exact h2 _ _
 refine List.IsPrefix.trans ?_ h1;rw[qW h];exact(List.prefix_append_right_inj _).2 (List.IsPrefix.map _ (List.take_prefix _ _))
theorem Hq {s:BS} {n c:Nat} (h:c∈bL s n):c<n:=by unfold bL at h;simp at h;exact h.1
theorem mZ {p:List BS} {x:Nat×Nat} :x∈cB p↔ ∃ s,p[x.1]? =some s/\x.2<256/\s.getLsbD x.2=true:=by
 unfold cB;simp only[List.mem_flatMap,List.mem_map,Prod.exists,List.mem_zipIdx_iff_getElem?,bL];constructor
 ·rintro⟨s,k,h1,c,h2,rfl⟩
  simp at h2;exact⟨s,h1,h2⟩
 ·rintro⟨s,h1,h2,h3⟩
  exact⟨s,x.1,h1,x.2,by simp[h2,h3],rfl⟩
def dQ (l:List (Nat×Nat)):List Nat:=l.foldl (fun t x=>t.set x.2 x.1) (List.replicate 256 0)
theorem sH (l:List (Nat×Nat)):∀ (t:List Nat),(l.foldl (fun t x=>t.set x.2 x.1) t).length=t.length:=by
 induction l with
 | nil=>intro t;rfl
 | cons x l ih=>intro t;simp[ih]
theorem eV (l:List (Nat×Nat)):(dQ l).length=256:=by unfold dQ;rw[sH,List.length_replicate]
theorem tJ:dQ []=List.replicate 256 0:=rfl
theorem qX (l:List (Nat×Nat)) (x:Nat×Nat):dQ (l++ [x])=(dQ l).set x.2 x.1:=by unfold dQ;rw[List.foldl_append];rfl
def oY (p:List BS):List Nat:=dQ (cB p)
theorem jt (p:List BS):(oY p).length=256:=eV _
theorem Ef (l:List (Nat×Nat)) (c:Nat) (hc:c<256):(∃ x∈l,x.2=c/\(dQ l)[c]? =some x.1)\/((∀ x∈l,x.2≠c)/\(dQ l)[c]? =some 0):=by
 suffices ∀ r:List (Nat×Nat),(∃ x∈r.reverse,x.2=c/\(dQ r.reverse)[c]? =some x.1)\/((∀ x∈r.reverse,x.2≠c)/\(dQ r.reverse)[c]? =some 0) by
  have:=this l.reverse;rwa[List.reverse_reverse]at this
 intro r;induction r with
 | nil=>right;rw[List.reverse_nil,tJ,List.getElem?_replicate,if_pos hc];exact⟨fun x hx=>absurd hx (List.not_mem_nil),rfl⟩
 | cons x r ih=>
  rw[List.reverse_cons,qX];by_cases hx:x.2=c
  ·left
   refine⟨x,by simp,hx,?_⟩;rw[List.getElem?_set,if_pos hx,if_pos (by rw[eV,hx];exact hc)]
  ·rw[List.getElem?_set,if_neg hx]
   rcases ih with⟨y,h1,h2,h3⟩ | ⟨h1,h2⟩
   ·exact .inl ⟨y,by simp only[List.mem_append];exact .inl h1,h2,h3⟩
   ·refine .inr ⟨fun y hy=>?_,h2⟩
    simp only[List.mem_append,List.mem_singleton]at hy;rcases hy with hy | rfl
    ·exact h1 y hy
    ·exact hx
theorem sI (p:List BS) (c:Nat) (hc:c<256):(∃ k s,p[k]? =some s/\s.getLsbD c=true/\(oY p)[c]? =some k)\/((∀ s∈p,s.getLsbD c=false)/\(oY p)[c]? =some 0):=by
 rcases Ef (cB p) c hc with⟨x,h1,h2,h3⟩ | ⟨h1,h2⟩
 ·obtain⟨s,h4,h5,h6⟩:=mZ.1 h1
  exact .inl ⟨x.1,s,h4,by rw[<-h2];exact h6,h3⟩
 ·refine .inr ⟨fun s hs=>?_,h2⟩
  obtain⟨k,hk⟩:=List.getElem?_of_mem hs;cases hb:s.getLsbD c with
  | false=>rfl
  | true=>exact absurd rfl (h1 (k,c) (mZ.2 ⟨s,hk,hc,hb⟩))
theorem Pq (p:List BS) (c:Nat) (hc:c<256) (hp:p.length<=256):∃ k,(oY p)[c]? =some k/\k<256/\(k<p.length\/k=0):=by
 rcases sI p c hc with⟨k,s,h1,_,h3⟩ | ⟨_,h2⟩
 ·have:=(List.getElem?_eq_some_iff.1 h1).1
  exact⟨k,h3,by omega,.inl this⟩
 ·exact⟨0,h2,by omega,.inr rfl⟩
def fQ (t:List Nat) (v:Value):Array Value:=((t.map fun (n:Nat)=>Value.int .u8 n)++ [v]).toArray
theorem tK {t:List Nat} {v:Value} {c k:Nat} (h:t[c]? =some k):(fQ t v)[c]? =some (.int .u8 k):=by have hc:=(List.getElem?_eq_some_iff.1 h).1;unfold fQ;simp only[List.getElem?_toArray];rw[bJ (by simpa using hc),aO,h];rfl
theorem lJ {t:List Nat} {v:Value} (h:t.length=256):(fQ t v)[256]? =some v:=by unfold fQ;simp only[List.getElem?_toArray];rw[cH (by simp[h])];simp[h]
theorem Eg {t:List Nat} {v:Value} {c k:Nat} (h:c<t.length):(fQ t v).setIfInBounds c (.int .u8 k)=fQ (t.set c k) v:=by unfold fQ;simp[h,List.map_set]
def cU (w:World) (base:Nat) (v:Value) (p:List BS):Prop:=
 (v=.pointer none/\p=[])\/∃ b sl,v=.pointer (some ⟨b,0,none⟩)/\base<=b/\ar w b (fQ (oY p) sl) 263/\w.ownsRow base 56 4 sl p.length (aM p)/\p.length<=256
theorem cU.keeps {w w':World} {base:Nat} {v:Value} {p:List BS} (h:cU w base v p) {R:Nat->Prop} (hk:ae R w w') (hr:∀ k,base<=k->k<w.heap.size->R k):cU w' base v p:=by
 rcases h with h | ⟨b,sl,h1,h2,h3,h4,h5⟩
 ·exact .inl h
 ·exact .inr ⟨b,sl,h1,h2,h3.keeps hk (hr b h2 h3.lt),ai h4 hk fun k e=>hr k (h4.lt k e).1 (h4.lt k e).2,h5⟩
theorem cU.below {w w':World} {base:Nat} {v:Value} {p:List BS} (h:cU w base v p) (hk:aa w w'):cU w' base v p:=h.keeps (ae.ak hk fun _ h=>h) (fun _ _ h=>h)
theorem cU.base {w:World} {base base':Nat} {v:Value} {p:List BS} (h:cU w base v p) (hb:base'<=base):cU w base' v p:=by
 rcases h with h | ⟨b,sl,h1,h2,h3,h4,h5⟩
 ·exact .inl h
 ·exact .inr ⟨b,sl,h1,Nat.le_trans hb h2,h3,aF h4 hb,h5⟩
theorem cU.le {w:World} {base:Nat} {v:Value} {p:List BS} (h:cU w base v p):p.length<=256:=by
 rcases h with⟨_,rfl⟩ | ⟨b,sl,h1,h2,h3,h4,h5⟩
 ·simp
 ·exact h5
attribute [local go_sem] encS
theorem cU.form {w:World} {base:Nat} {v:Value} {p:List BS} (h:cU w base v p):(v=.pointer none/\p=[])\/∃ b sa cap,v=.pointer (some ⟨b,0,none⟩)/\w.cell? ⟨b,256,none⟩=some (.slice sa p.length cap)/\ (∀ c k:Nat,(oY p)[c]? =some k->w.cell? ⟨b,c,none⟩=some (.int .u8 k))/\base<=b/\b<w.heap.size/\ ∀ i s,p[i]? =some s->∃ g,sa=some ⟨g,0,none⟩/\base<=g/\g<w.heap.size/\∀ j,j<4->w.cell? ⟨g,i*4+j,none⟩=(encS s)[j]? :=by
 rcases h with h | ⟨b,sl,h1,h2,h3,h4,h5⟩
 ·exact .inl h
 ·obtain⟨sa,cap,rfl⟩:=ownsRow_form h4
  refine .inr ⟨b,sa,cap,h1,?_,fun c k hk=>?_,h2,h3.lt,fun i s hi=>?_⟩
  ·have hn:(Value.slice sa p.length cap)=.slice sa p.length cap:=rfl
   have:=h3.cell 256;rw[lJ (jt p)]at this;exact this
  ·rw[h3.cell c,tK hk]
  ·obtain⟨g,cap',h6,h7,h8,h9⟩:=js h4 rfl hi
   cases h6
   exact⟨g,rfl,h7,h8,h9⟩
theorem ng (v:Value) (base:Nat) (p:List BS) (w:World) (h:cU w base v p): ah 168 #[v] w fun e w'=>e=.returned (.bool p.isEmpty)/\w'=w:=by
 rcases h.form with⟨rfl,rfl⟩ | ⟨b,sa,cap,rfl,c0,_⟩
 ·clear h
  go_enter Tryz.func168,Tryz.ntmps168
  go_wp2;go_ret;exact⟨rfl,rfl⟩
 ·clear h
  cases p with
  | nil=>
   go_enter Tryz.func168,Tryz.ntmps168
   go_wp2;go_ret;exact⟨rfl,rfl⟩
  | cons s p=>
   go_enter Tryz.func168,Tryz.ntmps168
   go_wp2;go_ret;exact⟨rfl,rfl⟩
theorem J3 (v:Value) (base:Nat) (p:List BS) (w:World) (h:cU w base v p): ah 111 #[v] w fun e w'=>e=.returned (.int .i64 p.length)/\w'=w:=by
 have hn:=ng v base p w h;rcases h.form with⟨rfl,rfl⟩ | ⟨b,sa,cap,rfl,c0,_⟩
 ·have HN:=hid hn
  clear h hn;go_enter Tryz.func111,Tryz.ntmps111;go_wp2_with (go_at_call 168;refine HN.out.mono ?_;rintro e w1 ⟨rfl,rfl⟩);go_ret;exact⟨rfl,rfl⟩
 ·cases p with
  | nil=>
   have HN:=hid hn;clear h hn;go_enter Tryz.func111,Tryz.ntmps111;go_wp2_with (go_at_call 168;refine HN.out.mono ?_;rintro e w1 ⟨rfl,rfl⟩);go_ret;exact⟨rfl,rfl⟩
  | cons s p=>
   have HN:=hid hn;clear h hn;go_enter Tryz.func111,Tryz.ntmps111;go_wp2_with (go_at_call 168;refine HN.out.mono ?_;rintro e w1 ⟨rfl,rfl⟩);go_ret;exact⟨rfl,rfl⟩
def cls (p:List BS) (c:Nat):Nat:=(oY p)[c]?.getD 0
theorem Be (p:List BS) {c:Nat} (hc:c<256):(oY p)[c]? =some (cls p c):=by unfold cls;rw[az (by rw[jt];exact hc)];rfl
theorem J4 (c:Nat):cls [] c=0:=by unfold cls oY;rw[Ee,tJ,List.getElem?_replicate];split<;>rfl
theorem cZ (p:List BS) (c:Nat) (hp:p.length<=256):cls p c<256:=by
 by_cases hc:c<256
 ·obtain⟨k,h1,h2,_⟩:=Pq p c hc hp
  unfold cls;rw[h1];exact h2
 ·unfold cls;rw[aX (by rw[jt];omega)];decide
theorem zG (v:Value) (base:Nat) (p:List BS) (c:Nat) (hc:c<256) (w:World) (h:cU w base v p): ah 123 #[v,.int .u8 c] w fun e w'=>e=.returned (.int .i64 (cls p c))/\w'=w:=by
 have hn:=ng v base p w h;have hlt:=cZ p c h.le;rcases h.form with⟨rfl,rfl⟩ | ⟨b,sa,cap,rfl,c0,ht,_⟩
 ·have HN:=hid hn
  clear h hn hlt;go_enter Tryz.func123,Tryz.ntmps123;go_wp2_with (go_at_call 168;refine HN.out.mono ?_;rintro e w1 ⟨rfl,rfl⟩);go_ret;exact⟨by rw[J4];rfl,rfl⟩
 ·have c1:=ht c _ (Be p hc)
  cases p with
  | nil=>
   have HN:=hid hn;clear h hn ht;go_enter Tryz.func123,Tryz.ntmps123;go_wp2_with (go_at_call 168;refine HN.out.mono ?_;rintro e w1 ⟨rfl,rfl⟩);go_ret;exact⟨by rw[J4];rfl,rfl⟩
  | cons s p=>
   have HN:=hid hn;clear h hn ht;generalize cls (s::p) c=z at c1 hlt ⊢;go_enter Tryz.func123,Tryz.ntmps123;go_wp2_with (go_at_call 168;refine HN.out.mono ?_;rintro e w1 ⟨rfl,rfl⟩);go_ret;exact⟨rfl,rfl⟩
theorem cU.some {w:World} {base:Nat} {v:Value} {s:BS} {p:List BS} (h:cU w base v (s::p)):∃ b sa cap,v=.pointer (some ⟨b,0,none⟩)/\w.cell? ⟨b,256,none⟩=some (.slice sa (s::p).length cap)/\ (∀ c k:Nat,(oY (s::p))[c]? =some k->w.cell? ⟨b,c,none⟩=some (.int .u8 k))/\base<=b/\b<w.heap.size/\ ∀ i s',(s::p)[i]? =some s'->∃ g,sa=some ⟨g,0,none⟩/\base<=g/\g<w.heap.size/\∀ j,j<4->w.cell? ⟨g,i*4+j,none⟩=(encS s')[j]? :=by
 rcases h.form with⟨_,h⟩ | h
 ·cases h
 ·exact h
def setOf (p:List BS) (k:Int):Option BS:=if 0<=k then p[k.toNat]? else none
theorem LV (k:Int):setOf [] k=none:=by unfold setOf;split<;>simp
theorem LX (p:List BS) {k:Int} (h:k<0):setOf p k=none:=by unfold setOf;rw[if_neg (by omega)]
theorem Hr (p:List BS) {k:Int} (h:(p.length:Int)<=k):setOf p k=none:=by unfold setOf;rw[if_pos (by omega),aX (by omega)]
theorem sJ (p:List BS) (k:Nat):setOf p k=p[k]? :=by unfold setOf;rw[if_pos (by omega),Int.toNat_natCast]
theorem Eh (p:List BS) (k:Int):(setOf p k=none/\(k<0\/(p.length:Int)<=k))\/∃ (n:Nat) (s:BS),k=n/\n<p.length/\p[n]? =some s/\setOf p k=some s:=by
 by_cases h1:k<0
 ·exact .inl ⟨LX p h1,.inl h1⟩
 ·by_cases h2:(p.length:Int)<=k
  ·exact .inl ⟨Hr p h2,.inr h2⟩
  ·obtain⟨n,rfl⟩:∃ n:Nat,k=n:=⟨k.toNat,by omega⟩
   have h3:n<p.length:=by omega
   exact .inr ⟨n,p[n],rfl,h3,az h3,by rw[sJ];exact az h3⟩
theorem Hs (v:Value) (base:Nat) (p:List BS) (k:Int) (w:World) (h:cU w base v p): ah 169 #[v,.int .i64 k] w fun e w'=>e=.returned (.bool (setOf p k).isSome)/\w'=w:=by
 have hn:=ng v base p w h;cases p with
 | nil=>
  have HN:=hid hn;clear h hn;go_enter Tryz.func169,Tryz.ntmps169;go_wp2_with (go_at_call 168;refine HN.out.mono ?_;rintro e w1 ⟨rfl,rfl⟩);go_ret;exact⟨by rw[LV];rfl,rfl⟩
 | cons s p=>
  obtain⟨b,sa,cap,rfl,c0,_⟩:=h.some;have hp:=Eh (s::p) k;have hle:=h.le;generalize (s::p).length=m at c0 hp hle;generalize setOf (s::p) k=r at hp ⊢;have HN:=hid hn;clear h hn;rcases hp with⟨rfl,h1 | h1⟩ | ⟨n,t,rfl,h1,_,rfl⟩
  ·go_enter Tryz.func169,Tryz.ntmps169
   go_wp2_with (go_at_call 168;refine HN.out.mono ?_;rintro e w1 ⟨rfl,rfl⟩)
   go_ret;exact⟨rfl,rfl⟩
  ·go_enter Tryz.func169,Tryz.ntmps169
   go_wp2_with (go_at_call 168;refine HN.out.mono ?_;rintro e w1 ⟨rfl,rfl⟩)
   go_ret;exact⟨by rw[show(decide (k<(m:Int)))=false from decide_eq_false (by omega)];rfl,rfl⟩
  ·go_enter Tryz.func169,Tryz.ntmps169
   go_wp2_with (go_at_call 168;refine HN.out.mono ?_;rintro e w1 ⟨rfl,rfl⟩)
   go_ret;exact⟨rfl,rfl⟩
theorem J5 (v:Value) (base:Nat) (p:List BS) (k:Int) (w:World) (h:cU w base v p): ah 112 #[v,.int .i64 k] w fun e w'=>e=.returned (.tuple #[.agg (encS ((setOf p k).getD 0)),.bool (setOf p k).isSome])/\Ext w w':=by
 have hn:=Hs v base p k w h;have hz:=gi;rcases Eh p k with⟨h1,_⟩ | ⟨n,t,rfl,h1,h2,h3⟩
 ·rw[h1]at hn ⊢
  have HI:=hid (fun o=>(show ah 169 #[v,.int .i64 k] (w.alloc o) _ from Hs v base p k (w.alloc o) (h.below ((Ext.refl w).alloc o).below)));rw[h1]at HI;clear h hn h1;go_enter Tryz.func112,Tryz.ntmps112;go_wp2_with (go_at_call 169;refine(HI.out _).mono ?_;rintro e w1 ⟨rfl,rfl⟩);refine bodyPost_ret (v:=.tuple #[.agg (encS 0),.bool false]) ?_ rfl ⟨rfl,(Ext.refl w).alloc _⟩;rw[hz];simp[results,Tryz.results112,go_sem]
 ·cases p with
  | nil=>simp at h1
  | cons s p=>
  obtain⟨b,sa,cap,rfl,c0,_,_,hb,hr⟩:=h.some;obtain⟨g,rfl,_,hg,hc⟩:=hr n t h2;have hle:=h.le;have d0:w.cell? ⟨g,n*4,none⟩=some (.int .u64 (wd t 0).toNat):=hc 0 (by decide);have d1:w.cell? ⟨g,n*4+1,none⟩=some (.int .u64 (wd t 1).toNat):=hc 1 (by decide);have d2:w.cell? ⟨g,n*4+2,none⟩=some (.int .u64 (wd t 2).toNat):=hc 2 (by decide);have d3:w.cell? ⟨g,n*4+3,none⟩=some (.int .u64 (wd t 3).toNat):=hc 3 (by decide);have HI:=hid (fun o=>(show ah 169 #[_,.int .i64 n] (w.alloc o) _ from Hs _ base _ n (w.alloc o) (h.below ((Ext.refl w).alloc o).below)));rw[h3]at HI ⊢;generalize (s::p).length=m at c0 hle h1;clear h hn hc hr h2 h3;go_enter Tryz.func112,Tryz.ntmps112;go_wp2_with (go_at_call 169;refine(HI.out _).mono ?_;rintro e w1 ⟨rfl,rfl⟩);refine bodyPost_ret (v:=.tuple #[.agg (encS t),.bool true]) ?_ rfl ⟨rfl,(Ext.refl w).alloc _⟩;simp[results,Tryz.results112,go_sem]
def leastOf (p:List BS) (k:Int):Nat×Bool:=match setOf p k with | none=>(0,false) | some s=>aS s
theorem zH (v:Value) (base:Nat) (p:List BS) (k:Int) (w:World) (h:cU w base v p): ah 113 #[v,.int .i64 k] w fun e w'=>e=.returned (.tuple #[.int .u8 (leastOf p k).1,.bool (leastOf p k).2])/\Ext w w':=by
 have HS:=hid (J5 v base p k w h);clear h;unfold leastOf;generalize setOf p k=r at HS ⊢;cases r with
 | none=>
  go_enter Tryz.func113,Tryz.ntmps113
  go_wp2_with (go_at_call 112;refine HS.out.mono ?_;rintro e w1 ⟨rfl,hx⟩;have HX:=hid hx;clear hx)
  refine bodyPost_ret (v:=.tuple #[.int .u8 (0:Nat),.bool false]) ?_ rfl ⟨rfl,HX.out.alloc _⟩;simp[results,Tryz.results113,go_sem]
 | some s=>
  have HF:=hid (zC s);dsimp only at HS ⊢;generalize aS s=z at HF ⊢;have hs:(some s).getD 0=s:=rfl;go_enter Tryz.func113,Tryz.ntmps113;go_wp2_with (first | (go_at_call 112;refine HS.out.mono ?_;rintro e w1 ⟨rfl,hx⟩;have HX:=hid hx;clear hx) | (go_at_call 23;refine(HF.out _).mono ?_;rintro e w2 ⟨rfl,hx⟩;have fK:=hid hx;clear hx));refine bodyPost_ret (v:=.tuple #[.int .u8 z.1,.bool z.2]) ?_ rfl ⟨rfl,(HX.out.alloc _).trans fK.out⟩;simp[results,Tryz.results113,go_sem]
end
section
open Go Go.RowKit Go.Shelf Go.Maps
attribute [local go_sem] encS Oper.semAt_some gJ dB
theorem Bf (ad:Option Addr) (w:World):ah 211 #[.pointer ad] w fun e w'=>e=.returned (.func (.func 235) #[] #[.pointer (some ⟨w.heap.size,0,none⟩)])/\w'=w.alloc (.cells #[.pointer ad] 190 (0,0)):=by
 go_enter Tryz.func211,Tryz.ntmps211
 go_wp2;go_ret;exact⟨rfl,rfl⟩
def vM (w:World) (g:Nat) (sa:Option Addr) (p:List BS):Prop:=g<w.heap.size/\∀ i s,p[i]? =some s->sa=some ⟨g,0,none⟩/\∀ j,j<4->w.cell? ⟨g,i*4+j,none⟩=(encS s)[j]?
theorem vM.keeps {w w':World} {g:Nat} {sa:Option Addr} {p:List BS} (h:vM w g sa p) {R:Nat->Prop} (hk:ae R w w') (hr:R g):vM w' g sa p:=
 ⟨aA h.1 hk.size,fun i s hi=>⟨(h.2 i s hi).1,fun j hj=>(hk.cell (p:=⟨g,i*4+j,none⟩) hr).trans ((h.2 i s hi).2 j hj)⟩⟩
theorem yQ {w:World} {base n:Nat} {v:Value} {l:List Nat} (h:w.ownsRow base 5 1 v n (l.map et)) (hn:n=l.length):∃ g a cap,v=.slice a n cap/\(n=0\/a=some ⟨g,0,none⟩/\base<=g/\g<w.heap.size/\∀ i c:Nat,l[i]? =some c->w.cell? ⟨g,i,none⟩=some (.int .u8 c)):=by
 rcases h.2 with⟨h1,h2⟩ | ⟨g,cap,cur,hv,hb,hg,_,_,hs,ht⟩
 ·exact⟨0,none,0,by rw[h1,h2],.inl h2⟩
 ·refine⟨g,_,cap,hv,.inr ⟨rfl,hb,(Array.getElem?_eq_some_iff.1 hg).1,fun i c hi=>?_⟩⟩
  have hlt:i<l.length:=(List.getElem?_eq_some_iff.1 hi).1;have hc:w.cell? ⟨g,i,none⟩=cur[i]? :=by simp[World.cell?,hg]
  have h3:cur[i]? =(l.map et)[i]? :=by rw[<-ht,List.getElem?_take,if_pos (by omega)];simp
  rw[hc,h3,aO,hi];rfl
theorem Ei (p:List BS) (bx ab g n cap:Nat) (sa:Option Addr) (w:World) (hp:n=p.length) (hn:p.length<=256) (zD:w.cell? ⟨bx,0,none⟩=some (.pointer (some ⟨ab,0,none⟩))) (Od:bx<w.heap.size) (hab:w.cell? ⟨ab,256,none⟩=some (.slice sa n cap)) (has:ab<w.heap.size) (hr:vM w g sa p): Seq false Tryz.prog 235 #[.pointer (some ⟨bx,0,none⟩)] (fun x:Nat×Nat=> #[.int .i64 x.1,.int .u8 x.2]) (· =g) (cB p) w:=by
 intro l J Jx W hK hJ Xo hY h0;have c0:W.cell? ⟨bx,0,none⟩=_:=(hK.cell (p:=⟨bx,0,none⟩) Od).trans zD;have c1:W.cell? ⟨ab,256,none⟩=_:=(hK.cell (p:=⟨ab,256,none⟩) has).trans hab;have hr1:vM W g sa p:=hr.keeps hK hr.1;have HY:=hid hY;have HB:=hid fun s W=>LM s W
 have Xx:=hid hr1;have HJ:=hid hJ;have HP:=hid hp;have hn':n<=256:=by omega
 clear hY zD hab Od has hr hr1 Xo hK hJ hp hn;refine callsIn_wide (n:=0).1 ?_;refine callsIn_of_wp Tryz.func235 rfl trivial ?_ rfl;simp only[Tryz.ntmps235,List.size_toArray,List.length_cons,List.length_nil,Nat.reduceAdd,Nat.reduceSub,Array.replicate_succ,Array.replicate_zero,List.push_toArray,List.append_toArray,List.nil_append,List.cons_append]
 gi_wp2
 gi_loopw [12] (fun i wr=>∃ (k:Nat) (T:Nat->Prop),k<=n/\i=.int .i64 k/\J (cB (p.take k)) T wr/\(∀ k,T k->W.heap.size<=k/\k<wr.heap.size)/\ae (· =g) W wr)
  (fun i _=>n-(intOf i).toNat)
 case atStart=>
  exact⟨0,fun _=>False,by omega,rfl,h0,fun _ h=>h.elim,ae.refl _ _⟩
 case round=>
  clear c0 c1 h0;obtain⟨wo,rfl⟩:=ag (wr:World);obtain⟨k,T,hk,rfl,hj,hT,hR⟩:=hrel;have HJo:=hid hj;have HT:=hid hT;have HR:=hid hR;clear hj hT hR;by_cases hlt:k<n
  ·obtain⟨s,hs⟩:∃ s,p[k]? =some s:=⟨_,az (by have:=HP.out;omega)⟩
   obtain⟨J6,hcs⟩:=(Xx.out.keeps HR.out rfl).2 k s hs;subst J6;have d0:wo.cell? ⟨g,k*4,none⟩=some (.int .u64 (wd s 0).toNat):=hcs 0 (by decide);have d1:wo.cell? ⟨g,k*4+1,none⟩=some (.int .u64 (wd s 1).toNat):=hcs 1 (by decide);have d2:wo.cell? ⟨g,k*4+2,none⟩=some (.int .u64 (wd s 2).toNat):=hcs 2 (by decide);have d3:wo.cell? ⟨g,k*4+3,none⟩=some (.int .u64 (wd s 3).toNat):=hcs 3 (by decide);have HPT:=hid (qW hs);have Pj:=hid (vL hs);have HBL:Hid (∀ c∈bL s 256,c<256):=fun c h=>Hq h
   have HBs:=hid (HB.out s);have hlen:(bL s 256).length<=256:=by unfold bL;exact Nat.le_trans (List.length_filter_le _ _) (by simp)
   clear hcs hs;generalize bL s 256=bs at HPT Pj HBL HBs hlen;obtain⟨m,hm⟩:=ag bs.length;rw[<-hm]at HBs hlen;have HM:=hid hm;clear hm
   gi_wp2_with (gi_at_call 236;refine(callsIn_wide.2 (HBs.out _)).mono ?_;rintro e w1 ⟨v,rfl,h1,h2⟩;obtain⟨gb,ba,alQ,rfl,h3⟩:=yQ h1 HM.out;have H2:=hid h2;have H3:=hid h3;clear h1 h2 h3)
   obtain⟨T',Pk⟩:=ag (fun x=>T x\/(0<m/\x=gb):Nat->Prop);have hx1:aa wo w1:=((Ext.refl wo).alloc _).below.trans (H2.out.mono (by simp));have hsz:wo.heap.size<=w1.heap.size:=hx1.size;have hTb:∀ x,T' x->W.heap.size<=x/\x<w1.heap.size:=fun x hx=>by
    rw[Pk]at hx;rcases hx with hx | ⟨h0,rfl⟩
    ·have:=HT.out x hx;omega
    ·rcases H3.out with h | ⟨_,h1,h2,_⟩
     ·omega
     ·have:=HR.out.size;simp at h1;omega
   have hj1:J (cB (p.take k)) T' w1:=HJ.out _ T T' wo w1 HJo.out HT.out hTb (fun x hx=>by rw[Pk];exact .inl hx) (fun x hx=>by
    rw[Pk]at hx;rcases hx with hx | ⟨h0,rfl⟩
    ·exact .inl hx
    ·rcases H3.out with h | ⟨_,h1,h2,_⟩
     ·omega
     ·simp at h1;exact .inr (by omega)) ⟨ae.ak hx1 fun _ h=>h.1,fun h=>(by cases h)⟩
   have iK:ae (· =g) W w1:=HR.out.tr (ae.ak hx1 fun x h=>by have h1:=(Xx.out.keeps HR.out rfl).1;rw[show x=g from h];exact h1);have H3':Hid (m=0\/ba=some ⟨gb,0,none⟩/\T' gb/\∀ i c:Nat,bs[i]? =some c->w1.cell? ⟨gb,i,none⟩=some (.int .u8 c)):=by
    by_cases ve:m=0
    ·exact .inl ve
    ·rcases H3.out with h | ⟨h1,_,_,h4⟩
     ·exact absurd h ve
     ·exact .inr ⟨h1,by rw[Pk];exact .inr ⟨by omega,rfl⟩,h4⟩
   have HJ1:=hid hj1;have GK:=hid iK;have HTb:=hid hTb;clear Pk hx1 hsz hTb hj1 iK H3 H2 HJo HT HR d0 d1 d2 d3 HBs
   gi_loopw [20] (fun i w2=>∃ j:Nat,j<=m/\i=.int .i64 j/\J (cB (p.take k)++(bs.take j).map fun c=>(k,c)) T' w2/\ae (fun x=>x=g\/T' x) w1 w2) (fun i _=>m-(intOf i).toNat)
   case atStart=>
    refine⟨0,by omega,rfl,?_,ae.refl _ _⟩;rw[List.take_zero,List.map_nil,List.append_nil];exact HJ1.out
   case round=>
    obtain⟨w2,rfl⟩:=ag (wr:World);obtain⟨j,hj,rfl,Tj,hkk⟩:=hrel;have HJJ:=hid Tj;have GQ:=hid hkk;clear Tj hkk HJ1;by_cases GI:j<m
    ·obtain⟨Xy,hg,hcb⟩:=H3'.out.resolve_left (by omega)
     subst Xy;obtain⟨c,hc⟩:∃ c,bs[j]? =some c:=⟨_,az (by have:=HM.out;omega)⟩;have kT:c<256:=HBL.out c (aw hc);have e0:w2.cell? ⟨gb,j,none⟩=some (.int .u8 c):=(GQ.out.cell (p:=⟨gb,j,none⟩) (.inr hg)).trans (hcb j c hc);have fD:(bs.take (j+1)).map (fun c=>(k,c))=(bs.take j).map (fun c=>(k,c))++ [(k,c)]:=by rw[List.take_add_one,hc];simp
     have Ob:(cB (p.take k)++(bs.take j).map fun c=>(k,c))++ [(k,c)]<+:cB p:=by have:=Pj.out (j+1);rw[fD, <-List.append_assoc]at this;exact this
     obtain⟨fn,tm,DB,bd,hy,DZ⟩:=HY.out _ (k,c) T' w2 Ob (fun x hx=>⟨(HTb.out x hx).1,aA (HTb.out x hx).2 GQ.out.size⟩) (GK.out.tr (GQ.out.mono fun x hx=>.inl hx)) HJJ.out;have Oc:=hid DZ;have pO:=hid fD;have HPJ:=hid Ob;clear DZ hg hcb hc fD Ob;dsimp only at hy
     gi_wp2
     refine Oc.out.mono ?_;rintro e W2 (⟨rfl,kR,hk2⟩ | ⟨rfl,kR,hk2⟩)
     ·have vd:=hid kR
      have pN:=hid hk2;clear kR hk2 hy
      gi_wp2
      go_roundw
      case rel=>
       refine⟨j+1,by omega,by go_num,?_,GQ.out.tr (pN.out)⟩;rw[pO.out, <-List.append_assoc];exact vd.out
      case measure=>simp[intOf];omega
     ·have vd:=hid kR
      have pN:=hid hk2;clear kR hk2 hy
      gi_wp2
      refine bodyPost_ret (results_none rfl _ _ _) rfl ?_;exact⟨⟨_,rfl⟩,T',fun x hx=>⟨(HTb.out x hx).1,aA (HTb.out x hx).2 (Nat.le_trans GQ.out.size pN.out.size)⟩,.inr ⟨_,HPJ.out,vd.out⟩⟩
    ·obtain rfl:j=m:=by omega
     gi_wp2
     go_roundw
     case rel=>
      refine⟨k+1,T',by omega,by go_num,?_,fun x hx=>⟨(HTb.out x hx).1,aA (HTb.out x hx).2 GQ.out.size⟩,GK.out.tr (GQ.out.mono fun x hx=>.inl hx)⟩;rw[HPT.out];have:=HJJ.out;rwa[HM.out,List.take_length]at this
     case measure=>simp[intOf];omega
  ·obtain rfl:k=n:=by omega
   gi_wp2
   refine bodyPost_end (results_none rfl _ _ _) rfl ?_;refine⟨⟨_,rfl⟩,T,HT.out,.inl ?_⟩;have:=HJo.out;rwa[HP.out,List.take_length]at this
theorem yR {w:World} {base n:Nat} {v:Value} {p:List BS} (h:w.ownsRow base 56 4 v n (aM p)) (hn:n=p.length):∃ sa cap,v=.slice sa n cap/\((p=[]/\n=0)\/∃ g,vM w g sa p):=by
 rcases h.2 with⟨h1,h2⟩ | ⟨g,cap,cur,hv,hb,hg,_⟩
 ·exact⟨none,0,by rw[h1,h2],.inl ⟨List.eq_nil_of_length_eq_zero (by omega),h2⟩⟩
 ·refine⟨_,cap,hv,.inr ⟨g,(Array.getElem?_eq_some_iff.1 hg).1,fun i s hi=>?_⟩⟩
  obtain⟨g',cap',h6,h7,h8,h9⟩:=js h hn hi;rw[hv]at h6;cases h6;exact⟨rfl,h9⟩
theorem Bg (v:Value):Tryz.zeroCells263.setIfInBounds 256 v=fQ (dQ []) v:=by kernel_rfl
theorem Pr (p:List BS) (v:Value) (base:Nat) (w:World) (h:w.ownsRow base 56 4 v p.length (aM p)) (hb:base<=w.heap.size) (hp:p.length<=256): ah 167 #[v] w fun e w'=>∃ b,e=.returned (.pointer (some ⟨b,0,none⟩))/\cU w' base (.pointer (some ⟨b,0,none⟩)) p/\aa w w':=by
 have eg:∀ args w,(callFunc 235 args).run Tryz.prog w=.ok (.enter 235 args) w:=enters_of Tryz.func235 (by kernel_rfl) rfl;obtain⟨n,hn⟩:=ag p.length;rw[<-hn]at h;obtain⟨sa,cap,rfl,hrow⟩:=yR h hn;have H:=hid h;have HR:=hid hrow;have HN:=hid hn;have HP:=hid hp;have HB:=hid hb;clear h hrow hn hp hb;refine cq Tryz.func167 rfl ?_;simp only[Tryz.ntmps167,List.size_toArray,List.length_cons,List.length_nil,Nat.reduceAdd,Nat.reduceSub,Array.replicate_succ,Array.replicate_zero,List.push_toArray,List.append_toArray,List.nil_append,List.cons_append];go_wp2_with (go_at_call 211;refine(Bf _ _).mono ?_;rintro e w1 ⟨rfl,rfl⟩);rw[Bg];refine ax ?_;intro W0 hW0;have hab:ar W0 w.heap.size (fQ (dQ []) (.slice sa n cap)) 263:=by rw[hW0];exact((ar.new _ _ _).alloc _).alloc _
 have zD:ar W0 (w.heap.size+1) #[.pointer (some ⟨w.heap.size,0,none⟩)] 190:=by rw[hW0];exact((ar.new _ _ _).at (by simp)).alloc _
 have mA:ar W0 (w.heap.size+1+1) #[.pointer (some ⟨w.heap.size,0,none⟩)] 190:=by rw[hW0];exact(ar.new _ _ _).at (by simp)
 have hx0:Ext w W0:=by rw[hW0];exact(((Ext.refl w).alloc _).alloc _).alloc _
 have hsz:W0.heap.size=w.heap.size+1+1+1:=by rw[hW0];simp
 clear hW0;obtain⟨g,hg,hr⟩:∃ g,(g≠w.heap.size/\g≠w.heap.size+1/\g<W0.heap.size)/\vM W0 g sa p:=by
  rcases HR.out with⟨h1,_⟩ | ⟨g,h1⟩
  ·exact⟨w.heap.size+1+1,⟨by omega,by omega,by omega⟩,by omega,fun i s hi=>by rw[h1]at hi;simp at hi⟩
  ·exact⟨g,⟨by have:=h1.1;omega,by have:=h1.1;omega,by have:=h1.1;omega⟩,h1.keeps hx0.keeps h1.1⟩
 have hseq:=Ei p (w.heap.size+1+1) w.heap.size g n cap sa W0 HN.out HP.out (mA.cell 0) mA.lt (by rw[hab.cell 256,lJ (eV _)]) hab.lt hr;clear hr mA;refine iw hseq (by rfl) eg (by intro _;rfl) (by intro k hk;rw[show k=g from hk];exact hg.2.2)
  (fun xs _ W=>ar W w.heap.size (fQ (dQ xs) (.slice sa n cap)) 263/\ar W (w.heap.size+1) #[.pointer (some ⟨w.heap.size,0,none⟩)] 190/\aa w W)
  (fun _ _ _ _=>False)
  (fun xs T T' W W' ⟨h1,h2,h3⟩ hT _ _ _ hk=>⟨h1.mS hT hk (by omega),h2.mS hT hk (by omega),iu h3 hT hk (aD _) (by omega)⟩)
  (fun c xs T T' W W' h=>h.elim)
  ⟨hab,zD,hx0.below⟩
  (fun x=>⟨#[.slice sa n cap,undef,.pointer none,.pointer (some ⟨w.heap.size+1,0,none⟩),.int .i64 x.1,.int .u8 x.2,.slice sa n cap,.agg (fQ (dQ []) (.slice sa n cap)),.pointer (some ⟨w.heap.size,0,none⟩),.pointer (some ⟨w.heap.size,0,none⟩),
   .func (.func 235) #[] #[.pointer (some ⟨w.heap.size+1+1,0,none⟩)],.int .i64 x.1,.int .u8 x.2,undef,undef,undef,undef,undef,undef,undef,undef],[]⟩) ?assign ?body ?done ?stop
 case assign=>
  intro l x W K hK
  gi_wp2
  exact hK
 case body=>
  rintro l pre ⟨k,c⟩ T W bO hT _ yF hl ⟨g1,g2,g3⟩;have pP:(k,c)∈cB p:=bO.subset (by simp);obtain⟨s,h1,kT,_⟩:=mZ.1 pP;have aiJ:k<256:=by have:=(List.getElem?_eq_some_iff.1 h1).1;have:=HP.out;dsimp only at*;omega
  dsimp only at kT;obtain⟨y,hy⟩:∃ y,(dQ pre)[c]? =some y:=⟨_,az (by rw[eV];exact kT)⟩;have c0:W.cell? ⟨w.heap.size+1,0,none⟩=some (.pointer (some ⟨w.heap.size,0,none⟩)):=g2.cell 0;have c1:W.cell? ⟨w.heap.size,c,none⟩=some (.int .u8 y):=(g1.cell c).trans (tK hy);have f1:=g1.frozen c;have oP:=g1.set c (.int .u8 k);rw[Eg (by rw[eV];exact kT)]at oP;have LY:=qX pre (k,c);rw[<-LY]at oP;have Ht:=hid oP;have HG2:=hid (g2.other (p:=⟨w.heap.size,c,none⟩) (by simp) (.int .u8 k));have HG3:=hid (g3.setCell (p:=⟨w.heap.size,c,none⟩) (aD _) (.int .u8 k));have HT:=hid hT;have HG:=hid hg;have lI:=hid hsz;clear oP LY g1 g2 g3 hT hy h1 pP yF hl hg hsz hab zD hx0 bO hseq
  gi_wp2
  refine⟨(ae.refl _ _).setCell (fun h=>?_) _,Ht.out,HG2.out,HG3.out⟩;have hgg:=HG.out;have hss:=lI.out;rcases h with h | h
  ·exact hgg.1 h.symm
  ·have:=(HT.out _ h).1;dsimp only at this;omega
 case done=>
  rintro D T W hD yI hT ⟨g1,g2,g3⟩ mI;have c0:W.cell? ⟨w.heap.size+1,0,none⟩=some (.pointer (some ⟨w.heap.size,0,none⟩)):=g2.cell 0;have G1:=hid g1;have G3:=hid g3;have HD:=hid hD;have lI:=hid hsz;have yx:=hid mI;clear g1 g2 g3 hsz hT yI mI hD hg hab zD hx0 hseq;dsimp only;go_wp2;refine dn rfl yx.out (results_tmp rfl _ _ _) ⟨_,rfl,.inr ⟨_,_,rfl,HB.out,G1.out.put (by have:=HD.out;have:=lI.out;omega) _,?_,HP.out⟩,((ae.ak G3.out (fun _ h=>h)).putObj (by have:=HD.out;have:=lI.out;omega) _).below⟩;have h1:=ai H.out (ae.ak G3.out fun _ h=>h) (fun k e=>(H.out.lt k e).2);rw[HN.out]at h1;rw[<-HN.out,HN.out];exact ownsRow_putObj h1 _ yx.out rfl
 case stop=>rintro D c pre T W _ _ _ _ h _;exact h.elim
end
section
open Go Go.RowKit Go.Shelf Go.Maps
attribute [local go_sem] encS
theorem bZ.below {α:Type} {enc:α->Value} {w w':World} {v:Value} {l:List α} (h:bZ enc w v l) (hk:aa w w'):bZ enc w' v l:=by
 rcases h with h | ⟨b,off,cap,hv,hb,hc,h⟩
 ·exact .inl h
 ·exact .inr ⟨b,off,cap,hv,aA hb hk.size,hc,fun i x hi=>(hk.cell (p:=⟨b,off+i,none⟩) hb).trans (h i x hi)⟩
theorem bZ.form {α:Type} {enc:α->Value} {w:World} {v:Value} {l:List α} (h:bZ enc w v l):∃ a cap,v=.slice a l.length cap:=by
 rcases h with⟨h,rfl⟩ | ⟨b,off,cap,hv,_⟩
 ·exact⟨_,_,h⟩
 ·exact⟨_,_,hv⟩
theorem bZ.elem {α:Type} {enc:α->Value} {w:World} {a:Option Addr} {n cap:Nat} {l:List α} (h:bZ enc w (.slice a n cap) l) {i:Nat} {x:α} (hi:l[i]? =some x):∃ b off,a=some ⟨b,off,none⟩/\b<w.heap.size/\w.cell? ⟨b,off+i,none⟩=some (enc x):=by
 rcases h with⟨_,rfl⟩ | ⟨b,off,cap,hv,hb,hc,h⟩
 ·simp at hi
 ·cases hv;exact⟨b,off,rfl,hb,h i x hi⟩
theorem dc {α:Type} {enc:α->Value} {w:World} {base n:Nat} {v:Value} {e:TypeId} {l:List α} (h:w.ownsRow base e 1 v n (l.map enc)) (hn:n=l.length):bZ enc w v l:=by
 rcases h.2 with⟨h1,h2⟩ | ⟨g,cap,cur,hv,hb,hg,hc,_,hs,ht⟩
 ·exact .inl ⟨h1,List.eq_nil_of_length_eq_zero (by omega)⟩
 ·refine .inr ⟨g,0,cap,by rw[hv,hn],(Array.getElem?_eq_some_iff.1 hg).1,by omega,fun i x hi=>?_⟩
  have hlt:i<l.length:=(List.getElem?_eq_some_iff.1 hi).1;have hc:w.cell? ⟨g,0+i,none⟩=cur[i]? :=by simp[World.cell?,hg]
  have h3:cur[i]? =(l.map enc)[i]? :=by rw[<-ht,List.getElem?_take,if_pos (by omega)];simp
  rw[hc,h3,aO,hi];rfl
theorem Tryz.mB:(Tryz.prog.info? 3).map (fun i=>(i.zero,i.size,i.bytes))=some (some (.int .i64 0),1,8):=by kernel_rfl
def cQ (n:Nat):Value:=.int .i64 n
def aN (k:Int):Value:=.int .i64 k
theorem Ej (l:List BS):(partsOf l).length<=256:=by unfold partsOf;rw[List.length_mergeSort];exact eu l
theorem lK (l:List BS) (v0:Value) (w:World) (hl:cW w v0 l) (hlen:l.length<=9223372036854775807): ah 110 #[v0] w fun e w'=>∃ b,e=.returned (.pointer (some ⟨b,0,none⟩))/\cU w' w.heap.size (.pointer (some ⟨b,0,none⟩)) (partsOf l)/\aa w w':=by have HP:=hid (zF l v0 w hl hlen);have HL:=hid (Ej l);clear hl;generalize partsOf l=p at HP HL ⊢;go_enter Tryz.func110,Tryz.ntmps110;go_wp2_with (first | (go_at_call 64;refine HP.out.mono ?_;rintro e w1 ⟨v1,rfl,h1,h2⟩;have H1:=hid h1;have H2:=hid h2;clear h1 h2) | (go_at_call 167;refine(Pr p _ w.heap.size _ H1.out H2.out.size HL.out).mono ?_;rintro e w2 ⟨b,rfl,h1,h2⟩;have H3:=hid h1;have H4:=hid h2;clear h1 h2));go_ret;exact⟨b,rfl,H3.out,H2.out.trans (H4.out.mono H2.out.size)⟩
end
section
open Go Go.RowKit Go.Shelf Go.Maps
attribute [local go_sem] encS
end
section
open Go Go.RowKit Go.Shelf Go.Maps
attribute [local go_sem] encS
end
section
open Go Go.RowKit Go.Shelf Go.Maps
attribute [local go_sem] encS
end
section
open Go Go.RowKit Go.Shelf Go.Maps
theorem gP (l:List BS):∀ u∈aM l,u.oneCell'=true:=by intro u hu;unfold aM at hu;obtain⟨s,_,hs⟩:=List.mem_flatMap.1 hu;simp[encS]at hs;rcases hs with rfl | rfl | rfl | rfl<;>rfl
theorem cU.row {w:World} {base:Nat} {v:Value} {s:BS} {p:List BS} (h:cU w base v (s::p)): ∃ b g cap,v=.pointer (Option.some ⟨b,0,none⟩)/\b<w.heap.size/\g<w.heap.size/\w.cell? ⟨b,256,none⟩=Option.some (.slice (Option.some ⟨g,0,none⟩) (s::p).length cap)/\ ∀ j u,(aM (s::p))[j]? =Option.some u->w.cell? ((⟨g,0,none⟩:Addr).add j)=Option.some u:=by
 rcases h with⟨_,h⟩ | ⟨b,sl,h1,h2,h3,h4,h5⟩
 ·cases h
 ·obtain⟨g,cap,e,_,hg,_⟩:=js (i:=0) (s:=s) h4 rfl rfl
  subst e;refine⟨b,g,cap,h1,h3.lt,hg,?_,h4.cells rfl⟩;have:=h3.cell 256;rw[lJ (jt _)]at this;exact this
def Bh (p q:List BS) (w:World) (e:Ending) (w':World):Prop:=
 if p.isEmpty || q.isEmpty then e=.returned (.pointer none)/\aa w w' else ∃ b,e=.returned (.pointer (some ⟨b,0,none⟩))/\cU w' w.heap.size (.pointer (some ⟨b,0,none⟩)) (partsOf (p++q))/\aa w w'
theorem Pt (v v2:Value) (base VR:Nat) (p q:List BS) (w:World) (h:cU w base v p) (h2:cU w VR v2 q): ah 121 #[v,v2] w (Bh p q w):=by
 have sK:=hid (ng v base p w h);have uM:=hid (ng v2 VR q w h2);cases p with
 | nil=>
  rw[show([]:List BS).isEmpty=true from rfl]at sK;clear h h2;go_enter Tryz.func121,Tryz.ntmps121;go_wp2_with fail
  refine(sK.out).mono ?_;rintro e w' ⟨rfl,hw⟩;replace hw:=hw.symm;subst hw;go_wp2;go_ret;exact⟨rfl,Below.refl _ _⟩
 | cons s p=>
  rw[show(s::p).isEmpty=false from rfl]at sK;cases q with
  | nil=>
   rw[show([]:List BS).isEmpty=true from rfl]at uM;clear h h2;go_enter Tryz.func121,Tryz.ntmps121;go_wp2_with fail
   refine(sK.out).mono ?_;rintro e w' ⟨rfl,hw⟩;replace hw:=hw.symm;subst hw;go_wp2_with fail
   refine(uM.out).mono ?_;rintro e w' ⟨rfl,hw⟩;replace hw:=hw.symm;subst hw;go_wp2;go_ret;exact⟨rfl,Below.refl _ _⟩
  | cons t q=>
   rw[show(t::q).isEmpty=false from rfl]at uM;have hj:∀ e w',(∃ b,e=.returned (.pointer (some ⟨b,0,none⟩))/\cU w' w.heap.size (.pointer (some ⟨b,0,none⟩)) (partsOf ((s::p)++(t::q)))/\aa w w')->Bh (s::p) (t::q) w e w':=fun e w' h=>h
   obtain⟨i0,hi,hz0,hz1,hz2⟩:=info_parts Tryz.zE;obtain⟨b,g,cap,rfl,hb,hg,hc,hr⟩:=h.row;obtain⟨b2,g2,afD,rfl,hb2,hg2,hc2,hr2⟩:=h2.row;have hle:=h.le;have afE:=h2.le;generalize Bh (s::p) (t::q) w=J at*;generalize s::p=p at*;generalize t::q=q at*;obtain⟨n,hn⟩:=ag p.length;obtain⟨m,hm⟩:=ag q.length;rw[<-hn]at hc hle;rw[<-hm]at hc2 afE;have HNn:=hid hn;have HMm:=hid hm;have HR:=hid hr;have HR2:=hid hr2;have HJ:=hid hj;clear h h2 hr hr2 hn hm hj;go_enter Tryz.func121,Tryz.ntmps121;go_wp2_with fail
   refine(sK.out).mono ?_;rintro e w' ⟨rfl,hw⟩;replace hw:=hw.symm;subst hw;go_wp2_with fail
   refine(uM.out).mono ?_;rintro e w' ⟨rfl,hw⟩;replace hw:=hw.symm;subst hw;go_wp2;refine eQ (fun x=>x<w.heap.size) (by kernel_rfl) (fun i=>i==0 || i==5 || i==10 || i==11) (by kernel_rfl) ?_;intro C hC hne W0 zB hblk hsz hx0;have HC:=hid hC;have LK:=hid zB;have LJ:=hid hx0;refine en.out ?_;have f1:=dm hC (p:=⟨b,256,none⟩) hb hc;have f2:=dm hC (p:=⟨b2,256,none⟩) hb2 hc2;have HSz:=hid hsz;clear hC zB hblk hsz hx0 hc hc2;refine ft (fun K hK=>?_);refine OD rfl rfl ?_;go_simp;have k1:=LK.out.alloc (fun x hx=>aA hx LK.out.size) (.cells #[] 56 (0,0));refine⟨(HC.out _).2 k1,hK _ _ ?_⟩;clear hK K;have GK:=hid k1;clear k1;have o1:(W0.alloc (.cells #[] 56 (0,0))).ownsRow W0.heap.size 56 4 (.slice (some ⟨W0.heap.size,0,none⟩) 0 0) 0 []:=⟨rfl,.inr ⟨W0.heap.size,0, #[],rfl,aD _,World.alloc_heap_new _ _,aD _,by simp,rfl,rfl⟩⟩;have J2:=hid o1;clear o1
   repeat (refine ft (fun K hK=>?_);first | (refine lexN rfl ?_;try go_simp;refine hK _ _ ?_;clear hK K) | (refine TH rfl rfl ?_;unfold aB;go_simp;refine hK _ _ ?_;clear hK K))
   refine ft (fun K hK=>?_);refine OD rfl rfl (qN (.tmp 11) (.tmp 15) 26 rfl (W0.heap.size) 56 i0 (.agg #[.int .u64 0,.int .u64 0,.int .u64 0,.int .u64 0]) 4 32 Tryz.underlying26 hi hz0 hz1 hz2 rfl (by decide) _ (0) _ rfl (J2.out) (⟨g,0,none⟩) (n) (cap) (aM p) rfl (by rw[cL,HNn.out]) (fun j u hj=>(GK.out.cell (p:=(⟨g,0,none⟩:Addr).add j) (by rw[Addr.add_mid];exact hg)).trans (HR.out j u hj)) (gP p) (by unfold maxLen;omega) (by omega) (by simp) ?_);intro v2 w2 ho hgr hat;obtain⟨a2,c2,rfl⟩:=ownsRow_form ho;go_simp;have k2:ae (fun x=>x<w.heap.size) w w2:=GK.out.tr (ae.bw hgr (fun x hx=>⟨aA hx GK.out.size,fun e=>by have:=J2.out.lt x e.symm;have:=LK.out.size;omega⟩));refine⟨(HC.out _).2 k2,hK _ _ ?_⟩;rw[Nat.zero_add,List.nil_append]at ho;have j8:=hid ho;have pN:=hid k2;have S2:=hid (Nat.le_trans (Nat.le_trans (aD _) (by simp:W0.heap.size<=(W0.alloc (.cells #[] 56 (0,0))).heap.size)) hgr.size);clear hK K ho k2 hgr hat
   repeat (refine ft (fun K hK=>?_);first | (refine lexN rfl ?_;try go_simp;refine hK _ _ ?_;clear hK K) | (refine TH rfl rfl ?_;unfold aB;go_simp;refine hK _ _ ?_;clear hK K))
   refine ft (fun K hK=>?_);refine OD rfl rfl (qN (.tmp 16) (.tmp 20) 26 rfl (W0.heap.size) 56 i0 (.agg #[.int .u64 0,.int .u64 0,.int .u64 0,.int .u64 0]) 4 32 Tryz.underlying26 hi hz0 hz1 hz2 rfl (by decide) _ (n) _ rfl (j8.out) (⟨g2,0,none⟩) (m) (afD) (aM q) rfl (by rw[cL,HMm.out]) (fun j u hj=>(pN.out.cell (p:=(⟨g2,0,none⟩:Addr).add j) (by rw[Addr.add_mid];exact hg2)).trans (HR2.out j u hj)) (gP q) (by unfold maxLen;omega) (by omega) (S2.out) ?_);intro v3 w3 ho hgr hat;obtain⟨a3,c3,rfl⟩:=ownsRow_form ho;go_simp;have k3:ae (fun x=>x<w.heap.size) w w3:=pN.out.tr (ae.bw hgr (fun x hx=>⟨aA hx pN.out.size,fun e=>by have:=j8.out.lt x e.symm;have:=LK.out.size;omega⟩));refine⟨(HC.out _).2 k3,hK _ _ ?_⟩;have o3:w3.ownsRow W0.heap.size 56 4 (.slice a3 (n+m) c3) (p++q).length (aM (p++q)):=by
    rw[aG, <-HNn.out, <-HMm.out,gO];exact ho
   have HI3:=hid (jq o3);have VO:=hid k3;clear hK K ho k3 hgr hat o3;have HS:=hid (fun x (hx:x<w.heap.size)=>hx);refine ft (fun K hK=>?_);refine OD rfl rfl ?_;go_simp;refine eP ((lK (p++q) _ _ HI3.out (by rw[aG, <-HNn.out, <-HMm.out];omega)).mono ?_);rintro e w4 ⟨bo,rfl,h1,hx⟩;have hk4:=ae.VI VO.out HS.out hx;refine⟨_,rfl,(HC.out _).2 hk4,hK _ _ ?_⟩;have HK4:=hid hk4;clear hK K hk4
   repeat (refine ft (fun K hK=>?_);first | (refine lexN rfl ?_;try go_simp;refine hK _ _ ?_;clear hK K) | (refine TH rfl rfl ?_;unfold aB;go_simp;refine hK _ _ ?_;clear hK K))
   refine DL ?_;go_wp2;exact HJ.out _ _ ⟨bo,rfl,h1.base VO.out.size,HK4.out.below⟩
end
end Go.Proofs.YtjgccapbphadjaaGreatDoor
