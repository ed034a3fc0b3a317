/- The law for drawn regions with effects whose values bear new blocks, pairwise others. -/
import Derived.Test.YtbiboekhakbnpaaGreatDoorOF37
set_option maxRecDepth 100000
set_option maxHeartbeats 16000000
open Go.Lib (hid)
namespace Go.Proofs.YtbiboekhakbnpaaGreatDoor
open Go Go.RowKit
theorem Ov {ps:List PT} {st:List (List (List Int))×List (List Nat)} (s:Nat):mX (gy ps st) s=st.2.getD s []:=by
 unfold mX gy;show((st.2.map fun (r:List Nat)=>r.map Int.ofNat).getD s []).map Int.toNat=_;rw[List.getD_eq_getElem?_getD,List.getD_eq_getElem?_getD,List.getElem?_map];cases st.2[s]? with
 | none=>rfl
 | some r=>
  show(r.map Int.ofNat).map Int.toNat=r;rw[List.map_map];exact(List.map_congr_left fun x _=>rfl).trans (List.map_id _)
theorem Ow {ps:List PT} {f:Nat} {st:List (List (List Int))×List (List Nat)} (h:fD ps f=some st):cB (gy ps st)=List.range st.1.length:=by
 have il:=ji h;have I:=pI h;have hn:st.2.length=st.1.length:=by have:=I.len;have:=I.le;omega
 have a:=mB h (g:=st.1.length) (Nat.le_refl _);unfold fD at a;rw[if_neg (by omega)]at a;obtain⟨s1,h1,h2⟩:=Da (d:=gy ps st) a (fun s=>Ov s) st.1.length (Nat.le_refl _);rw[a]at h1;cases h1;unfold cB;rw[show(gy ps st).nx.length=st.1.length by show(st.2.map _).length=_;rw[List.length_map,hn]];exact h2
theorem Dt {n t:Nat} (h:t<n):(List.range n).idxOf t=t:=xJ List.nodup_range (List.getElem?_range h)
theorem Gj {d:DF} (rt:Rt d) (h:cB d=List.range d.nx.length):l4 d=d:=by
 have e1:(List.range d.nx.length).map (oo d)=d.nx:=by
  apply List.ext_getElem?;intro s;rw[List.getElem?_map];rcases Nat.lt_or_ge s d.nx.length with hs | hs
  ·rw[List.getElem?_range hs,bh (l:=d.nx) [] hs]
   show some (oo d s)=_;congr 1;unfold oo mX;rw[List.map_map,h];refine(List.map_congr_left fun x hx=>?_).trans (List.map_id _);have h2:=rt.iV s hs x hx;show(((List.range d.nx.length).idxOf x.toNat:Nat):Int)=x;rw[Dt (by omega)];omega
  ·rw[List.getElem?_eq_none (by simpa using hs),List.getElem?_eq_none hs];rfl
 have e2:(List.range d.nx.length).map (fun s=>d.mr.getD s [])=d.mr:=by
  apply List.ext_getElem?;intro s;rw[List.getElem?_map];rcases Nat.lt_or_ge s d.nx.length with hs | hs
  ·rw[List.getElem?_range hs,bh (l:=d.mr) [] (by rw[rt.mr];exact hs)];rfl
  ·rw[List.getElem?_eq_none (by simpa using hs),List.getElem?_eq_none (by rw[rt.mr];exact hs)];rfl
 unfold l4;rw[h,e1,e2]
structure r9 (φ:Nat->Nat) (d d':DF):Prop where
 cl:d'.cl=d.cl
 zero:φ 0=0
 inj:∀ s t,s<d.nx.length->t<d.nx.length->φ s=φ t->s=t
 nx:∀ s,s<d.nx.length->mX d' (φ s)=(mX d s).map φ
 mr:∀ s,s<d.nx.length->d'.mr.getD (φ s) []=d.mr.getD s []
theorem Ox {φ:Nat->Nat} {N:Nat} (hi:∀ s t,s<N->t<N->φ s=φ t->s=t) {L:List Nat} (hL:∀ x∈L,x<N) {t:Nat} (ht:t<N):dG (L.map φ) (φ t)=(dG L t).map φ:=by
 unfold dG;have:φ t∈L.map φ↔t∈L:=by
  rw[List.mem_map];exact⟨fun ⟨x,hx,e⟩=>by rw[<-hi x t (hL x hx) ht e];exact hx,fun h=>⟨t,h,rfl⟩⟩
 simp only[this];split<;>simp
theorem fold_map {φ:Nat->Nat} {N:Nat} (hi:∀ s t,s<N->t<N->φ s=φ t->s=t):∀ (ts L:List Nat),(∀ x∈L,x<N)->(∀ x∈ts,x<N)->(ts.map φ).foldl dG (L.map φ)=(ts.foldl dG L).map φ
 | [],_,_,_=>rfl
 | t::ts,L,hL,ht=>by
  rw[List.map_cons,List.foldl_cons,List.foldl_cons,Ox hi hL (ht t (List.mem_cons_self ..))];refine fold_map hi ts _ (fun x hx=>?_) fun x hx=>ht x (List.mem_cons_of_mem _ hx)
  unfold dG at hx;split at hx
  ·exact hL x hx
  ·rcases List.mem_append.1 hx with hx | hx
   ·exact hL x hx
   ·simp at hx;rw[hx];exact ht t (List.mem_cons_self ..)
theorem r9.jz {φ:Nat->Nat} {d d':DF} (h:r9 φ d d') (rt:Rt d):∀ n,jz d' n=(jz d n).map φ
 | 0=>by show [0]=[φ 0];rw[h.zero]
 | n+1=>by
  have ih:=r9.jz h rt n;have il:=uL rt n;rw[Go.Proofs.YtbiboekhakbnpaaGreatDoor.jz,Go.Proofs.YtbiboekhakbnpaaGreatDoor.jz,ih,List.getElem?_map];rcases e:(Go.Proofs.YtbiboekhakbnpaaGreatDoor.jz d n)[n]? with _ | s
  ·rfl
  ·have hs:=il.lt s (List.mem_of_getElem? e)
   show(mX d' (φ s)).foldl dG _=_;rw[h.nx s hs];exact fold_map h.inj _ _ il.lt (zk rt hs)
theorem ve {φ:Nat->Nat} {N:Nat} (hi:∀ s t,s<N->t<N->φ s=φ t->s=t) {t:Nat} (ht:t<N):∀ (L:List Nat),(∀ x∈L,x<N)->(L.map φ).idxOf (φ t)=L.idxOf t
 | [],_=>rfl
 | x::L,hL=>by
  rw[List.map_cons,List.idxOf_cons,List.idxOf_cons,ve hi ht L fun y hy=>hL y (List.mem_cons_of_mem _ hy)];have:(φ x==φ t)=(x==t):=by
   rw[Bool.eq_iff_iff,beq_iff_eq,beq_iff_eq];exact⟨fun e=>hi x t (hL x (List.mem_cons_self ..)) ht e,fun e=>by rw[e]⟩
  rw[this]
theorem r9.trim {φ:Nat->Nat} {d d':DF} (h:r9 φ d d') (rt:Rt d) (hN:d.nx.length<=d'.nx.length):l4 d'=l4 d:=by
 have hr:cB d'=(cB d).map φ:=by have h1:=h.jz rt d'.nx.length;have h2:=uN (d:=d) (n:=d.nx.length) (uL rt _).len (d'.nx.length-d.nx.length);rw[show d.nx.length+(d'.nx.length-d.nx.length)=d'.nx.length by omega]at h2;show Go.Proofs.YtbiboekhakbnpaaGreatDoor.jz d' d'.nx.length=_;rw[h1,h2];rfl
 have hlt:=(qJ rt).lt;unfold l4;rw[hr,h.cl];congr 1
 ·rw[List.map_map]
  refine List.map_congr_left fun s hs=>?_
  show oo d' (φ s)=oo d s;unfold oo;rw[h.nx s (hlt s hs),List.map_map];refine List.map_congr_left fun t ht=>?_
  show(((cB d').idxOf (φ t):Nat):Int)=_;rw[hr,ve h.inj (zk rt (hlt s hs) t ht) _ hlt]
 ·rw[List.map_map]
  exact List.map_congr_left fun s hs=>h.mr s (hlt s hs)
theorem r9.run {φ:Nat->Nat} {d d':DF} (h:r9 φ d d') (rt:Rt d) (b:List Nat) (hb:∀ c∈b,c<256):cA d' 0 b=φ (cA d 0 b):=by
 revert hb;refine zo (P:=fun b=>(∀ c∈b,c<256)->cA d' 0 b=φ (cA d 0 b)) (fun _=>h.zero.symm) (fun b c ih hb=>?_) b;have hb':∀ x∈b,x<256:=fun x hx=>hb x (List.mem_append_left _ hx)
 have ih:=ih hb';have e:∀ d:DF,cA d 0 (b++ [c])=rb d (cA d 0 b) (cls d.cl c):=fun d=>by unfold cA;rw[List.foldl_append];rfl
 have e2:∀ (d:DF) (s k:Nat),k<(mX d s).length->rb d s k=(mX d s).getD k 0:=fun d s k hk=>by
  unfold rb;unfold mX at hk ⊢;rw[List.length_map]at hk;generalize d.nx.getD s []=r at hk ⊢;rw[List.getD_eq_getElem?_getD,List.getD_eq_getElem?_getD,List.getElem?_map,List.getElem?_eq_getElem hk];rfl
 have hs:=pN rt rt.pos b hb';have hk:cls d.cl c<(mX d (cA d 0 b)).length:=by rw[sB rt hs];exact rt.part.lp (hb c (by simp))
 rw[e,e,ih,h.cl,e2 d' _ _ (by rw[h.nx _ hs,List.length_map];exact hk),e2 d _ _ hk,h.nx _ hs];rw[List.getD_eq_getElem?_getD,List.getD_eq_getElem?_getD,List.getElem?_map,List.getElem?_eq_getElem hk];rfl
theorem r9.marks {φ:Nat->Nat} {d d':DF} (h:r9 φ d d') (rt:Rt d) (b:List Nat) (hb:∀ c∈b,c<256):d'.mr.getD (cA d' 0 b) []=d.mr.getD (cA d 0 b) []:=by rw[h.run rt b hb];exact h.mr _ (pN rt rt.pos b hb)
def fO (y W s:Nat):Nat:=if s=0 then 0 else 1+(s-1+y)% (W-1)
theorem sF {y W s:Nat} (hs:s<W):fO y W s<W:=by
 unfold fO;split
 ·omega
 ·have:=Nat.mod_lt (s-1+y) (show 0<W-1 by omega)
  omega
theorem Du {a b m:Nat} (h:a%m=b%m) (h1:b<=a) (h2:a<b+m):a=b:=by have h3:=Nat.sub_mod_eq_zero_of_mod_eq h;rw[Nat.mod_eq_of_lt (by omega)]at h3;omega
theorem vg {y W s t:Nat} (hs:s<W) (ht:t<W) (h:fO y W s=fO y W t):s=t:=by
 unfold fO at h;by_cases h1:s=0<;>by_cases h2:t=0
 ·omega
 ·rw[if_pos h1,if_neg h2]at h;omega
 ·rw[if_neg h1,if_pos h2]at h;omega
 ·rw[if_neg h1,if_neg h2]at h
  have h3:(s-1+y)% (W-1)=(t-1+y)% (W-1):=by omega
  rcases Nat.le_total s t with h4 | h4
  ·have:=Du h3.symm (by omega) (by omega);omega
  ·have:=Du h3 (by omega) (by omega);omega
theorem qO {y W j:Nat} (hj:j<W):∃ s,s<W/\fO y W s=j:=by
 by_cases h0:j=0
 ·exact⟨0,by omega,by rw[h0];rfl⟩
 ·obtain⟨m,hm⟩:∃ m,m=W-1:=⟨_,rfl⟩
  have DA:0<m:=by omega
  have h1:=Nat.mod_lt (j-1+(m-y%m)) DA;refine⟨1+(j-1+(m-y%m))%m,by omega,?_⟩;unfold fO;rw[if_neg (by omega), <-hm,Nat.add_sub_cancel_left,Nat.mod_add_mod];have h2:=Nat.div_add_mod y m;have h3:=Nat.mod_lt y DA;have h4:j-1+(m-y%m)+y=j-1+m*(y/m+1):=by rw[Nat.mul_add,Nat.mul_one];omega
  rw[h4,Nat.add_mul_mod_self_left,Nat.mod_eq_of_lt (by omega)];omega
def jU (φ:Nat->Nat) (row:Nat->List Int) (W:Nat):Nat->List (List Int)
 | 0=>List.replicate W []
 | s+1=>(jU φ row W s).set (φ s) (row s)
theorem mQ (φ:Nat->Nat) (row:Nat->List Int) (W:Nat):∀ s,(jU φ row W s).length=W
 | 0=>List.length_replicate
 | s+1=>by rw[jU,List.length_set,mQ φ row W s]
theorem vh {φ:Nat->Nat} {row:Nat->List Int} {W:Nat} (lt:∀ s,s<W->φ s<W) (inj:∀ s t,s<W->t<W->φ s=φ t->s=t):∀ s,s<=W->∀ i,i<s->(jU φ row W s)[φ i]? =some (row i)
 | 0,_,i,hi=>by omega
 | s+1,hs,i,hi=>by
  rw[jU,List.getElem?_set];by_cases e:i=s
  ·subst e
   rw[if_pos rfl,if_pos (by rw[mQ];exact lt i (by omega))]
  ·rw[if_neg fun h=>e (inj s i (by omega) (by omega) h).symm]
   exact vh lt inj s (by omega) i (by omega)
def Hj (d:DF) (s k:Nat):Nat:=if s<d.nx.length then rb d s k else(s+k)%d.nx.length
def wy (d:DF) (y W s:Nat):List Int:=(List.range d.cl.length).map fun k=>((fO y W (Hj d s k):Nat):Int)
def Hl (d:DF) (s:Nat):List Int:=d.mr.getD (s%d.nx.length) []
def gV (d:DF) (y W:Nat):DF:=⟨d.cl,jU (fO y W) (wy d y W) W W,jU (fO y W) (Hl d) W W⟩
theorem vk (d:DF) (y W:Nat) {s:Nat} (hs:s<W):(gV d y W).nx.getD (fO y W s) []=wy d y W s:=
 getD_some (vh (fun _ h=>sF h) (fun _ _ h1 h2 e=>vg h1 h2 e) W (Nat.le_refl _) s hs)
theorem Dv (d:DF) (y W:Nat) {s:Nat} (hs:s<W):(gV d y W).mr.getD (fO y W s) []=Hl d s:=
 getD_some (vh (fun _ h=>sF h) (fun _ _ h1 h2 e=>vg h1 h2 e) W (Nat.le_refl _) s hs)
theorem Gg {d:DF} (rt:Rt d) {s k:Nat} (hs:s<d.nx.length) (hk:k<d.cl.length):rb d s k<d.nx.length/\(mX d s)[k]? =some (rb d s k)/\(d.nx.getD s [])[k]? =some (rb d s k:Int):=by
 obtain⟨t,h1,h2,h3⟩:=FX rt hs hk;have e:rb d s k=t:=by unfold rb;rw[getD_some h2];rfl
 rw[e];exact⟨h1,h3,h2⟩
theorem Oo {d:DF} (rt:Rt d) {s k:Nat} (hk:k<d.cl.length):Hj d s k<d.nx.length:=by
 unfold Hj;split
 ·exact(Gg rt (by assumption) hk).1
 ·exact Nat.mod_lt _ rt.pos
theorem Hm {d:DF} (rt:Rt d) {y W:Nat} (hW:d.nx.length<=W):r9 (fO y W) d (gV d y W) where
 cl:=rfl
 zero:=rfl
 inj:=fun s t hs ht h=>vg (by omega) (by omega) h
 nx:=fun s hs=>by
  rw[mX,vk d y W (show s<W by omega)];unfold wy;rw[List.map_map];apply List.ext_getElem?;intro k;rw[List.getElem?_map,List.getElem?_map];rcases Nat.lt_or_ge k d.cl.length with hk | hk
  ·rw[List.getElem?_range hk,(Gg rt hs hk).2.1]
   show some (((fO y W (Hj d s k):Nat):Int).toNat)=some (fO y W (rb d s k));unfold Hj;rw[if_pos hs];rfl
  ·rw[List.getElem?_eq_none (by simpa using hk),List.getElem?_eq_none (by rw[sB rt hs];exact hk)];rfl
 mr:=fun s hs=>by rw[Dv d y W (show s<W by omega),Hl,Nat.mod_eq_of_lt hs]
theorem eY (d:DF) (y W:Nat):(gV d y W).nx.length=W/\(gV d y W).mr.length=W:=⟨mQ _ _ _ _,mQ _ _ _ _⟩
theorem Rw {d:DF} (rt:Rt d) {y W:Nat} (hW:d.nx.length<=W) (h4:W<=4000):Rt (gV d y W) where
 pos:=by rw[(eY d y W).1];have:=rt.pos;omega
 le:=by rw[(eY d y W).1];exact h4
 mr:=by rw[(eY d y W).1,(eY d y W).2]
 cl:=rt.cl
 len:=fun s hs=>by
  rw[(eY d y W).1]at hs;obtain⟨i,hi,rfl⟩:=qO (y:=y) hs;rw[vk d y W hi,wy,List.length_map,List.length_range];rfl
 iV:=fun s hs t ht=>by
  rw[(eY d y W).1]at hs ⊢;obtain⟨i,hi,rfl⟩:=qO (y:=y) hs;rw[vk d y W hi]at ht;obtain⟨k,hk,rfl⟩:=List.mem_map.1 ht;have h1:=Oo rt (s:=i) (List.mem_range.1 hk);have h2:=sF (y:=y) (show Hj d i k<W by omega);omega
 ris:=fun s hs=>by
  rw[(eY d y W).1]at hs;obtain⟨i,hi,rfl⟩:=qO (y:=y) hs;rw[Dv d y W hi];exact rt.ris _ (Nat.mod_lt _ rt.pos)
theorem JK {d:DF} (rt:Rt d) (hr:l4 d=d) {y W:Nat} (hW:d.nx.length<=W):l4 (gV d y W)=d:=
 (r9.trim (Hm rt hW) rt (by rw[(eY d y W).1];exact hW)).trans hr
theorem Gh {d:DF} (rt:Rt d) {y W:Nat} (hW:d.nx.length<=W) (b:List Nat) (hb:∀ c∈b,c<256):(gV d y W).mr.getD (cA (gV d y W) 0 b) []=d.mr.getD (cA d 0 b) []:=
 r9.marks (Hm rt hW) rt b hb
theorem Dp {ps:List PT} {f:Int} {d:DF} (h:fJ ps f=(d,0)):l4 d=d/\cB d=List.range d.nx.length:=by
 obtain⟨st,_,_,h3,rfl⟩:=uS h;have h1:=Ow h3;have I:=pI h3;have hn:(gy ps st).nx.length=st.1.length:=by show(st.2.map _).length=_;rw[List.length_map];have:=I.len;have:=I.le;have:=ji h3;omega
 rw[<-hn]at h1;exact⟨Gj (gi h) h1,h1⟩
end Go.Proofs.YtbiboekhakbnpaaGreatDoor
namespace Go.Proofs.YtbiboekhakbnpaaGreatDoor.RegF
open Go Go.RowKit
section
variable {P:Program} {ops:Array Oper} {eff:Nat→Bool} {bF:Nat→Nat} {M:World→World→Prop} {EP:Nat→aO M} {C:World→Prop} {al:Nat→Bool} {Fin:List Oper→Act→World→Prop} {dP:Bool} {m:Nat} {E:aO M} {o:Oper} {k:Nat} {aH:List (Nat× (World→Prop))} {a:Act} {K:List (Nat× (World→Prop))→Act→Prop} {l:List Oper}
def eN (P:Program) (ops:Array Oper) (eff:Nat->Bool) (bF:Nat->Nat) (EP:Nat->aO M) (C:World->Prop) (al:Nat->Bool) (Fin:List Oper->Act->World->Prop) (n:Nat) (l:List Oper) (k:Nat) (aH:List (Nat× (World->Prop))) (a:Act):Prop:=
 eM.eN P (Calls P) eL ops eff bF (fun _=>none) (fun i=>RegQ.up (EP i)) C (fun _ _=>True) al Fin n l k aH a
def bQ (P:Program) (ops:Array Oper) (dP:Bool) (m:Nat) (E:aO M) (C:World->Prop) (al:Nat->Bool) (o:Oper) (k:Nat) (aH:List (Nat× (World->Prop))) (a:Act) (K:List (Nat× (World->Prop))->Act->Prop):Prop:=
 eM.bQ P (Calls P) eL ops dP m none (RegQ.up E) C (fun _ _=>True) al o k aH a K
theorem ai (h:∀ K:List (Nat× (World->Prop))->Act->Prop,(∀ hi a,dH (eN P ops eff bF EP C al Fin m l (k+1) hi a)->K hi a)->bQ P ops (eff k) (bF k) (EP k) C al o k aH a K):dH (eN P ops eff bF EP C al Fin (m+1) (o::l) k aH a):=
 ⟨(eM.ai (D:=(fun _ _=>True)) (al:=al) (on:=(fun _=>none)) fun K hK=>h K fun hi a hl=>hK hi a ⟨hl.out⟩).out⟩
theorem aY (h:∀ W,C W->(∀ x∈aH,x.2 W)->Fin l a W):dH (eN P ops eff bF EP C al Fin 0 l k aH a):=⟨h⟩
theorem aZ (he:dP=false) (hw:Region.wanted o (yielded ops a.tmps)=true) (h:∃ v,(∀ W: {W//C W},ar P o a v W.1)/\K aH (a.put o.dst v)):bQ P ops dP m E C al o k aH a K:=eM.aZ he hw h
theorem bA (he:dP=true) (hw:Region.wanted o (yielded ops a.tmps)=true) (ha:al k=false) (E':aO M) (hE:E=E') (h1:∀ W,C W->needs m aH W->iu (Calls P) eL (fun v W'=>M W W'/\E'.P v/\E'.H v W') ((execOp a.eval o).run P W)) (h2:∀ v,E'.P v->K ((k,E'.H v)::aH) (a.put o.dst v)):bQ P ops dP m E C al o k aH a K:=
 eM.bA he hw (RegQ.up E') (by rw[hE]) (fun W hW _ hN=>mi (fun _ _ ⟨h1,h2⟩=>by rw[ha];exact⟨⟨h1,fun _ _ _ _=>trivial⟩,h2⟩) (h1 W hW hN)) h2
theorem aat (he:dP=true) (hw:Region.wanted o (yielded ops a.tmps)=true) (ha:al k=true) (E':aO M) (hE:E=E') (h1:∀ W,C W->needs m aH W->iu (Calls P) eL (fun v W'=>eM.Ag W v W'/\M W W'/\E'.P v/\E'.H v W') ((execOp a.eval o).run P W)) (h2:∀ v,E'.P v->K ((k,E'.H v)::aH) (a.put o.dst v)):bQ P ops dP m E C al o k aH a K:=
 eM.bA he hw (RegQ.up E') (by rw[hE]) (fun W hW _ hN=>mi (fun _ _ ⟨h0,h1,h2⟩=>by rw[ha];exact⟨h0,⟨h1,fun _ _ _ _=>trivial⟩,h2⟩) (h1 W hW hN)) h2
end
theorem r8 {P:Program} {id:Nat} {Q:Exit->Act->World->Prop} {a:Act} {w:World} {l:List Oper} (T:Nat->Prop) (hm:P.follows .mixedOrders=true) (m:Nat) (bF:List Nat) (eff:Nat->Bool) (hB:kZ .any l.toArray bF m=true) (al:List Nat) (hA:eM.KD l.toArray eff al m=true) (EP:Nat->aO (Move false T)) (h:∀ C:World->Prop,(∀ W,C W↔Move false T w W)->Nonempty {W//C W} ->dH (eN P l.toArray eff (fun i=>bF.getD i 0) EP C (fun j=>al.contains j) (fun r a W=>eM.xZ l.toArray al a->wpList P l.toArray Q r a W) m l 0 [] a)):(Code.region id l.toArray true).wp P Q a w:=
 eM.iy (Move false T) (Move.ext (Ext.refl w).drew) (fun _ _ _ h k=>h.trans k) hm m bF eff hB (fun _=>none) (fun _ _=>rfl) (List.all_eq_true.2 fun _ _=>List.all_eq_true.2 fun _ _=>rfl) (fun i=>RegQ.up (EP i)) (fun _ _=>True) (fun _ _=>trivial) al (fun j=>al.contains j) hA (fun _=>rfl) (fun _ _ _ h=>h.size) _ (fun _ _ _ h1 h2=>h2 h1) fun C hC hne=>⟨(h C hC hne).out⟩
end Go.Proofs.YtbiboekhakbnpaaGreatDoor.RegF
namespace Go.Proofs.YtbiboekhakbnpaaGreatDoor
open Go Go.RowKit
theorem eM.xZ.ne {ops:Array Oper} {al:List Nat} {a:Act} (h:eM.xZ ops al a) (i j s t:Nat) {x y:Value} (hi:al.contains i=true) (hj:al.contains j=true) (pU:i≠j) (hs:cK ops i=some s) (ht:cK ops j=some t) (h1:a.tmps[s]? =some x) (h2:a.tmps[t]? =some y):eM.Hv x≠eM.Hv y:=
 h i j s t x y hi hj pU hs ht (Array.getElem?_eq_some_iff.1 h1).1 (Array.getElem?_eq_some_iff.1 h2).1 h1 h2
theorem xU {P:Program} {o:Oper} {a:Act} {W:World} {post:Value->World->Prop} (l c:Operand) (t:TypeId) (hop:o.op=Op.makeSlice t l c) (e:TypeId) (i:TypeInfo) (z:Value) (size:Nat) (h1:P.underlying t=some (.slice e)) (h2:P.info? e=some i) (h3:i.zero=some z) (h4:i.size=size) (kl kc:IntKind) (L C:Int) (n:Nat) (hl:a.eval l=.int kl L) (hc:a.eval c=.int kc C) (hL:L=(n:Int)) (hC:C=(n:Int)) (b2:i.bytes*n<=281474976710656) (b3:n<=maxLen) (hK:∀ w',w'.ownsRow W.heap.size e size (.slice (some ⟨W.heap.size,0,none⟩) n n) n (madeCells z.cells (n*size)).toList->W.grownBy w' none->post (.slice (some ⟨W.heap.size,0,none⟩) n n) w'):iu (Calls P) eL post ((execOp a.eval o).run P W):=by obtain⟨w',hrun,r1,r2⟩:=run_make_full (P:=P) W W.heap.size t e i z size h1 h2 h3 h4 kl kc n b2 b3 (Nat.le_refl _);subst hL;subst hC;unfold execOp;simp[hop,hl,hc,hrun,Result.andThen];exact hK w' r1 r2
end Go.Proofs.YtbiboekhakbnpaaGreatDoor
