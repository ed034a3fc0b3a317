/- dfa.Trim. Printed by wip/gen/trim.py. -/
import Derived.Test.YtjgccapbphadjaaGreatDoorOX12
set_option maxRecDepth 100000
set_option maxHeartbeats 16000000
open Go.Lib (hid)
open Go.Value renaming slice->An,int->Bm,pointer->Ft,tuple->GW,ownBlock->G',oneCell'->H_
open Go.Lib renaming hid->As
open List renaming getElem?_eq_some_iff->AF,take_of_length_le->AN,range->A',take_add_one->Bs,getElem?_of_mem->B',map_congr_left->C_,mem_map->C',getElem?_cons_zero->DE,getElem?_cons_succ->DH,map_append->DQ,length_singleton->DS,mem_iff_getElem?->D0,getElem?_toArray->D_,mem_range->D',length_range->FG,map_set->F_,length_take->GO,map_cons->H',map_map->Is
open Option renaming some->AI,none->AM
open Nat renaming zero_le->AS,le_trans->DP,le_of_lt->If
open Go.IntKind renaming i64->AT
open Classical renaming byContradiction->A_
open Go.Proofs.Tryz renaming underlying39->By,underlying27->GB,prog->It
open Go.Ending renaming returned->B_
open Go.RowKit renaming Hid->Cd
open Go renaming World->EV,wpList_append_own_at->E_,wpList_make_full->GS,info_parts->G_
open Int renaming toNat->FF
namespace Go.Proofs.YtjgccapbphadjaaGreatDoor
section
open Go Go.RowKit
set_option maxRecDepth 100000
def cS (p:Nat->Nat):Nat->List Nat
 | 0=>[]
 | k+1=>if p k<(cS p k).length then cS p k else cS p k++ [k]
theorem rL {p:Nat->Nat} :∀ {n:Nat},IJ p n->(cS p n).length=cO p n
 | 0,_=>rfl
 | n+1,h=>by
  have ih:=rL (p:=p) (n:=n) fun s hs=>h s (by omega)
  have hn:=h n (by omega);rw[cS,cO];split
  ·omega
  ·rw[aJ,DS];omega
theorem IK {p:Nat->Nat} :∀ {n:Nat},IJ p n->∀ b,b<cO p n->∃ k,(cS p n)[b]? =AI k/\k<n/\p k=b/\∀ j,j<n->p j=b->k<=j
 | 0,_,b,hb=>by cases hb
 | n+1,h,b,hb=>by
  have hN:IJ p n:=fun s hs=>h s (by omega)
  have hl:=rL hN;have hn:=h n (by omega);rw[cO]at hb;by_cases PN:b<cO p n
  ·obtain⟨k,e,hk,hp,hm⟩:=IK hN b PN
   have WN:∀ j,j<n+1->p j=b->k<=j:=fun j hj hjb=>by
    by_cases e:j=n
    ·omega
    ·exact hm j (by omega) hjb
   rw[cS];split
   ·exact⟨k,e,by omega,hp,WN⟩
   ·exact⟨k,by rw[bH (by omega)];exact e,by omega,hp,WN⟩
  ·rw[cS,if_neg (by omega)]
   refine⟨n,?_,by omega,by omega,fun j hj hjb=>?_⟩
   ·rw[cF (by omega),show b-(cS p n).length=0 by omega];rfl
   ·by_cases e:j=n
    ·omega
    ·have:=jw (p:=p) (show j<n by omega);omega
theorem wV {p:Nat->Nat} :∀ {n:Nat},∀ (i j x y:Nat),i<j->(cS p n)[i]? =AI x->(cS p n)[j]? =AI y->x<y
 | 0,i,j,x,y,_,hx,_=>by cases hx
 | n+1,i,j,x,y,mM,hx,hy=>by
  rw[cS]at hx hy;split at hx
  ·rename_i hp
   rw[if_pos hp]at hy;exact wV i j x y mM hx hy
  ·rename_i hp
   rw[if_neg hp]at hy;have lt:∀ m,∀ z∈cS p m,z<m:=fun m=>by
    induction m with
    | zero=>intro z hz;cases hz
    | succ m ih=>
     intro z hz;rw[cS]at hz;split at hz
     ·have:=ih z hz;omega
     ·rcases List.mem_append.1 hz with hz | hz
      ·have:=ih z hz;omega
      ·rw[List.mem_singleton.1 hz];omega
   by_cases hj:j<(cS p n).length
   ·rw[bH hj]at hy
    rw[bH (by omega)]at hx;exact wV i j x y mM hx hy
   ·have h0:=(AF.1 hy).1
    rw[aJ,DS]at h0;rw[cF (by omega),show j-(cS p n).length=0 by omega]at hy;cases hy;rw[bH (by omega)]at hx;exact lt n x (ax hx)
def sO (cl:List BS) (p:Nat->Nat) (b:Nat):Nat->BS
 | 0=>0
 | k+1=>if p k=b then sO cl p b k ||| cl.getD k 0 else sO cl p b k
theorem Kh {cl:List BS} {p:Nat->Nat} {b c:Nat} :∀ n,(sO cl p b n).getLsbD c=true↔ ∃ k,k<n/\p k=b/\(cl.getD k 0).getLsbD c=true
 | 0=>⟨fun h=>by simp[sO]at h,fun ⟨k,h,_⟩=>by omega⟩
 | n+1=>by
  have ih:=Kh (cl:=cl) (p:=p) (b:=b) (c:=c) n;rw[sO];split
  ·rename_i hp
   rw[BitVec.getLsbD_or,Bool.or_eq_true,ih];constructor
   ·rintro(⟨k,h1,h2,h3⟩ | h)
    ·exact⟨k,by omega,h2,h3⟩
    ·exact⟨n,by omega,hp,h⟩
   ·rintro⟨k,h1,h2,h3⟩
    by_cases e:k=n
    ·subst e;exact .inr h3
    ·exact .inl ⟨k,by omega,h2,h3⟩
  ·rename_i hp
   rw[ih];constructor
   ·rintro⟨k,h1,h2,h3⟩
    exact⟨k,by omega,h2,h3⟩
   ·rintro⟨k,h1,h2,h3⟩
    by_cases e:k=n
    ·subst e;exact absurd h2 hp
    ·exact⟨k,by omega,h2,h3⟩
def wW (d:DF) (k:Nat):List Nat:=(A' d.nx.length).map fun s=>eH d s k
def cm (d:DF):Nat->Nat:=dC (wW d) d.cl.length
def lZ (d:DF):DF:=⟨(A' (cO (cm d) d.cl.length)).map fun b=>sO d.cl (cm d) b d.cl.length,d.nx.map fun row=>(cS (cm d) d.cl.length).map fun k=>row.getD k 0,d.mr⟩
theorem oH (d:DF):IJ (cm d) d.cl.length:=rK _ _
theorem Vn {d:DF} {k j:Nat} (hk:k<d.cl.length) (hj:j<d.cl.length):cm d k=cm d j↔ ∀ s,s<d.nx.length->eH d s k=eH d s j:=by unfold cm;rw[ez hk hj];unfold wW;exact⟨fun h s hs=>List.map_inj_left.1 h s (D'.2 hs),fun h=>C_ fun s hs=>h s (D'.1 hs)⟩
theorem RZ {d:DF} {b:Nat} (hb:b<cO (cm d) d.cl.length):(lZ d).cl[b]? =AI (sO d.cl (cm d) b d.cl.length):=by show((A' _).map _)[b]? =_;rw[aN,List.getElem?_range hb];rfl
theorem wX (d:DF):(lZ d).cl.length=cO (cm d) d.cl.length:=by show((A' _).map _).length=_;rw[aP,FG]
theorem l4 {d:DF} (h:Rt d) {b c:Nat} (hc:c<256):(sO d.cl (cm d) b d.cl.length).getLsbD c=true↔cm d (cls d.cl c)=b:=by
 rw[Kh];constructor
 ·rintro⟨k,hk,e,hb⟩
  rw[(h.part.jh hc).2 ⟨_,bn 0 hk,hb⟩];exact e
 ·intro e
  have hk:=h.part.ft hc;refine⟨_,hk,e,?_⟩;obtain⟨q,hq,hb⟩:=(h.part.jh hc).1 rfl;rw[getD_some hq];exact hb
theorem ZP {q:BS} {c:Nat} (h:q.getLsbD c=true):c<256:=by
 refine A_ fun hn=>?_
 rw[BitVec.getLsbD_of_ge q c (by omega)]at h;cases h
theorem Sa {d:DF} (h:Rt d):cq (lZ d).cl (fun c e=>∀ s,s<d.nx.length->eH d s (cls d.cl c)=eH d s (cls d.cl e)):=by
 have get:∀ (b:Nat) (q:BS),(lZ d).cl[b]? =AI q->b<cO (cm d) d.cl.length/\q=sO d.cl (cm d) b d.cl.length:=fun b q hq=>by
  have hb:=(AF.1 hq).1;rw[wX]at hb;rw[RZ hb]at hq;exact⟨hb,(Option.some.inj hq).symm⟩
 have rep:∀ b,b<cO (cm d) d.cl.length->∃ k,(cS (cm d) d.cl.length)[b]? =AI k/\k<d.cl.length/\cm d k=b/\(∀ j,j<d.cl.length->cm d j=b->k<=j)/\(sO d.cl (cm d) b d.cl.length).getLsbD (lb d.cl k)=true:=fun b hb=>by
  obtain⟨k,e,hk,hp,hm⟩:=IK (oH d) b hb;have hl:=Az h hk;exact⟨k,e,hk,hp,hm,(l4 h hl.1).2 (by rw[hl.2.1];exact hp)⟩
 have hne:∀ b,b<cO (cm d) d.cl.length->sO d.cl (cm d) b d.cl.length≠0:=fun b hb e=>by
  obtain⟨k,_,_,_,_,iC⟩:=rep b hb;rw[e]at iC;simp at iC
 have h0:0<cO (cm d) d.cl.length:=by have:=jw (p:=cm d) (show 0<d.cl.length from h.Dz);omega
 refine⟨?_,?_,?_,?_,?_,?_⟩
 ·refine Bool.eq_false_iff.2 fun e=>?_
  have e':=List.isEmpty_iff.1 e;have:=wX d;rw[e',List.length_nil]at this;omega
 ·rw[List.pairwise_iff_getElem]
  intro i j hi hj mM c hc;have g1:=get i _ (aB hi);have g2:=get j _ (aB hj);rw[g1.2,g2.2]at hc;have hc':=ZP hc.1;have e1:=(l4 h hc').1 hc.1;have e2:=(l4 h hc').1 hc.2;omega
 ·intro q hq
  obtain⟨b,hb⟩:=B' hq;have g:=get b q hb;rw[g.2];exact hne b g.1
 ·intro c hc
  have hk:=h.part.ft hc;have hb:=jw (p:=cm d) hk;exact⟨_,_,RZ hb,(l4 h hc).2 rfl⟩
 ·intro q hq c e hc he hb
  obtain⟨b,hq'⟩:=B' hq;have g:=get b q hq';rw[g.2]at hb ⊢;rw[l4 h he, <- (l4 h hc).1 hb];rw[eq_comm,Vn (h.part.ft hc) (h.part.ft he)]
 ·intro i j x y hx hy mM
  have g1:=get i x hx;have g2:=get j y hy;obtain⟨k,e1,hk,hp,hm,iC⟩:=rep i g1.1;obtain⟨k',e1',sU,hp',WN,_⟩:=rep j g2.1;have f1:=eh (hne i g1.1);have f2:=eh (hne j g2.1);rw[g1.2,g2.2];have a1:(aV (sO d.cl (cm d) i d.cl.length)).1<=lb d.cl k:=Nat.le_of_not_lt fun hlt=>by
   have:=f1.2.2.2 _ hlt;rw[this]at iC;cases iC
  have c2:=(l4 h f2.2.1).1 f2.2.2.1;have a2:=WN _ (h.part.ft f2.2.1) c2;have a3:=(Az h (h.part.ft f2.2.1)).2.2 _ f2.2.1 rfl;have a4:=JH h (wV i j k k' mM e1 e1') sU;have a5:lb d.cl k'<=lb d.cl (cls d.cl (aV (sO d.cl (cm d) j d.cl.length)).1):=by
   by_cases e:k'=cls d.cl (aV (sO d.cl (cm d) j d.cl.length)).1
   ·rw[<-e];exact aF _
   ·exact If (JH h (by omega) (h.part.ft f2.2.1))
  omega
theorem MZ {p:List BS} {R:Nat->Nat->Prop} (h:cq p R):partsOf p=p:=cq.uniq (cq.mY p) h fun _ _ hc hd=>h.yU hc hd
theorem lD (d:DF):(lZ d).nx.length=d.nx.length:=aP _
theorem Ki {d:DF} {s:Nat} (hs:s<d.nx.length):(lZ d).nx.getD s []=(cS (cm d) d.cl.length).map fun k=>(d.nx.getD s []).getD k 0:=by refine getD_some ?_;show(d.nx.map _)[s]? =_;rw[aN,bn (l:=d.nx) [] hs];rfl
theorem ZQ {d:DF} (h:Rt d):Rt (lZ d) where
 pos:=by rw[lD];exact h.pos
 le:=by rw[lD];exact h.le
 mr:=by rw[lD];exact h.mr
 cl:=MZ (Sa h)
 len:=fun s hs=>by
  rw[lD]at hs;rw[Ki hs,aP,rL (oH d),wX]
 iK:=fun s hs t ht=>by
  rw[lD]at hs ⊢;rw[Ki hs]at ht;obtain⟨k,hk,rfl⟩:=C'.1 ht;obtain⟨b,hb⟩:=B' hk;have hb':=(AF.1 hb).1;rw[rL (oH d)]at hb';obtain⟨k',e,sU,_⟩:=IK (oH d) b hb';rw[hb]at e;cases e;exact h.iK s hs _ (ax (bn 0 (by rw[h.len s hs];exact sU)))
 Ud:=fun s hs=>by
  rw[lD]at hs;exact h.Ud s hs
set_option maxRecDepth 100000
theorem iw (d:DF):(cN d).nx.length=(dI d).length/\(cN d).mr.length=(dI d).length:=⟨aP _,aP _⟩
theorem wY {d:DF} {i s:Nat} (hi:(dI d)[i]? =AI s):(cN d).nx.getD i []=wM d s/\(cN d).mr.getD i []=d.mr.getD s []:=by
 refine⟨getD_some ?_,getD_some ?_⟩
 ·show((dI d).map _)[i]? =_
  rw[aN,hi];rfl
 ·show((dI d).map _)[i]? =_
  rw[aN,hi];rfl
theorem Vo {d:DF} (h:Rt d):Rt (cN d) where
 pos:=by rw[(iw d).1];exact(jz h).pos
 le:=by rw[(iw d).1];have:=(jz h).len;have:=h.le;omega
 mr:=by rw[(iw d).1,(iw d).2]
 cl:=h.cl
 len:=fun i hi=>by
  rw[(iw d).1]at hi;have e:=aB hi;rw[(wY e).1];unfold wM;rw[aP,Bq h ((jz h).lt _ (ax e))];rfl
 iK:=fun i hi t ht=>by
  rw[(iw d).1]at hi ⊢;have e:=aB hi;rw[(wY e).1]at ht;obtain⟨x,hx,rfl⟩:=C'.1 ht;have:=List.idxOf_lt_length_of_mem (rG h (ax e) hx);omega
 Ud:=fun i hi=>by
  rw[(iw d).1]at hi;have e:=aB hi;rw[(wY e).2];exact h.Ud _ ((jz h).lt _ (ax e))
structure adu (d:DF):Prop where
 rt:Rt d
 reach:∀ s,s<d.nx.length->∃ w:List Nat,(∀ c∈w,c<256)/\sM d 0 w=s
 apd:∀ s t,s<d.nx.length->t<d.nx.length->wT d s t->s=t
 part:cq d.cl fun c e=>∀ s,s<d.nx.length->eH d s (cls d.cl c)=eH d s (cls d.cl e)
section
variable {a b:DF} (ra:adu a) (rb:adu b) (hm:∀ w:List Nat,(∀ c∈w,c<256)→a.mr.getD (sM a 0 w) []=b.mr.getD (sM b 0 w) [])
include ra rb hm
end
def Fi (d:DF):Nat->Nat->Nat
 | 0,i=>i
 | f+1,i=>if dX d (i+1)=dX d i then i else Fi d f (i+1)
def IM (d:DF):Nat:=Fi d d.nx.length 0
theorem IP {d:DF} {i:Nat} (hi:dY d i) (hno:∀ j,j<i->¬dY d j):∀ f j,j<=i->i<=j+f->Fi d f j=i
 | 0,j,h1,h2=>by rw[Fi];omega
 | f+1,j,h1,h2=>by
  rw[Fi];by_cases e:j=i
  ·subst e
   have hi':dX d (j+1)=dX d j:=hi;rw[if_pos hi']
  ·have hn:¬dX d (j+1)=dX d j:=hno j (by omega)
   rw[if_neg hn];exact IP hi hno f (j+1) (by omega) (by omega)
theorem Kj (d:DF):dY d (IM d)/\∀ j,j<IM d->¬dY d j:=by obtain⟨i,h1,h2,h3⟩:=Fb d;have:=IP h2 h3 d.nx.length 0 (AS _) (by omega);unfold IM;rw[this];exact⟨h2,h3⟩
def fS (d:DF):Nat->Nat:=cR d (IM d)
def Fj (d:DF):DF:=lZ (bI (cN d) (fS (cN d)))
def dJ (d:DF):DF:=cN (Fj d)
set_option maxRecDepth 100000
theorem oI {κ κ':Type} [DecidableEq κ] [DecidableEq κ'] {k:Nat->κ} {k':Nat->κ'} {n:Nat} (h:∀ s t,s<n->t<n->(k s=k t↔k' s=k' t)):∀ m,m<=n->dK k m=dK k' m/\∀ s,s<m->dC k n s=dC k' n s
 | 0,_=>⟨rfl,fun s hs=>by omega⟩
 | m+1,hm=>by
  obtain⟨h1,h2⟩:=oI h m (by omega);have pN:k m∈bQ k m↔k' m∈bQ k' m:=by rw[mem_keys,mem_keys];exact⟨fun ⟨s,hs,e⟩=>⟨s,hs,(h s m (by omega) (by omega)).1 e⟩,fun ⟨s,hs,e⟩=>⟨s,hs,(h s m (by omega) (by omega)).2 e⟩⟩
  refine⟨?_,fun s hs=>?_⟩
  ·unfold dK at h1 ⊢
   rw[bQ,bQ];by_cases hk:k m∈bQ k m
   ·rw[if_pos hk,if_pos (pN.1 hk)];exact h1
   ·rw[if_neg hk,if_neg fun sU=>hk (pN.2 sU),aJ,aJ,h1];rfl
  ·by_cases e:s<m
   ·exact h2 s e
   ·obtain rfl:s=m:=by omega
    by_cases hk:k s∈bQ k s
    ·obtain⟨t,ht,e⟩:=mem_keys.1 hk
     rw[<- (ez (key:=k) (n:=n) (s:=t) (t:=s) (by omega) (by omega)).2 e, <- (ez (key:=k') (n:=n) (s:=t) (t:=s) (by omega) (by omega)).2 ((h t s (by omega) (by omega)).1 e)];exact h2 t ht
    ·rw[lC (by omega),lC (by omega),if_neg hk,if_neg fun sU=>hk (pN.2 sU)]
     exact h1
theorem adv {d:DF} (h:Rt d):bI d (fun s=>s)=d:=by
 have key:∀ n,n<=d.nx.length->bh d (fun s=>s) n=(d.nx.take n,d.mr.take n):=fun n=>by
  induction n with
  | zero=>intro _;rfl
  | succ n ih=>
   intro hn;have ih:=ih (by omega);have hm:=h.mr;rw[bh,ih,if_neg (by show ¬n<(d.nx.take n).length;rw[GO];omega)];have e1:d.nx[n]? =AI (d.nx.getD n []):=bn [] (by omega);have e2:d.mr[n]? =AI (d.mr.getD n []):=bn [] (by omega);rw[Bs,Bs,e1,e2];have e3:(d.nx.getD n []).map (fun t=>((t.toNat:Nat):Int))=d.nx.getD n []:=by
    refine(C_ fun x hx=>?_).trans (List.map_id _);have:=h.iK n (by omega) x hx;exact Int.toNat_of_nonneg this.1
   show(_++ [(d.nx.getD n []).map fun t=>((t.toNat:Nat):Int)],_)=_;rw[e3];rfl
 unfold bI;rw[key _ (aF _),AN (aF _),AN (by rw[h.mr];exact aF _)]
def Kk (d:DF) (p:Nat->Nat):Prop:=∀ s,s<d.nx.length->(bI d p).mr.getD (p s) []=d.mr.getD s []/\∀ k,k<d.cl.length->eH (bI d p) (p s) k=p (eH d s k)
theorem Fk {d:DF} (h:Rt d) {p:Nat->Nat} (hp:IJ p d.nx.length):Kk d p↔Fits d p:=by
 constructor
 ·intro ok
  refine⟨hp,fun s t hs ht e=>?_,fun s t k hs ht hk e=>?_⟩
  ·rw[<- (ok s hs).1, <- (ok t ht).1,e]
  ·rw[<- (ok s hs).2 k hk, <- (ok t ht).2 k hk,e]
 ·intro hf s hs
  exact⟨qo h hf hs,fun k hk=>zO h hf hs hk⟩
theorem IQ {d:DF} (h:Rt d) {p:Nat->Nat} (hf:Fits d p) {s t:Nat} (hs:s<d.nx.length) (ht:t<d.nx.length) (e:p s=p t):wT d s t:=fun w hw=>by
 rw[<-tO h hf hs hw, <-tO h hf ht hw,e]
theorem IU {d:DF} (h:Rt d) {s t:Nat} (hs:s<d.nx.length) (ht:t<d.nx.length):fS d s=fS d t↔wT d s t:=MU h (Kj d).1 hs ht
theorem Sb (d:DF):IJ (fS d) d.nx.length:=by
 unfold fS;cases IM d with
 | zero=>exact rK _ _
 | succ i=>exact rK _ _
theorem M7 {d:DF} (h:Rt d):Fits d (fS d):=RU h (Kj d).1
theorem Na {d:DF} (h:Rt d) (hf:Fits d fun _=>0):cO (fS d) d.nx.length<=1:=by
 have all:∀ s,s<d.nx.length->fS d s=0:=fun s hs=>by
  have e:=(IU h hs h.pos).2 (IQ h hf hs h.pos rfl);rw[e];exact Nat.le_zero.1 (Sb d 0 h.pos)
 have key:∀ n,n<=d.nx.length->cO (fS d) n<=1:=fun n=>by
  induction n with
  | zero=>intro _;exact AS _
  | succ n ih=>
   intro hn;have:=ih (by omega);have:=all n (by omega);rw[cO];omega
 exact key _ (aF _)
end
section
open Go Go.RowKit Go.Shelf Go.Maps
theorem Rt.kn {d:DF} (h:Rt d):Kn d:=⟨fun l hl=>by
 obtain⟨s,hs⟩:=D0.1 hl;have mm:=(AF.1 hs).1;have hr:=h.Ud s (by rw[<-h.mr];exact mm);rw[bB,hs]at hr;replace hr:qQ l=true:=hr;have hb:=J7 hr;refine⟨?_,fun x hx=>?_⟩
 ·refine A_ fun hn=>?_
  have:=hb 256 (by omega);omega
 ·obtain⟨k,hk⟩:=D0.1 hx
  have hk2:=hb k (AF.1 hk).1;rw[bB,hk]at hk2;replace hk2:(k:Int)<=x/\x<=255:=hk2
  omega⟩
def iQ (d:DF) (i:Nat):List Value:=(A' d.nx.length).map fun s=>cK (cR d i s)
theorem wZ {d:DF} {i s:Nat} (hs:s<d.nx.length):cR d i s<d.nx.length:=by
 cases i with
 | zero=>exact ay (wD hs) (rB _ _)
 | succ i=>exact ay (wD hs) (rB _ _)
theorem tP:∀ {a b:List Int},(∀ x∈a,0<=x)->(∀ x∈b,0<=x)->a.map FF=b.map FF->a=b
 | [],[],_,_,_=>rfl
 | [],y::b,_,_,h=>by simp at h
 | x::a,[],_,_,h=>by simp at h
 | x::a,y::b,ha,hb,h=>by
  rw[H',H']at h;injection h with h0 h1
  have hx:=ha x bu;have hy:=hb y bu;rw[tP (fun c hc=>ha c (bM _ hc)) (fun c hc=>hb c (bM _ hc)) h1,show x=y by omega]
def Sc (d:DF) (s:Nat):List UInt8:=kI ((d.mr.getD s []).map FF)
def Sd (d:DF) (i s:Nat):List UInt8:=kI (jU d i s)
theorem Sg {d:DF} (kn:Kn d) {s:Nat} (hs:s<d.mr.length):(d.mr.getD s []).length<=100000/\∀ x∈d.mr.getD s [],0<=x/\x<4294967296:=by
 have hrow:d.mr[s]? =AI (d.mr.getD s []):=by rw[bB,aB hs];rfl
 exact kn.ks _ (ax hrow)
theorem Sh {d:DF} (rt:Rt d):dK (Sc d) d.nx.length=dX d 0/\∀ s,s<d.nx.length->dC (Sc d) d.nx.length s=cR d 0 s:=by
 refine oI (fun s t hs ht=>⟨fun h=>?_,fun h=>?_⟩) _ (aF _)
 ·have h1:=Sg rt.kn (s:=s) (by rw[rt.mr];exact hs)
  have h2:=Sg rt.kn (s:=t) (by rw[rt.mr];exact ht);refine tP (fun x hx=>(h1.2 x hx).1) (fun x hx=>(h2.2 x hx).1) (wQ (fun x hx=>?_) (fun x hx=>?_) h)
  ·obtain⟨y,hy,rfl⟩:=C'.1 hx
   have:=h1.2 y hy;omega
  ·obtain⟨y,hy,rfl⟩:=C'.1 hx
   have:=h2.2 y hy;omega
 ·show kI ((d.mr.getD s []).map FF)=kI ((d.mr.getD t []).map FF)
  rw[show d.mr.getD s []=d.mr.getD t [] from h]
theorem zQ {d:DF} (rt:Rt d) {i s:Nat} (hs:s<d.nx.length):∀ x∈jU d i s,x<4294967296:=fun x hx=>by
 have hle:=rt.le;rcases List.mem_cons.1 hx with rfl | hx
 ·have:=wZ (d:=d) (i:=i) hs;omega
 ·obtain⟨t,ht,rfl⟩:=C'.1 hx
  have h7:=rt.iK s hs t ht;have:=wZ (d:=d) (i:=i) (s:=t.toNat) (by omega);omega
theorem Si {d:DF} (rt:Rt d) (i:Nat):dK (Sd d i) d.nx.length=dX d (i+1)/\∀ s,s<d.nx.length->dC (Sd d i) d.nx.length s=cR d (i+1) s:=
 oI (fun _ _ hs ht=>⟨fun h=>wQ (zQ rt hs) (zQ rt ht) h,fun h=>congrArg kI h⟩) _ (aF _)
theorem Kl {d:DF} {i:Nat} {f:Nat->Nat} (h:∀ s,s<d.nx.length->f s=cR d i s):(A' d.nx.length).map (fun s=>cK (f s))=iQ d i:=C_ fun s hs=>by rw[h s (D'.1 hs)]
theorem ZT {d:DF} {i:Nat} (hi:dY d i) (hno:∀ j,j<i->¬dY d j):IM d=i:=by
 obtain⟨k,h1,h2,h3⟩:=Fb d;refine IP hi hno _ _ (AS _) ?_;refine A_ fun h=>?_
 exact hno k (by omega) h2
theorem xd (v:Value) (d:DF) (rt:Rt d) (w:EV) (h:bV w v d): ah 79 #[v] w fun e w'=>∃ u,e=B_ u/\w'.ownsRow w.heap.size 3 1 u d.nx.length ((A' d.nx.length).map fun s=>cK (fS d s))/\aa w w':=by
 obtain⟨n,hn⟩:=ag d.nx.length;have eg1:∀ (args:Array Value) (w:EV),(callFunc 138 args).run It w=.ok (.enter 138 args) w:=fun args w=>rfl
 have eg2:∀ (args:Array Value) (w:EV),(callFunc 140 args).run It w=.ok (.enter 140 args) w:=fun args w=>rfl
 obtain⟨v0,v1,v2,rfl,h0,h1,h2⟩:=h;obtain⟨a0,c0,rfl⟩:=h0.1.form;obtain⟨a1,c1,rfl⟩:=h1.form;obtain⟨a2,c2,rfl⟩:=h2.form;have rO:=rt.mr;have hle:=rt.le;obtain⟨K,hK⟩:=ag d.cl.length;have hK2:K<=256:=by have:=rt.Av;omega
 have H1:=As h1;have H2:=As h2;rw[<-hn]at hle;have CM:Cd (∀ W (db:Nat),aa w W->ar W db #[An a0 K c0,An a1 n c1,An a2 n c2] 29->ah 137 #[Bm AT n,.func (.func 138) #[] #[Ft (AI ⟨db,0,AM⟩)]] W fun e w'=>∃ u,e=B_ (GW #[u,Bm AT (dX d 0)])/\w'.ownsRow W.heap.size 3 1 u n (iQ d 0)/\aa W w'):=As fun W db hW hB=>by
  refine(qm 138 #[Ft (AI ⟨db,0,AM⟩)] (Sc d) n hle W (fun s hs=>?_) eg1 (fun s W2 hs hW2=>?_)).mono ?_
  ·unfold Sc
   rw[wP,aP];have:=(Sg rt.kn (s:=s) (by rw[rO, <-hn];exact hs)).1;omega
  ·exact EY db d rt.kn _ s (by rw[rO, <-hn];exact hs) W2 (by rw[rO, <-hn];exact(hB.below hW2 hB.lt).cell 2) ((H2.below hW).below hW2)
  ·rintro e w' ⟨u,rfl,h5,h6⟩
   obtain⟨k1,k2⟩:=Sh rt;rw[<-hn]at k1 k2;refine⟨u,by rw[k1],?_,h6⟩;rw[<-Kl (f:=dC (Sc d) n) (by rw[<-hn];exact k2), <-hn];exact h5
 have CB:Cd (∀ W (i db pb:Nat) (pv:Value),aa w W->ar W db #[An a0 K c0,An a1 n c1,An a2 n c2] 29->ar W pb #[pv] 39->W.ownsRow w.heap.size 3 1 pv n (iQ d i)->ah 137 #[Bm AT n,.func (.func 140) #[] #[Ft (AI ⟨pb,0,AM⟩),Ft (AI ⟨db,0,AM⟩)]] W fun e w'=>∃ u,e=B_ (GW #[u,Bm AT (dX d (i+1))])/\w'.ownsRow W.heap.size 3 1 u n (iQ d (i+1))/\aa W w'):=As fun W i db pb pv hW hB hP ho=>by
  refine(qm 140 #[Ft (AI ⟨pb,0,AM⟩),Ft (AI ⟨db,0,AM⟩)] (Sd d i) n hle W (fun s hs=>?_) eg2 (fun s W2 hs hW2=>?_)).mono ?_
  ·unfold Sd
   rw[wP];unfold jU;rw[List.length_cons,aP,rt.len s (by rw[<-hn];exact hs), <-hK];omega
  ·refine EZ s pb db d (rt.iK s (by rw[<-hn];exact hs)) (cR d i) (fun t ht=>?_) (An a1 d.nx.length c1) pv ?_ (by rw[<-hn];exact hs) W2 ((hP.below hW2 hP.lt).cell 0) (by rw[<-hn];exact(hB.below hW2 hB.lt).cell 1) ((H1.below hW).below hW2) ?_
   ·have:=wZ (d:=d) (i:=i) ht;omega
   ·rw[rt.len s (by rw[<-hn];exact hs), <-hK];omega
   ·have h9:=ai ho hW2
    have e:iQ d i=(iQ d i).map fun u:Value=>u:=by rw[List.map_id']
    rw[e]at h9;exact bU h9 (by rw[aP,FG,hn])
  ·rintro e w' ⟨u,rfl,h5,h6⟩
   obtain⟨k1,k2⟩:=Si rt i;rw[<-hn]at k1 k2;refine⟨u,by rw[k1],?_,h6⟩;rw[<-Kl (f:=dC (Sd d i) n) (by rw[<-hn];exact k2), <-hn];exact h5
 rw[rO, <-hK, <-hn];have HN:=As hn;clear h0 h1 h2 rO hn hK hK2 H1 H2 eg1 eg2;go_enter Tryz.func79,Tryz.ntmps79;go_wp2;refine wp_scope_straight ?_;go_wp2_with fail
 refine aK ?_;intro V hV;have B0:Cd (ar V w.heap.size #[An a0 K c0,An a1 n c1,An a2 n c2] 29):=As (by rw[hV];exact ar.new w _ _);have X0:Cd (aa w V):=As (by rw[hV];exact((Ext.refl w).alloc _).below);clear hV;refine(CM V w.heap.size X0 B0).mono ?_;rintro e w1 ⟨u,rfl,ho,hx⟩;obtain⟨ua,uc,rfl⟩:=ownsRow_form ho;have O1:=As (aC ho X0.size);have B1:=As (B0.below hx B0.lt);have X1:=As (X0.trans (hx.mono X0.size));clear ho hx B0 X0 CM;go_wp2_with fail
 refine aw ?_;intro V2 hV;obtain⟨pb,lG⟩:=ag w1.heap.size;have P2:Cd (ar V2 pb #[An ua n uc] 39):=As (by rw[hV,lG];exact ar.new _ _ _);have hb2:aa w1 V2:=by rw[hV];exact((Ext.refl _).alloc _).below
 rw[<-lG];have hwp:w.heap.size<pb:=by rw[lG];exact B1.lt
 have O2:=As (ai O1 hb2);have B2:=As (B1.below hb2 B1.lt);have X2:=As (X1.trans (hb2.mono X1.size));clear hV lG hb2 O1 B1 X1;go_step3;go_wp2_with fail
 go_loopw [4] (fun cv wr=>∃ (i:Nat) (ua:Option Addr) (uc:Nat),cv=Bm AT (dX d i)/\(∀ j,j<i->¬dY d j)/\ar wr pb #[An ua n uc] 39/\wr.ownsRow w.heap.size 3 1 (An ua n uc) n (iQ d i)/\ar wr w.heap.size #[An a0 K c0,An a1 n c1,An a2 n c2] 29/\aa w wr) (fun cv _=>n-(intOf cv).toNat)
 case atStart=>exact⟨0,ua,uc,rfl,fun j hj=>absurd hj (Nat.not_lt_zero _),P2,O2,B2,X2⟩
 case round=>
  obtain⟨i,va,vc,rfl,hno,hp,ho,hb,hx⟩:=hrel;obtain⟨wo,rfl⟩:=ag (wr:EV);have pG:=As hno;have HP:=As hp;have HO:=As ho;have HB:=As hb;have HX:=As hx;clear hno hp ho hb hx P2 O2 B2 X2;obtain⟨b0,b1,b2⟩:=aM.fj HB;go_wp2_with fail
  refine(CB wo i w.heap.size pb _ HX HB HP HO).mono ?_;rintro e w3 ⟨u,rfl,ho,hx⟩;obtain⟨qa,qc,rfl⟩:=ownsRow_form ho;have hw3:w.heap.size<=wo.heap.size:=HX.size;have Q3:=As (aC ho hw3);have Wx:=As (ai HO hx);have HP3:=As (HP.below hx HP.lt);have HB3:=As (HB.below hx HB.lt);have nX:=As (HX.trans (hx.mono hw3));clear ho hx b0 b1 b2 HO HP HB HX;obtain⟨m1,lA⟩:=ag (dX d (i+1));obtain⟨m0,nZ⟩:=ag (dX d i);have ape:m0<=m1/\m1<=n:=by rw[nZ,lA,HN.out];exact⟨(wS d i).1,(wS d (i+1)).2⟩
  have HM1:=As lA;have HM0:=As nZ;rw[<-lA, <-nZ];clear lA nZ;have q0:=HP3.cell 0;have z0:=HP3.frozen 0;by_cases hm:m1=m0
  ·have HI:Cd (dY d i):=As (by unfold dY;rw[<-HM1.out, <-HM0.out];exact hm)
   have hri:IM d=i:=ZT HI pG;have d1:((m1:Int)==(m0:Int))=true:=by rw[hm];exact beq_self_eq_true _
   have HR:Cd (w3.ownsRow w.heap.size 3 1 (An va n vc) n ((A' n).map fun s=>cK (fS d s))):=As (by
    have h5:=Wx.out;unfold iQ at h5;unfold fS;rw[hri];rw[<-HN.out]at h5
    exact h5)
   clear hri;subst hm;go_wp2;rw[Exit.noGoto_ret];go_ret;exact⟨_,rfl,HR,nX⟩
  ·have hmi:¬ ((m1:Int)=(m0:Int)):=by omega
   have d1:((m1:Int)==(m0:Int))=false:=beq_eq_false_iff_ne.2 hmi;have d2:(m1==m0)=false:=beq_eq_false_iff_ne.2 hm;go_wp2;go_roundw;case rel=>
    have kg:ae (· ≠pb) w3 (w3.setCell ⟨pb,0,AM⟩ (An qa n qc)):=(ae.refl _ _).setCell (p:=⟨pb,0,AM⟩) (fun h=>h rfl) _;refine⟨i+1,qa,qc,by rw[HM1.out],fun j hj=>?_,HP3.set 0 _,ak Q3 kg fun x e=>bZ HP3 Q3 (by decide) x e,HB3.keeps kg (by show w.heap.size≠pb;omega),nX.trans (kg.mono fun x (hx:x<w.heap.size)=>by show x≠pb;omega:ae (· <w.heap.size) w3 _).below⟩;by_cases e:j=i
    ·subst e
     unfold dY;rw[<-HM1.out, <-HM0.out];exact hm
    ·exact pG j (by omega)
   case measure=>
    have h5:=HM0.out;simp[intOf];omega
theorem ZU (L:List Nat):L.map cK=(L.map Int.ofNat).map aG:=by rw[Is];rfl
theorem Fl (v:Value) (d:DF) (rt:Rt d) (sm:Sm d) (w:EV) (h:bV w v d): ah 15 #[v] w fun e w'=>∃ u,e=B_ (GW #[u,Bm AT 0])/\w'.ownsRow w.heap.size 3 1 u (dI d).length ((dI d).map cK)/\aa w w':=by
 obtain⟨iI,uD,jl,jm,jn⟩:=G_ Tryz.ki;have CR:Cd (∀ W,aa w W->ah 16 #[v] W fun e w'=>e=B_ (.bool true)/\aa W w'):=fun W hW=>by
  have:=r9 v d W (h.below hW) sm;rwa[(cX d).2 rt]at this
 obtain⟨v0,v1,v2,rfl,h0,h1,h2⟩:=h;obtain⟨a0,c0,rfl⟩:=h0.1.form;obtain⟨a1,c1,rfl⟩:=h1.form;obtain⟨a2,c2,rfl⟩:=h2.form;have rO:=rt.mr;rw[rO]at h2 CR ⊢;obtain⟨n,hn⟩:=ag d.nx.length;obtain⟨K,hK⟩:=ag d.cl.length;have QS:n<=4000:=by have:=rt.le;omega
 have cM:1<=n:=by have:=rt.pos;omega
 have hK2:K<=256:=by have:=rt.Av;omega
 rw[<-hn]at h1 h2 CR ⊢;rw[<-hK]at h0 CR ⊢;have H1:=As h1;have HN:=As hn;have HK:=As hK;have RT:=As rt;clear h0 h1 h2 hn hK rO rt sm;go_enter Tryz.func15,Tryz.ntmps15;go_wp2_with fail
 refine aK ?_;intro V hV;have B1:Cd (ar V w.heap.size #[An a0 K c0,An a1 n c1,An a2 n c2] 29):=by rw[hV];exact ar.new w _ _
 have X1:Cd (aa w V):=by rw[hV];exact((Ext.refl w).alloc _).below
 clear hV;refine(CR V X1).mono ?_;rintro e w2 ⟨rfl,hx⟩;have C1:=As (B1.below hx B1.lt);have F8:w.heap.size<w2.heap.size:=C1.lt;have X2:=As (X1.trans (hx.mono X1.size));clear hx B1 X1 CR;have XB:Cd (∀ W,ae (fun x=>x<w2.heap.size) w2 W->aa w W):=As fun W k=>X2.trans (k.mono fun x (hx:x<w.heap.size)=>by show x<w2.heap.size;omega:ae (· <w.heap.size) w2 W).below
 go_upto_region 4 with fail
 refine aw ?_;intro V3 cP;have O3:Cd (ar V3 w2.heap.size #[Bm AT 0] 3):=by rw[cP];exact ar.new _ _ _
 have K3:Cd (ae (fun x=>x<w2.heap.size) w2 V3):=by rw[cP];exact As (ae.aj ((Ext.refl _).alloc _).below fun x h=>h)
 have hs3:w2.heap.size<V3.heap.size:=by rw[cP];simp
 clear cP;have D1:=As (C1.keeps K3 F8);obtain⟨⟨k0,k1,k2⟩,_⟩:=D1.three;go_wp2_with (at_make;refine GS _ rfl (.tmp 15) (.tmp 15) 39 rfl V3.heap.size 3 iI (Bm AT 0) 1 By uD jl jm AT AT _ _ n rfl rfl rfl rfl (by rw[jn];omega) (by unfold maxLen;omega) (aF _) ?_;intro w3 hr hg;refine Hid.out ?_);refine As ?_;have Hq:V3.heap.size<w3.heap.size:=by
  rcases hr.2 with⟨h5,_⟩ | ⟨g,c,cur,h5,_,h6,_⟩
  ·cases h5
  ·cases h5;exact(Array.getElem?_eq_some_iff.1 h6).1
 have hb3:aa V3 w3:=(ae.aZ hg fun x hx=>⟨hx,fun e=>by cases e⟩:ae (· <V3.heap.size) V3 w3).below;rw[om]at hr;have R3:=As hr;have O4:=As (O3.below hb3 O3.lt);have K4:Cd (ae (fun x=>x<w2.heap.size) w2 w3):=As (K3.tr (ae.aj hb3 fun x (hx:x<w2.heap.size)=>by omega));clear hr hg hb3 k0 k1 k2 D1 O3 K3;obtain⟨g5,N7⟩:=ag V3.heap.size;rw[<-N7]at R3 hs3 Hq ⊢;clear N7;have f0:w3.frozen? ⟨g5,0,AM⟩=false:=R3.frozenAt 0;have f1:w3.cell? ⟨g5,0,AM⟩=AI (Bm AT 0):=by rw[R3.cellAt 0 (by omega),aN,List.getElem?_replicate,if_pos (by omega)];rfl
 have hni:(0:Int)<n:=by omega
 go_wp2;clear f0 f1;go_loopw [4,6] (fun ov iv wr=>∃ (i:Nat) (L:List Nat),iv=Bm AT i/\L=qi d i/\i<=L.length/\wr.ownsRow w2.heap.size 3 1 ov L.length (L.map cK)/\ov.ownBlock≠AI g5/\wr.ownsRow g5 3 1 (An (AI ⟨g5,0,AM⟩) n n) n ((nO n L).map aG)/\ae (fun x=>x<w2.heap.size) w2 wr/\w3.heap.size<=wr.heap.size) (fun _ iv _=>n-(intOf iv).toNat);case atStart=>
  have kg:ae (· ≠g5) w3 (w3.setCell ⟨g5,0,AM⟩ (Bm AT 1)):=(ae.refl (· ≠g5) _).setCell (p:=⟨g5,0,AM⟩) (fun h=>h rfl) _;refine⟨0,[0],rfl,rfl,AS _,?_,?_,?_,K4.tr (kg.mono fun x (hx:x<w2.heap.size)=>by show x≠g5;omega),kg.size⟩
  ·exact⟨rfl,.inr ⟨w2.heap.size,1, #[Bm AT 0],rfl,aF _,O4.keeps kg (by show w2.heap.size≠g5;omega),aF _,by unfold maxLen;omega,rfl,rfl⟩⟩
  ·intro e
   have:w2.heap.size=g5:=by simpa[G']using e
   omega
  ·rw[<-ER (by omega),F_]
   exact(R3.stored 0 _).1
 case round=>
  obtain⟨i,L,rfl,hL,uC,ho,hne,kX,hx,hsz⟩:=hrel;obtain⟨wo,rfl⟩:=ag (wr:EV);have IL:Cd (Ke n L):=As (by rw[hL,HN.out];exact Iz RT i);have ZG:=IL.len;have HX:=As hx;have HO:=As ho;have HS:=As kX;have HNE:=As hne;have HL:=As hL;clear hx ho kX hne hL;obtain⟨m,hm⟩:=ag L.length;rw[<-hm]at HO uC ZG;have HM:=As hm;clear hm;obtain⟨oa,oc,rfl⟩:=ownsRow_form HO;by_cases hlt:i<m
  ·obtain⟨s,hs⟩:∃ s,L[i]? =AI s:=⟨_,aB (by have:=HM.out;omega)⟩
   have kX:s<n:=IL.lt s (ax hs);obtain⟨og,ou,rfl,hog1,hog2,Sj,Gg,_⟩:=eE HO hlt;rw[aN,hs]at Sj;cases Sj;replace Gg:wo.cell? ⟨og,i,AM⟩=AI (Bm AT s):=Gg;have hrow:d.nx[s]? =AI (d.nx.getD s []):=by rw[bB,aB (by rw[<-HN.out];exact kX)];rfl
   obtain⟨b,off,a',c',rfl,hb,hc,mm⟩:=H1.elem hrow;have yF:(d.nx.getD s []).length=K:=by rw[HK.out];exact RT.len s (by rw[<-HN.out];exact kX)
   rw[yF]at hc mm;replace hc:wo.cell? ⟨b,off+s,AM⟩=AI (An a' K c'):=((ae.aj (XB wo HX) fun _ h=>h:ae (· <w.heap.size) w wo).cell (p:=⟨b,off+s,AM⟩) hb).trans hc;replace hb:b<wo.heap.size:=ay hb (XB wo HX).size;have BW:=As (C1.keeps HX F8);have yV:=As mm;have Bl:Cd (∀ k,k<K->∃ t:Nat,t<n/\(d.nx.getD s [])[k]? =AI (t:Int)/\(zK d s)[k]? =AI t):=As fun k hk=>by
    obtain⟨t,e1,e2,e3⟩:=Ry RT (s:=s) (k:=k) (by rw[<-HN.out];exact kX) (by rw[<-HK.out];exact hk);exact⟨t,by rw[HN.out];exact e1,e2,e3⟩
   have ZJ:Cd (qi d (i+1)=(zK d s).foldl gV L/\(zK d s).length=K):=As ⟨by rw[EM (by rw[<-HL.out];exact hs), <-HL.out],by rw[HK.out];exact Bq RT (by rw[<-HN.out];exact kX)⟩;have hii:(i:Int)<m:=by omega
   have Gi:(s:Int)<n:=by omega
   have Vp:=BW.cell 1;simp only[D_,DE,DH]at Vp;clear hs mm hrow yF;go_upto_region 9 with fail
   refine aI false (fun _=>False) (by kernel_rfl) 10 [0,1,0,0,12,28,63,127,255,0] (fun i=>false) (by kernel_rfl) (fun i=>aU.any _) ?_;intro C hC hne;have HC:=As hC;have q1:=aD hC (p:=⟨w.heap.size,1,AM⟩) BW.lt (fun h=>h) Vp;have q2:=aD hC (p:=⟨og,i,AM⟩) hog2 (fun h=>h) Gg;have q3:=aD hC (p:=⟨b,off+s,AM⟩) hb (fun h=>h) hc;clear hC
   repeat (refine au (fun K hK=>?_);first | (refine bL rfl ?_;try go_simp;refine hK _ _ ?_;clear hK K) | (refine bJ rfl rfl ?_;unfold az;go_simp;refine hK _ _ ?_;clear hK K))
   refine bC (fun W hW hH=>?_);have hM:=(HC.out W).1 hW;have rq:=hM.below;have WO:=As (ai HO rq);have WS:=As (ai HS rq);have WX:Cd (ae (fun x=>x<w2.heap.size) w2 W):=As (HX.tr (ae.aj rq fun x (hx:x<w2.heap.size)=>ay hx HX.size));have WB:=As (BW.below rq BW.lt);have nI:w3.heap.size<=W.heap.size:=DP hsz rq.size;clear hM rq hW hH HC q1 q2 q3 hne HO HS HX BW Vp Gg hc;go_wp2;go_loopw [4,34] (fun ov jv wr=>∃ (j:Nat) (L':List Nat),j<=K/\jv=Bm AT j/\L'=((zK d s).take j).foldl gV L/\wr.ownsRow w2.heap.size 3 1 ov L'.length (L'.map cK)/\ov.ownBlock≠AI g5/\wr.ownsRow g5 3 1 (An (AI ⟨g5,0,AM⟩) n n) n ((nO n L').map aG)/\ae (fun x=>x<w2.heap.size) w2 wr/\w3.heap.size<=wr.heap.size) (fun _ jv _=>K-(intOf jv).toNat);case atStart=>exact⟨0,L,AS _,rfl,rfl,by rw[<-HM.out];exact WO,HNE,WS,WX,nI⟩
   case round=>
    obtain⟨j,L',hj,rfl,hL',ho,hne,hsn',hx,hsz'⟩:=hrel;obtain⟨wi,rfl⟩:=ag (wr:EV)
    have IL':Cd (Ke n L'):=As (by
     rw[hL'];refine IL.fold _ fun t ht=>?_
     have:=Rz RT (s:=s) (by rw[<-HN.out];exact kX) t (List.mem_of_mem_take ht)
     rw[HN.out];exact this)
    have aid:=IL'.len;have HO:=As ho;have HS:=As hsn';have HX:=As hx;have Sk:=As hne;have HL':=As hL';clear ho hsn' hx hne hL';obtain⟨m',WN⟩:=ag L'.length;rw[<-WN]at HO aid;have HM':=As WN;clear WN;obtain⟨oa,oc',rfl⟩:=ownsRow_form HO;by_cases FZ:j<K
    ·obtain⟨t,sK,hz,Om⟩:=Bl.out j FZ
     obtain⟨b',off',rfl,hb',hc'⟩:=(yV.below (XB wi HX)).elem hz;replace hc':wi.cell? ⟨b',off'+j,AM⟩=AI (Bm AT (t:Int)):=hc';have jA:(j:Int)<K:=by omega
     have hti:(t:Int)<n:=by omega
     have hstep:((zK d s).take (j+1)).foldl gV L=gV L' t:=by rw[MK L Om,HL'.out]
     obtain⟨sg,su,se,_,hsg,hsu,hsc,hsf⟩:=eE HS sK;cases se;rw[aN,rF _ sK]at hsu;by_cases kB:t∈L'
     ·rw[if_pos kB]at hsu
      cases hsu
      have hst:gV L' t=L':=by unfold gV;rw[if_pos kB]
      rw[hst]at hstep;replace hsc:wi.cell? ⟨g5,t,AM⟩=AI (Bm AT 1):=hsc;have HST:=As hstep;clear hstep hst hz Om;go_wp2;go_roundw;case rel=>exact⟨j+1,L',by omega,by go_num,HST.symm,by rw[<-HM'.out];exact HO,Sk,HS,HX,hsz'⟩
      case measure=>simp[intOf];omega
     ·rw[if_neg kB]at hsu
      cases hsu
      have hst:gV L' t=L'++ [t]:=by unfold gV;rw[if_neg kB]
      rw[hst]at hstep;replace hsc:wi.cell? ⟨g5,t,AM⟩=AI (Bm AT 0):=hsc;have HST:=As hstep;have ak8:m'+1<=n:=by
       have:=(IL'.add sK).len;rw[hst,aJ]at this;have:=HM'.out;simp at*;omega
      clear hstep hst hz Om;go_upto_region 14 with fail
      refine aw ?_;intro W3 hW3;have kg:ae (· ≠g5) wi W3:=by rw[hW3];exact(ae.refl (· ≠g5) _).setCell (p:=⟨g5,t,AM⟩) (fun h=>h rfl) _
      have S3:Cd (W3.ownsRow g5 3 1 (An (AI ⟨g5,0,AM⟩) n n) n ((nO n (L'++ [t])).map aG)):=As (by
       rw[<-zL L' sK,F_,hW3]
       exact(HS.stored t _).1)
      have U3:Cd (W3.ownsRow w2.heap.size 3 1 (An oa m' oc') m' (L'.map cK)):=As (ak HO kg fun x hx e=>Sk (by rw[hx,e]));have Y3:Cd (ae (fun x=>x<w2.heap.size) w2 W3):=As (HX.tr (kg.mono fun x (hx:x<w2.heap.size)=>by show x≠g5;omega));have hs5:w3.heap.size<=W3.heap.size:=DP hsz' kg.size;clear hW3 kg HO HS HX hsc hsf hc';go_wp2_with (at_builtin;refine E_ _ rfl (.tmp 46) (.tmp 48) 39 rfl w2.heap.size 3 iI (Bm AT 0) 1 8 By uD jl jm jn rfl (by decide) _ _ _ rfl (U3.alloc _) ⟨W3.heap.size,0,AM⟩ 1 1 [cK t] rfl rfl (dO _ _ _) (by simp[H_,cK]) (by unfold maxLen;omega) (by omega) (by simp;omega) ?_;intro v' w6 hown' hgrow hh hat;have jF:=As hown';have HG:=As hgrow;clear hown' hgrow hh);go_roundw;case rel=>
       have hs6:W3.heap.size<=w6.heap.size:=by have:=HG.size;simp at this;omega
       have Ad:∀ x,(An oa m' oc').ownBlock=AI x->w2.heap.size<=x:=fun x hx=>(U3.lt x hx).1
       refine⟨j+1,L'++ [t],by omega,by go_num,HST.symm,?_,?_,?_,?_,by omega⟩
       ·rw[aJ, <-HM'.out,DQ]
        exact jF
       ·intro e
        rcases hat with h5 | h5
        ·exact Sk (h5.symm.trans e)
        ·rw[h5]at e
         have h6:(W3.alloc (.cells #[cK t] 3)).heap.size=g5:=by simpa using e
         simp at h6;omega
       ·refine(S3.alloc _).kept HG (.inr fun e=>?_)
        exact Sk e.symm
       ·exact(Y3.tr (ae.aj ((Ext.refl _).alloc _).below fun x (hx:x<w2.heap.size)=>by omega)).tr (ae.aZ HG fun x (hx:x<w2.heap.size)=>⟨by simp;omega,fun e=>by have:=Ad x e.symm;omega⟩)
      case measure=>simp[intOf];omega
    ·obtain rfl:j=K:=by omega
     have jA:¬ ((j:Int)<j):=by omega
     have kM:L'=qi d (i+1):=by rw[HL'.out,ZJ.1,AN (by rw[ZJ.2];exact aF _)]
     have HF:=As kM;clear kM;have tX:m<=m':=by rw[HM.out,HM'.out,HL'.out];exact EK _ _
     go_wp2;go_roundw;case rel=>exact⟨i+1,L',by go_num,HF,by have:=HM'.out;omega,by rw[<-HM'.out];exact HO,Sk,HS,HX,hsz'⟩
     case measure=>simp[intOf];omega
  ·obtain rfl:i=m:=by omega
   have hii:¬ ((i:Int)<i):=by omega
   have kM:dI d=L:=by rw[HL.out];exact EO (by rw[<-HL.out, <-HM.out];exact aF _) (by rw[<-HN.out];exact ZG)
   have HF:=As kM;clear kM;go_wp2;refine bodyPost_ret (v:=GW #[An oa i oc,Bm AT 0]) (by simp[results,Tryz.results15,go_sem]) rfl ?_;exact⟨_,rfl,by rw[HF.out, <-HM.out];exact aC HO (If F8),X2.trans (HX.mono fun x (hx:x<w.heap.size)=>by show x<w2.heap.size;omega:ae (· <w.heap.size) w2 wo).below⟩
attribute [local go_sem] encS
theorem cY (W:EV) (b:Nat) (x y z:Value):ae (· ≠b) W (((W.setCell ⟨b,0,AM⟩ x).setCell ⟨b,1,AM⟩ y).setCell ⟨b,2,AM⟩ z):=
 (((ae.refl _ _).setCell (p:=⟨b,0,AM⟩) (fun h=>h rfl) _).setCell (p:=⟨b,1,AM⟩) (fun h=>h rfl) _).setCell (p:=⟨b,2,AM⟩) (fun h=>h rfl) _
theorem Sl (v:Value) (d:DF) (rt:Rt d) (sm:Sm d) (w:EV) (h:bV w v d): ah 115 #[v] w fun e w'=>∃ u,e=B_ (GW #[u,Bm AT 0])/\aM w.heap.size w' u (cN d)/\aa w w':=by
 obtain⟨iI,uD,jl,jm,jn⟩:=G_ Tryz.ki;obtain⟨iL,uC,j6,j7,j8⟩:=G_ Tryz.pd;have CR:Cd (∀ W,aa w W->ah 15 #[v] W fun e w'=>∃ u,e=B_ (GW #[u,Bm AT 0])/\w'.ownsRow W.heap.size 3 1 u (dI d).length ((dI d).map cK)/\aa W w'):=As fun W hW=>Fl v d rt sm W (h.below hW)
 obtain⟨v0,v1,v2,rfl,h0,h1,h2⟩:=h;obtain⟨a0,c0,rfl⟩:=h0.1.form;obtain⟨a1,c1,rfl⟩:=h1.form;obtain⟨a2,c2,rfl⟩:=h2.form;have rO:=rt.mr;rw[rO]at h2 CR ⊢;obtain⟨n,hn⟩:=ag d.nx.length;obtain⟨K,hK⟩:=ag d.cl.length;obtain⟨L,hL⟩:=ag (dI d);obtain⟨m,hm⟩:=ag L.length;rw[<-hL, <-hm]at CR;have IL:Cd (Ke n L):=As (by rw[hL,hn];exact jz rt);have QS:n<=4000:=by have:=rt.le;omega
 have cM:1<=n:=by have:=rt.pos;omega
 have hK2:K<=256:=by have:=rt.Av;omega
 have hmn:m<=n:=by rw[hm];exact IL.len
 rw[<-hn]at h1 h2 CR ⊢;rw[<-hK]at h0 CR ⊢;have HMK:Cd (∀ s,s<n->∃ (b:Nat) (off:Nat) (ad:Option Addr) (cp:Nat),a2=AI ⟨b,off,AM⟩/\b<w.heap.size/\w.cell? ⟨b,off+s,AM⟩=AI (An ad (d.mr.getD s []).length cp)/\bw aG w (An ad (d.mr.getD s []).length cp) (d.mr.getD s [])):=As fun s hs=>by
  have hrow:d.mr[s]? =AI (d.mr.getD s []):=by rw[bB,aB (by rw[rO, <-hn];exact hs)];rfl
  obtain⟨b,off,a',c',e1,e2,e3,e4⟩:=h2.elem hrow;exact⟨b,off,a',c',e1,e2,e3,e4⟩
 have Bl:Cd (∀ s,s<n->∃ (b:Nat) (off:Nat) (ad:Option Addr) (cp:Nat),a1=AI ⟨b,off,AM⟩/\b<w.heap.size/\w.cell? ⟨b,off+s,AM⟩=AI (An ad K cp)/\bw aG w (An ad K cp) (d.nx.getD s [])):=As fun s hs=>by
  have hrow:d.nx[s]? =AI (d.nx.getD s []):=by rw[bB,aB (by rw[<-hn];exact hs)];rfl
  obtain⟨b,off,a',c',e1,e2,e3,e4⟩:=h1.elem hrow;rw[rt.len s (by rw[<-hn];exact hs), <-hK]at e3 e4;exact⟨b,off,a',c',e1,e2,e3,e4⟩
 have H0:=As h0;have HN:=As hn;have HK:=As hK;have HL:=As hL;have HM:=As hm;have RT:=As rt;have SM:=As sm;have HZ:Cd (∀ s,s∈L->∀ j,j<K->∃ t:Nat,t<n/\t∈L/\(d.nx.getD s [])[j]? =AI (t:Int)/\(zK d s)[j]? =AI t):=As fun s hs j hj=>by
  have kX:=IL.lt s hs;obtain⟨t,e1,e2,e3⟩:=Ry rt (s:=s) (k:=j) (by rw[<-hn];exact kX) (by rw[<-hK];exact hj);exact⟨t,by rw[hn];exact e1,by rw[hL]at hs ⊢;exact rG rt hs (ax e3),e2,e3⟩
 have ZJ:Cd (∀ s,s<n->(zK d s).length=K):=As fun s hs=>by rw[hK];exact Bq rt (by rw[<-hn];exact hs)
 clear h0 h1 h2 hn hK rO rt sm hL hm;go_enter Tryz.func115,Tryz.ntmps115;go_wp2_with fail
 refine aK ?_;intro V hV;have B1:Cd (ar V w.heap.size #[An a0 K c0,An a1 n c1,An a2 n c2] 29):=As (by rw[hV];exact(ar.new w _ _).alloc _);have R1:Cd (ar V (w.heap.size+1) #[An AM 0 0,An AM 0 0,An AM 0 0] 29):=As (by rw[hV];exact(ar.new (w.alloc _) _ _).at (by simp));have X1:Cd (aa w V):=As (by rw[hV];exact(((Ext.refl w).alloc _).alloc _).below);clear hV;have hsV:w.heap.size+1<V.heap.size:=R1.lt;refine(CR V X1).mono ?_;rintro e w2 ⟨u,rfl,ho,hx⟩;obtain⟨la,lc,rfl⟩:=ownsRow_form ho;have LR:=As ho;have B2:=As (B1.below hx B1.lt);have R2:=As (R1.below hx R1.lt);have X2:=As (X1.trans (hx.mono X1.size));have hs2:V.heap.size<=w2.heap.size:=hx.size;have L1:Cd (∀ x,(An la m lc).ownBlock=AI x->x<w2.heap.size/\V.heap.size<=x):=As fun x e=>⟨(ho.lt x e).2,(ho.lt x e).1⟩
 clear ho hx CR B1 R1 X1;obtain⟨⟨k0,k1,k2⟩,_⟩:=B2.three;go_wp2_with (at_make;refine GS _ rfl (.tmp 26) (.tmp 26) 39 rfl w2.heap.size 3 iI (Bm AT 0) 1 By uD jl jm AT AT _ _ n rfl rfl rfl rfl (by rw[jn];omega) (by unfold maxLen;omega) (aF _) ?_;intro w3 hr hg;refine Hid.out ?_);refine As ?_;have Hq:w2.heap.size<w3.heap.size:=by
  rcases hr.2 with⟨h5,_⟩ | ⟨g,c,cur,h5,_,h6,_⟩
  ·cases h5
  ·cases h5;exact(Array.getElem?_eq_some_iff.1 h6).1
 have hb3:aa w2 w3:=(ae.aZ hg fun x hx=>⟨hx,fun e=>by cases e⟩:ae (· <w2.heap.size) w2 w3).below;rw[om]at hr;have N3:=As hr;have L3:=As (ai LR hb3);have B3:=As (B2.below hb3 B2.lt);have R3:=As (R2.below hb3 R2.lt);have X3:=As (X2.trans (hb3.mono X2.size));clear hr hg hb3 k0 k1 k2 LR B2 R2 X2;obtain⟨g5,N7⟩:=ag w2.heap.size;rw[<-N7]at N3 Hq hs2 L1 ⊢;clear N7;go_wp2;go_loopw [30] (fun iv wr=>∃ i:Nat,i<=m/\iv=Bm AT i/\wr.ownsRow g5 3 1 (An (AI ⟨g5,0,AM⟩) n n) n ((wN n L i).map aG)/\ae (· ≠g5) w3 wr) (fun iv _=>m-(intOf iv).toNat);case atStart=>exact⟨0,AS _,rfl,by rw[<-ML];exact N3,ae.refl _ _⟩
 case round=>
  obtain⟨i,hi,rfl,hnu,hx⟩:=hrel;obtain⟨wo,rfl⟩:=ag (wr:EV);have HX:=As hx;have NU:=As hnu;have LO:=As (ak L3 hx fun x e=>by have:=L1.out x e;show x≠g5;omega);clear hx hnu;by_cases hlt:i<m
  ·obtain⟨s,hs⟩:∃ s,L[i]? =AI s:=⟨_,aB (by have:=HM.out;omega)⟩
   have kX:s<n:=IL.lt s (ax hs);obtain⟨lg,lu,rfl,_,_,Sj,Gg,_⟩:=eE LO hlt;rw[aN,hs]at Sj;cases Sj;replace Gg:wo.cell? ⟨lg,i,AM⟩=AI (Bm AT s):=Gg;obtain⟨sg,su,se,_,hsg,hsu,hsc,hsf⟩:=eE NU kX;cases se;have oM:=RG (N:=n) IL.nodup hs kX;have GK:=As oM;have hii:(i:Int)<m:=by omega
   have Gi:(s:Int)<n:=by omega
   clear hs oM hsu;go_wp2;go_roundw;case rel=>
    refine⟨i+1,by omega,by go_num,?_,HX.setCell (p:=⟨g5,s,AM⟩) (fun h=>h rfl) _⟩;rw[<-GK.out,F_];exact(NU.stored s _).1
   case measure=>simp[intOf];omega
  ·obtain rfl:i=m:=by omega
   have hii:¬ ((i:Int)<i):=by omega
   have BO:=As (B3.keeps HX (by show w.heap.size≠g5;omega));have RO:=As (R3.keeps HX (by show w.heap.size+1≠g5;omega));have XO:Cd (aa w wo):=As (X3.trans (HX.mono fun x (hx:x<w.heap.size)=>by show x≠g5;omega:ae (· <w.heap.size) w3 wo).below);have hso:w3.heap.size<=wo.heap.size:=HX.size;clear HX L3 B3 R3 X3 N3 hi hlt;obtain⟨⟨k0,k1,k2⟩,_⟩:=BO.three;go_wp2_with fail
   refine(kG (An a0 K c0) d.cl wo ⟨H0.1.below XO,H0.2⟩ SM.cl).mono ?_;rintro e w5 ⟨u,rfl,ho,hx⟩;rw[<-HK.out]at ho;obtain⟨ca,cc,rfl⟩:=ownsRow_form ho;have C5:=As ho;have B5:=As (BO.below hx BO.lt);have R5:=As (RO.below hx RO.lt);have X5:=As (XO.trans (hx.mono XO.size));have N5:=As (ai NU hx);have L5:=As (ai LO hx);have hs5:wo.heap.size<=w5.heap.size:=hx.size;clear ho hx BO RO XO NU LO k0 k1 k2;go_wp2;refine aw ?_;intro V6 UR;have D6:Cd (ar V6 w5.heap.size #[An ca K cc,An AM 0 0,An AM 0 0] 29):=As (by rw[UR];exact ar.new _ _ _);have uq:aa w5 V6:=by rw[UR];exact((Ext.refl _).alloc _).below
   clear UR;have hs6:w5.heap.size<V6.heap.size:=D6.lt;have B6:=As (B5.below uq B5.lt);have R6:=As (R5.below uq R5.lt);have X6:=As (X5.trans (uq.mono X5.size));have N6:=As (ai N5 uq);have L6:=As (ai L5 uq);have C6:=As (ai C5 uq);clear uq B5 R5 X5 N5 L5 C5;go_loopw [46] (fun kv wr=>∃ (k:Nat) (nx mk:Value),k<=i/\kv=Bm AT k/\ar wr w5.heap.size #[An ca K cc,nx,mk] 29/\aS V6.heap.size wr nx ((L.take k).map (wM d))/\aS V6.heap.size wr mk ((L.take k).map fun s=>d.mr.getD s [])/\oN nx mk/\ae (fun x=>x<V6.heap.size/\x≠w5.heap.size) V6 wr) (fun kv _=>i-(intOf kv).toNat);case atStart=>exact⟨0,_,_,AS _,rfl,D6,aS.nil _ _,aS.nil _ _,.inl rfl,ae.refl _ _⟩
   case round=>
    obtain⟨k,nx,mk,hk,rfl,hb,Ct,lq,hfar,hx⟩:=hrel;obtain⟨iO,rfl⟩:=ag (wr:EV);have WQ:=As hb;have yt:=As Ct;have yu:=As lq;have WR:=As hfar;have HX:=As hx;have LO:=As (ak L6 hx fun x e=>by have:=L1.out x e;exact⟨by omega,by omega⟩)
    have NU:=As (ak N6 hx fun x e=>by
     have e2:g5=x:=by simpa[G']using e
     exact⟨by omega,by omega⟩)
    have CO:=As (ak C6 hx fun x e=>by
     have h5:=C6.lt x e
     exact⟨h5.2,fun e2=>bZ D6 C6 (by decide) x e e2⟩)
    have BO:=As (B6.keeps hx ⟨by omega,by omega⟩);have RO:=As (R6.keeps hx ⟨by omega,by omega⟩);have XO:Cd (aa w iO):=As (X6.trans (hx.mono fun x (hx:x<w.heap.size)=>⟨by omega,by omega⟩:ae (· <w.heap.size) V6 iO).below);have aif:V6.heap.size<=iO.heap.size:=hx.size;clear hb Ct lq hfar hx;by_cases hlt:k<i
    ·obtain⟨s,hs⟩:∃ s,L[k]? =AI s:=⟨_,aB (by have:=HM.out;omega)⟩
     have hsL:=ax hs;have kX:s<n:=IL.lt s hsL;obtain⟨lg,lu,rfl,_,_,Sj,Gg,_⟩:=eE LO hlt;rw[aN,hs]at Sj;cases Sj;replace Gg:iO.cell? ⟨lg,k,AM⟩=AI (Bm AT s):=Gg;obtain⟨b1,Nb,ad1,cp1,rfl,hb1,hc1,hsl1⟩:=Bl.out s kX;replace hc1:iO.cell? ⟨b1,Nb+s,AM⟩=AI (An ad1 K cp1):=((ae.aj XO fun _ h=>h:ae (· <w.heap.size) w iO).cell (p:=⟨b1,Nb+s,AM⟩) hb1).trans hc1;have yV:=As hsl1;have er:L.take (k+1)=L.take k++ [s]:=by rw[Bs,hs];rfl
     have pM:=As er;have HSM:=As hsL;have ed:(k:Int)<i:=by omega
     have Gi:(s:Int)<n:=by omega
     have Vp:=BO.cell 1;simp only[D_,DE,DH]at Vp;clear hs hsl1 er hsL;go_wp2;clear Vp hc1 Gg;go_loopw [12,56] (fun tv jv wr=>∃ j:Nat,j<=K/\jv=Bm AT j/\wr.ownsRow iO.heap.size 3 1 tv j (((zK d s).take j).map fun t=>cK (L.idxOf t))/\ae (fun x=>x<iO.heap.size) iO wr) (fun _ jv _=>K-(intOf jv).toNat);case atStart=>exact⟨0,AS _,rfl,World.ownsRow_nil _ _ _ _,ae.refl _ _⟩
     case round=>
      obtain⟨j,hj,rfl,ht,hx⟩:=hrel;obtain⟨wi,rfl⟩:=ag (wr:EV);have HT:=As ht;have KI:=As hx;have XI:Cd (aa w wi):=As (XO.trans (hx.mono fun x (hx:x<w.heap.size)=>by show x<iO.heap.size;omega:ae (· <w.heap.size) iO wi).below);have aii:iO.heap.size<=wi.heap.size:=hx.size;clear ht hx;obtain⟨ta,tc,rfl⟩:=ownsRow_form HT;by_cases FZ:j<K
      ·obtain⟨t,sK,htL,hz,Om⟩:=HZ.out s HSM j FZ
       obtain⟨b',off',rfl,hb',hc'⟩:=(yV.below XI).elem hz;replace hc':wi.cell? ⟨b',off'+j,AM⟩=AI (Bm AT (t:Int)):=hc';have NUI:=ak NU KI fun x e=>(NU.lt x e).2
       obtain⟨sg,su,se,_,hsg,hsu,hsc,hsf⟩:=eE NUI sK;cases se;rw[aN,show wN n L i=wN n L L.length by rw[HM.out],RH htL sK]at hsu;cases hsu;replace hsc:wi.cell? ⟨g5,t,AM⟩=AI (Bm AT (L.idxOf t:Int)):=hsc;have jA:(j:Int)<K:=by omega
       have hti:(t:Int)<n:=by omega
       have adA:(((zK d s).take (j+1)).map fun t=>cK (L.idxOf t))=(((zK d s).take j).map fun t=>cK (L.idxOf t))++ [cK (L.idxOf t)]:=by rw[Bs,Om];simp
       have HT2:=As adA;obtain⟨ix,Vb⟩:=ag (L.idxOf t);rw[<-Vb]at hsc HT2;clear hz Om adA NUI Vb;go_wp2_with (at_builtin;refine E_ _ rfl (.tmp 60) (.tmp 65) 39 rfl iO.heap.size 3 iI (Bm AT 0) 1 8 By uD jl jm jn rfl (by decide) _ _ _ rfl (HT.alloc _) ⟨wi.heap.size,0,AM⟩ 1 1 [cK ix] rfl rfl (dO _ _ _) (by simp[H_,cK]) (by unfold maxLen;omega) (by omega) (by simp;omega) ?_;intro v' w6 hown' hgrow hh hat;have jF:=As hown';have HG:=As hgrow;clear hown' hgrow hh hat);go_roundw;case rel=>
        have Ad:∀ x,(An ta j tc).ownBlock=AI x->iO.heap.size<=x:=fun x hx=>(HT.lt x hx).1
        refine⟨j+1,by omega,by go_num,by rw[HT2.out];exact jF,?_⟩;exact(KI.tr (ae.aj ((Ext.refl _).alloc _).below fun x (hx:x<iO.heap.size)=>by show x<wi.heap.size;omega)).tr (ae.aZ HG fun x (hx:x<iO.heap.size)=>⟨by simp;omega,fun e=>by have:=Ad x e.symm;omega⟩)
       case measure=>simp[intOf];omega
      ·obtain rfl:j=K:=by omega
       have jA:¬ ((j:Int)<j):=by omega
       have TV:Cd (wi.ownsRow iO.heap.size 3 1 (An ta j tc) j ((wM d s).map aG)):=As (by
        have h5:=HT.out;rw[AN (by rw[ZJ.out s kX];exact aF _)]at h5;have e:(wM d s).map aG=(zK d s).map fun t=>cK (L.idxOf t):=by unfold wM;rw[Is, <-HL.out];rfl
        rw[e];exact h5)
       have yF:(wM d s).length=j:=by unfold wM;rw[aP,ZJ.out s kX]
       have Yy:=As yF;clear yF HT;obtain⟨b2,fL,Tw,Tx,rfl,hb2,hc2,rI⟩:=HMK.out s kX;have hcw:wi.cell? ⟨b2,fL+s,AM⟩=AI (An Tw (d.mr.getD s []).length Tx):=((ae.aj XI fun _ h=>h:ae (· <w.heap.size) w wi).cell (p:=⟨b2,fL+s,AM⟩) hb2).trans hc2;have Sn:(d.mr.getD s []).length<=1000000:=by
        by_cases h5:s<d.mr.length
        ·exact SM.Ug _ (ax (by rw[bB,aB h5];rfl:d.mr[s]? =AI _))
        ·rw[bB,aT (by omega)];exact AS _
       obtain⟨ml,oL⟩:=ag ((d.mr.getD s []).length);obtain⟨mx,hmx⟩:=ag ((d.mr.getD s []).map aG);have JZ:Cd (∀ W,aa w W->ah 22 #[An Tw ml Tx] W fun e w'=>∃ u,e=B_ u/\w'.ownsRow W.heap.size 3 1 u ml mx/\aa W w'):=As fun W hW=>by
        rw[oL,hmx];exact kH _ (d.mr.getD s []) W (rI.below hW) Sn
       rw[<-oL]at hcw;have NXI:=yt.keeps KI fun x _ h2=>h2
       have MKI:=yu.keeps KI fun x _ h2=>h2
       obtain⟨us,u1,u2,u3⟩:=NXI;obtain⟨ms,m1,m2,m3⟩:=MKI;have Ae:(L.take k).length=k:=by rw[GO];have:=HM.out;omega
       have QT:us.length=k:=by rw[u1,aP,Ae]
       have Im:ms.length=k:=by rw[m1,aP,Ae]
       rw[QT]at u2;rw[Im]at m2;obtain⟨na,nc,rfl⟩:=ownsRow_form u2;obtain⟨ma,mc,rfl⟩:=ownsRow_form m2;have IV:=As (WQ.keeps KI (by show w5.heap.size<iO.heap.size;omega));have BI:=As (BO.keeps KI (by show w.heap.size<iO.heap.size;omega));have ZV:Cd (∀ x,(An na k nc).ownBlock=AI x->x<iO.heap.size/\V6.heap.size<=x):=As (by obtain⟨Vq,h0,h2,_⟩:=yt.out;exact fun x e=>⟨(h2.lt x e).2,(h2.lt x e).1⟩);have Vr:Cd (∀ x,(An ma k mc).ownBlock=AI x->x<iO.heap.size/\V6.heap.size<=x):=As (by obtain⟨Vq,h0,h2,_⟩:=yu.out;exact fun x e=>⟨(h2.lt x e).2,(h2.lt x e).1⟩);have U1:=As u1;have U2:=As u2;have U3:=As u3;have M1:=As m1;have M2:=As m2;have M3:=As m3;have HUS:=As QT;have WT:=As Im;have yn:=As oL;have Zq:=As hmx;have HCW:=As hcw;clear u1 u2 u3 m1 m2 m3 QT Im oL hmx yt yu hc2 rI Ae hcw Sn;obtain⟨PL,uF⟩:=ag ([(iW wi.heap.size (An na k nc) k us (An ta j tc)),(mkApp wi.heap.size (An ma k mc) k ms ml mx)]:List gW.App);have oP:PL[0]? =AI (iW wi.heap.size (An na k nc) k us (An ta j tc)):=by rw[uF];rfl
       have tM:PL[1]? =AI (mkApp wi.heap.size (An ma k mc) k ms ml mx):=by rw[uF];rfl
       have hall:∀ q∈PL,q=(iW wi.heap.size (An na k nc) k us (An ta j tc))\/q=(mkApp wi.heap.size (An ma k mc) k ms ml mx):=fun q hq=>by rw[uF]at hq;simpa using hq
       have BH:Cd (gW.kj wi PL):=As ⟨fun q hq=>by rcases hall q hq with rfl | rfl<;>exact aF _,fun q hq x e=>by
        rcases hall q hq with rfl | rfl
        ·have:=ZV.out x e;omega
        ·have:=Vr.out x e;omega,fun i j q q' hi hj mM=>by
        have hl:PL.length=2:=by rw[uF];rfl
        have h1:=(AF.1 hi).1;have h2:=(AF.1 hj).1;rcases(show i=0\/i=1 by omega)with rfl | rfl<;>rcases(show j=0\/j=1 by omega)with rfl | rfl<;>(first | (exact absurd rfl mM) | skip)<;>(first | rw[oP]at hi | rw[tM]at hi)<;>(first | rw[oP]at hj | rw[tM]at hj)<;>cases hi<;>cases hj
        ·exact WR
        ·exact WR.symm⟩
       have Iy:∀ x,(x<V6.heap.size\/iO.heap.size<=x)->¬ ∃ q∈PL,q.v.ownBlock=AI x:=fun x hx ⟨q,hq,e⟩=>by
        rcases hall q hq with rfl | rfl
        ·have:=ZV.out x e;omega
        ·have:=Vr.out x e;omega
       have Bp:=As hall;have Fm:=As Iy;have yl:Cd (∀ W',gW.bR V6.heap.size wi PL wi W'->aa w W'):=As fun W' h=>XI.trans (h.keeps.mono fun x hx=>⟨by have:x<w.heap.size:=hx;omega,Iy x (by have:x<w.heap.size:=hx;omega)⟩:ae (· <w.heap.size) wi W').below
       clear uF hall Iy;go_upto_region 20 with fail
       have HST:Cd (∀ W W' u,gW.bR V6.heap.size wi PL W W'->(u.oneCell'=true/\W.ownsRow wi.heap.size 3 1 u ml mx)->(u.oneCell'=true/\W'.ownsRow wi.heap.size 3 1 u ml mx)):=As fun W W' u hm h=>⟨h.1,ak h.2 hm.keeps fun x hx=>⟨(h.2.lt x hx).2,Fm x (.inr (by have:=(h.2.lt x hx).1;omega))⟩⟩
       refine RegG.br (gW.bR V6.heap.size wi PL) (gW.bR.drew) (fun _ _ _ h k=>h.trans k) (by kernel_rfl) 16 [0,1,0,4,15,0,32,0,128,0,896,1920,3999,8095,16383,127,65535,131071,262143] (fun i=>i==3 || i==4 || i==12 || i==13 || i==14) (by kernel_rfl) (fun j=>if j=14 then AI 72 else AM) (fun j hj=>(by first | rfl | (have kN:19<=j:=hj;first | exact if_neg (by omega) | (split<;>first | omega | rfl)))) (by kernel_rfl) (fun i=>if i=3 then gW.gT.vo V6.heap.size wi PL 1 #[An ta j tc] 39 else if i=4 then gW.gT.app V6.heap.size wi PL (iW wi.heap.size (An na k nc) k us (An ta j tc)) (ax oP)else if i=12 then gW.gT.row V6.heap.size wi PL BH wi.heap.size (aF _) 3 1 ml mx else if i=13 then gW.gT.Un V6.heap.size wi PL 39 (fun W u=>u.oneCell'=true/\W.ownsRow wi.heap.size 3 1 u ml mx) HST else if i=14 then gW.gT.Ax V6.heap.size wi PL (mkApp wi.heap.size (An ma k mc) k ms ml mx) (ax tM)else RegG.aU.any _) ?_;intro C hC hne;have HC:=As hC;have kB:∀ {x:Nat},x<wi.heap.size->(¬ ∃ q∈PL,q.v.ownBlock=AI x)->∀ W: {W//C W},W.1.heap[x]? =wi.heap[x]? :=fun {x} h1 h2 W=>((hC W.1).1 W.2).keeps.keep x ⟨h1,h2⟩
       have o1:∀ W: {W//C W},W.1.cell? ⟨w5.heap.size,1,AM⟩=AI (An na k nc):=fun W=>(IV.same (kB IV.lt (Fm _ (by omega)) W)).cell 1
       have o2:∀ W: {W//C W},W.1.cell? ⟨w5.heap.size,2,AM⟩=AI (An ma k mc):=fun W=>(IV.same (kB IV.lt (Fm _ (by omega)) W)).cell 2
       have o3:∀ W: {W//C W},W.1.cell? ⟨w.heap.size,2,AM⟩=AI (An (AI ⟨b2,fL,AM⟩) n c2):=fun W=>(BI.same (kB BI.lt (Fm _ (by omega)) W)).cell 2
       have o4:∀ W: {W//C W},W.1.cell? ⟨b2,fL+s,AM⟩=AI (An Tw ml Tx):=fun W=>by
        have e:W.1.cell? ⟨b2,fL+s,AM⟩=wi.cell? ⟨b2,fL+s,AM⟩:=by unfold World.cell?;rw[kB (x:=b2) (by have:=XI.size;omega) (Fm.out b2 (by omega)) W]
        exact e.trans HCW
       clear hC kB
       repeat (refine RegG.au (fun K hK=>?_);first | (refine RegG.bL rfl ?_;try go_simp;refine hK _ _ ?_;clear hK K) | (refine RegG.bJ rfl rfl ?_;unfold az;go_simp;refine hK _ _ ?_;clear hK K))
       refine RegG.au (fun K hK=>?_);refine RegG.bS rfl rfl (gW.gT.vo V6.heap.size wi PL 1 #[An ta j tc] 39) rfl (fun W hW hN=>?_) (fun v hv=>?_)
       ·have hM:=(HC.out W).1 hW
        clear hW hK K
        (go_simp;exact⟨.below ((Ext.refl _).alloc _).below,⟨_,rfl⟩,fun b hb=>by cases hb;exact⟨ar.new _ _ _,BH.fresh hM.size⟩⟩)
       obtain⟨x3,rfl⟩:=hv;go_simp;refine hK _ _ ?_;clear hK K;refine RegG.au (fun K hK=>?_);refine RegG.bS rfl rfl (gW.gT.app V6.heap.size wi PL (iW wi.heap.size (An na k nc) k us (An ta j tc)) (ax oP)) rfl (fun W hW hN=>?_) (fun v hv=>?_)
       ·have hM:=(HC.out W).1 hW
        clear hW hK K;refine gW.dE (w0:=wi) (PL:=PL) (p:=(iW wi.heap.size (An na k nc) k us (An ta j tc))) (.tmp 69) (.tmp 71) 27 rfl iL (An AM 0 0) 24 GB uC j6 j7 j8 rfl (show(0:Nat)<1 from by decide) BH oP rfl (hM.old _ (ax oP) U2) ⟨x3,0,AM⟩ 1 rfl [An ta j tc] rfl rfl (cC (hN.at 0 rfl (by kernel_rfl) x3 rfl).1) (by intro u hu;simp at hu;rw[hu];rfl) (by show k+1<=maxLen;unfold maxLen;omega) (by show(k+1)*24<=_;omega) (DP (by omega) hM.size) (show(0:Nat)<1 from by decide) hM.size (fun v W2 g1 g2 g3 _=>⟨g1,g2,g3⟩)
       obtain⟨xe,xf,hv2⟩:=hv;replace hv2:v=An xe (k+1) xf:=hv2;subst hv2;go_simp;refine hK _ _ ?_;clear hK K
       repeat (refine RegG.au (fun K hK=>?_);first | (refine RegG.bL rfl ?_;try go_simp;refine hK _ _ ?_;clear hK K) | (refine RegG.bJ rfl rfl ?_;unfold az;go_simp;refine hK _ _ ?_;clear hK K))
       refine RegG.au (fun K hK=>?_);refine RegG.bS rfl rfl (gW.gT.row V6.heap.size wi PL BH wi.heap.size (aF _) 3 1 ml mx) rfl (fun W hW hN=>?_) (fun v hv=>?_)
       ·have hM:=(HC.out W).1 hW
        clear hW hK K
        (go_simp;refine bA ((JZ W (yl _ hM)).mono ?_);rintro e w2 ⟨um,rfl,ho,hx⟩;exact⟨_,rfl,.below hx,ownsRow_form ho,aC ho hM.size⟩)
       obtain⟨a9,c9,rfl⟩:=hv;go_simp;refine hK _ _ ?_;clear hK K;refine RegG.au (fun K hK=>?_);refine RegG.bS rfl rfl (gW.gT.Un V6.heap.size wi PL 39 (fun W u=>u.oneCell'=true/\W.ownsRow wi.heap.size 3 1 u ml mx) HST) rfl (fun W hW hN=>?_) (fun v hv=>?_)
       ·have hM:=(HC.out W).1 hW
        clear hW hK K
        (go_simp;exact⟨.below ((Ext.refl _).alloc _).below,⟨_,rfl⟩,fun b hb=>by cases hb;exact⟨⟨_,ar.new _ _ _,rfl,(show W.ownsRow wi.heap.size 3 1 (An a9 ml c9) ml mx from hN.at 0 rfl (by kernel_rfl)).alloc _⟩,BH.fresh hM.size⟩⟩)
       obtain⟨WK,rfl⟩:=hv;go_simp;refine hK _ _ ?_;clear hK K;refine RegG.au (fun K hK=>?_);refine RegG.bS rfl rfl (gW.gT.Ax V6.heap.size wi PL (mkApp wi.heap.size (An ma k mc) k ms ml mx) (ax tM)) rfl (fun W hW hN=>?_) (fun v hv=>?_)
       ·have hM:=(HC.out W).1 hW
        have hq:gW.After V6.heap.size wi (iW wi.heap.size (An na k nc) k us (An ta j tc)) W (An xe (k+1) xf):=hN.at 2 rfl (by kernel_rfl);obtain⟨⟨ub,hb1,hb2,hb3⟩,_⟩:=hN.at 0 rfl (by kernel_rfl) WK rfl;clear hW hK K;refine gW.dE (w0:=wi) (PL:=PL) (p:=(mkApp wi.heap.size (An ma k mc) k ms ml mx)) (.tmp 74) (.tmp 81) 27 rfl iL (An AM 0 0) 24 GB uC j6 j7 j8 rfl (show(0:Nat)<1 from by decide) BH tM rfl (hM.old _ (ax tM) M2) ⟨WK,0,AM⟩ 1 rfl [ub] ⟨ub,rfl,hb2,hb3⟩ rfl (cC hb1) (by intro u hu;simp at hu;rw[hu];exact hb2) (by show k+1<=maxLen;unfold maxLen;omega) (by show(k+1)*24<=_;omega) (DP (by omega) hM.size) (show(0:Nat)<1 from by decide) hM.size (fun v W2 g1 g2 g3 g4=>⟨g1,g2,g3,?_⟩);rcases g4 with g4 | g4
        ·exact .inl g4
        ·refine .inr (.inr fun e=>?_)
         rw[g4]at e;obtain⟨⟨ns,h5,_⟩,_⟩:=hq;have:=(h5.lt _ e.symm).2;omega
       obtain⟨IY,IZ,hv2⟩:=hv;replace hv2:v=An IY (k+1) IZ:=hv2;subst hv2;go_simp;refine hK _ _ ?_;clear hK K
       repeat (refine RegG.au (fun K hK=>?_);first | (refine RegG.bL rfl ?_;try go_simp;refine hK _ _ ?_;clear hK K) | (refine RegG.bJ rfl rfl ?_;unfold az;go_simp;refine hK _ _ ?_;clear hK K))
       refine RegG.bC (fun W7 hW hH=>?_);have hM:=(HC.out W7).1 hW;have Q0:Cd (gW.After V6.heap.size wi (iW wi.heap.size (An na k nc) k us (An ta j tc)) W7 (An xe (k+1) xf)):=As (hH _ (ax (show _=AI _ from rfl:_[3]? =AI _)));have Q1:Cd (gW.After V6.heap.size wi (mkApp wi.heap.size (An ma k mc) k ms ml mx) W7 (An IY (k+1) IZ)/\((An IY (k+1) IZ).ownBlock=(An ma k mc).ownBlock\/oN (An IY (k+1) IZ) (An xe (k+1) xf))):=As (hH _ (ax (show _=AI _ from rfl:_[0]? =AI _)));have K7:Cd (ae (fun x=>x<wi.heap.size/\¬ ∃ q∈PL,q.v.ownBlock=AI x) wi W7):=As hM.keeps
       have KR:Cd (∀ (e:TypeId) (bs sz m:Nat) (u:Value) (ys:List Value),e≠39->wi.ownsRow bs e sz u m ys->W7.ownsRow bs e sz u m ys):=As (by
        intro e bs sz m u ys he ho;refine ak ho K7 fun x hx=>⟨(ho.lt x hx).2,?_⟩
        rintro⟨q,hq,Lr⟩;rcases Bp.out q hq with rfl | rfl
        ·rcases ownBlock_ne he ho U2.out with h5 | h5
         ·rw[h5]at hx;cases hx
         ·exact h5 (hx.trans Lr.symm)
        ·rcases ownBlock_ne he ho M2.out with h5 | h5
         ·rw[h5]at hx;cases hx
         ·exact h5 (hx.trans Lr.symm))
       have B7:=As (IV.keeps K7 ⟨IV.lt,Fm _ (.inl (by omega))⟩);have K8:Cd (ae (fun x=>x<V6.heap.size/\x≠w5.heap.size) V6 W7):=As ((HX.tr (KI.mono fun x hx=>by have:=hx.1;show x<iO.heap.size;omega)).tr (K7.mono fun x hx=>⟨by have:=hx.1;omega,Fm x (.inl hx.1)⟩))
       have O7:Cd (aS V6.heap.size W7 (An xe (k+1) xf) ((L.take (k+1)).map (wM d))):=As (by
        obtain⟨⟨ns,h5,h6⟩,_⟩:=Q0.out;have h6:ns=[An ta j tc]:=h6;subst h6;rw[pM.out,DQ];refine aS.more U1 HUS h5 (fun i u l hu hl=>KR _ _ _ _ _ _ (by decide) (U3 i u l hu hl)) ?_;rw[Yy.out]
        exact aC (KR _ _ _ _ _ _ (by decide) TV) (by omega))
       have P7:Cd (aS V6.heap.size W7 (An IY (k+1) IZ) ((L.take (k+1)).map fun s=>d.mr.getD s [])):=As (by
        obtain⟨⟨⟨ns,h5,u,h6,_,h7⟩,_⟩,_⟩:=Q1.out;have h6:ns=[u]:=h6;subst h6;rw[pM.out,DQ];refine aS.more M1 WT h5 (fun i u l hu hl=>KR _ _ _ _ _ _ (by decide) (M3 i u l hu hl)) ?_;rw[<-yn.out, <-Zq.out]
        exact aC h7 (by omega))
       have FR:Cd (oN (An xe (k+1) xf) (An IY (k+1) IZ)):=As (by
        rcases Q1.2 with h | h
        ·rcases Q0.2 with h' | h'
         ·rcases WR.out with h3 | h3
          ·exact .inl (h'.trans h3)
          ·exact .inr (by rw[h',h];exact h3)
         ·by_cases e:(An xe (k+1) xf).ownBlock=AM
          ·exact .inl e
          ·right
           intro e2;rw[h]at e2;cases e3:(An ma k mc).ownBlock with
           | none=>rw[e3]at e2;exact e e2
           | some x=>rw[e3]at e2;have:=h' x e2;have:=(Vr.out x e3).1;omega
        ·exact h.symm)
       clear hM hW hH HC o1 o2 o3 o4 oP tM BH Bp Fm yl HST K7 KR IV BI TV Q0 Q1 ZV Vr U1 U2 U3 M1 M2 M3 HUS WT yn Zq JZ pM hne;obtain⟨⟨k0,k1,k2⟩,z0,z1,z2⟩:=B7.three;go_wp2;go_roundw;case rel=>
        have kg:ae (· ≠w5.heap.size) W7 ((W7.setCell ⟨w5.heap.size,1,AM⟩ (An xe (k+1) xf)).setCell ⟨w5.heap.size,2,AM⟩ (An IY (k+1) IZ)):=
         ((ae.refl _ _).setCell (p:=⟨w5.heap.size,1,AM⟩) (fun h=>h rfl) _).setCell (p:=⟨w5.heap.size,2,AM⟩) (fun h=>h rfl) _
        exact⟨k+1,_,_,by omega,by go_num,(B7.set 1 _).set 2 _,O7.keeps kg (fun x h1 _ e=>by omega),P7.keeps kg (fun x h1 _ e=>by omega),FR,K8.tr (kg.mono fun x hx=>hx.2)⟩
       case measure=>simp[intOf];omega
    ·obtain rfl:k=i:=by omega
     have ed:¬ ((k:Int)<k):=by omega
     have er:L.take k=L:=AN (by rw[<-HM.out];exact aF _);have NXF:=As yt.out;have MKF:=As yu.out;rw[er,HL.out]at NXF MKF;obtain⟨na,nc,rfl⟩:=NXF.form;obtain⟨ma,mc,rfl⟩:=MKF.form;obtain⟨⟨k0,k1,k2⟩,_⟩:=WQ.three;obtain⟨⟨l0,l1,l2⟩,z0,z1,z2⟩:=RO.three;clear er;obtain⟨q1,NT⟩:=ag (((dI d).map (wM d)).length);obtain⟨q2,VQ⟩:=ag (((dI d).map fun s=>d.mr.getD s []).length);rw[<-NT]at k1 NXF;rw[<-VQ]at k2 MKF;rw[<-NT, <-VQ]at WQ;clear NT VQ;go_wp2;refine aQ ?_;intro W9 dG;have E9:Cd (ar W9 (w.heap.size+1) #[An ca K cc,An na q1 nc,An ma q2 mc] 29/\ae (· ≠w.heap.size+1) iO W9):=by rw[dG];exact As ⟨RO.vy,cY _ _ _ _ _⟩
     clear dG z0 z1 z2 k0 k1 k2 l0 l1 l2;obtain⟨⟨m0,m1,m2⟩,_⟩:=E9.1.three;refine bodyPost_ret (v:=GW #[.agg #[An ca K cc,An na q1 nc,An ma q2 mc],Bm AT 0]) (by simp[results,Tryz.results115,go_sem,m0,m1,m2]) rfl ⟨_,rfl,⟨_,_,_,rfl,?_,?_,?_⟩,XO.trans (E9.2.mono fun x (hx:x<w.heap.size)=>by show x≠w.heap.size+1;omega:ae (· <w.heap.size) iO W9).below⟩
     ·have h5:=aC (base':=w.heap.size) (ak CO E9.2 fun x e=>by have:=(CO.lt x e).1;show x≠_;omega) (by omega)
      show W9.ownsRow w.heap.size 56 4 _ d.cl.length _;rw[<-HK.out];exact h5
     ·exact(NXF.keeps E9.2 fun x h1 _=>by show x≠_;omega).base (by omega)
     ·exact(MKF.keeps E9.2 fun x h1 _=>by show x≠_;omega).base (by omega)
end
end Go.Proofs.YtjgccapbphadjaaGreatDoor
