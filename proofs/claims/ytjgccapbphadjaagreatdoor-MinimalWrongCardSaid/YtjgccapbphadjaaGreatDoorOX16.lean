/- minimal.parts: the first word that tells two states apart. -/
import Derived.Test.YtjgccapbphadjaaGreatDoorOX15
set_option maxRecDepth 100000
set_option maxHeartbeats 16000000
open Go.Lib (hid)
open Option renaming some->An,none->As,map_eq_some_iff->D'
open Go.Value renaming pointer->AF,slice->AI,int->AN,oneCell'->GS,tuple->H_,agg->Is,bool->IF,cells->Kx
open Go.Proofs.Tryz renaming prog->AM,underlying206->D0,underlying133->F_,underlying39->If,results68->I_
open Go.IntKind renaming i64->AS,u8->Lo
open Go.Lib renaming hid->AT
open Go.Instr renaming lookup->A_,mapUpdate->GB
open List renaming replicate->A',getElem?_replicate->Bs,take_of_length_le->B',length_replicate->Cd,getElem?_eq_some_iff->C_,getElem?_cons_zero->DE,mem_iff_getElem?->DH,getElem?_toArray->DP,getElem?_cons_succ->D_,length_singleton->Ft,map_append->FG,take_succ_cons->G_,getElem?_range->G',mem_map->J',range->K_
open Go.World renaming block_lt_of_cell?->Bm,alloc_heap_new->GW,size_alloc->Iv,ownsRow->J_
open Go renaming World->By,run_underlying->EV,bodyPost_ret->H',TypeId->It,info_parts->IT
open Go.MapKept renaming run_getObj_map->B_
open Go.Ending renaming returned->C'
open Array renaming getElem?_eq_some_iff->DQ
open Go.RowKit renaming Hid->DS
open Go.Result renaming andThen->E_
open Prod renaming fst->FF,ext->IN
open Bool renaming false->GO,true->I'
namespace Go.Proofs.YtjgccapbphadjaaGreatDoor
section
open Go Go.RowKit
set_option maxRecDepth 100000
def xq (a b:DF) (P:List BS) (p:Nat×Nat) (k:Nat):Nat×Nat:=(eH a p.1 (cls a.cl (lb P k)),eH b p.2 (cls b.cl (lb P k)))
def uH (a b:DF) (P:List BS) (p:Nat×Nat):Nat->Nat->Option (List Nat)
 | 0,_=>As
 | f+1,i=>match(iG (xq a b P) (lb P) P.length p i)[i]? with
  | none=>As
  | some x=>if Ff a b x.1 then An x.2 else uH a b P p f (i+1)
theorem zW {a b:DF} {P:List BS} (hP:partsOf (a.cl++b.cl)=P) (p:Nat×Nat):∀ f i,kJ a b p f i=uH a b P p f i
 | 0,_=>rfl
 | f+1,i=>by
  have ih:=zW hP p f (i+1);have e:dc a b p i=iG (xq a b P) (lb P) P.length p i:=by
   unfold dc;have e2:vu a b=xq a b P:=by
    funext p k
    unfold vu xq;rw[hP]
   rw[e2,hP]
  rw[kJ,uH,e,ih];cases (iG (xq a b P) (lb P) P.length p i)[i]? <;>rfl
theorem Nq {a b:DF} {P:List BS} (hP:partsOf (a.cl++b.cl)=P) (p:Nat×Nat):jW a b p=uH a b P p (a.nx.length*b.nx.length+1) 0:=zW hP p _ _
def ky:DF:=⟨[BitVec.allOnes 256],[[1],[0],[3],[2]],[[],[0],[],[0]]⟩
theorem SG:(K_ 4).map (fS ky)=[0,1,0,1]:=by kernel_rfl
end
section
open Go Go.RowKit Go.Shelf Go.Maps
open Go.ChangeMaps (setBlock heap_setBlock_same)
def oT:Nat->List (Value×Value)->List MapEntry
 | _,[]=>[]
 | n,p::l=>⟨p.1,p.2,n⟩::oT (n+1) l
theorem nQ:∀ (l:List (Value×Value)) (n i:Nat),(oT n l)[i]? =(l[i]?).map fun p=>⟨p.1,p.2,n+i⟩
 | [],_,_=>by simp[oT]
 | p::l,n,0=>by simp[oT]
 | p::l,n,i+1=>by
  simp only[oT,D_,nQ l];rw[show n+1+i=n+(i+1) by omega]
theorem tR:∀ (l:List (Value×Value)) (n:Nat) (q:Value×Value),oT n (l++ [q])=oT n l++ [⟨q.1,q.2,n+l.length⟩]
 | [],n,q=>by simp[oT]
 | p::l,n,q=>by
  simp only[List.cons_append,oT,tR l,List.length_cons];rw[show n+1+l.length=n+(l.length+1) by omega]
def qq (w:By) (b:Nat) (l:List (Value×Value)):Prop:=w.heap[b]? =An (.map (oT 0 l).toArray l.length)
theorem qq.keeps {w w':By} {b:Nat} {l:List (Value×Value)} (h:qq w b l) {R:Nat->Prop} (hk:ae R w w') (hb:R b):qq w' b l:=(hk.keep b hb).trans h
theorem qq.lt {w:By} {b:Nat} {l:List (Value×Value)} (h:qq w b l):b<w.heap.size:=(DQ.1 h).1
theorem qq.below {w w':By} {b:Nat} {l:List (Value×Value)} (h:qq w b l) (hk:aa w w'):qq w' b l:=(hk.block b h.lt).trans h
theorem FH {kt:It} {l:List (Value×Value)} (hl:∀ p∈l,∃ k,keyOf AM kt p.1=An k):∀ e∈oT 0 l,∃ k,keyOf AM kt e.key=An k:=fun e he=>by
 obtain⟨i,hi⟩:=DH.1 he;rw[nQ]at hi;obtain⟨p,hp,rfl⟩:=D'.1 hi;exact hl p (ax hp)
theorem Ks {mt kt vt:It} (K:Keyed AM kt) (hu:AM.underlying mt=An (.map kt vt)) {w:By} {z:Value} (hz:(zeroValue vt).run AM w=.ok z w) {b:Nat} {l:List (Value×Value)} (h:qq w b l) (hl:∀ p∈l,∃ k,keyOf AM kt p.1=An k) (q:Value) (hq:∃ k,keyOf AM kt q=An k): ((∀ p∈l,p.1≠q)/\(A_ mt (.map (An b)) q I').run AM w=.ok (H_ #[z,IF GO]) w/\(A_ mt (.map (An b)) q GO).run AM w=.ok z w)\/ (∃ (i:Nat) (v:Value),l[i]? =An (q,v)/\(A_ mt (.map (An b)) q I').run AM w=.ok (H_ #[v,IF I']) w/\(A_ mt (.map (An b)) q GO).run AM w=.ok v w):=by
 obtain⟨kl,hk⟩:=hq;have hb:w.heap[b]? =An (.map (oT 0 l).toArray l.length):=h;rcases K.find w hk (oT 0 l) (FH hl)with⟨f1,f2⟩ | ⟨j,e0,f1,f2,f3⟩
 ·refine .inl ⟨fun p hp e=>?_,?_,?_⟩
  ·obtain⟨i,hi⟩:=DH.1 hp
   have:=nQ l 0 i;rw[hi]at this;exact f2 _ (ax this) e
  ·simp[A_,EV hu,B_ hb,K.check w _ hk,f1,hz,E_]
  ·simp[A_,EV hu,B_ hb,K.check w _ hk,f1,hz,E_]
 ·rw[nQ]at f2
  obtain⟨p,hp,rfl⟩:=D'.1 f2;obtain⟨p1,p2⟩:=p;cases f3;refine .inr ⟨j,p2,hp,?_,?_⟩
  ·simp[A_,EV hu,B_ hb,K.check w _ hk,f1,E_]
  ·simp[A_,EV hu,B_ hb,K.check w _ hk,f1,E_]
theorem SH {mt kt vt:It} (K:Keyed AM kt) (hu:AM.underlying mt=An (.map kt vt)) {w:By} {b:Nat} {l:List (Value×Value)} (h:qq w b l) (hl:∀ p∈l,∃ k,keyOf AM kt p.1=An k) (q:Value) (hq:∃ k,keyOf AM kt q=An k) (hno:∀ p∈l,p.1≠q) (v:Value): ∃ w',(GB mt (.map (An b)) q v).run AM w=.ok () w'/\qq w' b (l++ [(q,v)])/\ae (· ≠b) w w'/\w'.heap.size=w.heap.size:=by
 obtain⟨kl,hk⟩:=hq;have hb:w.heap[b]? =An (.map (oT 0 l).toArray l.length):=h;rcases K.find w hk (oT 0 l) (FH hl)with⟨f1,f2⟩ | ⟨j,e0,f1,f2,f3⟩
 ·refine⟨setBlock w b (.map (oT 0 (l++ [(q,v)])).toArray (l++ [(q,v)]).length),?_,heap_setBlock_same hb _,⟨rfl,rfl,rfl,by simp[setBlock],fun i hi=>by show(w.heap.setIfInBounds b _)[i]? =_;exact Array.getElem?_setIfInBounds_ne (Ne.symm hi)⟩,by simp[setBlock]⟩
  rw[tR];simp[GB,EV hu,B_ hb,K.check w GO hk,f1,MapKept.run_setObj_map _ hb,E_,setBlock]
 ·rw[nQ]at f2
  obtain⟨p,hp,rfl⟩:=D'.1 f2;exact absurd f3 (hno p (ax hp))
theorem Tryz.adT:(133:It)<AM.types.size:=of_decide_eq_true (by kernel_rfl)
theorem Tryz.aai:(match AM.underlying 133 with | some (.array _ _) | some (.struct _)=>I' | _=>GO)=true:=by kernel_rfl
theorem Tryz.uI:Keyed AM 133:=Keyed.of_law (deep_law_laid Tryz.laidOut (m:=2) (by omega) Tryz.adT (by kernel_rfl) Tryz.aai)
theorem Tryz.Nr:AM.keyType 133=true:=by kernel_rfl
theorem Tryz.Kt:AM.cellsOf 133=2:=by kernel_rfl
theorem FJ (p:Nat×Nat) (h1:p.1<=4000) (h2:p.2<=4000):∃ l,keyOf AM 133 (ei p)=An l:=by
 obtain⟨n,hn⟩:=Tryz.Pr;have hf:(ei p).formed AM 133=true:=by simp[ei,Value.formed,F_,Tryz.Kt]
 unfold keyOf;rw[F_];simp only[Tryz.Nr,hf,Bool.and_self,if_true];have hk:∃ ls,AM.keyLits (AM.types.size+1) 133 (ei p).cells.toList=An ls:=by
  rw[hn];unfold Program.keyLits;rw[F_];simp[ei,Kx,Tryz.Kt,Tryz.Pq,Yk,h1,h2]
 obtain⟨ls,h⟩:=hk;rw[h];exact⟨_,rfl⟩
def xr (n0 K:Nat) (L1:List Value) (c:Value):Nat->Value->By->Prop
 | 0,v,W=>W.ownsRow n0 5 1 v K L1
 | 1,v,W=>W.ownsRow n0 5 1 v (K+1) (L1++ [c])
 | 2,v,W=>∀ b,v=AI (An ⟨b,0,As⟩) 1 1->ar W b #[c] 5
 | _,_,_=>True
theorem oJ (n0 K:Nat) (L1:List Value) (c:Value):∀ i v A B,aa A B->xr n0 K L1 c i v A->xr n0 K L1 c i v B
 | 0,_,_,_,hb,h=>ai (show J_ _ _ _ _ _ _ _ from h) hb
 | 1,_,_,_,hb,h=>ai (show J_ _ _ _ _ _ _ _ from h) hb
 | 2,_,_,_,hb,h=>fun b e=>(h b e).below hb (h b e).lt
 | _+3,_,_,_,_,_=>trivial
theorem Ce {n0 K g cap:Nat} {L1:List Value} {c:Value} {W W':By} (ho:W.ownsRow n0 5 1 (AI (An ⟨g,0,As⟩) K cap) K L1) (mL:W'.ownsRow n0 5 1 (AI (An ⟨g,0,As⟩) (K+1) cap) (K+1) (L1++ [c])) (hg:W.grownBy W' (An g)):∀ i v,xr n0 K L1 c i v W->xr n0 K L1 c i v W'
 | 0,v,h=>by
  have:=lJ (Kb:=1) (L2:=[c]) (by decide) ho mL hg 0 v h;exact this
 | 1,v,h=>by
  have:=lJ (Kb:=1) (L2:=[c]) (by decide) ho mL hg 1 v h;exact this
 | 2,v,h=>fun b e=>by
  have hb:=h b e;by_cases e2:b=g
  ·subst e2
   rcases ho.2 with⟨h1,_⟩ | ⟨g1,c1,Yd,h1,_,f1,_,_,s1,_⟩
   ·cases h1
   ·cases h1
    rcases mL.2 with⟨h2,_⟩ | ⟨g2,c2,Lm,h2,_,f2,k2,_,s2,t2⟩
    ·cases h2
    ·cases h2
     unfold ar at hb;rw[hb]at f1;cases f1;have hc1:cap=1:=by simpa using s1.symm
     subst hc1;have hK:K=0:=by omega
     subst hK;have hL:L1=[]:=List.eq_nil_of_length_eq_zero (by have:=ho.1;omega);subst hL;have e3:Lm= #[c]:=by
      apply Array.toList_inj.1;have e4:Lm.toList.length=1:=by rw[Array.length_toList];omega
      have t3:Lm.toList.take 1=[c]:=by simpa using t2
      rw[B' (by omega)]at t3;exact t3
     unfold ar;rw[f2,e3]
  ·unfold ar
   rw[hg.block b hb.lt (fun e3=>e2 (by cases e3;rfl))];exact hb
 | _+3,_,_=>trivial
theorem Jd {a b:DF} (ra:Rt a) (rb:Rt b) (s t c:Nat) (hs:s<a.nx.length) (ht:t<b.nx.length) (hc:c<256) (ab xb bb yb xa ya base base':Nat) (va vb:Value) (W:By) (h1:W.cell? ⟨ab,1,As⟩=An va) (h2:fy W va a.nx) (h3:W.cell? ⟨bb,1,As⟩=An vb) (h4:fy W vb b.nx) (h5:W.cell? ⟨xb,0,As⟩=An (AF (An ⟨xa,0,As⟩))) (h6:cQ W base (AF (An ⟨xa,0,As⟩)) a.cl) (h7:W.cell? ⟨yb,0,As⟩=An (AF (An ⟨ya,0,As⟩))) (h8:cQ W base' (AF (An ⟨ya,0,As⟩)) b.cl): ah 122 #[Is #[AN AS s,AN AS t],AN Lo c,AF (An ⟨ab,0,As⟩),AF (An ⟨xb,0,As⟩),AF (An ⟨bb,0,As⟩),AF (An ⟨yb,0,As⟩)] W fun e w'=>e=C' (Is #[AN AS (eH a s (cls a.cl c):Nat),AN AS (eH b t (cls b.cl c):Nat)])/\aa W w':=by
 have hka:cls a.cl c<a.cl.length:=ra.part.ft hc;have hkb:cls b.cl c<b.cl.length:=rb.part.ft hc;obtain⟨e1,e2⟩:=nP ra hs hka;obtain⟨e3,e4⟩:=nP rb ht hkb;obtain⟨a1,c1,rfl⟩:=h2.form;obtain⟨b1,d1,rfl⟩:=h4.form;obtain⟨g1,o1,ad1,cp1,rfl,hg1,hc1,yE⟩:=h2.elem (i:=s) (l:=a.nx.getD s []) (bn [] hs);obtain⟨g2,o2,Tw,Tx,rfl,hg2,hc2,hl2⟩:=h4.elem (i:=t) (l:=b.nx.getD t []) (bn [] ht);obtain⟨g3,o3,rfl,hg3,hc3⟩:=yE.elem e2;obtain⟨g4,o4,rfl,hg4,N8⟩:=hl2.elem e4;rw[ra.len s hs]at hc1;rw[rb.len t ht]at hc2;obtain⟨k,hk⟩:=ag (cls a.cl c);obtain⟨l,hl⟩:=ag (cls b.cl c);obtain⟨x,hx⟩:=ag (eH a s (cls a.cl c));obtain⟨y,hy⟩:=ag (eH b t (cls b.cl c));obtain⟨n0,bX⟩:=ag a.cl.length;obtain⟨n1,cM⟩:=ag a.nx.length;obtain⟨m0,nZ⟩:=ag b.cl.length;obtain⟨m1,lA⟩:=ag b.nx.length;replace hc3:W.cell? ⟨g3,o3+cls a.cl c,As⟩=An (AN AS (eH a s (cls a.cl c):Nat)):=hc3;replace N8:W.cell? ⟨g4,o4+cls b.cl c,As⟩=An (AN AS (eH b t (cls b.cl c):Nat)):=N8;rw[<-hx, <-hk]at hc3;rw[<-hy, <-hl]at N8;rw[<-hx, <-hy];rw[<-bX]at hc1 hka;rw[<-nZ]at hc2 hkb;rw[<-cM]at h1 hs;rw[<-lA]at h3 ht;rw[<-hk]at hka;rw[<-hl]at hkb;have CA:DS (∀ W',aa W W'->ah 123 #[AF (An ⟨xa,0,As⟩),AN Lo c] W' fun e w'=>e=C' (AN AS k)/\w'=W'):=AT fun W' hW=>by rw[hk];exact yP _ base a.cl c hc W' (h6.below hW)
 have CB:DS (∀ W',aa W W'->ah 123 #[AF (An ⟨ya,0,As⟩),AN Lo c] W' fun e w'=>e=C' (AN AS l)/\w'=W'):=AT fun W' hW=>by rw[hl];exact yP _ base' b.cl c hc W' (h8.below hW)
 have Gi:(s:Int)<n1:=by omega
 have hti:(t:Int)<m1:=by omega
 have ed:(k:Int)<n0:=by omega
 have hli:(l:Int)<m0:=by omega
 have l1:ab<W.heap.size:=Bm _ _ h1;have l3:bb<W.heap.size:=Bm _ _ h3;have l5:xb<W.heap.size:=Bm _ _ h5;have l7:yb<W.heap.size:=Bm _ _ h7;clear h2 h4 h6 h8 e1 e2 e3 e4 yE hl2 hk hl hx hy bX cM nZ lA ra rb;go_enter Tryz.func122,Tryz.ntmps122;go_upto_region 1 with fail
 refine aw ?_;intro V hV;have P0:DS (ar V W.heap.size #[AN AS s,AN AS t] 133):=AT (by rw[hV];exact(ar.new W _ _).alloc _);have R0:DS (ar V (W.heap.size+1) #[AN AS 0,AN AS 0] 133):=AT (by rw[hV];exact(ar.new (W.alloc _) _ _).at (by simp));have X0:DS (aa W V):=AT (by rw[hV];exact(((Ext.refl W).alloc _).alloc _).below);clear hV;have tI:∀ b o u,b<W.heap.size->W.cell? ⟨b,o,As⟩=An u->V.cell? ⟨b,o,As⟩=An u:=fun b o u hb h=>((ae.aj X0 fun _ h=>h:ae (· <W.heap.size) W V).cell (p:=⟨b,o,As⟩) hb).trans h
 have hWV:W.heap.size<=V.heap.size:=X0.size;replace h1:=tI _ _ _ l1 h1;replace h3:=tI _ _ _ l3 h3;replace h5:=tI _ _ _ l5 h5;replace h7:=tI _ _ _ l7 h7;replace hc1:=tI _ _ _ hg1 hc1;replace hc2:=tI _ _ _ hg2 hc2;replace hc3:=tI _ _ _ hg3 hc3;replace N8:=tI _ _ _ hg4 N8;have p0:V.cell? ⟨W.heap.size,0,As⟩=An (AN AS s):=P0.cell 0;have p1:V.cell? ⟨W.heap.size,1,As⟩=An (AN AS t):=P0.cell 1;clear tI;refine aI GO (fun _=>False) (by kernel_rfl) 22 [0,1,0,4,15,31,0,0,192,511,1023,0,2048,0,8192,30720,63488,0,0,393664,1046976,2095552,4194303,8388607] (fun i=>i==8 || i==19) (by kernel_rfl) (fun i=>if i=8 then aU.Cm _ (AN AS k)else if i=19 then aU.Cm _ (AN AS l)else aU.any _) ?_;intro C hC hne;have HC:=AT hC;have f1:=aD hC (p:=⟨ab,1,As⟩) (by show ab<V.heap.size;omega) (fun h=>h) h1;have f2:=aD hC (p:=⟨g1,o1+s,As⟩) (by show g1<V.heap.size;omega) (fun h=>h) hc1;have f3:=aD hC (p:=⟨g3,o3+k,As⟩) (by show g3<V.heap.size;omega) (fun h=>h) hc3;have f4:=aD hC (p:=⟨bb,1,As⟩) (by show bb<V.heap.size;omega) (fun h=>h) h3;have f5:=aD hC (p:=⟨g2,o2+t,As⟩) (by show g2<V.heap.size;omega) (fun h=>h) hc2;have f6:=aD hC (p:=⟨g4,o4+l,As⟩) (by show g4<V.heap.size;omega) (fun h=>h) N8;have f7:=aD hC (p:=⟨xb,0,As⟩) (by show xb<V.heap.size;omega) (fun h=>h) h5;have f8:=aD hC (p:=⟨yb,0,As⟩) (by show yb<V.heap.size;omega) (fun h=>h) h7;have f9:=aD hC (p:=⟨W.heap.size,0,As⟩) P0.lt (fun h=>h) p0;have f10:=aD hC (p:=⟨W.heap.size,1,As⟩) P0.lt (fun h=>h) p1;clear hC h1 h3 h5 h7 hc1 hc2 hc3 N8 p0 p1
 repeat (refine au (fun K hK=>?_);first | (refine bL rfl ?_;try go_simp;refine hK _ _ ?_;clear hK K) | (refine bJ rfl rfl ?_;unfold az;go_simp;refine hK _ _ ?_;clear hK K))
 refine au (fun K hK=>?_);refine bS rfl rfl (aU.Cm _ (AN AS k)) rfl (fun W hW hN=>?_) (fun v hv=>?_)
 ·have hM:=(HC.out W).1 hW
  clear hW;go_simp;refine bA ((CA W (X0.trans (hM.below.mono hWV))).mono ?_);rintro e w2 ⟨rfl,rfl⟩;exact⟨_,rfl,Move.aj (Below.refl _ _),rfl,trivial⟩
 replace hv:v=_:=hv;subst hv;go_simp;refine hK _ _ ?_;clear hK K
 repeat (refine au (fun K hK=>?_);first | (refine bL rfl ?_;try go_simp;refine hK _ _ ?_;clear hK K) | (refine bJ rfl rfl ?_;unfold az;go_simp;refine hK _ _ ?_;clear hK K))
 refine au (fun K hK=>?_);refine bS rfl rfl (aU.Cm _ (AN AS l)) rfl (fun W hW hN=>?_) (fun v hv=>?_)
 ·have hM:=(HC.out W).1 hW
  clear hW;go_simp;refine bA ((CB W (X0.trans (hM.below.mono hWV))).mono ?_);rintro e w2 ⟨rfl,rfl⟩;exact⟨_,rfl,Move.aj (Below.refl _ _),rfl,trivial⟩
 replace hv:v=_:=hv;subst hv;go_simp;refine hK _ _ ?_;clear hK K
 repeat (refine au (fun K hK=>?_);first | (refine bL rfl ?_;try go_simp;refine hK _ _ ?_;clear hK K) | (refine bJ rfl rfl ?_;unfold az;go_simp;refine hK _ _ ?_;clear hK K))
 refine bC (fun W2 hW hH=>?_);have hM:=(HC.out W2).1 hW;have R2:=AT (R0.below hM.below R0.lt);have X2:=AT (X0.trans (hM.below.mono hWV));clear hM hW hH HC hne f1 f2 f3 f4 f5 f6 f7 f8 f9 f10;have r0:=R2.cell 0;have r1:=R2.cell 1;have z0:=R2.frozen 0;have z1:=R2.frozen 1;simp only[DP,DE,D_]at r0 r1;go_wp2;refine aQ ?_;intro W9 dG;have E9:DS (ar W9 (W.heap.size+1) #[AN AS x,AN AS y] 133/\ae (· ≠W.heap.size+1) W2 W9):=by
  rw[dG];exact AT ⟨(R2.set 0 _).set 1 _,((ae.refl _ _).setCell (p:=⟨W.heap.size+1,0,As⟩) (fun h=>h rfl) _).setCell (p:=⟨W.heap.size+1,1,As⟩) (fun h=>h rfl) _⟩
 clear dG r0 r1 z0 z1;have q0:=E9.1.cell 0;have q1:=E9.1.cell 1;simp only[DP,DE,D_]at q0 q1;refine H' (v:=Is #[AN AS x,AN AS y]) (by simp[results,Tryz.results122,go_sem,q0,q1]) rfl ⟨rfl,X2.trans (E9.2.mono fun z (hz:z<W.heap.size)=>by show z≠W.heap.size+1;omega:ae (· <W.heap.size) W2 W9).below⟩
structure yx (W:By) (base mp:Nat) (E:List ((Nat×Nat)×List Nat)) (es:List (Value×Value)):Prop where
 len:es.length=E.length
 map:qq W mp es
 WY:∀ (i:Nat) (x:(Nat×Nat)×List Nat),E[i]? =An x->∃ v,es[i]? =An (ei x.1,v)/\W.ownsRow base 5 1 v x.2.length (x.2.map en)
theorem yx.below {W W':By} {base mp:Nat} {E:List ((Nat×Nat)×List Nat)} {es:List (Value×Value)} (h:yx W base mp E es) (hk:aa W W'):yx W' base mp E es:=
 ⟨h.len,h.map.below hk,fun i x hx=>by
  obtain⟨v,h1,h2⟩:=h.WY i x hx
  exact⟨v,h1,ai h2 hk⟩⟩
theorem yx.kept {W W':By} {base mp b2 n size:Nat} {e:It} {v:Value} {xs:List Value} {E:List ((Nat×Nat)×List Nat)} {es:List (Value×Value)} (h:yx W base mp E es) (ho:W.ownsRow b2 e size v n xs) (he:5≠e) (hg:W.grownBy W' v.ownBlock):yx W' base mp E es:=
 ⟨h.len,(hg.block mp h.map.lt (fun e2=>lS ho h.map (fun c fz e=>by cases e) mp e2.symm rfl)).trans h.map,fun i x hx=>by
  obtain⟨v,h1,h2⟩:=h.WY i x hx
  exact⟨v,h1,h2.kept hg (ownBlock_ne he h2 ho)⟩⟩
theorem yx.put {W W':By} {base mp:Nat} {E:List ((Nat×Nat)×List Nat)} {es:List (Value×Value)} {q:Nat×Nat} {wd:List Nat} {v:Value} (h:yx W base mp E es) (hv:W.ownsRow base 5 1 v wd.length (wd.map en)) (hm:qq W' mp (es++ [(ei q,v)])) (hk:ae (· ≠mp) W W'):yx W' base mp (E++ [(q,wd)]) (es++ [(ei q,v)]):=by
 have hrow:∀ (u:Value) (n:Nat) (xs:List Value),W.ownsRow base 5 1 u n xs->W'.ownsRow base 5 1 u n xs:=fun u n xs ho=>ak ho hk fun x hx=>lS ho h.map (fun c fz e=>by cases e) x hx
 refine⟨by rw[aJ,aJ,h.len];rfl,hm,fun i x hx=>?_⟩;by_cases hi:i<E.length
 ·rw[bH hi]at hx
  obtain⟨u,h1,h2⟩:=h.WY i x hx;exact⟨u,by rw[bH (by rw[h.len];exact hi)];exact h1,hrow _ _ _ h2⟩
 ·have fT:=(C_.1 hx).1
  rw[aJ,Ft]at fT;obtain rfl:i=E.length:=by omega
  rw[cF (aF _),Nat.sub_self]at hx;cases hx;exact⟨v,by rw[cF (by rw[h.len];exact aF _),h.len,Nat.sub_self];rfl,hrow _ _ _ hv⟩
theorem yx.keys {W:By} {base mp:Nat} {E:List ((Nat×Nat)×List Nat)} {es:List (Value×Value)} (h:yx W base mp E es) (hE:∀ y∈E,y.1.1<=4000/\y.1.2<=4000):∀ p∈es,∃ k,keyOf AM 133 p.1=An k:=fun p hp=>by
 obtain⟨i,hi⟩:=DH.1 hp;have fT:=(C_.1 hi).1;have hx:E[i]? =An (E[i]'(by rw[<-h.len];exact fT)):=aB _;obtain⟨v,h1,_⟩:=h.WY i _ hx;rw[hi]at h1;cases h1;obtain⟨h2,h3⟩:=hE _ (ax hx);exact FJ _ h2 h3
set_option maxRecDepth 100000
theorem yx.look {W:By} {base mp:Nat} {E:List ((Nat×Nat)×List Nat)} {es:List (Value×Value)} (h:yx W base mp E es) (hE:∀ y∈E,y.1.1<=4000/\y.1.2<=4000) (q:Nat×Nat) (h1:q.1<=4000) (h2:q.2<=4000): (q∉E.map FF/\(∀ p∈es,p.1≠ei q)/\(A_ 206 (.map (An mp)) (ei q) I').run AM W=.ok (H_ #[AI As 0 0,IF GO]) W)\/ (∃ (i:Nat) (wd:List Nat) (v:Value),E[i]? =An (q,wd)/\W.ownsRow base 5 1 v wd.length (wd.map en)/\(A_ 206 (.map (An mp)) (ei q) I').run AM W=.ok (H_ #[v,IF I']) W/\(A_ 206 (.map (An mp)) (ei q) GO).run AM W=.ok v W):=by
 have hz:(zeroValue 44).run AM W=.ok (AI As 0 0) W:=by kernel_rfl
 rcases Ks Tryz.uI D0 hz h.map (h.keys hE) (ei q) (FJ q h1 h2)with⟨g1,g2,_⟩ | ⟨i,v,g1,g2,g3⟩
 ·refine .inl ⟨fun hm=>?_,g1,g2⟩
  obtain⟨y,hy,rfl⟩:=J'.1 hm;obtain⟨i,hi⟩:=DH.1 hy;obtain⟨v,h3,_⟩:=h.WY i y hi;exact g1 _ (ax h3) rfl
 ·have fT:=(C_.1 g1).1
  have hx:E[i]? =An (E[i]'(by rw[<-h.len];exact fT)):=aB _;obtain⟨u,h3,h4⟩:=h.WY i _ hx;rw[g1]at h3;injection h3 with h3
  injection h3 with h5 h6
  subst h6;have h7:=yY h5;refine .inr ⟨i,_,v,?_,h4,g2,g3⟩;rw[hx];congr 1;exact IN h7.symm rfl
theorem yx.val {W:By} {base mp:Nat} {E:List ((Nat×Nat)×List Nat)} {es:List (Value×Value)} (h:yx W base mp E es) (hE:∀ y∈E,y.1.1<=4000/\y.1.2<=4000) (hn:(E.map FF).Nodup) {i:Nat} {x:(Nat×Nat)×List Nat} (hx:E[i]? =An x): ∃ a c,W.ownsRow base 5 1 (AI a x.2.length c) x.2.length (x.2.map en)/\∀ W',qq W' mp es->(A_ 206 (.map (An mp)) (ei x.1) GO).run AM W'=.ok (AI a x.2.length c) W':=by
 obtain⟨v,h1,h2⟩:=h.WY i x hx;obtain⟨a,c,rfl⟩:=ownsRow_form h2;refine⟨a,c,h2,fun W' Ll=>?_⟩;obtain⟨b1,b2⟩:=hE x (ax hx);have hz:(zeroValue 44).run AM W'=.ok (AI As 0 0) W':=by kernel_rfl
 rcases Ks Tryz.uI D0 hz Ll (h.keys hE) (ei x.1) (FJ x.1 b1 b2)with⟨g1,_,_⟩ | ⟨j,v,g1,_,g3⟩
 ·exact absurd rfl (g1 _ (ax h1))
 ·have FZ:=(C_.1 g1).1
  have hy:E[j]? =An (E[j]'(by rw[<-h.len];exact FZ)):=aB _;obtain⟨u,h3,_⟩:=h.WY j _ hy;rw[g1]at h3;injection h3 with h3
  injection h3 with h5 _
  have e1:(E.map FF)[j]? =An x.1:=by rw[aN,hy];exact congrArg An (yY h5).symm
  have e2:(E.map FF)[i]? =An x.1:=by rw[aN,hx];rfl
  have e3:j=i:=(jM hn e1).symm.trans (jM hn e2);subst e3;rw[h1]at g1;injection g1 with g1
  injection g1 with _ g4
  rw[<-g4]at g3;exact g3
theorem yx.one {W:By} {base mp:Nat} {q:Nat×Nat} (h:qq W mp [(ei q,AI As 0 0)]):yx W base mp [(q,[])] [(ei q,AI As 0 0)]:=⟨rfl,h,fun i x hx=>by
 cases i with
 | zero=>cases hx;exact⟨_,rfl,World.ownsRow_nil _ _ _ _⟩
 | succ i=>simp at hx⟩
section
variable {α:Type} [DecidableEq α]
theorem xw {F:α->Nat->α} {lt:Nat->Nat} {x:α×List Nat} {E:List (α×List Nat)} :∀ k,∀ y∈iu F lt x E k,y∈E\/∃ j,j<k/\y=(F x.1 j,x.2++ [lt j])
 | 0,y,hy=>.inl hy
 | k+1,y,hy=>by
  rw[iu,Bx]at hy;split at hy
  ·rcases xw k y hy with h | ⟨j,h1,h2⟩
   ·exact .inl h
   ·exact .inr ⟨j,by omega,h2⟩
  ·rcases List.mem_append.1 hy with hy | hy
   ·rcases xw k y hy with h | ⟨j,h1,h2⟩
    ·exact .inl h
    ·exact .inr ⟨j,by omega,h2⟩
   ·exact .inr ⟨k,by omega,by simpa using hy⟩
theorem oK {F:α->Nat->α} {lt:Nat->Nat} {K:Nat} {p0:α} :∀ n,∀ y∈iG F lt K p0 n,y.2.length<=n
 | 0,y,hy=>by
  have:y=(p0,[]):=by simpa[iG]using hy
  rw[this];exact aF _
 | n+1,y,hy=>by
  rw[iG]at hy;split at hy
  ·have:=oK n y hy;omega
  ·rename_i x hx
   rcases xw K y hy with h | ⟨j,_,h2⟩
   ·have:=oK n y h;omega
   ·have:=oK n x (ax hx)
    rw[h2,aJ,Ft];show x.2.length+1<=n+1;omega
end
theorem FK {F:Nat×Nat->Nat->Nat×Nat} {lt:Nat->Nat} {x:(Nat×Nat)×List Nat} {E:List ((Nat×Nat)×List Nat)} :∀ k,E.length<=(iu F lt x E k).length
 | 0=>aF _
 | k+1=>by
  have h:=FK (F:=F) (lt:=lt) (x:=x) (E:=E) k;rw[iu,Bx];split
  ·exact h
  ·rw[aJ];omega
theorem FM {F:Nat×Nat→Nat→Nat×Nat} {lt:Nat→Nat} {x:(Nat×Nat)×List Nat} {E:List ((Nat×Nat)×List Nat)} {k m:Nat} (h:k≤m):(iu F lt x E k).length≤ (iu F lt x E m).length:=by
  induction m with
  | zero => obtain rfl : k = 0 := by omega
            exact aF _
  | succ m ih =>
    by_cases e : k = m + 1
    · subst e; exact aF _
    · refine Nat.le_trans (ih (by omega)) ?_
      rw[iu,Bx];split
      · exact aF _
      · rw[aJ];omega
def TA:List Int->Int
 | []=>0
 | a::r=>r.foldl max a
theorem FN {l:List Int} {k:Nat} {x:Int} (hk:1<=k) (hx:l[k]? =An x):TA (l.take (k+1))=max (TA (l.take k)) x:=by
 obtain⟨j,rfl⟩:∃ j,k=j+1:=⟨k-1,by omega⟩;cases l with
 | nil=>cases hx
 | cons a r=>
  have h:r[j]? =An x:=hx;rw[G_,G_];show(r.take (j+1)).foldl max a=max ((r.take j).foldl max a) x;rw[List.take_add_one,h,List.foldl_append];rfl
theorem SI (v:Value) (l:List Int) (hl:0<l.length) (hn:l.length<=1000000) {M:Int} (hM:M=TA l) (w:By) (h:bw aG w v l): ah 38 #[v] w fun e w'=>e=C' (AN AS M)/\aa w w':=by
 obtain⟨a,c,rfl⟩:=h.form;obtain⟨n,qE⟩:=ag l.length;rw[<-qE]at h hl hn ⊢;obtain⟨x0,hx0⟩:∃ x,l[0]? =An x:=⟨_,aB (by omega)⟩;obtain⟨b,off,rfl,hb,c0⟩:=h.elem hx0;replace c0:w.cell? ⟨b,off,As⟩=An (AN AS x0):=c0;have h1:¬ ((n:Int)<1):=by omega
 have h0:TA (l.take 1)=x0:=by
  cases l with
  | nil=>cases hx0
  | cons a r=>cases hx0;rfl
 have H:=AT h;have HM:=AT hM;have HN:=AT qE;have H0:=AT h0;clear h hM qE hx0 h0;go_enter Tryz.func38,Tryz.ntmps38;go_wp2;go_loopw [3,4] (fun m i wr=>∃ k:Nat,1<=k/\k<=n/\i=AN AS k/\m=AN AS (TA (l.take k))/\aa w wr) (fun _ i _=>n-(intOf i).toNat);case atStart=>exact⟨1,by omega,by omega,rfl,by rw[H0.out],Below.refl _ _⟩
 case round=>
  obtain⟨k,mj,hk,rfl,rfl,hx⟩:=hrel;obtain⟨wo,rfl⟩:=ag (wr:By);by_cases hlt:k<n
  ·have ed:(k:Int)<n:=by omega
   obtain⟨x,MR⟩:∃ x,l[k]? =An x:=⟨_,aB (by have:=HN.out;omega)⟩;obtain⟨b',off',e,_,cx⟩:=(H.below hx).elem MR;cases e;replace cx:wo.cell? ⟨b,off+k,As⟩=An (AN AS x):=cx;have HT:=AT (FN mj MR);have HX:=AT hx;generalize TA (l.take k)=mk at HT ⊢;clear hx MR c0;go_wp2;go_roundw;case rel=>exact⟨k+1,by omega,by omega,by go_num,by rw[HT.out],HX⟩
   case measure=>simp[intOf];omega
  ·obtain rfl:k=n:=by omega
   have ed:¬ ((k:Int)<k):=by omega
   have ht:TA (l.take k)=M:=by rw[HM.out,HN.out,List.take_length]
   rw[ht];have HX:=AT hx;clear ht hx c0;go_wp2;go_ret;exact⟨rfl,HX⟩
end
section
open Go Go.RowKit
theorem xy {p q:Nat->Nat} :∀ {n:Nat},(∀ s,s<n->p s=q s)->cO p n=cO q n
 | 0,_=>rfl
 | n+1,h=>by rw[cO,cO,xy fun s hs=>h s (by omega),h n (by omega)]
theorem Fits.congr {d:DF} (h:Rt d) {p q:Nat->Nat} (e:∀ s,s<d.nx.length->p s=q s) (f:Fits d p):Fits d q where
 num s hs:=by rw[<-e s hs, <-xy fun t ht=>e t (by omega)];exact f.num s hs
 mark s t hs ht x:=f.mark s t hs ht (by rw[e s hs,e t ht,x])
 next s t k hs ht hk x:=by
  rw[<-e _ (h.jJ hs hk), <-e _ (h.jJ ht hk)];exact f.next s t k hs ht hk (by rw[e s hs,e t ht,x])
def sP (f:Nat->Nat) (n:Nat):List Int:=((K_ n).map f).map Int.ofNat
theorem iJ (f:Nat->Nat) (n:Nat):(sP f n).length=n:=by unfold sP;rw[aP,aP,List.length_range]
theorem SJ (f:Nat->Nat) {n s:Nat} (hs:s<n):(sP f n)[s]? =An ((f s:Nat):Int):=by unfold sP;rw[aN,aN,G' hs];rfl
theorem Ns (f:Nat->Nat) (n:Nat):sP f (n+1)=sP f n++ [((f n:Nat):Int)]:=by unfold sP;rw[List.range_succ,FG,FG];rfl
theorem Ku (f:Nat->Nat):∀ n,0<n->TA (sP f n)+1=((cO f n:Nat):Int)
 | 0,h=>by omega
 | 1,_=>by
  show((f 0:Nat):Int)+1=((max 0 (f 0+1):Nat):Int);omega
 | n+2,_=>by
  have ih:=Ku f (n+1) (by omega);have h1:=FN (l:=sP f (n+2)) (k:=n+1) (by omega) (SJ f (by omega));rw[B' (by rw[iJ];omega)]at h1;have h2:(sP f (n+2)).take (n+1)=sP f (n+1):=by rw[Ns,List.take_append_of_le_length (by rw[iJ];omega),B' (by rw[iJ];omega)]
  rw[h2]at h1;rw[h1,cO];omega
theorem Vy {d:DF} (h:Rt d) (h1:1<cO (fS d) d.nx.length):¬FE d (A' d.nx.length 0):=fun ⟨_,h2,h3⟩=>by
 have e:∀ s,s<d.nx.length->iH (A' d.nx.length 0) s=0:=fun s hs=>by
  unfold iH;rw[bB,Bs,if_pos hs];rfl
 have:=Na h (((Fk h fun s hs=>(h2 s hs).2).1 h3).congr h e);omega
theorem Kv {d:DF} (h:Rt d) {z:Int} (hz:z<0\/0<z):¬FE d (A' d.nx.length z):=fun ⟨_,h2,_⟩=>by
 have h3:=h2 0 h.pos;have e:(A' d.nx.length z).getD 0 0=z:=by rw[bB,Bs,if_pos (show 0<d.nx.length from h.pos)];rfl
 unfold iH at h3;rw[e,cO]at h3;omega
end
section
open Go Go.RowKit Go.Shelf Go.Maps
theorem Je (n:Nat):(madeCells (AN AS 0).cells (n*1)).toList=A' n (AN AS 0):=by
 apply List.ext_getElem?;intro i;simp only[madeCells,Kx,Nat.mul_one,Array.toList_map,Array.toList_range,aN,Bs];rcases Nat.lt_or_ge i n with h | h
 ·rw[G' h,if_pos h];simp[Nat.mod_one]
 ·rw[aT (by simpa using h),if_neg (by omega)];rfl
def nR (n m:Nat) (h:Value):List Value:=A' m h++A' (n-m) (AN AS 0)
theorem xz {n m:Nat} (h:Value) (hm:m<=n):(nR n m h).length=n:=by unfold nR;simp;omega
theorem zX {base g n m k:Nat} {h:Value} {W:By} (h1:h.oneCell'=I') (ho:W.ownsRow base 3 1 (AI (An ⟨g,0,As⟩) n n) n (nR n m h)) (hk:m+k<=n) (a:Addr) (sl sc:Nat) (hs:∀ j,j<k->W.cell? (a.add j)=An h) (VS:k=Nat.min sl (n-m)) (ty:It): ∃ W',(Builtin.copy_ #[39,39] ty #[AI (An ⟨g,m,As⟩) (n-m) (n-m),AI (An a) sl sc]).run AM W=.ok (AN AS k) W'/\W'.ownsRow base 3 1 (AI (An ⟨g,0,As⟩) n n) n (nR n (m+k) h)/\ae (· ≠g) W W':=by
 rcases ho.2 with⟨e,_⟩ | ⟨g',cap,cur,e,hb,hg,hc,hcm,hsz,er⟩
 ·cases e
 ·cases e
  have uZ:cur.toList=nR n m h:=by rw[<-er,B'];simp[hsz]
  refine⟨_,by
         have:=run_copy_row (P:=AM) W 39 39 ty 3 g m (n-m) (n-m) a sl sc cur 3 (A' k h) If (by kernel_rfl) hg (by rw[Cd];exact VS) (fun j v hj=>by
    rw[Bs]at hj;split at hj
    ·cases hj;exact hs j (by assumption)
    ·cases hj) (by rw[Cd,hsz];omega) (fun v hv=>by rw[List.eq_of_mem_replicate hv];exact h1)
         rw[Cd]at this
         exact this,?_,(ae.refl _ _).setRow (fun h=>h rfl) _⟩
  have Iq:(cur.toList.take m++A' k h++cur.toList.drop (m+k))=nR n (m+k) h:=by rw[uZ];unfold nR;rw[List.take_left' (by simp),List.replicate_append_replicate];congr 1;rw[List.drop_append,List.drop_eq_nil_of_le (by simp),Cd,List.nil_append,List.drop_replicate];congr 1;omega
  rw[Iq];refine⟨by rw[xz h hk];omega,.inr ⟨g,n,_,rfl,hb,setRow_heap W g cur _ _ _ hg,hc,hcm,by simp[xz h hk],?_⟩⟩;rw[B'];simp[xz h hk]
def Vz (g n m:Nat) (h:Value) (A B:By):Prop:=ae (fun x=>x<A.heap.size/\x≠g) A B/\(A.ownsRow g 3 1 (AI (An ⟨g,0,As⟩) n n) n (nR n m h)->B.ownsRow g 3 1 (AI (An ⟨g,0,As⟩) n n) n (nR n m h))
theorem Vz.trans {g n m:Nat} {h:Value} {A B C:By} (h1:Vz g n m h A B) (h2:Vz g n m h B C):Vz g n m h A C:=⟨h1.1.trans h2.1 fun _ hx=>⟨ay hx.1 h1.1.size,hx.2⟩,fun a=>h2.2 (h1.2 a)⟩
theorem Vz.drew {g n m:Nat} {h:Value} {A:By} :Vz g n m h A A.drew:=⟨(ae.refl _ _).drew,fun a=>a⟩
def WZ (g n m:Nat) (h v:Value):aU (Vz g n m h):=⟨fun u=>u=v,fun _ W=>W.ownsRow g 3 1 (AI (An ⟨g,0,As⟩) n n) n (nR n m h),v,rfl,fun _ _ _ hm _ h=>hm.2 h⟩
theorem tS (gb:Nat) (z:Int) (n:Nat) (hn:n<=64) (w:By) (hc:w.cell? ⟨gb,0,As⟩=An (AN AS z)): ah 37 #[AI (An ⟨gb,0,As⟩) 1 1,AN AS n] w fun e w'=>∃ a c,e=C' (AI a n c)/\w'.ownsRow w.heap.size 3 1 (AI a n c) n (A' n (AN AS z))/\aa w w':=by
 obtain⟨h,hh9⟩:=ag (AN AS z);have h1h:h.oneCell'=true:=by rw[hh9];simp[GS]
 rw[<-hh9]at hc;have HZ:=AT hh9;clear hh9;obtain⟨iL,uC,j6,j7,j8⟩:=IT Tryz.ki;have CM:=AT (Kc n hn);have cv1:IntKind.u64.wrap (n:Int)=n:=by have:=IntWalk.u64_in (n:Int) (by omega);exact this
 have cv2:AS.wrap (n:Int)=n:=IntWalk.i64_in _ (by omega);have d1:decide ((n:Int)<0)=false:=decide_eq_false (by omega);have d2:decide ((9223372036854775807:Int)<(n:Int))=false:=decide_eq_false (by omega);have HCc:=AT hc;have hgb:=Bm _ _ hc;clear hc;go_enter Tryz.func37,Tryz.ntmps37;go_wp2_with fail
 refine(CM w).mono ?_;rintro e w2 ⟨rfl,hw⟩;replace hw:=hw.symm;subst hw;go_wp2_with (at_make;refine wpList_make_full _ rfl (.tmp 29) (.tmp 29) 39 rfl w.heap.size 3 iL (AN AS 0) 1 If uC j6 j7 AS AS _ _ n rfl rfl rfl rfl (by rw[j8];omega) (by unfold maxLen;omega) (aF _) ?_;intro w3 hr hg;refine Hid.out ?_);refine AT ?_;have hs3:w.heap.size<w3.heap.size:=by
  rcases hr.2 with⟨h5,_⟩ | ⟨g,c,cur,h5,_,h6,_⟩
  ·cases h5
  ·cases h5;exact(DQ.1 h6).1
 have hb3:aa w w3:=(ae.aZ hg fun x hx=>⟨hx,fun e=>by cases e⟩:ae (· <w.heap.size) w w3).below;rw[Je]at hr;have hr2:w3.ownsRow w.heap.size 3 1 (AI (An ⟨w.heap.size,0,As⟩) n n) n (nR n 0 h):=by unfold nR;rw[Nat.sub_zero];exact hr
 have hc3:w3.cell? ⟨gb,0,As⟩=An h:=((ae.aj hb3 fun _ h=>h:ae (· <w.heap.size) w w3).cell (p:=⟨gb,0,As⟩) hgb).trans HCc
 obtain⟨w4,yO,Vd,hk4⟩:=zX (k:=Nat.min 1 n) h1h hr2 (by rw[Nat.zero_add];exact Nat.min_le_right _ _) ⟨gb,0,As⟩ 1 1 (fun j hj=>by
  have Yi:j=0:=by have:=ay hj (Nat.min_le_left 1 n);omega
  subst Yi
  exact hc3) (by rw[Nat.sub_zero]) 3
 rw[Nat.sub_zero]at yO;rw[Nat.zero_add]at Vd;obtain⟨k0,rS⟩:=ag (Nat.min 1 n);rw[<-rS]at yO Vd;have Iu:k0<=n/\(n=0\/1<=k0):=by rw[rS];unfold Nat.min;constructor<;>omega
 have HO4:=AT Vd;have X4:DS (aa w w4):=AT (hb3.trans (hk4.mono fun x hx=>by have h5:x<w.heap.size:=hx;show x≠w.heap.size;omega:ae (· <w.heap.size) w3 w4).below);clear hr hr2 hg hb3 hc3 Vd hk4 rS CM;go_wp2_with (at_builtin;refine Lib.wpList_copy_run _ rfl (.tmp 31) (.tmp 32) 39 39 rfl _ _ rfl rfl yO ?_;clear yO);go_loopw [8] (fun mv wr=>∃ m:Nat,m<=n/\(n=0\/1<=m)/\mv=AN AS m/\wr.ownsRow w.heap.size 3 1 (AI (An ⟨w.heap.size,0,As⟩) n n) n (nR n m h)/\aa w wr) (fun mv _=>n-(intOf mv).toNat);case atStart=>exact⟨k0,Iu.1,Iu.2,rfl,HO4,X4⟩
 case round=>
  obtain⟨m,hm,lA,rfl,ho,hx⟩:=hrel;obtain⟨wo,rfl⟩:=ag (wr:By);have HO:=AT ho;have HX:=AT hx;clear ho hx HO4 X4 Iu;by_cases hlt:m<n
  ·have hmi:(m:Int)<n:=by omega
   have hmn:¬ ((n:Int)<m):=by omega
   have oL:(m:Int)<=n:=by omega
   have dml:decide ((m:Int)<=n)=true:=decide_eq_true oL;obtain⟨k,hk⟩:=ag (Nat.min m (n-m));have Cq:m+k<=n/\1<=k/\k<=m:=by rw[hk];unfold Nat.min;refine⟨?_,?_,?_⟩<;>omega
   have Cp:=AT hk;clear hk;go_wp2_with fail
   refine RegQ.br (Vz w.heap.size n (m+k) h) Vz.drew (fun _ _ _ h k=>h.trans k) (by kernel_rfl) 8 [0,0,0,6,0,0,48,126,255,511] (fun i=>i==7) (by kernel_rfl) (fun i=>if i=7 then WZ w.heap.size n (m+k) h (AN AS k)else aU.any _) (fun j W=>(j=7)->W.ownsRow w.heap.size 3 1 (AI (An ⟨w.heap.size,0,As⟩) n n) n (nR n m h)) (fun _ _ _=>HO) ?_;intro C hC hne;have HC:=AT hC;clear hC
   repeat (refine RegQ.au (fun K hK=>?_);first | (refine RegQ.bL rfl ?_;try go_simp;refine hK _ _ ?_;clear hK K) | (refine RegQ.bJ rfl rfl ?_;unfold az;go_simp;refine hK _ _ ?_;clear hK K))
   refine RegQ.au (fun K hK=>?_);refine RegQ.bS rfl rfl (WZ w.heap.size n (m+k) h (AN AS k)) rfl (fun W hW hD hN=>?_) (fun v hv=>?_)
   ·have WG:=hD rfl
    clear hW hN hK K hD
    obtain⟨W',e1,e2,e3⟩:=zX (k:=k) h1h WG Cq.1 ⟨w.heap.size,0,As⟩ m n (fun j hj=>by
     have:(⟨w.heap.size,0,As⟩:Addr).add j=⟨w.heap.size,j,As⟩:=by simp[Addr.add];omega
     rw[this,WG.cellAt j (by omega)];unfold nR
     rw[bH (by rw[Cd];omega),Bs,if_pos (by omega)]) Cp 3
    refine zJ (.tmp 41) (.tmp 44) 39 39 rfl _ _ ?_ ?_ e1 ?_
    ·show AI (if n=m then _ else _) _ _=_
     rw[if_neg (by omega)]
    ·rfl
    ·exact⟨⟨⟨e3.mono fun x hx=>hx.2,fun _=>e2⟩,fun j hj _ _ e=>absurd e hj⟩,rfl,e2⟩
   replace hv:v=_:=hv;subst hv;go_simp;refine hK _ _ ?_;clear hK K
   repeat (refine RegQ.au (fun K hK=>?_);first | (refine RegQ.bL rfl ?_;try go_simp;refine hK _ _ ?_;clear hK K) | (refine RegQ.bJ rfl rfl ?_;unfold az;go_simp;refine hK _ _ ?_;clear hK K))
   refine RegQ.bC (fun W hW hH=>?_);have jq:=(HC.out W).1 hW;have NR:DS (W.ownsRow w.heap.size 3 1 (AI (An ⟨w.heap.size,0,As⟩) n n) n (nR n (m+k) h)):=AT (hH _ (ax (show _=An _ from rfl:_[0]? =An _)));have XR:DS (aa w W):=AT (HX.trans (jq.1.mono fun x hx=>⟨ay hx HX.size,Nat.ne_of_lt hx⟩:ae (· <w.heap.size) wo W).below);clear jq hW hH HC hne HO HX;go_wp2;go_roundw;case rel=>exact⟨m+k,Cq.1,by omega,by go_num,NR,XR⟩
   case measure=>simp[intOf];omega
  ·obtain rfl:m=n:=by omega
   have hmn:¬ ((m:Int)<m):=by omega
   go_wp2;go_ret;have h5:=HO.out;unfold nR at h5;rw[Nat.sub_self,List.replicate_zero,List.append_nil]at h5;rw[HZ.out]at h5;exact⟨_,_,rfl,h5,HX⟩
theorem Tryz.aaj:(AM.info? 133).map (fun i=>(i.zero,i.size,i.bytes))=An (An (Is #[AN AS 0,AN AS 0]),2,16):=by kernel_rfl
theorem cQ.box {w:By} {base b:Nat} {v:Value} {p:List BS} {cs:Array Value} (h:cQ w base v p) (hb:ar w b cs 190) (x:Value):cQ (w.setCell ⟨b,0,As⟩ x) base v p:=by
 have hk:ae (· ≠b) w (w.setCell ⟨b,0,As⟩ x):=(ae.refl _ _).setCell (p:=⟨b,0,As⟩) (fun h=>h rfl) _;rcases h with h | ⟨g,sl,h1,h2,h3,h4,h5⟩
 ·exact .inl h
 ·refine .inr ⟨g,sl,h1,h2,h3.keeps hk fun e=>?_,ak h4 hk fun k e=>bZ hb h4 (by decide) k e,h5⟩
  subst e;unfold ar at h3 hb;rw[h3]at hb;injection hb with hb
  injection hb with _ hb
  exact absurd hb (by decide)
def PartsAt (a b:DF) (p:Nat×Nat) (W:By) (e:Ending) (w':By):Prop:=∃ v,e=C' (H_ #[v,IF (jW a b p).isSome])/\bw en w' v ((jW a b p).getD [])/\aa W w'
theorem SK (w:By) (x y:Value) (t:It):∀ j v,[x,y][j]? =An v->(w.alloc (.cells #[x,y] t)).cell? ((⟨w.heap.size,0,As⟩:Addr).add j)=An v:=by
 intro j v hj;match j,hj with
 | 0,hj=>simp at hj;subst hj;simp[Addr.add]
 | 1,hj=>simp at hj;subst hj;simp[Addr.add]
theorem Jf {a b:DF} (ra:Rt a) (rb:Rt b) (p:Nat×Nat) (hp:gK a b p) (hM:a.nx.length*b.nx.length<=900000) (w:By) (v v':Value) (h:bV w v a) (h':bV w v' b): ah 68 #[v,v',Is #[AN AS p.1,AN AS p.2]] w (PartsAt a b p w):=by
 obtain⟨iP,hiP,Vv,Vw,aaa⟩:=IT Tryz.aaj;obtain⟨iB,YH,Hu,Hv,Hw⟩:=IT Tryz.RP;obtain⟨F,hF⟩:=ag (vu a b);obtain⟨pj,Nu⟩:=ag (partsOf (a.cl++b.cl));obtain⟨K,hK⟩:=ag pj.length;have WJ:K<=256:=by rw[hK,Nu,(eZ _).length_eq];exact eo _
 have CA:DS (∀ W v,cU W v a.cl->ah 110 #[v] W fun e w'=>∃ b,e=C' (AF (An ⟨b,0,As⟩))/\cQ w' W.heap.size (AF (An ⟨b,0,As⟩)) a.cl/\aa W w'):=AT fun W v h=>by
  have:=lI a.cl v W h (by have:=ra.Av;omega);rwa[ra.cl]at this
 have CB:DS (∀ W v,cU W v b.cl->ah 110 #[v] W fun e w'=>∃ x,e=C' (AF (An ⟨x,0,As⟩))/\cQ w' W.heap.size (AF (An ⟨x,0,As⟩)) b.cl/\aa W w'):=AT fun W v h=>by
  have:=lI b.cl v W h (by have:=rb.Av;omega);rwa[rb.cl]at this
 have CJ:DS (∀ W x y bx bY,cQ W bx (AF (An ⟨x,0,As⟩)) a.cl->cQ W bY (AF (An ⟨y,0,As⟩)) b.cl->ah 121 #[AF (An ⟨x,0,As⟩),AF (An ⟨y,0,As⟩)] W fun e w'=>∃ b,e=C' (AF (An ⟨b,0,As⟩))/\cQ w' W.heap.size (AF (An ⟨b,0,As⟩)) pj/\aa W w'):=AT fun W x y bx bY hx hy=>by
  refine(Pf _ _ _ _ _ _ W hx hy).mono fun e w' hj=>?_
  unfold Ar at hj;have e1:a.cl.isEmpty=false:=by have:=ra.Dz;cases h:a.cl with | nil=>rw[h]at this;simp at this | cons _ _=>rfl
  have e2:b.cl.isEmpty=false:=by have:=rb.Dz;cases h:b.cl with | nil=>rw[h]at this;simp at this | cons _ _=>rfl
  rw[e1,e2,if_neg (by decide)]at hj;rw[Nu];exact hj
 have CL:DS (∀ W x bx,cQ W bx (AF (An ⟨x,0,As⟩)) pj->ah 111 #[AF (An ⟨x,0,As⟩)] W fun e w'=>e=C' (AN AS K)/\w'=W):=AT fun W x bx h=>by rw[hK];exact Jt _ _ _ _ h
 have CM:DS (∀ W x bx (k:Nat),k<K->cQ W bx (AF (An ⟨x,0,As⟩)) pj->ah 113 #[AF (An ⟨x,0,As⟩),AN AS k] W fun e w'=>e=C' (H_ #[AN Lo (lb pj k),IF I'])/\Ext W w'):=AT fun W x bx k hk h=>by
  have:=yQ _ bx pj k W h;rw[Nu,vz (by rw[<-Nu, <-hK];exact hk), <-Nu]at this;exact this
 have ZE:DS (∀ k,k<K->lb pj k<256):=AT fun k hk=>by rw[Nu];exact JE (by rw[<-Nu, <-hK];exact hk)
 have CN:DS (∀ (q:Nat×Nat) (k ab xb bb yb xa ya base base':Nat) (va vb:Value) (W:By),gK a b q->k<K->W.cell? ⟨ab,1,As⟩=An va->fy W va a.nx->W.cell? ⟨bb,1,As⟩=An vb->fy W vb b.nx->W.cell? ⟨xb,0,As⟩=An (AF (An ⟨xa,0,As⟩))->cQ W base (AF (An ⟨xa,0,As⟩)) a.cl->W.cell? ⟨yb,0,As⟩=An (AF (An ⟨ya,0,As⟩))->cQ W base' (AF (An ⟨ya,0,As⟩)) b.cl->
   ah 122 #[Is #[AN AS q.1,AN AS q.2],AN Lo (lb pj k),AF (An ⟨ab,0,As⟩),AF (An ⟨xb,0,As⟩),AF (An ⟨bb,0,As⟩),AF (An ⟨yb,0,As⟩)] W fun e w'=>e=C' (Is #[AN AS (F q k).1,AN AS (F q k).2])/\aa W w'):=AT fun q k ab xb bb yb xa ya base base' va vb W hq hk h1 h2 h3 h4 h5 h6 h7 h8=>by
  have:=Jd ra rb q.1 q.2 (lb pj k) hq.1 hq.2 (ZE k hk) ab xb bb yb xa ya base base' va vb W h1 h2 h3 h4 h5 h6 h7 h8;rw[hF,Nu]at*;exact this
 have PI:DS (∀ n,((dc a b p n).map FF).Nodup/\∀ y∈dc a b p n,gK a b y.1):=AT fun n=>Fh ra rb hp n
 have PL:DS (∀ n,(dc a b p n).length<=a.nx.length*b.nx.length):=AT fun n=>MX ra rb hp n
 have PS:DS (∀ n x,(dc a b p n)[n]? =An x->dc a b p (n+1)=iu F (lb pj) x (dc a b p n) K):=AT fun n x hx=>by
  have hx2:(iG (vu a b) (lb (partsOf (a.cl++b.cl))) (partsOf (a.cl++b.cl)).length p n)[n]? =An x:=hx;show iG (vu a b) (lb (partsOf (a.cl++b.cl))) (partsOf (a.cl++b.cl)).length p (n+1)=_;rw[iG,hx2,hF,hK,Nu];rfl
 have RI:DS (∀ n x k,(dc a b p n)[n]? =An x->k<=K->((iu F (lb pj) x (dc a b p n) k).map FF).Nodup/\∀ y∈iu F (lb pj) x (dc a b p n) k,gK a b y.1):=AT fun n x k hx hk=>by
  refine Bz (PI n).1 (PI n).2 k fun j hj=>?_
  rw[hF];exact vv ra rb x.1 j ((PI n).2 x (ax hx)) (by rw[<-Nu, <-hK];omega)
 have WL:DS (∀ n,∀ y∈dc a b p n,y.2.length<=n):=AT fun n y hy=>oK n y hy
 have FI:DS (∀ q k,gK a b q->k<K->gK a b (F q k)):=AT fun q k hq hk=>by rw[hF];exact vv ra rb q k hq (by rw[<-Nu, <-hK];exact hk)
 have L4:DS (∀ q:Nat×Nat,gK a b q->q.1<=4000/\q.2<=4000):=AT fun q hq=>⟨Nat.le_of_lt (ay hq.1 ra.le),Nat.le_of_lt (ay hq.2 rb.le)⟩
 obtain⟨M,hMe⟩:=ag (a.nx.length*b.nx.length);have PD:DS (jW a b p=kJ a b p (M+1) 0):=AT (by rw[hMe];rfl);have PR:DS (∀ f n,kJ a b p (f+1) n=match(dc a b p n)[n]? with | none=>As | some x=>if Ff a b x.1 then An x.2 else kJ a b p f (n+1)):=AT fun f n=>rfl
 rw[<-hMe]at PL hM;have CE:DS (∀ (s t:Nat) (u u':Value) (W:By),s<a.nx.length->t<b.nx.length->bw aG W u (a.mr.getD s [])->bw aG W u' (b.mr.getD t [])->ah 33 #[u,u'] W fun e w'=>e=C' (IF (!Ff a b (s,t)))/\Ext W w'):=AT fun s t u u' W hs ht h1 h2=>by
  have h3:=zV u u' _ _ W (.inl h1) (.inl h2) (ra.Rh.Ug _ (ax (bn [] (by rw[ra.mr];exact hs))));have e:(a.mr.getD s []==b.mr.getD t [])= !Ff a b (s,t):=by unfold Ff;show _= !decide (a.mr.getD s []≠b.mr.getD t []);rw[Bool.eq_iff_iff];simp
  rw[e]at h3;exact h3
 have HMA:DS (∀ s W u,s<a.nx.length->fy W u a.mr->∀ ad n cp,u=AI ad n cp->∃ g o a' l c',ad=An ⟨g,o,As⟩/\g<W.heap.size/\W.cell? ⟨g,o+s,As⟩=An (AI a' l c')/\bw aG W (AI a' l c') (a.mr.getD s [])):=AT fun s W u hs hu ad n cp e=>by
  subst e;obtain⟨g,o,a',c',e1,e2,e3,e4⟩:=hu.elem (i:=s) (l:=a.mr.getD s []) (bn [] (by rw[ra.mr];exact hs));exact⟨g,o,a',_,c',e1,e2,e3,e4⟩
 have Tv:DS (∀ s W u,s<b.nx.length->fy W u b.mr->∀ ad n cp,u=AI ad n cp->∃ g o a' l c',ad=An ⟨g,o,As⟩/\g<W.heap.size/\W.cell? ⟨g,o+s,As⟩=An (AI a' l c')/\bw aG W (AI a' l c') (b.mr.getD s [])):=AT fun s W u hs hu ad n cp e=>by
  subst e;obtain⟨g,o,a',c',e1,e2,e3,e4⟩:=hu.elem (i:=s) (l:=b.mr.getD s []) (bn [] (by rw[rb.mr];exact hs));exact⟨g,o,a',_,c',e1,e2,e3,e4⟩
 obtain⟨v0,v1,v2,rfl,h0,h1,h2⟩:=h;obtain⟨u0,u1,u2,rfl,g0,g1,g2⟩:=h';obtain⟨a0,c0,rfl⟩:=h0.1.form;obtain⟨a1,c1,rfl⟩:=h1.form;obtain⟨a2,c2,rfl⟩:=h2.form;obtain⟨b0,d0,rfl⟩:=g0.1.form;obtain⟨b1,d1,rfl⟩:=g1.form;obtain⟨b2,d2,rfl⟩:=g2.form;have adU:=ra.mr;have adV:=rb.mr;rw[adU]at h2 ⊢;rw[adV]at g2 ⊢;obtain⟨n0,bX⟩:=ag a.cl.length;obtain⟨n1,cM⟩:=ag a.nx.length;obtain⟨m0,nZ⟩:=ag b.cl.length;obtain⟨m1,lA⟩:=ag b.nx.length;rw[<-cM]at HMA;rw[<-lA]at Tv;rw[<-cM, <-lA]at CE;rw[<-bX]at h0;rw[<-cM]at h1 h2;rw[<-nZ]at g0;rw[<-lA]at g1 g2;rw[<-bX, <-cM, <-nZ, <-lA];have PII:DS (∀ q,gK a b q->q.1<n1/\q.2<m1):=AT fun q hq=>by rw[cM,lA];exact hq
 have H0:=AT h0.1;have H1:=AT h1;have H2:=AT h2;have G0:=AT g0.1;have G1:=AT g1;have G2:=AT g2;have HP:=AT hp;have HPJ:=AT Nu;clear h0 h1 h2 g0 g1 g2 Nu hK ra rb bX cM nZ lA adU adV hF hMe hp;obtain⟨N9,aak⟩:=ag p.1;obtain⟨Oa,aal⟩:=ag p.2;have NY:p=(N9,Oa):=IN aak.symm aal.symm;rw[<-aak, <-aal];have WV:=AT NY;clear aak aal NY;have tX:= @run_makeMap AM;go_enter Tryz.func68,Tryz.ntmps68;go_upto_region 1 with fail
 refine aw ?_;intro V hV;have B3:DS (ar V w.heap.size #[AI a0 n0 c0,AI a1 n1 c1,AI a2 n1 c2] 29):=AT (by rw[hV];exact((ar.new w _ _).alloc _).alloc _);have B4:DS (ar V (w.heap.size+1) #[AI b0 m0 d0,AI b1 m1 d1,AI b2 m1 d2] 29):=AT (by rw[hV];exact((ar.new (w.alloc _) _ _).at (by simp)).alloc _);have B5:DS (ar V (w.heap.size+1+1) #[AN AS N9,AN AS Oa] 133):=AT (by rw[hV];exact(ar.new ((w.alloc _).alloc _) _ _).at (by simp));have X1:DS (aa w V):=AT (by rw[hV];exact((((Ext.refl w).alloc _).alloc _).alloc _).below);clear hV;refine RegF.uu (fun _=>False) (by kernel_rfl) 8 [0,1,3,0,8,31,0,0,255,511] (fun i=>i==2 || i==5 || i==6 || i==7 || i==8 || i==9) (by kernel_rfl) [6,7] (by kernel_rfl) (fun i=>if i=2 then aU.Um V.heap.size a.cl else if i=5 then aU.Um V.heap.size b.cl else if i=6 then aU.ue V.heap.size #[AF As] 190 else if i=7 then aU.ue V.heap.size #[AF As] 190 else aU.any _) ?_;intro C hC hne;have HC:=AT hC;have f0:=aD hC (p:=⟨w.heap.size,0,As⟩) (by have:=B3.lt;exact this) (fun h=>h) (B3.cell 0);have f1:=aD hC (p:=⟨w.heap.size+1,0,As⟩) (by have:=B4.lt;exact this) (fun h=>h) (B4.cell 0);clear hC
 repeat (refine RegF.au (fun K hK=>?_);first | (refine RegF.bL rfl ?_;try go_simp;refine hK _ _ ?_;clear hK K) | (refine RegF.bJ rfl rfl ?_;unfold az;go_simp;refine hK _ _ ?_;clear hK K))
 refine RegF.au (fun K hK=>?_);refine RegF.bS rfl rfl rfl (aU.Um V.heap.size a.cl) rfl (fun W hW hN=>?_) (fun v hv=>?_)
 ·have hM:=(HC.out W).1 hW
  clear hW;go_simp;refine bA ((CA _ _ ((H0.below X1).below hM.below)).mono ?_);rintro e w2 ⟨b,rfl,ha,hx⟩;exact⟨_,rfl,Move.aj hx,⟨b,rfl⟩,ha.base hM.size⟩
 obtain⟨bx,rfl⟩:=hv;go_simp;refine hK _ _ ?_;clear hK K
 repeat (refine RegF.au (fun K hK=>?_);first | (refine RegF.bL rfl ?_;try go_simp;refine hK _ _ ?_;clear hK K) | (refine RegF.bJ rfl rfl ?_;unfold az;go_simp;refine hK _ _ ?_;clear hK K))
 refine RegF.au (fun K hK=>?_);refine RegF.bS rfl rfl rfl (aU.Um V.heap.size b.cl) rfl (fun W hW hN=>?_) (fun v hv=>?_)
 ·have hM:=(HC.out W).1 hW
  clear hW;go_simp;refine bA ((CB _ _ ((G0.below X1).below hM.below)).mono ?_);rintro e w2 ⟨b,rfl,ha,hx⟩;exact⟨_,rfl,Move.aj hx,⟨b,rfl⟩,ha.base hM.size⟩
 obtain⟨bY,rfl⟩:=hv;go_simp;refine hK _ _ ?_;clear hK K;refine RegF.au (fun K hK=>?_);refine RegF.adF rfl rfl rfl (aU.ue V.heap.size #[AF As] 190) rfl (fun W hW hN=>?_) (fun v hv=>?_)
 ·have hM:=(HC.out W).1 hW
  clear hW hK K
  (have nI:=hM.size;go_simp;exact⟨⟨_,rfl,aF _,by simp⟩,Move.aj ((Ext.refl _).alloc _).below,⟨_,rfl⟩,fun b hb=>by cases hb;exact⟨ar.new _ _ _,nI⟩⟩)
 obtain⟨xb,rfl⟩:=hv;go_simp;refine hK _ _ ?_;clear hK K;refine RegF.au (fun K hK=>?_);refine RegF.adF rfl rfl rfl (aU.ue V.heap.size #[AF As] 190) rfl (fun W hW hN=>?_) (fun v hv=>?_)
 ·have hM:=(HC.out W).1 hW
  clear hW hK K
  (have nI:=hM.size;go_simp;exact⟨⟨_,rfl,aF _,by simp⟩,Move.aj ((Ext.refl _).alloc _).below,⟨_,rfl⟩,fun b hb=>by cases hb;exact⟨ar.new _ _ _,nI⟩⟩)
 obtain⟨yb,rfl⟩:=hv;go_simp;refine hK _ _ ?_;clear hK K;refine RegF.bC (fun W hW hH hap=>?_);have Tq:=(HC.out W).1 hW;have hne:fI.KU (AF (An ⟨xb,0,As⟩))≠fI.KU (AF (An ⟨yb,0,As⟩)):=hap.ne 6 7 8 9 rfl rfl (by decide) rfl rfl rfl rfl;have NM:xb≠yb:=fun e=>hne (by rw[e])
 have A1:DS (cQ W V.heap.size (AF (An ⟨bx,0,As⟩)) a.cl):=AT (hH _ (ax (show _=An _ from rfl:_[3]? =An _)));have A2:DS (cQ W V.heap.size (AF (An ⟨bY,0,As⟩)) b.cl):=AT (hH _ (ax (show _=An _ from rfl:_[2]? =An _)));have hzx:(aU.ue V.heap.size #[AF As] 190).H (AF (An ⟨xb,0,As⟩)) W:=hH _ (ax (show _=An _ from rfl:_[1]? =An _));have hzy:(aU.ue V.heap.size #[AF As] 190).H (AF (An ⟨yb,0,As⟩)) W:=hH _ (ax (show _=An _ from rfl:_[0]? =An _));have BX:=AT (hzx xb rfl);have BY:=AT (hzy yb rfl);have C3:=AT (B3.below Tq.below B3.lt);have C4:=AT (B4.below Tq.below B4.lt);have C5:=AT (B5.below Tq.below B5.lt);have X2:=AT (X1.trans (Tq.below.mono X1.size));have yg:w.heap.size+2<V.heap.size:=B5.lt;have hVW:V.heap.size<=W.heap.size:=Tq.size;clear Tq hW hH HC f0 f1 B3 B4 B5 X1 hap hne hzx hzy CA CB H0 G0;have x0:=BX.1.cell 0;have y0:=BY.1.cell 0;have zx:=BX.1.frozen 0;have zy:=BY.1.frozen 0;simp only[DP,DE]at x0 y0;have hyx:¬ (yb=xb):=fun e=>NM e.symm
 go_upto_region 2 with fail
 refine aw ?_;intro V2 hV;have KV:DS (ae (fun x=>x≠xb/\x≠yb) W V2):=AT (by rw[hV];exact((ae.refl _ _).setCell (p:=⟨xb,0,As⟩) (fun h=>h.1 rfl) _).setCell (p:=⟨yb,0,As⟩) (fun h=>h.2 rfl) _);have BX2:DS (ar V2 xb #[AF (An ⟨bx,0,As⟩)] 190):=AT (by rw[hV];exact(BX.1.set 0 _).other (p:=⟨yb,0,As⟩) hyx _);have BY2:DS (ar V2 yb #[AF (An ⟨bY,0,As⟩)] 190):=AT (by rw[hV];exact(BY.1.other (p:=⟨xb,0,As⟩) NM _).set 0 _);have A1b:DS (cQ V2 V.heap.size (AF (An ⟨bx,0,As⟩)) a.cl):=AT (by rw[hV];exact(A1.box BX.1 _).box (BY.1.other (p:=⟨xb,0,As⟩) NM _) _);have A2b:DS (cQ V2 V.heap.size (AF (An ⟨bY,0,As⟩)) b.cl):=AT (by rw[hV];exact(A2.box BX.1 _).box (BY.1.other (p:=⟨xb,0,As⟩) NM _) _);have yL:=BX.2;have hby:=BY.2;have D3:=AT (C3.keeps KV ⟨by omega,by omega⟩);have D4:=AT (C4.keeps KV ⟨by omega,by omega⟩);have D5:=AT (C5.keeps KV ⟨by omega,by omega⟩);have X3:DS (aa w V2):=AT (X2.trans (KV.mono fun x (hx:x<w.heap.size)=>⟨by omega,by omega⟩:ae (· <w.heap.size) W V2).below);clear hV x0 y0 zx zy KV BX BY A1 A2 C3 C4 C5 X2;have x0:=BX2.cell 0;have y0:=BY2.cell 0;simp only[DP,DE]at x0 y0;go_wp2_with fail
 refine(CJ V2 bx bY _ _ A1b A2b).mono ?_;rintro e w3 ⟨bj,rfl,hj,hx⟩;have AJ:=AT hj;have A1c:=AT (A1b.below hx);have A2c:=AT (A2b.below hx);have BX3:=AT (BX2.below hx BX2.lt);have BY3:=AT (BY2.below hx BY2.lt);have E3:=AT (D3.below hx D3.lt);have E4:=AT (D4.below hx D4.lt);have E5:=AT (D5.below hx D5.lt);have X4:=AT (X3.trans (hx.mono X3.size));clear hj hx x0 y0 A1b A2b BX2 BY2 D3 D4 D5 X3 CJ NM hyx;obtain⟨e0,e1⟩:w3.cell? ⟨w.heap.size+1+1,0,As⟩=An (AN AS N9)/\w3.cell? ⟨w.heap.size+1+1,1,As⟩=An (AN AS Oa):=⟨E5.cell 0,E5.cell 1⟩;obtain⟨w4,hp4,tG,hk4,Hq⟩:=SH Tryz.uI D0 (w:=w3.alloc (.map #[] 0)) (b:=w3.heap.size) (l:=[]) (GW w3 _) (fun p hp=>by cases hp) (ei (N9,Oa)) (FJ (N9,Oa) (by rw[<-WV.out];exact(L4 p HP).1) (by rw[<-WV.out];exact(L4 p HP).2)) (fun p hp=>by cases hp) (AI As 0 0);replace hp4:(GB 206 (.map (An w3.heap.size)) (Is #[AN AS N9,AN AS Oa]) (AI As 0 0)).run AM (w3.alloc (.map #[] 0))=.ok () w4:=hp4;have PE4:DS (yx w4 w3.heap.size w3.heap.size [((N9,Oa),[])] [(ei (N9,Oa),AI As 0 0)]):=AT (yx.one tG);have K4:DS (ae (· <w3.heap.size) w3 w4):=AT ((ae.aj ((Ext.refl w3).alloc _).below fun _ h=>h:ae (· <w3.heap.size) w3 (w3.alloc (.map #[] 0))).tr (hk4.mono fun x (hx:x<w3.heap.size)=>by show x≠w3.heap.size;omega));have hs5:w4.heap.size=w3.heap.size+1:=by rw[Hq,Iv]
 have HS5:=AT hs5;clear tG hk4 Hq hs5;have e0':w4.cell? ⟨w.heap.size+1+1,0,As⟩=An (AN AS N9):=(K4.cell (p:=⟨w.heap.size+1+1,0,As⟩) E5.lt).trans e0;have e1':w4.cell? ⟨w.heap.size+1+1,1,As⟩=An (AN AS Oa):=(K4.cell (p:=⟨w.heap.size+1+1,1,As⟩) E5.lt).trans e1;go_upto_region 3 with fail
 have e0a:(w3.alloc (.map #[] 0)).cell? ⟨w.heap.size+1+1,0,As⟩=An (AN AS N9):=((ae.aj ((Ext.refl w3).alloc _).below fun _ h=>h:ae (· <w3.heap.size) w3 (w3.alloc (.map #[] 0))).cell (p:=⟨w.heap.size+1+1,0,As⟩) E5.lt).trans e0;have e1a:(w3.alloc (.map #[] 0)).cell? ⟨w.heap.size+1+1,1,As⟩=An (AN AS Oa):=((ae.aj ((Ext.refl w3).alloc _).below fun _ h=>h:ae (· <w3.heap.size) w3 (w3.alloc (.map #[] 0))).cell (p:=⟨w.heap.size+1+1,1,As⟩) E5.lt).trans e1;go_upto_region 5 with fail
 refine aw ?_;intro V5 hV
 have FV:DS (V5.ownsRow w3.heap.size 133 2 (AI (An ⟨w4.heap.size,0,As⟩) 1 1) 1 (nt [(N9,Oa)])):=AT (by
  rw[hV]
  exact⟨rfl,.inr ⟨_,1, #[AN AS N9,AN AS Oa],rfl,by rw[HS5.out];omega,GW w4 _,aF _,by unfold maxLen;omega,rfl,rfl⟩⟩)
 have Gb:aa w4 V5:=by rw[hV];exact((Ext.refl _).alloc _).below
 have PE5:=AT (PE4.below Gb);have K5:DS (ae (· <w3.heap.size) w3 V5):=AT (K4.tr (ae.aj Gb fun x (hx:x<w3.heap.size)=>by have:=HS5.out;omega:ae (· <w3.heap.size) w4 V5));obtain⟨fg,hfg⟩:=ag w4.heap.size;obtain⟨g0,hg0⟩:=ag w3.heap.size;rw[<-hfg]at FV ⊢;rw[<-hg0]at FV PE5 ⊢;have hwg:w.heap.size+2<g0:=by rw[hg0];exact E5.lt
 have Kw:=AT hg0;clear hV Gb PE4 K4 HS5 e0 e1 e0' e1' e0a e1a hp4 hfg hg0;go_wp2_with fail
 go_loopw [12,14] (fun fv iv wr=>∃ (n L:Nat) (es:List (Value×Value)),L=(dc a b p n).length/\n<=L/\iv=AN AS n/\wr.ownsRow g0 133 2 fv L (nt ((dc a b p n).map FF))/\yx wr g0 g0 (dc a b p n) es/\jW a b p=kJ a b p (M+1-n) n/\ae (· <w3.heap.size) w3 wr) (fun _ iv _=>M+1-(intOf iv).toNat)
 case atStart=>exact⟨0,1,_,rfl,by omega,rfl,by rw[WV.out];exact FV,by rw[WV.out];exact PE5,PD,K5⟩
 case round=>
  obtain⟨n,L,es,hL,hn,rfl,hfv,NY,hpd,hx⟩:=hrel;obtain⟨wo,rfl⟩:=ag (wr:By);have hLM:L<=M:=by rw[hL];exact PL n
  obtain⟨fa,fc,rfl⟩:=ownsRow_form hfv;have HL:=AT hL;have HFV:=AT hfv;have VB:=AT NY;have HPD:=AT hpd;have HX:=AT hx;clear hL hfv NY hpd hx FV PE5 K5;by_cases hlt:n<L
  ·have hni:(n:Int)<L:=by omega
   obtain⟨x,WW⟩:∃ x,(dc a b p n)[n]? =An x:=⟨_,aB (by rw[<-HL.out];exact hlt)⟩;have aam:=(PI.out n).2 x (ax WW);obtain⟨hx1,hx2⟩:=PII.out x.1 aam;have hxm:((dc a b p n).map FF)[n]? =An x.1:=by rw[aN,WW];rfl
   obtain⟨q0,q1⟩:=yZ _ _ _ hxm;obtain⟨fgg,rfl,hfgg⟩:∃ g,fa=An ⟨g,0,As⟩/\g<wo.heap.size:=by
    rcases HFV.2 with⟨h5,_⟩ | ⟨g,c,cur,h5,_,h6,_⟩
    ·cases h5;omega
    ·cases h5;exact⟨g,rfl,(DQ.1 h6).1⟩
   have c0':=HFV.cells (g:=fgg) rfl _ _ q0;have c1':=HFV.cells (g:=fgg) rfl _ _ q1;rw[Addr.add_mid]at c0' c1';simp only[Nat.zero_add]at c0' c1';have wl:=WL.out n x (ax WW);obtain⟨xa,xc,adX,SN⟩:=VB.val (fun y hy=>L4 _ ((PI n).2 y hy)) (PI n).1 WW;have adY:=AT aam;have HXN:=AT WW;have SP:=AT SN;have XWO:DS (aa w wo):=AT (X4.trans (HX.mono fun z (hz:z<w.heap.size)=>by show z<w3.heap.size;have:=Kw.out;omega:ae (· <w.heap.size) w3 wo).below);obtain⟨s1,hs1⟩:=ag x.1.1;obtain⟨s2,hs2⟩:=ag x.1.2;have hxe:x.1=(s1,s2):=IN hs1.symm hs2.symm;rw[<-hs1]at c0' hx1;rw[<-hs2]at c1' hx2;have Tz:=AT hxe;clear WW aam hxm q0 q1 SN hs1 hs2 hxe adX;go_upto_region 10 with fail
   refine aw ?_;intro V6 hV;obtain⟨pb,lG⟩:=ag wo.heap.size;have P6:DS (ar V6 pb #[AN AS s1,AN AS s2] 133):=AT (by rw[hV,lG];exact ar.new wo _ _);have uq:aa wo V6:=by rw[hV];exact((Ext.refl _).alloc _).below
   have X6:=AT uq;have hgo:g0<=wo.heap.size:=by rw[Kw.out];exact HX.size
   have Tf:g0<pb:=by rw[lG];exact VB.map.lt
   have hfp:(AI (An ⟨fgg,0,As⟩) L fc).ownBlock≠An pb:=fun e=>by
    have e2:fgg=pb:=by simpa[Value.ownBlock]using e
    omega
   rw[<-lG];clear hV uq c0' c1' lG;have KV6:DS (ae (· <w3.heap.size) w3 V6):=AT (HX.tr (ae.aj X6 fun z (hz:z<w3.heap.size)=>by have:=Kw.out;omega:ae (· <w3.heap.size) wo V6));have B3:=AT (E3.keeps KV6 E3.lt);have B4:=AT (E4.keeps KV6 E4.lt);have FV6:=AT (ai HFV X6);have PE6:=AT (VB.below X6);have XV6:=AT (XWO.trans (X6.mono XWO.size));obtain⟨mg,mo,ma,ml,mc,e5,hmg,Ts,Im⟩:=HMA.out s1 V6 _ hx1 (H2.below XV6) a2 n1 c2 rfl;obtain⟨kg,ko,ka,kl,kc,e6,VV,xN,Tc⟩:=Tv.out s2 V6 _ hx2 (G2.below XV6) b2 m1 d2 rfl;have WT:=AT Im;have HKS:=AT Tc;have b32:V6.cell? ⟨w.heap.size,2,As⟩=An (AI (An ⟨mg,mo,As⟩) n1 c2):=by rw[<-e5];exact B3.cell 2
   have b42:V6.cell? ⟨w.heap.size+1,2,As⟩=An (AI (An ⟨kg,ko,As⟩) m1 d2):=by rw[<-e6];exact B4.cell 2
   have p0:V6.cell? ⟨pb,0,As⟩=An (AN AS s1):=P6.cell 0;have p1:V6.cell? ⟨pb,1,As⟩=An (AN AS s2):=P6.cell 1;have aqo:(s1:Int)<n1:=by omega
   have aqp:(s2:Int)<m1:=by omega
   have l1:=B3.lt;have l2:=B4.lt;clear e5 e6 Im Tc;refine aI GO (fun _=>False) (by kernel_rfl) 12 [0,1,0,4,15,31,0,64,0,256,960,1984,4095,8191] (fun i=>i==12) (by kernel_rfl) (fun _=>aU.any _) ?_;intro C hC hne;have HC:=AT hC;have f0:=aD hC (p:=⟨w.heap.size,2,As⟩) l1 (fun h=>h) b32;have f1:=aD hC (p:=⟨mg,mo+s1,As⟩) hmg (fun h=>h) Ts;have f2:=aD hC (p:=⟨w.heap.size+1,2,As⟩) l2 (fun h=>h) b42;have f3:=aD hC (p:=⟨kg,ko+s2,As⟩) VV (fun h=>h) xN;have f4:=aD hC (p:=⟨pb,0,As⟩) P6.lt (fun h=>h) p0;have f5:=aD hC (p:=⟨pb,1,As⟩) P6.lt (fun h=>h) p1;clear hC b32 b42 p0 p1 Ts xN
   repeat (refine au (fun K hK=>?_);first | (refine bL rfl ?_;try go_simp;refine hK _ _ ?_;clear hK K) | (refine bJ rfl rfl ?_;unfold az;go_simp;refine hK _ _ ?_;clear hK K))
   refine bC (fun W6 hW hH=>?_);have hM6:=(HC.out W6).1 hW;have Y6:=AT hM6.below;clear hM6 hW hH HC hne f0 f1 f2 f3 f4 f5;go_wp2_with fail
   refine(CE s1 s2 _ _ W6 hx1 hx2 (WT.below Y6) (HKS.below Y6)).mono ?_;rintro e w7 ⟨rfl,hx⟩;have Z7:DS (aa V6 w7):=AT (Y6.trans (hx.below.mono Y6.size));have FV7:=AT (ai FV6 Z7);have PE7:=AT (PE6.below Z7);have P7:=AT (P6.below Z7 P6.lt);have KV7:DS (ae (· <w3.heap.size) w3 w7):=AT (KV6.tr (ae.aj Z7 fun z (hz:z<w3.heap.size)=>by have:=Kw.out;have:=X6.size;omega:ae (· <w3.heap.size) V6 w7));clear hx WT HKS B3 B4 FV6 PE6 P6 KV6 X6 XV6 Z7 Y6 HFV VB XWO;have hlk:=SP.out w7 PE7.map;rw[Tz.out]at hlk;replace hlk:(A_ 206 (.map (An g0)) (Is #[AN AS s1,AN AS s2]) GO).run AM w7=.ok (AI xa x.2.length xc) w7:=hlk;have XW7:DS (aa w w7):=AT (X4.trans (KV7.mono fun z (hz:z<w.heap.size)=>by show z<w3.heap.size;have:=Kw.out;omega:ae (· <w.heap.size) w3 w7).below);have p0:w7.cell? ⟨pb,0,As⟩=An (AN AS s1):=P7.cell 0;have p1:w7.cell? ⟨pb,1,As⟩=An (AN AS s2):=P7.cell 1;obtain⟨bd,Tt⟩:=ag (Ff a b (s1,s2));rw[<-Tt];have HBD:=AT Tt
   have Ky:DS (jW a b p=if bd=I' then An x.2 else kJ a b p (M+1-(n+1)) (n+1)):=AT (by
    rw[HPD.out,show M+1-n=(M-n)+1 by omega,PR.out,HXN.out,show M+1-(n+1)=M-n by omega];show(if Ff a b x.1=I' then _ else _)=_
    rw[Tz.out, <-HBD.out])
   obtain⟨xl,yR⟩:=ag x.2.length;rw[<-yR]at hlk;have NL:=AT yR;clear Tt yR;cases bd with
   | true=>
    have aiQ:DS (bw en w7 (AI xa xl xc) x.2):=AT (by
     obtain⟨xa',xc',h5,h6⟩:=PE7.val (fun y hy=>L4 _ ((PI n).2 y hy)) (PI n).1 HXN;have h7:=h6 w7 PE7.map;have h8:=SP.out w7 PE7.map;rw[h7]at h8;injection h8 with h8
     rw[NL.out, <-h8]
     exact bU h5 rfl)
    go_wp2;refine H' (v:=H_ #[AI xa xl xc,IF I']) (by simp[results,I_,go_sem]) rfl ⟨AI xa xl xc,?_,?_,XW7⟩
    ·rw[Ky.out];rfl
    ·rw[Ky.out];exact aiQ
   | false=>
    have aiR:DS (jW a b p=kJ a b p (M+1-(n+1)) (n+1)):=AT (by rw[Ky.out];rfl);clear hlk Ky;have AJ7:=AT (AJ.keeps KV7 fun _ _ h=>h);go_wp2_with fail
    refine(CL w7 bj _ AJ7).mono ?_;rintro e w8 ⟨rfl,hw⟩;replace hw:=hw.symm;subst hw;clear p0 p1;go_wp2_with fail
    go_loopw [12,66] (fun fv kv wr=>∃ (k L:Nat) (es:List (Value×Value)),k<=K/\kv=AN AS k/\L=(iu F (lb pj) x (dc a b p n) k).length/\wr.ownsRow g0 133 2 fv L (nt ((iu F (lb pj) x (dc a b p n) k).map FF))/\yx wr g0 g0 (iu F (lb pj) x (dc a b p n) k) es/\ar wr pb #[AN AS s1,AN AS s2] 133/\fv.ownBlock≠An pb/\ae (· <w3.heap.size) w3 wr) (fun _ kv _=>K-(intOf kv).toNat)
    case atStart=>exact⟨0,L,es,Nat.zero_le _,rfl,HL,FV7,PE7,P7,hfp,KV7⟩
    case round=>
     obtain⟨k,L2,es2,hk,rfl,hL2,hfv,NY,lG,Iy,hx⟩:=hrel;obtain⟨wi,rfl⟩:=ag (wr:By);obtain⟨fa2,fc2,rfl⟩:=ownsRow_form hfv;have aqv:L2<=M:=by rw[hL2];have h5:=PL.out (n+1);rw[PS.out n x HXN.out]at h5;exact Nat.le_trans (FM hk) h5
     have VO:=AT hL2;have IFV:=AT hfv;have IPE:=AT NY;have IPB:=AT lG;have IX:=AT hx;clear hL2 hfv NY lG hx FV7 PE7 P7 KV7;by_cases WU:k<K
     ·have ed:(k:Int)<K:=by omega
      have RK:=AT (RI.out n x k HXN (by omega));have AJI:=AT (AJ.keeps IX fun _ _ h=>h);go_wp2_with fail
      refine(CM wi bj _ k WU AJI).mono ?_;rintro e w9 ⟨rfl,hx⟩;have Y9:=AT hx.below;have hgi:g0<wi.heap.size:=IPE.map.lt;have hi9:wi.heap.size<=w9.heap.size:=Y9.size;have TB:DS (ae (· <w3.heap.size) w3 w9):=AT (IX.tr (ae.aj Y9 fun z (hz:z<w3.heap.size)=>by have:=IX.size;omega:ae (· <w3.heap.size) wi w9));have FV9:=AT (ai IFV Y9);have PE9:=AT (IPE.below Y9);have P9:=AT (IPB.below Y9 IPB.lt);clear hx Y9 IFV IPE IPB IX AJI;obtain⟨c,hc⟩:=ag (lb pj k);have kP:c<256:=by rw[hc];exact ZE k WU
      obtain⟨q,hq⟩:=ag (F x.1 k);have ad0:gK a b q:=by rw[hq];exact FI _ _ adY WU
      have XW9:DS (aa w w9):=AT (X4.trans (TB.mono fun z (hz:z<w.heap.size)=>by show z<w3.heap.size;have:=Kw.out;omega:ae (· <w.heap.size) w3 w9).below);have B3:=AT (E3.keeps TB E3.lt);have B4:=AT (E4.keeps TB E4.lt);have CN9:=AT (CN.out x.1 k w.heap.size xb (w.heap.size+1) yb bx bY V.heap.size V.heap.size _ _ w9 adY WU (B3.cell 1) (H1.below XW9) (B4.cell 1) (G1.below XW9) ((BX3.keeps TB BX3.lt).cell 0) (A1c.keeps TB fun _ _ h=>h) ((BY3.keeps TB BY3.lt).cell 0) (A2c.keeps TB fun _ _ h=>h));rw[<-hc, <-hq]at CN9;rw[show(Is #[AN AS x.1.1,AN AS x.1.2]:Value)=Is #[AN AS s1,AN AS s2] by rw[Tz.out]]at CN9;rw[<-hc];obtain⟨t1,ht1⟩:=ag q.1;obtain⟨t2,ht2⟩:=ag q.2;have hqe:q=(t1,t2):=IN ht1.symm ht2.symm;rw[<-ht1, <-ht2]at CN9;have HC9:=AT hc;have HQ:=AT hq;have HQE:=AT hqe;have VC:=AT ad0;obtain⟨p0,p1⟩:w9.cell? ⟨pb,0,As⟩=An (AN AS s1)/\w9.cell? ⟨pb,1,As⟩=An (AN AS s2):=⟨P9.cell 0,P9.cell 1⟩;clear hc hq hqe ht1 ht2 ad0 B3 B4 XW9;go_wp2_with fail
      refine CN9.mono ?_;rintro e oU ⟨rfl,hx⟩;have Y10:=AT hx;have aqx:w9.heap.size<=oU.heap.size:=Y10.size;clear hx p0 p1 CN9;go_upto_region 17 with fail
      refine aw ?_;intro VA hV;obtain⟨qb,Lr⟩:=ag oU.heap.size;have QA:DS (ar VA qb #[AN AS t1,AN AS t2] 133):=AT (by rw[hV,Lr];exact ar.new oU _ _);have hbA:aa w9 VA:=by rw[hV];exact Y10.trans (((Ext.refl oU).alloc _).below.mono Y10.size)
      have FVA:=AT (ai FV9 hbA);have PEA:=AT (PE9.below hbA);have PA:=AT (P9.below hbA P9.lt);have KVA:DS (ae (· <w3.heap.size) w3 VA):=AT (TB.tr (ae.aj hbA fun z (hz:z<w3.heap.size)=>by have:=TB.size;omega:ae (· <w3.heap.size) w9 VA));have hgA:g0<=VA.heap.size:=by rw[Kw.out];exact KVA.size
      have hqg:g0<qb:=by omega
      rw[<-Lr];clear hV hbA Lr Y10 FV9 PE9 P9 TB;obtain⟨t0,t1'⟩:VA.cell? ⟨qb,0,As⟩=An (AN AS t1)/\VA.cell? ⟨qb,1,As⟩=An (AN AS t2):=⟨QA.cell 0,QA.cell 1⟩;have oV:=PEA.look (fun y hy=>L4 _ (RK.2 y hy)) q (L4 q VC).1 (L4 q VC).2;have Vm:ei q=Is #[AN AS t1,AN AS t2]:=by rw[HQE.out];rfl
      rw[Vm]at oV;have HPV:=AT Vm;clear Vm;rcases oV with⟨NT,VQ,hlk⟩ | ⟨i,wd,v,hi,_,hlk,_⟩
      ·have aao:DS (iu F (lb pj) x (dc a b p n) (k+1)=iu F (lb pj) x (dc a b p n) k++ [(q,x.2++ [c])]):=AT (by rw[iu,Bx,if_neg (by rw[<-HQ.out];exact NT), <-HQ.out, <-HC9.out])
       have HQ2:=AT VQ;clear NT VQ;go_upto_region 19 with fail
       have aiX:DS ((iu F (lb pj) x (dc a b p n) k)[n]? =An x):=AT (Fe _ _ _ _ HXN k);obtain⟨ya,yc,SQ,Cf⟩:=PEA.val (fun y hy=>L4 _ (RK.2 y hy)) RK.1 aiX;rw[<-NL.out]at SQ Cf;have SR:=AT SQ;have ad8:ei x.1=Is #[AN AS s1,AN AS s2]:=by rw[Tz.out];rfl
       rw[ad8]at Cf;have HYL:=AT Cf;obtain⟨p0,p1⟩:VA.cell? ⟨pb,0,As⟩=An (AN AS s1)/\VA.cell? ⟨pb,1,As⟩=An (AN AS s2):=⟨PA.cell 0,PA.cell 1⟩;have aqA:xl<=900000:=by rw[NL.out];omega
       have ad9:=QA.lt;have aea:=PA.lt;have aeb:=PEA.map.lt;clear SQ Cf ad8 hlk;refine br (fC VA.heap.size (xr VA.heap.size xl (x.2.map en) (AN Lo c))) (fC.below (oJ _ _ _ _) (Ext.refl VA).drew.below) (fun _ _ _ h k=>h.trans k) (by kernel_rfl) 9 [0,0,0,0,12,28,0,64,252,511] (fun i=>i==5 || i==7 || i==8) (by kernel_rfl) (fun i=>if i=5 then aU.fact _ _ 0 (fun v=>∃ a c,v=AI a xl c) (AI As xl 0) ⟨As,0,rfl⟩else if i=7 then aU.fact _ _ 2 (fun v=>∃ b,v=AI (An ⟨b,0,As⟩) 1 1) (AI (An ⟨0,0,As⟩) 1 1) ⟨0,rfl⟩else if i=8 then aU.fact _ _ 1 (fun v=>∃ a c,v=AI a (xl+1) c) (AI As (xl+1) 0) ⟨As,0,rfl⟩else aU.any _) ?_;intro C hC hne;have HC:=AT hC;have od:∀ (b o:Nat) (u:Value),b<VA.heap.size->VA.cell? ⟨b,o,As⟩=An u->∀ W: {W//C W},W.1.cell? ⟨b,o,As⟩=An u:=fun b o u hb hu W=>(((hC W.1).1 W.2).1.cell (p:=⟨b,o,As⟩) ⟨hb,hb⟩).trans hu
       have f0:=od _ _ _ ad9 t0;have f1:=od _ _ _ ad9 t1';have f2:=od _ _ _ aea p0;have f3:=od _ _ _ aea p1;have f4:∀ W: {W//C W},(A_ 206 (.map (An g0)) (Is #[AN AS s1,AN AS s2]) GO).run AM W.1=.ok (AI ya xl yc) W.1:=fun W=>HYL W.1 (PEA.map.keeps ((hC W.1).1 W.2).1 ⟨aeb,aeb⟩)
       clear hC od t0 t1' p0 p1
       repeat (refine au (fun K hK=>?_);first | (refine bL rfl ?_;try go_simp;refine hK _ _ ?_;clear hK K) | (refine bJ rfl rfl ?_;unfold az;go_simp;refine hK _ _ ?_;clear hK K))
       refine au (fun K0 hK=>?_);refine bS rfl rfl (aU.fact _ _ 0 (fun v=>∃ a c,v=AI a xl c) (AI As xl 0) ⟨As,0,rfl⟩) rfl (fun W hW hN=>?_) (fun v hv=>?_)
       ·have tT:=(HC.out W).1 hW
        have nI:=tT.1.size;have hr9:=ak SR tT.1 fun z e=>⟨(SR.lt z e).2,(SR.lt z e).2⟩
        clear hW hK K0 hN tT;go_simp;refine bA ((vw _ x.2 W (bU hr9 NL) (by rw[<-NL.out];omega)).mono ?_);rintro e w2 ⟨u,rfl,ho,hx⟩;rw[<-NL.out]at ho;have GG:w2.ownsRow VA.heap.size 5 1 u xl (x.2.map en):=aC ho nI;exact⟨_,rfl,fC.below (oJ _ _ _ _) hx,ownsRow_form GG,GG⟩
       obtain⟨a5,c5,rfl⟩:=hv;go_simp;refine hK _ _ ?_;clear hK K0
       repeat (refine au (fun K hK=>?_);first | (refine bL rfl ?_;try go_simp;refine hK _ _ ?_;clear hK K) | (refine bJ rfl rfl ?_;unfold az;go_simp;refine hK _ _ ?_;clear hK K))
       refine au (fun K0 hK=>?_);refine bS rfl rfl (aU.fact _ _ 2 (fun v=>∃ b,v=AI (An ⟨b,0,As⟩) 1 1) (AI (An ⟨0,0,As⟩) 1 1) ⟨0,rfl⟩) rfl (fun W hW hN=>?_) (fun v hv=>?_)
       ·clear hW hK K0 hN
        go_simp;exact⟨fC.below (oJ _ _ _ _) ((Ext.refl _).alloc _).below,⟨_,rfl⟩,fun b hb=>by cases hb;exact ar.new _ _ _⟩
       obtain⟨b7,rfl⟩:=hv;go_simp;refine hK _ _ ?_;clear hK K0;refine au (fun K0 hK=>?_);refine bS rfl rfl (aU.fact _ _ 1 (fun v=>∃ a c,v=AI a (xl+1) c) (AI As (xl+1) 0) ⟨As,0,rfl⟩) rfl (fun W hW hN=>?_) (fun v hv=>?_)
       ·have tT:=(HC.out W).1 hW
        have nI:=tT.1.size;have h0:W.ownsRow VA.heap.size 5 1 (AI a5 xl c5) xl (x.2.map en):=hN.at 1 rfl (by kernel_rfl);have Pt:∀ b,(AI (An ⟨b7,0,As⟩) 1 1:Value)=AI (An ⟨b,0,As⟩) 1 1->ar W b #[AN Lo c] 5:=hN.at 0 rfl (by kernel_rfl);clear hW hK K0 hN tT;refine qP (.tmp 92) (.tmp 94) 44 rfl VA.heap.size 5 iB (AN Lo 0) 1 1 Tryz.underlying44 YH Hu Hv Hw rfl (by decide) (AI a5 xl c5) xl (x.2.map en) rfl h0 (AI (An ⟨b7,0,As⟩) 1 1) 1 [AN Lo c] rfl (.inr ⟨⟨b7,0,As⟩,1,rfl,cC (Pt b7 rfl)⟩) rfl (by simp[GS]) (by unfold maxLen;omega) (by omega) nI ?_;intro v' w' ho hg halt;rcases halt with hb | ⟨g,cap,y1,y2,y3⟩
        ·exact⟨fC.below (oJ _ _ _ _) hb,ownsRow_form ho,ho⟩
        ·subst y2
         rw[y1]at h0 hg;exact⟨⟨ae.aZ hg fun x hx=>⟨hx.2,fun e=>by cases e;have:=(h0.lt _ rfl).1;have:=hx.1;omega⟩,Ce h0 ho hg⟩,⟨_,_,rfl⟩,ho⟩
       obtain⟨a8,c8,rfl⟩:=hv;go_simp;refine hK _ _ ?_;clear hK K0;refine bC (fun W hW hH=>?_);have tT:=(HC.out W).1 hW;have RO:DS (W.ownsRow g0 5 1 (AI a8 (xl+1) c8) (xl+1) (x.2.map en++ [AN Lo c])):=AT (aC (hH _ (ax (show _=An _ from rfl:_[0]? =An _))) hgA);have YW:DS (aa VA W):=AT (tT.1.mono fun z (hz:z<VA.heap.size)=>⟨hz,hz⟩:ae (· <VA.heap.size) VA W).below;have FVW:=AT (ai FVA YW);have PEW:=AT (PEA.below YW);have PW:=AT (PA.below YW PA.lt);have QW:=AT (QA.below YW QA.lt);have KVW:DS (ae (· <w3.heap.size) w3 W):=AT (KVA.tr (ae.aj YW fun z (hz:z<w3.heap.size)=>by have:=Kw.out;omega:ae (· <w3.heap.size) VA W));clear tT hW hH HC hne f0 f1 f2 f3 f4 YW FVA PEA PA QA KVA;obtain⟨WB,hput,hmB,hkB,hsB⟩:=SH Tryz.uI D0 PEW.map (PEW.keys fun y hy=>L4 _ (RK.2 y hy)) (ei q) (FJ q (L4 q VC).1 (L4 q VC).2) (by rw[HPV.out];exact HQ2) (AI a8 (xl+1) c8);have RO2:W.ownsRow g0 5 1 (AI a8 (xl+1) c8) (x.2++ [c]).length ((x.2++ [c]).map en):=by
        have e:(x.2++ [c]).map en=x.2.map en++ [AN Lo c]:=by rw[FG];rfl
        rw[e,aJ,Ft, <-NL.out];exact RO
       have PEB:=AT (PEW.put RO2 hmB hkB);have FVB:=AT (ak FVW hkB fun z e=>lS FVW PEW.map (fun c fz e=>by cases e) z e);have PB:=AT (PW.keeps hkB (by show pb≠g0;omega));have QB:=AT (QW.keeps hkB (by show qb≠g0;omega));have KVB:DS (ae (· <w3.heap.size) w3 WB):=AT (KVW.tr (hkB.mono fun z (hz:z<w3.heap.size)=>by show z≠g0;have:=Kw.out;omega));have hgB:g0<=WB.heap.size:=by rw[Kw.out];exact KVB.size
       rw[HPV.out]at hput;obtain⟨t0,t1'⟩:WB.cell? ⟨qb,0,As⟩=An (AN AS t1)/\WB.cell? ⟨qb,1,As⟩=An (AN AS t2):=⟨QB.cell 0,QB.cell 1⟩;obtain⟨w0',w1'⟩:W.cell? ⟨qb,0,As⟩=An (AN AS t1)/\W.cell? ⟨qb,1,As⟩=An (AN AS t2):=⟨QW.cell 0,QW.cell 1⟩;clear hmB hkB hsB RO RO2 PEW FVW PW QW KVW;go_wp2_with (at_builtin;refine Hid.out ?_);refine AT ?_;refine wpList_append_own_at _ rfl (.tmp 96) (.tmp 98) 207 rfl g0 133 iP (Is #[AN AS 0,AN AS 0]) 2 16 Tryz.underlying207 hiP Vv Vw aaa rfl (by decide) (AI fa2 L2 fc2) L2 _ rfl (FVB.alloc _) ⟨WB.heap.size,0,As⟩ 1 1 [AN AS t1,AN AS t2] rfl rfl (SK _ _ _ _) (by simp[GS]) (by unfold maxLen;omega) (by omega) (by simp;omega) ?_;intro v' w5 hown' hgrow hh hat;have Iw:=AT hown';have lB:=AT hgrow;have Ld:=AT hat;clear hown' hgrow hh hat hput t0 t1' w0' w1';go_wp2;go_roundw;case rel=>
        refine⟨k+1,L2+1,es2++ [(ei q,AI a8 (xl+1) c8)],by omega,by go_num,?_,?_,?_,?_,?_,?_⟩
        ·rw[aao.out,aJ, <-VO.out];rfl
        ·rw[aao.out,FG]
         show w5.ownsRow g0 _ _ _ _ (nt (_++ [q]));rw[Ay,HQE.out];exact Iw
        ·rw[aao.out]
         exact(PEB.below ((Ext.refl WB).alloc _).below).kept (FVB.alloc _) (by decide) lB
        ·exact(PB.out.alloc _).grown lB (Ne.symm Iy)
        ·rcases Ld.out with h5 | h5
         ·rw[h5];exact Iy
         ·rw[h5]
          intro e;have e2:(WB.alloc (.cells #[AN AS t1,AN AS t2] 133)).heap.size=pb:=by simpa using e
          have h6:=PB.out.lt;rw[Iv]at e2;omega
        ·exact(KVB.tr (ae.aj ((Ext.refl WB).alloc _).below fun z (hz:z<w3.heap.size)=>by have:=Kw.out;omega:ae (· <w3.heap.size) WB _)).tr (ae.aZ lB fun z (hz:z<w3.heap.size)=>⟨by have:=Kw.out;simp;omega,fun e=>by have:=(FVB.lt z e.symm).1;have:=Kw.out;omega⟩)
       case measure=>simp[intOf];omega
      ·have HOLD:DS (iu F (lb pj) x (dc a b p n) (k+1)=iu F (lb pj) x (dc a b p n) k):=AT (by rw[iu,Bx,if_pos (by rw[<-HQ.out];exact J'.2 ⟨_,ax hi,rfl⟩)])
       clear hi;go_wp2_with fail
       go_roundw
       case rel=>exact⟨k+1,L2,es2,by omega,by go_num,by rw[HOLD.out];exact VO,by rw[HOLD.out];exact FVA,by rw[HOLD.out];exact PEA,PA,Iy,KVA⟩
       case measure=>simp[intOf];omega
     ·obtain rfl:k=K:=by omega
      have ed:¬ ((k:Int)<k):=by omega
      have HSE:DS (dc a b p (n+1)=iu F (lb pj) x (dc a b p n) k):=AT (PS.out n x HXN);have hnL:n+1<=L2:=by have h5:=FK (F:=F) (lt:=lb pj) (x:=x) (E:=dc a b p n) k;have:=VO.out;have:=HL.out;omega
      go_wp2_with fail
      go_roundw
      case rel=>exact⟨n+1,L2,es2,by rw[HSE.out];exact VO,hnL,by go_num,by rw[HSE.out];exact IFV,by rw[HSE.out];exact IPE,aiR,IX⟩
      case measure=>simp[intOf];omega
  ·have hni:¬ ((n:Int)<L):=by omega
   have aed:DS (jW a b p=As):=AT (by
    rw[HPD.out];by_cases h5:M+1-n=0
    ·rw[h5];rfl
    ·obtain⟨f,hf⟩:∃ f,M+1-n=f+1:=⟨M-n,by omega⟩
     rw[hf,PR.out,aT (by rw[<-HL.out];omega)])
   have XWO:DS (aa w wo):=AT (X4.trans (HX.mono fun z (hz:z<w.heap.size)=>by show z<w3.heap.size;have:=Kw.out;omega:ae (· <w.heap.size) w3 wo).below);go_wp2;refine H' (v:=H_ #[AI As 0 0,IF GO]) (by simp[results,I_,go_sem]) rfl ⟨AI As 0 0,?_,?_,XWO⟩
   ·rw[aed.out];rfl
   ·rw[aed.out];exact .inl ⟨rfl,rfl⟩
end
end Go.Proofs.YtjgccapbphadjaaGreatDoor
