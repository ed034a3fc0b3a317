/- rx.nodes: the iterator over the nodes of a tree. -/
import Derived.Test.YtjgccapbphadjaaGreatDoorOX07
set_option maxRecDepth 100000
set_option maxHeartbeats 16000000
open Go.Lib (hid)
open Option renaming none->An,some->AF
open Go.Lib renaming hid->As
open Go.Value renaming slice->AI,pointer->AM,int->AN,agg->Bs,bool->J'
open Go.World renaming block_lt_of_cell?->AS
open Go.Proofs.Tryz renaming underlying181->AT,prog->DH,results206->IN,ntmps206->J_,func206->Kx,func195->Lo
open Go renaming World->A_,wpList_store_row->Bm,bodyPost_ret->C',undef->Ft,results_none->IF,Ending->L7,Addr->L_
open Bool renaming false->A',true->DS
open And renaming intro->By
open Go.RowKit renaming Hid->B_
open Go.IntKind renaming u64->B',i64->DE,u8->Ly
open List renaming cons_append->Cd,range->C_,mem_cons->D0,getElem?_cons_zero->D_,getElem?_cons_succ->D',append_assoc->E_,getElem?_toArray->FF,nil_append->F_,prefix_append_right_inj->GB,flatMap_append->GO,take_length->GS,length_cons->GW,range_succ->G',mem_of_mem_take->H_,length_mapIdx->If,take_add_one->Iv,prefix_rfl->IT,nodup_cons->I_,take_zero->I'
open Go.Operand renaming tmp->DP
open Go.Ending renaming returned->DQ
open Go.Instr renaming index->EV
open Go.RowKit.Hid renaming out->FG
open Nat renaming add_zero->G_,mul_le_mul_right->H',zero_mul->Is,zero_add->It,succ_mul->K_,le_trans->Lw
namespace Go.Proofs.YtjgccapbphadjaaGreatDoor
section
open Go Go.RowKit Go.Shelf Go.Maps
theorem Tryz.Qx:(DH.info? 179).map (fun i=>(i.zero,i.size,i.bytes))=AF (AF (Bs #[AN B' 0,AN B' 0,AN B' 0,AN B' 0,AN B' 0,AN B' 0,AN B' 0]),7,56):=by kernel_rfl
def fV:Array Value:= #[AN B' 0,AN B' 0,AN B' 0,AN B' 0,AN B' 0,AN B' 0,AN B' 0]
theorem Hs:dW [0]=fV.toList:=by
 have e:cA (bW (0:PB))=fV:=by unfold cA fV;simp only[JU];rfl
 unfold dW;rw[List.flatMap_cons,e];rfl
def McD (base n mb:Nat) (sv fv:Value) (S0 F0:List Value) (j:Nat) (W:A_):Prop:=j∈ [5,9,13,16,19]->ar W mb #[sv,fv] 177/\(j=9->W.ownsRow base 56 4 sv n S0)/\(j=16->W.ownsRow base 179 7 fv n F0)
theorem McD.alloc {base n mb:Nat} {sv fv:Value} {S0 F0:List Value} {j:Nat} {W:A_} (h:McD base n mb sv fv S0 F0 j W) (o:Obj):McD base n mb sv fv S0 F0 j (W.alloc o):=fun e=>⟨(h e).1.alloc _,fun e2=>((h e).2.1 e2).alloc _,fun e2=>((h e).2.2 e2).alloc _⟩
theorem Ht (base M:Nat) (F:Nat->Prop) (m:GM) (s:BS) (mn mx:Int) (a:Value) (X:Nat) (w:A_) (h:fE base M F w m) (hX:w.cell? ⟨X,0,An⟩=AF (AM (AF ⟨M,0,An⟩))) (El:¬F X) (hm:m.cB.length=m.aO.length) (hn:m.aO.length<448): ah 200 #[Bs (aq 2 s mn mx a),AM (AF ⟨X,0,An⟩)] w fun e w'=>e=DQ (Bs (aA ⟨eC m.aO.length,eC m.aO.length,A'⟩))/\(∃ F',fE base M F' w' ⟨m.aO++ [s],m.cB++ [0]⟩/\(∀ x,F x->F' x)/\∀ x,F' x->F x\/w.heap.size<=x)/\ae (fun x=>x<w.heap.size/\¬F x) w w':=by
 obtain⟨iS,hiS,Mg,Mh,Mi⟩:=info_parts Tryz.yM;obtain⟨iB,YH,Hu,Hv,Hw⟩:=info_parts Tryz.Qx;obtain⟨sv,fv,h1,h2,h3,h4,h5⟩:=h.row;rw[hm]at h4;obtain⟨n,iV⟩:=ag m.aO.length;rw[<-iV]at h2 h4 hn ⊢;obtain⟨sa,sc,rfl⟩:=ownsRow_form h2;obtain⟨fa,fc,rfl⟩:=ownsRow_form h4;have HM:=As h;have B1:=As h1;have O1:=As h2;have P1:=As h4;have S3:=As h3;have S5:=As h5;have oO:=As iV;have JN:=As hm;have Wk:M<w.heap.size:=h1.lt;have Mj:X<w.heap.size:=AS _ _ hX;have hXM:X≠M:=fun e=>El (by rw[e];exact h.fm)
 have rq:base<=w.heap.size:=Nat.le_of_lt (Nat.lt_of_le_of_lt (h.lt M h.fm).1 Wk);have HX:=As hX;have YI:=As El;have c0:w.cell? ⟨M,0,An⟩=AF (AI sa n sc):=h1.cell 0;have c1:w.cell? ⟨M,1,An⟩=AF (AI fa n fc):=h1.cell 1;clear h h1 h2 h3 h4 h5 hm iV hX El;have hX:=HX.out;unfold aq;go_enter Tryz.func200,Tryz.ntmps200;go_upto_region 2 with fail
 refine aw ?_;intro V hV;have N0:B_ (ar V w.heap.size #[AN Ly 2,AN B' (wd s 0).toNat,AN B' (wd s 1).toNat,AN B' (wd s 2).toNat,AN B' (wd s 3).toNat,AN DE mn,AN DE mx,a] 97):=by rw[hV];exact As (((ar.new _ _ _).alloc _).alloc _)
 have R0:B_ (ar V (w.heap.size+1) (zeroV A') 181):=by rw[hV];exact As ((ar.at (ar.new _ _ _) (by simp)).alloc _)
 have Q0:B_ (ar V (w.heap.size+1+1) (zeroV A') 181):=by rw[hV];exact As (ar.at (ar.new _ _ _) (by simp))
 have E0:B_ (Ext w V):=by rw[hV];exact As ((((Ext.refl w).alloc _).alloc _).alloc _)
 have hsz:V.heap.size=w.heap.size+1+1+1:=by rw[hV];simp
 clear hV c0 c1 hX;have BV:=As (B1.ext E0);have OV:=As (ai O1 E0.below);have PV:=As (ai P1 E0.below);have lF:=As hsz;have Tl:B_ (V.cell? ⟨X,0,An⟩=AF (AM (AF ⟨M,0,An⟩))):=As ((E0.keeps.cell (p:=⟨X,0,An⟩) Mj).trans HX);have c0:V.cell? ⟨M,0,An⟩=AF (AI sa n sc):=BV.cell 0;have c1:V.cell? ⟨M,1,An⟩=AF (AI fa n fc):=BV.cell 1;have hX:=Tl.out;clear hsz;go_upto_region 3 with fail
 refine RegQ.br (qA (AI fa n fc) V.heap.size base n M F (aL m.aO++(encS s).toList) (dW m.cB++fV.toList) (encS s) fV) qA.drew (fun _ _ _ h k=>h.trans k) (by kernel_rfl) 20 [0,0,0,4,12,28,0,64,192,508,0,1024,3072,7168,0,16384,65532,131069,262141,524285,1048575,2097151,4194303] (fun i=>i==5 || i==8 || i==9 || i==13 || i==15 || i==16 || i==19 || i==22) (by kernel_rfl) (fun i=>if i=5 then aU.Cm _ (AI sa n sc)else if i=8 then rp.box _ _ _ _ _ _ _ _ _ _ else if i=9 then rp.acj _ _ _ _ _ _ _ _ _ _ (AI sa n sc)else if i=13 then aU.Cm _ (AI fa n fc)else if i=15 then rp.aci _ _ _ _ _ _ _ _ _ _ else if i=16 then rp.ack _ _ _ _ _ _ _ _ _ _ else if i=19 then rp.sto _ _ _ _ _ _ _ _ _ _ (AI sa n sc)else aU.any _) (McD base n M (AI sa n sc) (AI fa n fc) (aL m.aO) (dW m.cB)) (fun _ _ _=>⟨BV,fun _=>OV,fun _=>PV⟩) ?_;intro C hC hne;have HC:=As hC;have hVw:w.heap.size<=V.heap.size:=by rw[lF.out];omega
 have hXv:X<V.heap.size:=by rw[lF.out];omega
 have fX:∀ W: {W//C W},W.1.cell? ⟨X,0,An⟩=AF (AM (AF ⟨M,0,An⟩)):=fun W=>(((hC W.1).1 W.2).keep.cell (p:=⟨X,0,An⟩) ⟨hXv,hXv,YI⟩).trans hX
 have hnV:¬F w.heap.size:=fun e=>by have:=(HM.lt _ e).2;omega
 have g1:∀ W: {W//C W},W.1.cell? ⟨w.heap.size,1,An⟩=AF (AN B' (wd s 0).toNat):=fun W=>(((hC W.1).1 W.2).keep.cell (p:=⟨w.heap.size,1,An⟩) ⟨N0.lt,N0.lt,hnV⟩).trans (N0.cell 1)
 have g2:∀ W: {W//C W},W.1.cell? ⟨w.heap.size,2,An⟩=AF (AN B' (wd s 1).toNat):=fun W=>(((hC W.1).1 W.2).keep.cell (p:=⟨w.heap.size,2,An⟩) ⟨N0.lt,N0.lt,hnV⟩).trans (N0.cell 2)
 have g3:∀ W: {W//C W},W.1.cell? ⟨w.heap.size,3,An⟩=AF (AN B' (wd s 2).toNat):=fun W=>(((hC W.1).1 W.2).keep.cell (p:=⟨w.heap.size,3,An⟩) ⟨N0.lt,N0.lt,hnV⟩).trans (N0.cell 3)
 have g4:∀ W: {W//C W},W.1.cell? ⟨w.heap.size,4,An⟩=AF (AN B' (wd s 3).toNat):=fun W=>(((hC W.1).1 W.2).keep.cell (p:=⟨w.heap.size,4,An⟩) ⟨N0.lt,N0.lt,hnV⟩).trans (N0.cell 4)
 clear hC c0 c1 hX
 repeat (refine RegQ.au (fun K hK=>?_);first | (refine RegQ.bL rfl ?_;try go_simp;refine hK _ _ ?_;clear hK K) | (refine RegQ.bJ rfl rfl ?_;unfold az;go_simp;refine hK _ _ ?_;clear hK K))
 refine RegQ.au (fun K hK=>?_);refine RegQ.bS rfl rfl (aU.Cm _ (AI sa n sc)) rfl (fun W hW hD hN=>?_) (fun v hv=>?_)
 ·have hD:=(hD (by decide)).1.cell 0
  have hD:W.cell? ⟨M,0,An⟩=AF (AI sa n sc):=hD;clear hW hN hK K;go_simp;exact⟨⟨qA.below (Below.refl _ _),fun j=>by intros;assumption⟩,rfl,trivial⟩
 replace hv:v=_:=hv;subst hv;go_simp;refine hK _ _ ?_;clear hK K
 repeat (refine RegQ.au (fun K hK=>?_);first | (refine RegQ.bL rfl ?_;try go_simp;refine hK _ _ ?_;clear hK K) | (refine RegQ.bJ rfl rfl ?_;unfold az;go_simp;refine hK _ _ ?_;clear hK K))
 refine RegQ.au (fun K hK=>?_);refine RegQ.bS rfl rfl (rp.box (AI fa n fc) V.heap.size base n M F (aL m.aO++(encS s).toList) (dW m.cB++fV.toList) (encS s) fV) rfl (fun W hW hD hN=>?_) (fun v hv=>?_)
 ·have hMz:=((HC W).1 hW).size
  clear hW hN hK K;go_simp;exact⟨⟨qA.below ((Ext.refl _).alloc _).below,fun j _ _ h=>h.alloc _⟩,⟨_,by omega,rfl⟩,fun b hb=>by cases hb;exact ar.new _ _ _⟩
 obtain⟨bx,yL,rfl⟩:=hv;go_simp;refine hK _ _ ?_;clear hK K;refine RegQ.au (fun K hK=>?_);refine RegQ.bS rfl rfl (rp.acj (AI fa n fc) V.heap.size base n M F (aL m.aO++(encS s).toList) (dW m.cB++fV.toList) (encS s) fV (AI sa n sc)) rfl (fun W hW hD hN=>?_) (fun v hv=>?_)
 ·have hMz:=((HC W).1 hW).size
  have rq:ar W bx (encS s) 56:=hN.at 0 rfl (by kernel_rfl) bx rfl;obtain⟨F6,hDo,_⟩:=hD (by decide);have HBW:=As rq;have Qy:=As F6;have yl:=As (hDo rfl);clear hW hN hK K rq F6 hDo hD;refine lT (DP 16) (DP 19) 26 rfl base 56 iS _ 4 32 Tryz.underlying26 hiS Mg Mh Mi rfl (by decide) (AI sa n sc) n (aL m.aO) rfl yl ⟨bx,0,An⟩ 1 1 (encS s).toList rfl (cC HBW) rfl (by intro u hu;simp[encS]at hu;rcases hu with rfl | rfl | rfl | rfl<;>rfl) (by unfold maxLen;omega) (by omega) (by omega) (by decide) ?_;intro v' w2 ho hg kA;refine⟨⟨qA.apS yl (fun x e=>⟨by rw[lF.out];have:=(O1.lt x e).2;omega,S3 x e⟩) Qy ho hg (kA.imp (fun h=>h.1) id),fun j hj _ h e=>⟨(h e).1.grown hg (fun e2=>bZ Qy yl (by decide) M e2.symm rfl),fun e2=>absurd e2 hj,fun e2=>((h e).2.2 e2).kept hg (ownBlock_ne (by decide) ((h e).2.2 e2) yl)⟩⟩,ownsRow_form ho,ho,?_⟩;rcases kA with⟨_,h⟩ | ⟨g,cap,h1,h2,_⟩
  ·exact .inr fun x hx=>by rw[h]at hx;cases hx;omega
  ·exact .inl (by rw[h2,h1];rfl)
 obtain⟨s1,s2,rfl⟩:=hv;go_simp;refine hK _ _ ?_;clear hK K
 repeat (refine RegQ.au (fun K hK=>?_);first | (refine RegQ.bL rfl ?_;try go_simp;refine hK _ _ ?_;clear hK K) | (refine RegQ.bJ rfl rfl ?_;unfold az;go_simp;refine hK _ _ ?_;clear hK K))
 refine RegQ.au (fun K hK=>?_);refine RegQ.bS rfl rfl (aU.Cm _ (AI fa n fc)) rfl (fun W hW hD hN=>?_) (fun v hv=>?_)
 ·have hD:=(hD (by decide)).1.cell 1
  have hD:W.cell? ⟨M,1,An⟩=AF (AI fa n fc):=hD;clear hW hN hK K;go_simp;exact⟨⟨qA.below (Below.refl _ _),fun j=>by intros;assumption⟩,rfl,trivial⟩
 replace hv:v=_:=hv;subst hv;go_simp;refine hK _ _ ?_;clear hK K
 repeat (refine RegQ.au (fun K hK=>?_);first | (refine RegQ.bL rfl ?_;try go_simp;refine hK _ _ ?_;clear hK K) | (refine RegQ.bJ rfl rfl ?_;unfold az;go_simp;refine hK _ _ ?_;clear hK K))
 refine RegQ.au (fun K hK=>?_);refine RegQ.bS rfl rfl (rp.aci (AI fa n fc) V.heap.size base n M F (aL m.aO++(encS s).toList) (dW m.cB++fV.toList) (encS s) fV) rfl (fun W hW hD hN=>?_) (fun v hv=>?_)
 ·have hMz:=((HC W).1 hW).size
  clear hW hN hK K;go_simp;exact⟨⟨qA.below ((Ext.refl _).alloc _).below,fun j _ _ h=>h.alloc _⟩,⟨_,by omega,rfl⟩,fun b hb=>by cases hb;exact ar.new _ _ _⟩
 obtain⟨by_,anq,rfl⟩:=hv;go_simp;refine hK _ _ ?_;clear hK K;refine RegQ.au (fun K hK=>?_);refine RegQ.bS rfl rfl (rp.ack (AI fa n fc) V.heap.size base n M F (aL m.aO++(encS s).toList) (dW m.cB++fV.toList) (encS s) fV) rfl (fun W hW hD hN=>?_) (fun v hv=>?_)
 ·have hMz:=((HC W).1 hW).size
  have rq:ar W by_ fV 179:=hN.at 0 rfl (by kernel_rfl) by_ rfl;obtain⟨F6,_,hDo⟩:=hD (by decide);have HBW:=As rq;have Qy:=As F6;have yl:=As (hDo rfl);clear hW hN hK K rq F6 hDo hD;refine lT (DP 24) (DP 26) 175 rfl base 179 iB _ 7 56 Tryz.underlying175 YH Hu Hv Hw rfl (by decide) (AI fa n fc) n (dW m.cB) rfl yl ⟨by_,0,An⟩ 1 1 fV.toList rfl (cC HBW) rfl (by intro u hu;simp[fV]at hu;subst hu;rfl) (by unfold maxLen;omega) (by omega) (by omega) (by decide) ?_;intro v' w2 ho hg kA;refine⟨⟨qA.apF yl (fun x e=>⟨by rw[lF.out];have:=(P1.lt x e).2;omega,S5 x e⟩) Qy ho hg (kA.imp (fun h=>h.1) id),fun j hj _ h e=>⟨(h e).1.grown hg (fun e2=>bZ Qy yl (by decide) M e2.symm rfl),fun e2=>((h e).2.1 e2).kept hg (ownBlock_ne (by decide) ((h e).2.1 e2) yl),fun e2=>absurd e2 hj⟩⟩,ownsRow_form ho,ho,?_⟩;rcases kA with⟨_,h⟩ | ⟨g,cap,h1,h2,_⟩
  ·exact .inr fun x hx=>by rw[h]at hx;cases hx;omega
  ·exact .inl (by rw[h2,h1];rfl)
 obtain⟨f1,f2,rfl⟩:=hv;go_simp;refine hK _ _ ?_;clear hK K
 repeat (refine RegQ.au (fun K hK=>?_);first | (refine RegQ.bL rfl ?_;try go_simp;refine hK _ _ ?_;clear hK K) | (refine RegQ.bJ rfl rfl ?_;unfold az;go_simp;refine hK _ _ ?_;clear hK K))
 refine RegQ.au (fun K hK=>?_);refine RegQ.bS rfl rfl (rp.sto (AI fa n fc) V.heap.size base n M F (aL m.aO++(encS s).toList) (dW m.cB++fV.toList) (encS s) fV (AI sa n sc)) rfl (fun W hW hD hN=>?_) (fun v hv=>?_)
 ·have hrow:W.ownsRow base 56 4 (AI s1 (n+1) s2) (n+1) (aL m.aO++(encS s).toList)/\((AI s1 (n+1) s2).ownBlock=(AI sa n sc).ownBlock\/∀ x,(AI s1 (n+1) s2).ownBlock=AF x->V.heap.size<=x):=hN.at 3 rfl (by kernel_rfl)
  obtain⟨F6,_⟩:=hD (by decide);have Qy:=As F6;have gQ:=As hrow;have hc0:W.cell? ⟨M,0,An⟩=AF (AI sa n sc):=Qy.cell 0;have hz0:=Qy.frozen 0;have hFM:=HM.fm;clear hW hN hK K hrow F6 hD;go_simp;refine⟨⟨qA.store _ Qy ⟨_,_,rfl⟩ hFM (by omega),fun j hj hb h e=>?_⟩,trivial,_,_,Qy.set 0 _,?_,gQ.2⟩
  ·exfalso
   simp at e;rcases e with rfl | rfl | rfl | rfl | rfl
   ·revert hb;decide
   ·revert hb;decide
   ·revert hb;decide
   ·revert hb;decide
   ·exact hj rfl
  ·exact ak gQ.1 ((ae.refl (· ≠M) W).setCell (p:=⟨M,0,An⟩) (fun h=>h rfl) _) fun x hx=>bZ Qy gQ.1 (by decide) x hx
 go_simp;refine hK _ _ ?_;clear hK K;refine RegQ.bC (fun W hW hH=>?_);have jq:=(HC.out W).1 hW;obtain⟨ta,tc,hb1,hrow,kA⟩:∃ a c,ar W M #[AI a (n+1) c,AI fa n fc] 177/\W.ownsRow base 56 4 (AI a (n+1) c) (n+1) (aL m.aO++(encS s).toList)/\((AI a (n+1) c).ownBlock=(AI sa n sc).ownBlock\/∀ x,(AI a (n+1) c).ownBlock=AF x->V.heap.size<=x):=hH _ (ax (show _=AF _ from rfl:_[0]? =AF _));have FW:B_ (W.ownsRow base 179 7 (AI f1 (n+1) f2) (n+1) (dW m.cB++fV.toList)/\((AI f1 (n+1) f2).ownBlock=(AI fa n fc).ownBlock\/∀ x,(AI f1 (n+1) f2).ownBlock=AF x->V.heap.size<=x)):=As (hH _ (ax (show _=AF _ from rfl:_[1]? =AF _)));have BW:=As hb1;have SW:=As hrow;have SWo:=As kA;have KV:=As jq.keep;have hWs:V.heap.size<=W.heap.size:=jq.size;clear jq hW hH HC hne fX g1 g2 g3 g4 hb1 hrow kA;have k0:W.cell? ⟨M,0,An⟩=AF (AI ta (n+1) tc):=BW.cell 0;have k1:W.cell? ⟨M,1,An⟩=AF (AI fa n fc):=BW.cell 1;have z1:=BW.frozen 1;go_upto_region 4 with fail
 refine aw ?_;intro W2 hW2;have hk2:ae (· ≠M) W W2:=by rw[hW2];exact(ae.refl (· ≠M) W).setCell (p:=⟨M,1,An⟩) (fun h=>h rfl) _
 have BM:B_ (ar W2 M #[AI ta (n+1) tc,AI f1 (n+1) f2] 177):=As (by rw[hW2];exact BW.set 1 _);have S2:=As (ak SW hk2 fun x hx=>bZ BW SW (by decide) x hx);have F2:=As (ak FW.1 hk2 fun x hx=>bZ BW FW.1 (by decide) x hx);have KA:B_ (ae (fun x=>x<V.heap.size/\¬F x) V W2):=As ((KV.mono fun x hx=>⟨hx.1,hx.1,hx.2⟩).tr (hk2.mono fun x hx e=>hx.2 (by rw[e];exact HM.fm)));clear hW2 hk2 k0 k1 z1 BW SW KV;have ox:∀ k,w.heap.size<=k->¬F k:=fun k hk e=>by have:=(HM.lt k e).2;omega
 have hV2:w.heap.size+1+1<V.heap.size:=by rw[lF.out];omega
 have hV1:w.heap.size+1<V.heap.size:=by rw[lF.out];omega
 have R2:B_ (ar W2 (w.heap.size+1) (zeroV A') 181):=As (R0.keeps KA ⟨hV1,ox _ (by omega)⟩);obtain⟨z,hz⟩:=ag (0:PB);have oP:=ir A';rw[<-hz]at oP;have Q2:B_ (ar W2 (w.heap.size+1+1) (aA ⟨z,z,A'⟩) 181):=As (by rw[oP];exact Q0.keeps KA ⟨hV2,ox _ (by omega)⟩);have hzb:z ||| eC n=eC n:=by rw[hz];exact BitVec.zero_or
 have HZB:=As hzb;have JS:=As ox;clear hz oP hzb ox R0 Q0;go_wp2_with fail
 refine(zr (bW z) (w.heap.size+1+1) 0 n hn W2 (fP.fst Q2) (Q2.frozen _)).mono ?_;rintro e w3 ⟨⟨u,rfl⟩,hx⟩;have kk:ae (fun x=>x<W2.heap.size/\x≠w.heap.size+1+1) W2 w3:=(((ae.refl (· ≠w.heap.size+1+1) W2).setCell (p:=⟨w.heap.size+1+1,_,An⟩) (fun h=>h rfl) _).mono fun x hx=>hx.2).tr (hx.mono fun x hx=>hx.1);have hq:ar w3 (w.heap.size+1+1) (aA ⟨z ||| eC n,z,A'⟩) 181:=by rw[<-Qv z z A' hn];exact(Q2.set _ _).keeps hx Q2.lt
 have KA2:B_ (ae (fun x=>x<w.heap.size/\¬F x) V W2):=As (KA.mono fun x hx=>⟨by have:=hx.1;omega,hx.2⟩);have BM2:=BM;have hW2:V.heap.size<=W2.heap.size:=KA.size;have Q3:B_ (ar w3 (w.heap.size+1+1) (aA ⟨z ||| eC n,z,A'⟩) 181):=As hq;have R3:=As (R2.keeps kk ⟨R2.lt,by omega⟩);have BM3:=As (BM2.keeps kk ⟨BM2.lt,by omega⟩);have Tm:∀ x,x=w.heap.size+1+1->∀ (v:Value),(v.ownBlock=(AI sa n sc).ownBlock\/v.ownBlock=(AI fa n fc).ownBlock\/∀ x,v.ownBlock=AF x->V.heap.size<=x)->v.ownBlock≠AF x:=fun x hx v hv e=>by
  rcases hv with h | h | h
  ·have:=(O1.lt x (by rw[<-h,e])).2;omega
  ·have:=(P1.lt x (by rw[<-h,e])).2;omega
  ·have:=h x e;omega
 have S3:=As (ak S2 kk fun x hx=>⟨(S2.lt x hx).2,fun e=>Tm x e _ (SWo.elim .inl fun h=>.inr (.inr h)) hx⟩);have F3:=As (ak F2 kk fun x hx=>⟨(F2.lt x hx).2,fun e=>Tm x e _ (FW.2.elim (fun h=>.inr (.inl h)) fun h=>.inr (.inr h)) hx⟩);have Wm:B_ (ae (fun x=>x<w.heap.size/\¬F x) V w3):=As ((KA2).tr (kk.mono fun x hx=>⟨by have:=hx.1;omega,by have:=hx.1;omega⟩));clear hx kk Tm hq;clear Q2 R2 BM2 BM S2 F2 KA2 KA;have hw3:V.heap.size<=w3.heap.size:=Wm.size;go_wp2_with fail
 refine(zr (bW z) (w.heap.size+1+1) 7 n hn w3 (fP.cL Q3) (Q3.frozen _)).mono ?_;rintro e w4 ⟨⟨u,rfl⟩,hx⟩;have kk:ae (fun x=>x<w3.heap.size/\x≠w.heap.size+1+1) w3 w4:=(((ae.refl (· ≠w.heap.size+1+1) w3).setCell (p:=⟨w.heap.size+1+1,_,An⟩) (fun h=>h rfl) _).mono fun x hx=>hx.2).tr (hx.mono fun x hx=>hx.1);have hq:ar w4 (w.heap.size+1+1) (aA ⟨z ||| eC n,z ||| eC n,A'⟩) 181:=by rw[<-Qw (z ||| eC n) z A' hn];exact(Q3.set _ _).keeps hx Q3.lt
 have Q4:B_ (ar w4 (w.heap.size+1+1) (aA ⟨z ||| eC n,z ||| eC n,A'⟩) 181):=As hq;have R4:=As (R3.keeps kk ⟨R3.lt,by omega⟩);have BM4:=As (BM3.keeps kk ⟨BM3.lt,by omega⟩);have Tm:∀ x,x=w.heap.size+1+1->∀ (v:Value),(v.ownBlock=(AI sa n sc).ownBlock\/v.ownBlock=(AI fa n fc).ownBlock\/∀ x,v.ownBlock=AF x->V.heap.size<=x)->v.ownBlock≠AF x:=fun x hx v hv e=>by
  rcases hv with h | h | h
  ·have:=(O1.lt x (by rw[<-h,e])).2;omega
  ·have:=(P1.lt x (by rw[<-h,e])).2;omega
  ·have:=h x e;omega
 have S4:=As (ak S3 kk fun x hx=>⟨(S3.lt x hx).2,fun e=>Tm x e _ (SWo.elim .inl fun h=>.inr (.inr h)) hx⟩);have F4:=As (ak F3 kk fun x hx=>⟨(F3.lt x hx).2,fun e=>Tm x e _ (FW.2.elim (fun h=>.inr (.inl h)) fun h=>.inr (.inr h)) hx⟩);have KA4:B_ (ae (fun x=>x<w.heap.size/\¬F x) V w4):=As ((Wm).tr (kk.mono fun x hx=>⟨by have:=hx.1;omega,by have:=hx.1;omega⟩));clear hx kk Tm hq;clear Q3 R3 BM3 S3 F3 Wm;rw[HZB.out]at Q4;go_wp2_with (first | (refine aY rfl 181 (DP 4) rfl (w.heap.size+1+1) rfl (aA ⟨eC n,eC n,A'⟩) _ Q4.range AT rfl (bE _) ?_) | (refine Bm rfl 181 (DP 3) (DP 38) rfl (w.heap.size+1) (aA ⟨eC n,eC n,A'⟩) rfl rfl 181 (zeroV A') R4 (bE _) rfl (ew _) ?_;refine FG ?_));refine As ?_;obtain⟨V3,cP⟩:=ag (w4.setRow (w.heap.size+1) (aA ⟨eC n,eC n,A'⟩));rw[<-cP];have R9:B_ (ar V3 (w.heap.size+1) (aA ⟨eC n,eC n,A'⟩) 181):=by rw[cP];exact As R4.setRow
 have K9:ae (· ≠w.heap.size+1) w4 V3:=by rw[cP];exact bG _ _ _
 clear cP;go_wp2;obtain⟨m0,m1,m2,m3,m4,m5,m6,m7,m8,m9,m10,m11,m12,m13,m14⟩:=R9.part;dsimp only at m0 m1 m2 m3 m4 m5 m6 m7 m8 m9 m10 m11 m12 m13 m14;refine C' (v:=Bs (aA ⟨eC n,eC n,A'⟩)) (by simp[results,Tryz.results200,aA,go_sem,m0,m1,m2,m3,m4,m5,m6,m7,m8,m9,m10,m11,m12,m13,m14]) rfl ⟨rfl,?_,?_⟩
 ·have Tm:∀ x,x=w.heap.size+1->∀ (v:Value),(v.ownBlock=(AI sa n sc).ownBlock\/v.ownBlock=(AI fa n fc).ownBlock\/∀ x,v.ownBlock=AF x->V.heap.size<=x)->v.ownBlock≠AF x:=fun x hx v hv e=>by
   rcases hv with h | h | h
   ·have:=(O1.lt x (by rw[<-h,e])).2;omega
   ·have:=(P1.lt x (by rw[<-h,e])).2;omega
   ·have:=h x e;omega
  have S9:=ak S4 K9 fun x hx e=>Tm x e _ (SWo.elim .inl fun h=>.inr (.inr h)) hx
  have F9:=ak F4 K9 fun x hx e=>Tm x e _ (FW.2.elim (fun h=>.inr (.inl h)) fun h=>.inr (.inr h)) hx
  have B9:=BM4.keeps K9 (by omega);have hs:=K9.size;have Hq:=KA4.size;have es:aL (m.aO++ [s])=aL m.aO++(encS s).toList:=by rw[gy];simp[aL]
  have ef:dW (m.cB++ [0])=dW m.cB++fV.toList:=by rw[A8,Hs]
  have ls:(m.aO++ [s]).length=n+1:=by rw[aJ, <-oO.out];rfl
  have lf:(m.cB++ [(0:PB)]).length=n+1:=by rw[aJ,JN.out, <-oO.out];rfl
  refine⟨fun x=>F x\/(AI ta (n+1) tc).ownBlock=AF x\/(AI f1 (n+1) f2).ownBlock=AF x,⟨.inl HM.fm,fun x hx=>?_,_,_,B9,?_,fun x hx=>.inr (.inl hx),?_,fun x hx=>.inr (.inr hx)⟩,fun x hx=>.inl hx,fun x hx=>?_⟩
  ·rcases hx with h | h | h
   ·have:=HM.lt x h;exact⟨this.1,by omega⟩
   ·exact S9.lt x h
   ·exact F9.lt x h
  ·rw[ls,es];exact S9
  ·rw[lf,ef];exact F9
  ·rcases hx with h | h | h
   ·exact .inl h
   ·rcases SWo.out with h2 | h2
    ·exact .inl (S3 x (by rw[<-h2];exact h))
    ·exact .inr (by have:=h2 x h;omega)
   ·rcases FW.2 with h2 | h2
    ·exact .inl (S5 x (by rw[<-h2];exact h))
    ·exact .inr (by have:=h2 x h;omega)
 ·exact((E0.keeps.mono fun x hx=>hx.1).tr KA4).tr (K9.mono fun x hx=>by have:=hx.1;omega)
def jQ (base M:Nat) (F:Nat->Prop) (w:A_) (m:GM) (p:GP) (e:L7) (w':A_):Prop:=
 e=DQ (Bs (aA p))/\(∃ F',fE base M F' w' m/\(∀ x,F x->F' x)/\∀ x,F' x->F x\/w.heap.size<=x)/\ae (fun x=>x<w.heap.size/\¬F x) w w'/\w.heap.size<w'.heap.size
def Hy (n0:Nat) (t:RX):Prop:=∀ (base M:Nat) (F:Nat->Prop) (m:GM) (w:A_) (v:Value),n0<=base->fE base M F w m->aH (· <n0) w v t->m.ok->m.cB.length=m.aO.length->m.aO.length+t.cnt<=448->
 ah 102 #[AM (AF ⟨M,0,An⟩),v] w (jQ base M F w (t.dw m).1 (t.dw m).2)
theorem UF (n0 base M:Nat) (F:Nat->Prop) (m:GM) (k:Nat) (s:BS) (mn mx:Int) (t:RX) (l:List RX) (p:Option L_) (n c:Nat) (X:Nat) (w:A_) (bX:n0<=base) (h:fE base M F w m) (hr:aH (· <n0) w (Bs (aq k s mn mx (AI p n c))) (.nd k s mn mx (t::l))) (ht:Hy n0 t) (hX:w.cell? ⟨X,0,An⟩=AF (AM (AF ⟨M,0,An⟩))) (El:¬F X) (ok:m.ok) (hm:m.cB.length=m.aO.length) (hn:m.aO.length+t.cnt<=448): ah 207 #[Bs (aq k s mn mx (AI p n c)),AM (AF ⟨X,0,An⟩)] w (jQ base M F w (t.dw m).1 (t.dw m).2):=by
 obtain⟨b,off,p',c',rfl,hb,rq,mD,⟨e0,e1,e2,e3,e4,e5,e6,e7⟩,hrt⟩:=hr.elem (i:=0) (t:=t) rfl;have hlen:n=l.length+1:=by obtain⟨p2,c2,e⟩:=hr.form;simp[aq,RX.subs,RX.kind,RX.set,RX.mn,RX.mx]at e;exact e.2.1
 have cM:0<n:=by omega
 have HM:=As h;have UG:=As hrt;have HT:=As ht;have iM:=As ok;have JN:=As hm;have HX:=As hX;have YI:=As El;have Mj:X<w.heap.size:=AS _ _ hX;have Wk:M<w.heap.size:=(h.lt M h.fm).2;simp only[Is,G_]at e0 e1 e2 e3 e4 e5 e6 e7;have E:=As (By e0 (By e1 (By e2 (By e3 (By e4 (By e5 (By e6 e7)))))));clear h hr hrt ht ok hm hX El hlen e0 e1 e2 e3 e4 e5 e6 e7;obtain⟨m2,p2,vW⟩:∃ m2 p2,t.dw m=(m2,p2):=⟨_,_,rfl⟩;rw[vW];dsimp only;have HMP:=As vW;clear vW;unfold aq;go_enter Tryz.func207,Tryz.ntmps207;go_upto_region 1 with fail
 refine aw ?_;intro V hV;have N0:B_ (ar V w.heap.size #[AN Ly k,AN B' (wd s 0).toNat,AN B' (wd s 1).toNat,AN B' (wd s 2).toNat,AN B' (wd s 3).toNat,AN DE mn,AN DE mx,AI (AF ⟨b,off,An⟩) n c] 97):=by rw[hV];exact As ((ar.new _ _ _).alloc _)
 have R0:B_ (ar V (w.heap.size+1) (zeroV A') 181):=by rw[hV];exact As (ar.at (ar.new _ _ _) (by simp))
 have E0:B_ (Ext w V):=by rw[hV];exact As (((Ext.refl w).alloc _).alloc _)
 have lF:B_ (V.heap.size=w.heap.size+1+1):=As (by rw[hV];simp);clear hV;have Tl:V.cell? ⟨X,0,An⟩=AF (AM (AF ⟨M,0,An⟩)):=(E0.keeps.cell (p:=⟨X,0,An⟩) Mj).trans HX;have ec:∀ (o:Nat) (u:Value),w.cell? ⟨b,o,An⟩=AF u->V.cell? ⟨b,o,An⟩=AF u:=fun o u h=>(E0.keeps.cell (p:=⟨b,o,An⟩) rq).trans h
 obtain⟨e0,e1,e2,e3,e4,e5,e6,e7⟩:=E.out;replace e0:=ec _ _ e0;replace e1:=ec _ _ e1;replace e2:=ec _ _ e2;replace e3:=ec _ _ e3;replace e4:=ec _ _ e4;replace e5:=ec _ _ e5;replace e6:=ec _ _ e6;replace e7:=ec _ _ e7;have n7:V.cell? ⟨w.heap.size,7,An⟩=AF (AI (AF ⟨b,off,An⟩) n c):=N0.cell 7;have Wn:b<V.heap.size:=by rw[lF.out];omega
 have hXv:X<V.heap.size:=by rw[lF.out];omega
 clear ec E;refine aI A' (fun _=>False) (by kernel_rfl) 5 [0,0,2,6,14,31,63] (fun i=>i==5 || i==6) (by kernel_rfl) (fun _=>aU.any _) ?_;intro C hC hne;have HC:=As hC;have f0:=aD hC (p:=⟨b,off,An⟩) Wn (fun h=>h) e0;have f1:=aD hC (p:=⟨b,off+1,An⟩) Wn (fun h=>h) e1;have f2:=aD hC (p:=⟨b,off+2,An⟩) Wn (fun h=>h) e2;have f3:=aD hC (p:=⟨b,off+3,An⟩) Wn (fun h=>h) e3;have f4:=aD hC (p:=⟨b,off+4,An⟩) Wn (fun h=>h) e4;have f5:=aD hC (p:=⟨b,off+5,An⟩) Wn (fun h=>h) e5;have f6:=aD hC (p:=⟨b,off+6,An⟩) Wn (fun h=>h) e6;have f7:=aD hC (p:=⟨b,off+7,An⟩) Wn (fun h=>h) e7;have fX:=aD hC (p:=⟨X,0,An⟩) hXv (fun h=>h) Tl;have fN:=aD hC (p:=⟨w.heap.size,7,An⟩) N0.lt (fun h=>h) n7;clear hC e0 e1 e2 e3 e4 e5 e6 e7 Tl n7
 repeat (refine au (fun K hK=>?_);first | (refine bL rfl ?_;try go_simp;refine hK _ _ ?_;clear hK K) | (refine bJ rfl rfl ?_;unfold az;go_simp;refine hK _ _ ?_;clear hK K))
 refine bC (fun W hW hH=>?_);have jq:=(HC.out W).1 hW;have MW:B_ (fE base M F W m):=As ((HM.keeps E0.keeps fun x hx=>(HM.lt x hx).2).keeps (ae.aj jq.below fun _ h=>h:ae (· <V.heap.size) V W) fun x hx=>by have:=(HM.lt x hx).2;rw[lF.out];omega);have IW:B_ (aH (· <n0) W (Bs (aq t.kind t.set t.mn t.mx (AI p' t.subs.length c'))) t):=As ((UG.keeps E0.keeps fun x hx=>by have:=(HM.lt _ HM.fm).1;omega).keeps (ae.aj jq.below fun _ h=>h:ae (· <V.heap.size) V W) fun x hx=>by have:=(HM.lt _ HM.fm).1;rw[lF.out];omega);have RW:=As (R0.below jq.below R0.lt);have KW:B_ (ae (· <w.heap.size) w W):=As (E0.keeps.tr (ae.aj jq.below fun x hx=>by rw[lF.out];omega:ae (· <w.heap.size) V W));have nI:w.heap.size+1+1<=W.heap.size:=by rw[<-lF.out];exact jq.below.size
 clear jq hW hH HC hne f0 f1 f2 f3 f4 f5 f6 f7 fX fN;have CM:B_ (ah 102 #[AM (AF ⟨M,0,An⟩),Bs (aq t.kind t.set t.mn t.mx (AI p' t.subs.length c'))] W (jQ base M F W (t.dw m).1 (t.dw m).2)):=As (HT.out base M F m W _ bX MW IW iM JN hn);rw[HMP.out]at CM;dsimp only at CM;clear MW IW R0;go_wp2_with fail
 refine CM.mono ?_;rintro e w3 ⟨rfl,hF',hx,hsz⟩;have ox:∀ k,w.heap.size<=k->¬F k:=fun k hk e=>by have:=(HM.lt k e).2;omega
 have R3:B_ (ar w3 (w.heap.size+1) (zeroV A') 181):=As (RW.keeps hx ⟨by omega,ox _ (by omega)⟩);have Qz:=As hF';have HK:=As hx;clear hx hF' CM;go_wp2_with (first | (refine Bm rfl 181 (DP 3) (DP 9) rfl (w.heap.size+1) (aA p2) rfl rfl 181 (zeroV A') R3 (bE _) rfl (ew _) ?_;refine FG ?_));refine As ?_;obtain⟨V3,cP⟩:=ag (w3.setRow (w.heap.size+1) (aA p2));rw[<-cP];have R9:B_ (ar V3 (w.heap.size+1) (aA p2) 181):=by rw[cP];exact As R3.setRow
 have K9:ae (· ≠w.heap.size+1) w3 V3:=by rw[cP];exact bG _ _ _
 clear cP;go_wp2;obtain⟨m0,m1,m2,m3,m4,m5,m6,m7,m8,m9,m10,m11,m12,m13,m14⟩:=R9.part;refine C' (v:=Bs (aA p2)) (by simp[results,Tryz.results207,aA,go_sem,m0,m1,m2,m3,m4,m5,m6,m7,m8,m9,m10,m11,m12,m13,m14]) rfl ⟨rfl,?_,?_,?_⟩
 ·obtain⟨F',h1,h2,h3⟩:=Qz.out
  refine⟨F',⟨h1.fm,fun x hx=>⟨(h1.lt x hx).1,ay (h1.lt x hx).2 K9.size⟩,?_⟩,h2,fun x hx=>(h3 x hx).imp id fun h=>by omega⟩;exact(h1.keeps K9 fun x hx e=>by rcases h3 x hx with h | h;exact ox _ (by omega) h;omega).row
 ·exact(KW.mono fun x hx=>hx.1).tr ((HK.mono fun x hx=>⟨by have:=hx.1;omega,hx.2⟩).tr (K9.mono fun x hx=>by have:=hx.1;omega))
 ·have:=K9.size;omega
end
section
open Go Go.RowKit
theorem Em:∀ (a b:List RX) (st:GM×GP),RX.fM (a++b) st=RX.fM b (RX.fM a st)
 | [],_,_=>by rw[F_,RX.fM]
 | t::a,b,st=>by rw[Cd,RX.fM,RX.fM];exact Em a b _
theorem En:∀ (a b:List RX) (st:GM×GP),RX.iT (a++b) st=RX.iT b (RX.iT a st)
 | [],_,_=>by rw[F_,RX.iT]
 | t::a,b,st=>by rw[Cd,RX.iT,RX.iT];exact En a b _
theorem vX:∀ (a b:List RX),RX.gi (a++b)=RX.gi a+RX.gi b
 | [],_=>by rw[F_,RX.gi,It]
 | t::a,b=>by rw[Cd,RX.gi,RX.gi,vX a b,Nat.add_assoc]
theorem zw (l:List RX) (k:Nat):RX.gi (l.take k)<=RX.gi l:=by have h:=vX (l.take k) (l.drop k);rw[List.take_append_drop]at h;omega
theorem Ba {α:Type} {l:List α} {k:Nat} {t:α} (h:l[k]? =AF t):l.take (k+1)=l.take k++ [t]:=by rw[Iv,h];rfl
theorem zz {l:List RX} {k:Nat} {t:RX} (h:l[k]? =AF t):RX.gi (l.take (k+1))=RX.gi (l.take k)+t.cnt:=by rw[Ba h,vX,RX.gi,RX.gi,G_]
theorem Ml {l:List RX} {k:Nat} {t:RX} (h:l[k]? =AF t) (st:GM×GP):RX.fM (l.take (k+1)) st=((t.dw (RX.fM (l.take k) st).1).1,⟨(RX.fM (l.take k) st).2.fst ||| (t.dw (RX.fM (l.take k) st).1).2.fst,(RX.fM (l.take k) st).2.cL ||| (t.dw (RX.fM (l.take k) st).1).2.cL,(RX.fM (l.take k) st).2.emp || (t.dw (RX.fM (l.take k) st).1).2.emp⟩):=by rw[Ba h,Em,RX.fM,RX.fM]
theorem Mm {l:List RX} {k:Nat} {t:RX} (h:l[k]? =AF t) (st:GM×GP):RX.iT (l.take (k+1)) st=cH (t.dw (RX.iT (l.take k) st).1).1 (RX.iT (l.take k) st).2 (t.dw (RX.iT (l.take k) st).1).2:=by rw[Ba h,En,RX.iT,RX.iT]
theorem QC {l:List RX} (hl:∀ t∈l,t.full=DS) {m:GM} (hm:m.ok) (e:Bool) (k:Nat):iY m (RX.fM (l.take k) (m,⟨0,0,e⟩)) (RX.gi (l.take k)):=by have h:=AZ (l.take k) (fun t ht m hm=>nD t (hl t (H_ ht)) m hm) m (m,⟨0,0,e⟩) 0 ⟨hm,rfl,⟨fun p hp=>by simp at hp,fun p hp=>by simp at hp⟩⟩;rw[It]at h;exact h
theorem QD {l:List RX} (hl:∀ t∈l,t.full=DS) {m:GM} (hm:m.ok) (e:Bool) (k:Nat):iY m (RX.iT (l.take k) (m,⟨0,0,e⟩)) (RX.gi (l.take k)):=by have h:=AY (l.take k) (fun t ht m hm=>nD t (hl t (H_ ht)) m hm) m (m,⟨0,0,e⟩) 0 ⟨hm,rfl,⟨fun p hp=>by simp at hp,fun p hp=>by simp at hp⟩⟩;rw[It]at h;exact h
end
section
open Go Go.RowKit Go.Shelf Go.Maps
def UH (base M:Nat) (F:Nat->Prop) (st:GM×GP) (O:Nat) (V W:A_):Prop:=
 (∃ F',fE base M F' W st.1/\(∀ x,F x->F' x)/\∀ x,F' x->F x\/V.heap.size<=x)/\ar W O (aA st.2) 181/\ae (fun x=>x<V.heap.size/\¬F x/\x≠O) V W
theorem QE (n0 base M:Nat) (F:Nat->Prop) (m:GM) (k:Nat) (s:BS) (mn mx:Int) (l:List RX) (p:Option L_) (n c:Nat) (X:Nat) (w:A_) (bX:n0<=base) (h:fE base M F w m) (hr:aH (· <n0) w (Bs (aq k s mn mx (AI p n c))) (.nd k s mn mx l)) (ht:∀ t∈l,Hy n0 t) (hf:∀ t∈l,t.full=DS) (hX:w.cell? ⟨X,0,An⟩=AF (AM (AF ⟨M,0,An⟩))) (El:¬F X) (ok:m.ok) (hm:m.cB.length=m.aO.length) (hn:m.aO.length+RX.gi l<=448) (hL:l.length<=10000): ah 204 #[Bs (aq k s mn mx (AI p n c)),AM (AF ⟨X,0,An⟩)] w (jQ base M F w (RX.fM l (m,⟨0,0,A'⟩)).1 (RX.fM l (m,⟨0,0,A'⟩)).2):=by
 have hlen:n=l.length:=by obtain⟨p2,c2,e⟩:=hr.form;simp[aq,RX.subs,RX.kind,RX.set,RX.mn,RX.mx]at e;exact e.2.1
 have hn9:n<=10000:=by omega
 have HM:=As h;have HR:=As hr;have HT:=As ht;have Tn:=As hf;have iM:=As ok;have JN:=As hm;have HX:=As hX;have YI:=As El;have QF:=As hlen;have Mj:X<w.heap.size:=AS _ _ hX;have Wk:M<w.heap.size:=(h.lt M h.fm).2;have rq:n0<=w.heap.size:=by have:=(h.lt M h.fm).1;omega
 obtain⟨st,hst⟩:=ag (RX.fM l (m,⟨0,0,A'⟩));rw[<-hst];have HST:=As hst;clear h hr ht hf ok hm hX El hlen hst;unfold aq;go_enter Tryz.func204,Tryz.ntmps204;go_upto_region 2 with fail
 refine aw ?_;intro V hV;have N0:B_ (ar V w.heap.size #[AN Ly k,AN B' (wd s 0).toNat,AN B' (wd s 1).toNat,AN B' (wd s 2).toNat,AN B' (wd s 3).toNat,AN DE mn,AN DE mx,AI p n c] 97):=by rw[hV];exact As (((ar.new _ _ _).alloc _).alloc _)
 have R0:B_ (ar V (w.heap.size+1) (zeroV A') 181):=by rw[hV];exact As ((ar.at (ar.new _ _ _) (by simp)).alloc _)
 have O0:B_ (ar V (w.heap.size+1+1) (zeroV A') 181):=by rw[hV];exact As (ar.at (ar.new _ _ _) (by simp))
 have E0:B_ (Ext w V):=by rw[hV];exact As ((((Ext.refl w).alloc _).alloc _).alloc _)
 have lF:B_ (V.heap.size=w.heap.size+1+1+1):=As (by rw[hV];simp);clear hV;have n7:V.cell? ⟨w.heap.size,7,An⟩=AF (AI p n c):=N0.cell 7;have yg:w.heap.size+1+1<V.heap.size:=by rw[lF.out];omega
 have MV:B_ (fE base M F V m):=As (HM.keeps E0.keeps fun x hx=>(HM.lt x hx).2);have Tl:V.cell? ⟨X,0,An⟩=AF (AM (AF ⟨M,0,An⟩)):=(E0.keeps.cell (p:=⟨X,0,An⟩) Mj).trans HX;have HXV:=As Tl;clear Tl;go_wp2;clear n7;go_loopw [11] (fun iv W=>∃ k:Nat,k<=n/\iv=AN DE k/\UH base M F (RX.fM (l.take k) (m,⟨0,0,A'⟩)) (w.heap.size+1+1) V W) (fun iv _=>n-(intOf iv).toNat);case atStart=>
  refine⟨0,by omega,rfl,?_⟩;rw[I',RX.fM];exact⟨⟨F,MV,fun _ h=>h,fun _ h=>.inl h⟩,by rw[ir];exact O0,ae.refl _ _⟩
 case round=>
  obtain⟨k,hk,rfl,hI⟩:=hrel;obtain⟨wo,rfl⟩:=ag (wr:A_);have HI:=As hI;clear hI;by_cases hlt:k<n
  ·have ed:(k:Int)<n:=by omega
   obtain⟨t,er⟩:∃ t,l[k]? =AF t:=⟨_,aB (by have:=QF.out;omega)⟩;have vY:∀ x,x<n0->¬F x:=fun x hx e=>by have:=(HM.lt x e).1;omega
   obtain⟨b,off,p',c',rfl,hb,hbw2,mD,⟨e0,e1,e2,e3,e4,e5,e6,e7⟩,hrt⟩:=HR.elem er;have pM:=As er;have KO:B_ (ae (fun x=>x<w.heap.size/\¬F x) w wo):=As ((E0.keeps.mono fun x hx=>hx.1).tr (HI.2.2.mono fun x hx=>⟨by have:=hx.1;omega,hx.2,by have:=hx.1;omega⟩));have ec:∀ (o:Nat) (u:Value),w.cell? ⟨b,o,An⟩=AF u->wo.cell? ⟨b,o,An⟩=AF u:=fun o u h=>(KO.cell (p:=⟨b,o,An⟩) ⟨hbw2,vY b hb⟩).trans h
   replace e0:=ec _ _ e0;replace e1:=ec _ _ e1;replace e2:=ec _ _ e2;replace e3:=ec _ _ e3;replace e4:=ec _ _ e4;replace e5:=ec _ _ e5;replace e6:=ec _ _ e6;replace e7:=ec _ _ e7;have Tp:wo.cell? ⟨X,0,An⟩=AF (AM (AF ⟨M,0,An⟩)):=(KO.cell (p:=⟨X,0,An⟩) ⟨Mj,YI⟩).trans HX;have HXo:=As Tp;have hbo:b<wo.heap.size:=AS _ _ e0;have UG:B_ (aH (· <n0) wo (Bs (aq t.kind t.set t.mn t.mx (AI p' t.subs.length c'))) t):=As (hrt.keeps KO fun x hx=>⟨by omega,vY x hx⟩);clear ec er hrt vY Tp;go_upto_region 5 with fail
   refine aw ?_;intro W1 hW1;have N1:B_ (ar W1 wo.heap.size (aq t.kind t.set t.mn t.mx (AI p' t.subs.length c')) 97):=by rw[hW1];exact As (ar.new _ _ _)
   have E1:B_ (Ext wo W1):=by rw[hW1];exact As ((Ext.refl wo).alloc _)
   clear hW1 e0 e1 e2 e3 e4 e5 e6 e7;have e0:W1.cell? ⟨wo.heap.size,0,An⟩=AF (AN Ly t.kind):=N1.cell 0;have e1:W1.cell? ⟨wo.heap.size,1,An⟩=AF (AN B' (wd t.set 0).toNat):=N1.cell 1;have e2:W1.cell? ⟨wo.heap.size,2,An⟩=AF (AN B' (wd t.set 1).toNat):=N1.cell 2;have e3:W1.cell? ⟨wo.heap.size,3,An⟩=AF (AN B' (wd t.set 2).toNat):=N1.cell 3;have e4:W1.cell? ⟨wo.heap.size,4,An⟩=AF (AN B' (wd t.set 3).toNat):=N1.cell 4;have e5:W1.cell? ⟨wo.heap.size,5,An⟩=AF (AN DE t.mn):=N1.cell 5;have e6:W1.cell? ⟨wo.heap.size,6,An⟩=AF (AN DE t.mx):=N1.cell 6;have e7:W1.cell? ⟨wo.heap.size,7,An⟩=AF (AI p' t.subs.length c'):=N1.cell 7;have Tp:W1.cell? ⟨X,0,An⟩=AF (AM (AF ⟨M,0,An⟩)):=(E1.keeps.cell (p:=⟨X,0,An⟩) (AS _ _ HXo)).trans HXo;obtain⟨⟨F',Bb,Mn,hF2⟩,hO,Eo⟩:=HI.out;have bO:=QC Tn iM A' k;have hcs:=zz pM;have hct:=zw l (k+1);have nV:=Ml pM (m,(⟨0,0,A'⟩:GP));have CM:B_ (ah 102 #[AM (AF ⟨M,0,An⟩),Bs (aq t.kind t.set t.mn t.mx (AI p' t.subs.length c'))] W1 (jQ base M F' W1 (t.dw (RX.fM (l.take k) (m,⟨0,0,A'⟩)).1).1 (t.dw (RX.fM (l.take k) (m,⟨0,0,A'⟩)).1).2)):=As (HT.out t (ax pM) base M F' _ W1 _ bX (Bb.keeps E1.keeps fun x hx=>(Bb.lt x hx).2) (UG.keeps E1.keeps fun x hx=>by have:=KO.size;omega) bO.ok bO.ok.len (by rw[bO.len];omega));clear bO hcs hct;obtain⟨sk,hsk⟩:=ag (RX.fM (l.take k) (m,(⟨0,0,A'⟩:GP)));rw[<-hsk]at CM hO Bb nV;obtain⟨m2,p2,vW⟩:∃ m2 p2,t.dw sk.1=(m2,p2):=⟨_,_,rfl⟩;rw[vW]at CM nV;dsimp only at CM nV;have UI:=As nV;have QG:¬F' (w.heap.size+1+1):=fun e=>by rcases hF2 _ e with h | h;exact absurd (HM.lt _ h).2 (by omega);omega
   have O1:=As (hO.ext E1);have Wo:=As Mn;have JV:=As hF2;have Mo:=As Eo;have pG:=As QG;clear nV vW hsk hO Bb Mn hF2 Eo QG HI;go_wp2_with fail
   refine CM.mono ?_;rintro e w2 ⟨rfl,hF'',hx,hsz⟩;have O2:=As (O1.keeps hx ⟨O1.lt,pG⟩);have agX:=As hF'';have UJ:=As hx;clear hF'' hx CM e0 e1 e2 e3 e4 e5 e6 e7 Tp;unfold aA;go_upto_region 6 with fail
   refine aw ?_;intro W3 hW3;have X3:B_ (ar W3 w2.heap.size (aA p2) 181):=by rw[hW3];exact As (ar.new _ _ _)
   have E3:B_ (Ext w2 W3):=by rw[hW3];exact As ((Ext.refl w2).alloc _)
   have O3:=As (O2.ext E3);have hO2:w.heap.size+1+1<w2.heap.size:=O2.lt;clear hW3 O1 O2;obtain⟨a0,a1,a2,a3,a4,a5,a6,a7,a8,a9,jZ,j3,a12,j4,jo⟩:=X3.part;obtain⟨o0,o1,o2,o3,o4,o5,o6,o7,o8,o9,qw,qx,qy,qz,qg⟩:=O3.part;obtain⟨z0,z1,z2,z3,z4,z5,z6,z7,z8,z9,z10,z11,z12,z13,z14⟩:=O3.nJ
   try dsimp only at o0 o1 o2 o3 o4 o5 o6 o7 o8 o9 qw qx qy qz qg
   go_wp2_with fail
   clear a0 a1 a2 a3 a4 a5 a6 a7 a8 a9 jZ j3 a12 j4 jo o0 o1 o2 o3 o4 o5 o6 o7 o8 o9 qw qx qy qz qg z0 z1 z2 z3 z4 z5 z6 z7 z8 z9 z10 z11 z12 z13 z14;refine(jP (bW sk.2.fst) (bW p2.fst) (w.heap.size+1+1) 0 W3 (fP.fst O3) (fun i _=>O3.frozen _)).mono ?_;rintro e w4 ⟨⟨u,rfl⟩,hx⟩;have O4:B_ (ar w4 (w.heap.size+1+1) (aA ⟨sk.2.fst ||| p2.fst,sk.2.cL,sk.2.emp⟩) 181):=As ((pY O3 (sk.2.fst ||| p2.fst) (fun i _=>(vO sk.2.fst p2.fst i).symm)).keeps hx O3.lt);have K4:B_ (ae (fun x=>x<W3.heap.size/\x≠w.heap.size+1+1) W3 w4):=As (((cJ _ _ _ _ _:ae (· ≠w.heap.size+1+1) W3 _).mono fun x hx=>hx.2).tr (hx.mono fun x hx=>hx.1));have X4:=As (X3.keeps K4 ⟨X3.lt,by omega⟩);clear hx;obtain⟨a0,a1,a2,a3,a4,a5,a6,a7,a8,a9,jZ,j3,a12,j4,jo⟩:=X4.part;obtain⟨o0,o1,o2,o3,o4,o5,o6,o7,o8,o9,qw,qx,qy,qz,qg⟩:=O4.part;obtain⟨z0,z1,z2,z3,z4,z5,z6,z7,z8,z9,z10,z11,z12,z13,z14⟩:=O4.nJ
   try dsimp only at o0 o1 o2 o3 o4 o5 o6 o7 o8 o9 qw qx qy qz qg
   go_wp2_with fail
   clear a0 a1 a2 a3 a4 a5 a6 a7 a8 a9 jZ j3 a12 j4 jo o0 o1 o2 o3 o4 o5 o6 o7 o8 o9 qw qx qy qz qg z0 z1 z2 z3 z4 z5 z6 z7 z8 z9 z10 z11 z12 z13 z14;refine(jP (bW sk.2.cL) (bW p2.cL) (w.heap.size+1+1) 7 w4 (fP.cL (a:=⟨sk.2.fst ||| p2.fst,sk.2.cL,sk.2.emp⟩) O4) (fun i _=>O4.frozen _)).mono ?_;rintro e w5 ⟨⟨u,rfl⟩,hx⟩;have O5:B_ (ar w5 (w.heap.size+1+1) (aA ⟨sk.2.fst ||| p2.fst,sk.2.cL ||| p2.cL,sk.2.emp⟩) 181):=As ((pZ O4 (sk.2.cL ||| p2.cL) (fun i _=>(vO sk.2.cL p2.cL i).symm)).keeps hx O4.lt);have K5:B_ (ae (fun x=>x<W3.heap.size/\x≠w.heap.size+1+1) W3 w5):=As (K4.tr (((cJ _ _ _ _ _:ae (· ≠w.heap.size+1+1) w4 _).mono fun x hx=>hx.2).tr (hx.mono fun x hx=>by have:=K4.size;exact ay hx.1 this)));have X5:=As (X3.keeps K5 ⟨X3.lt,by omega⟩);clear hx;obtain⟨a0,a1,a2,a3,a4,a5,a6,a7,a8,a9,jZ,j3,a12,j4,jo⟩:=X5.part;obtain⟨o0,o1,o2,o3,o4,o5,o6,o7,o8,o9,qw,qx,qy,qz,qg⟩:=O5.part;obtain⟨z0,z1,z2,z3,z4,z5,z6,z7,z8,z9,z10,z11,z12,z13,z14⟩:=O5.nJ
   try dsimp only at o0 o1 o2 o3 o4 o5 o6 o7 o8 o9 qw qx qy qz qg
   obtain⟨eb,Hz⟩:=ag sk.2.emp;rw[<-Hz]at qg;have YJ:=As Hz;clear Hz;cases eb;all_goals
    go_wp2;go_roundw;case rel=>
     refine⟨k+1,by omega,by go_num,?_⟩;rw[UI.out];obtain⟨F'',g1,g2,g3⟩:=agX.out;have h1:=E1.keeps.size;have h2:=Mo.size;have h3:=E3.keeps.size;have K6:=K5.setCell (p:=⟨w.heap.size+1+1,14,An⟩) (fun h=>h.2 rfl) (J' (sk.2.emp || p2.emp));have O6:=O5.set 14 (J' (sk.2.emp || p2.emp));have agY:¬F'' (w.heap.size+1+1):=fun e=>by rcases g3 _ e with h | h;exact pG h;omega
     rw[<-YJ.out]at K6 O6 ⊢;simp only[Bool.false_or,Bool.true_or]at K6 O6 ⊢;refine⟨⟨F'',(g1.keeps E3.keeps fun x hx=>(g1.lt x hx).2).keeps K6 fun x hx=>⟨by have:=(g1.lt x hx).2;omega,fun e=>agY (e▸hx)⟩,fun x h=>g2 x (Wo x h),fun x h=>by rcases g3 x h with h | h;exact JV x h;exact .inr (by omega)⟩,O6,?_⟩;exact Mo.tr ((E1.keeps.mono fun x hx=>by have:=hx.1;omega).tr ((UJ.mono fun x hx=>⟨by have:=hx.1;omega,fun e=>by rcases JV.out x e with h | h;exact hx.2.1 h;have:=hx.1;omega⟩).tr ((E3.keeps.mono fun x hx=>by have:=hx.1;omega).tr (K6.mono fun x hx=>⟨by have:=hx.1;omega,hx.2.2⟩))))
    case measure=>simp[intOf];omega
  ·obtain rfl:k=n:=by omega
   have Cq:¬ ((k:Int)<k):=by omega
   obtain⟨hF',hO,hK⟩:=HI.out;rw[QF.out,GS, <-HST.out]at hF' hO;have Qz:=As hF';have O3:=As hO;have HK:=As hK;have R3:B_ (ar wo (w.heap.size+1) (zeroV A') 181):=As (R0.keeps hK ⟨R0.lt,fun e=>by have:=(HM.lt _ e).2;omega,by omega⟩);clear hF' hO hK HI;go_wp2_with (first | (refine aY rfl 181 (DP 4) rfl (w.heap.size+1+1) rfl (aA st.2) _ O3.range AT rfl (bE _) ?_) | (refine Bm rfl 181 (DP 3) (DP 34) rfl (w.heap.size+1) (aA st.2) rfl rfl 181 (zeroV A') R3 (bE _) rfl (ew _) ?_;refine FG ?_));refine As ?_;obtain⟨V3,cP⟩:=ag (wo.setRow (w.heap.size+1) (aA st.2));rw[<-cP];have R9:B_ (ar V3 (w.heap.size+1) (aA st.2) 181):=by rw[cP];exact As R3.setRow
   have K9:ae (· ≠w.heap.size+1) wo V3:=by rw[cP];exact bG _ _ _
   clear cP;go_wp2;obtain⟨m0,m1,m2,m3,m4,m5,m6,m7,m8,m9,m10,m11,m12,m13,m14⟩:=R9.part;refine C' (v:=Bs (aA st.2)) (by simp[results,Tryz.results204,aA,go_sem,m0,m1,m2,m3,m4,m5,m6,m7,m8,m9,m10,m11,m12,m13,m14]) rfl ⟨rfl,?_,?_,?_⟩
   ·obtain⟨F',h1,h2,h3⟩:=Qz.out
    exact⟨F',h1.keeps K9 fun x hx e=>by(rcases h3 x hx with h | h; · exact absurd (HM.lt x h).2 (by omega));omega,h2,fun x hx=>(h3 x hx).imp id fun h=>by omega⟩
   ·exact(E0.keeps.mono fun x hx=>hx.1).tr ((HK.mono fun x hx=>⟨by have:=hx.1;omega,hx.2,by have:=hx.1;omega⟩).tr (K9.mono fun x hx=>by have:=hx.1;omega))
   ·have:=K9.size;have:=HK.size;omega
structure UK (base M n9:Nat) (F:Nat->Prop) (m2:GM) (A B:A_):Prop where
 keep:ae (fun x=>x<n9/\¬F x) A B
 tF:n9<A.heap.size->∀ F2,fE base M F2 A m2->fE base M F2 B m2
theorem UK.trans {base M n9:Nat} {F:Nat->Prop} {m2:GM} {A B C:A_} (h:UK base M n9 F m2 A B) (k:UK base M n9 F m2 B C):UK base M n9 F m2 A C:=
 ⟨h.keep.tr k.keep,fun hn F2 hF=>k.tF (ay hn h.keep.size) F2 (h.tF hn F2 hF)⟩
theorem UK.ext {base M n9:Nat} {F:Nat->Prop} {m2:GM} {A B:A_} (hn:n9<=A.heap.size) (h:Ext A B):UK base M n9 F m2 A B:=
 ⟨h.mono fun _ hx=>ay hx.1 hn,fun _ _ hF=>hF.keeps h.keeps fun x hx=>(hF.lt x hx).2⟩
def vV.mk (base M n9:Nat) (F:Nat->Prop) (m2:GM) (p2:GP):aU (UK base M n9 F m2) where
 P:=fun v=>v=Bs (aA p2)
 H:=fun _ W=>n9<W.heap.size/\∃ F2,fE base M F2 W m2/\(∀ x,F x->F2 x)/\∀ x,F2 x->F x\/n9<=x
 nU:=Bs (aA p2)
 pw:=rfl
 st:=fun _ _ _ hm _ ⟨hn,F2,h1,h2,h3⟩=>⟨ay hn hm.keep.size,F2,hm.tF hn F2 h1,h2,h3⟩
def agZ (base M n9:Nat) (F:Nat->Prop) (m:GM) (j:Nat) (W:A_):Prop:=j=4->W.heap.size=n9/\fE base M F W m
theorem QH (n0 base M:Nat) (F:Nat->Prop) (m:GM) (k:Nat) (s:BS) (mn mx:Int) (l:List RX) (p:Option L_) (n c:Nat) (X:Nat) (w:A_) (bX:n0<=base) (h:fE base M F w m) (hr:aH (· <n0) w (Bs (aq k s mn mx (AI p n c))) (.nd k s mn mx l)) (ht:∀ t∈l,Hy n0 t) (hf:∀ t∈l,t.full=DS) (hX:w.cell? ⟨X,0,An⟩=AF (AM (AF ⟨M,0,An⟩))) (El:¬F X) (ok:m.ok) (hm:m.cB.length=m.aO.length) (hn:m.aO.length+RX.gi l<=448) (hL:l.length<=10000): ah 202 #[Bs (aq k s mn mx (AI p n c)),AM (AF ⟨X,0,An⟩)] w (jQ base M F w (RX.iT l (m,⟨0,0,DS⟩)).1 (RX.iT l (m,⟨0,0,DS⟩)).2):=by
 have hlen:n=l.length:=by obtain⟨p2,c2,e⟩:=hr.form;simp[aq,RX.subs,RX.kind,RX.set,RX.mn,RX.mx]at e;exact e.2.1
 have hn9:n<=10000:=by omega
 have HM:=As h;have HR:=As hr;have HT:=As ht;have Tn:=As hf;have iM:=As ok;have JN:=As hm;have HX:=As hX;have YI:=As El;have QF:=As hlen;have Mj:X<w.heap.size:=AS _ _ hX;have Wk:M<w.heap.size:=(h.lt M h.fm).2;have rq:n0<=w.heap.size:=by have:=(h.lt M h.fm).1;omega
 obtain⟨st,hst⟩:=ag (RX.iT l (m,⟨0,0,DS⟩));rw[<-hst];have HST:=As hst;clear h hr ht hf ok hm hX El hlen hst;unfold aq;go_enter Tryz.func202,Tryz.ntmps202;go_upto_region 2 with fail
 refine aw ?_;intro V hV;have N0:B_ (ar V w.heap.size #[AN Ly k,AN B' (wd s 0).toNat,AN B' (wd s 1).toNat,AN B' (wd s 2).toNat,AN B' (wd s 3).toNat,AN DE mn,AN DE mx,AI p n c] 97):=by rw[hV];exact As (((ar.new _ _ _).alloc _).alloc _)
 have R0:B_ (ar V (w.heap.size+1) (zeroV A') 181):=by rw[hV];exact As ((ar.at (ar.new _ _ _) (by simp)).alloc _)
 have O0:B_ (ar V (w.heap.size+1+1) (zeroV DS) 181):=by rw[hV];exact As (ar.at (ar.new _ _ _) (by simp))
 have E0:B_ (Ext w V):=by rw[hV];exact As ((((Ext.refl w).alloc _).alloc _).alloc _)
 have lF:B_ (V.heap.size=w.heap.size+1+1+1):=As (by rw[hV];simp);clear hV;have n7:V.cell? ⟨w.heap.size,7,An⟩=AF (AI p n c):=N0.cell 7;have yg:w.heap.size+1+1<V.heap.size:=by rw[lF.out];omega
 have MV:B_ (fE base M F V m):=As (HM.keeps E0.keeps fun x hx=>(HM.lt x hx).2);have Tl:V.cell? ⟨X,0,An⟩=AF (AM (AF ⟨M,0,An⟩)):=(E0.keeps.cell (p:=⟨X,0,An⟩) Mj).trans HX;have HXV:=As Tl;clear Tl;go_wp2;clear n7;go_loopw [11] (fun iv W=>∃ k:Nat,k<=n/\iv=AN DE k/\UH base M F (RX.iT (l.take k) (m,⟨0,0,DS⟩)) (w.heap.size+1+1) V W) (fun iv _=>n-(intOf iv).toNat);case atStart=>
  refine⟨0,by omega,rfl,?_⟩;rw[I',RX.iT];exact⟨⟨F,MV,fun _ h=>h,fun _ h=>.inl h⟩,by rw[ir];exact O0,ae.refl _ _⟩
 case round=>
  obtain⟨k,hk,rfl,hI⟩:=hrel;obtain⟨wo,rfl⟩:=ag (wr:A_);have HI:=As hI;clear hI;by_cases hlt:k<n
  ·have ed:(k:Int)<n:=by omega
   obtain⟨t,er⟩:∃ t,l[k]? =AF t:=⟨_,aB (by have:=QF.out;omega)⟩;have vY:∀ x,x<n0->¬F x:=fun x hx e=>by have:=(HM.lt x e).1;omega
   obtain⟨b,off,p',c',rfl,hb,hbw2,mD,⟨e0,e1,e2,e3,e4,e5,e6,e7⟩,hrt⟩:=HR.elem er;have pM:=As er;have KO:B_ (ae (fun x=>x<w.heap.size/\¬F x) w wo):=As ((E0.keeps.mono fun x hx=>hx.1).tr (HI.2.2.mono fun x hx=>⟨by have:=hx.1;omega,hx.2,by have:=hx.1;omega⟩));have ec:∀ (o:Nat) (u:Value),w.cell? ⟨b,o,An⟩=AF u->wo.cell? ⟨b,o,An⟩=AF u:=fun o u h=>(KO.cell (p:=⟨b,o,An⟩) ⟨hbw2,vY b hb⟩).trans h
   replace e0:=ec _ _ e0;replace e1:=ec _ _ e1;replace e2:=ec _ _ e2;replace e3:=ec _ _ e3;replace e4:=ec _ _ e4;replace e5:=ec _ _ e5;replace e6:=ec _ _ e6;replace e7:=ec _ _ e7;have Tp:wo.cell? ⟨X,0,An⟩=AF (AM (AF ⟨M,0,An⟩)):=(KO.cell (p:=⟨X,0,An⟩) ⟨Mj,YI⟩).trans HX;have HXo:=As Tp;have hbo:b<wo.heap.size:=AS _ _ e0;have UG:B_ (aH (· <n0) wo (Bs (aq t.kind t.set t.mn t.mx (AI p' t.subs.length c'))) t):=As (hrt.keeps KO fun x hx=>⟨by omega,vY x hx⟩);clear ec er hrt vY Tp;go_upto_region 5 with fail
   refine aw ?_;intro W1 hW1;have N1:B_ (ar W1 wo.heap.size (aq t.kind t.set t.mn t.mx (AI p' t.subs.length c')) 97):=by rw[hW1];exact As (ar.new _ _ _)
   have E1:B_ (Ext wo W1):=by rw[hW1];exact As ((Ext.refl wo).alloc _)
   clear hW1 e0 e1 e2 e3 e4 e5 e6 e7;have e0:W1.cell? ⟨wo.heap.size,0,An⟩=AF (AN Ly t.kind):=N1.cell 0;have e1:W1.cell? ⟨wo.heap.size,1,An⟩=AF (AN B' (wd t.set 0).toNat):=N1.cell 1;have e2:W1.cell? ⟨wo.heap.size,2,An⟩=AF (AN B' (wd t.set 1).toNat):=N1.cell 2;have e3:W1.cell? ⟨wo.heap.size,3,An⟩=AF (AN B' (wd t.set 2).toNat):=N1.cell 3;have e4:W1.cell? ⟨wo.heap.size,4,An⟩=AF (AN B' (wd t.set 3).toNat):=N1.cell 4;have e5:W1.cell? ⟨wo.heap.size,5,An⟩=AF (AN DE t.mn):=N1.cell 5;have e6:W1.cell? ⟨wo.heap.size,6,An⟩=AF (AN DE t.mx):=N1.cell 6;have e7:W1.cell? ⟨wo.heap.size,7,An⟩=AF (AI p' t.subs.length c'):=N1.cell 7;have Tp:W1.cell? ⟨X,0,An⟩=AF (AM (AF ⟨M,0,An⟩)):=(E1.keeps.cell (p:=⟨X,0,An⟩) (AS _ _ HXo)).trans HXo;obtain⟨⟨F',Bb,Mn,hF2⟩,hO,Eo⟩:=HI.out;have bO:=QD Tn iM DS k;have lq:=nD t (Tn t (ax pM)) _ bO.ok;have hcs:=zz pM;have hct:=zw l (k+1);have nV:=Mm pM (m,(⟨0,0,DS⟩:GP));obtain⟨sk,hsk⟩:=ag (RX.iT (l.take k) (m,(⟨0,0,DS⟩:GP)));rw[<-hsk]at hO Bb nV bO lq;obtain⟨m2,p2,vW⟩:∃ m2 p2,t.dw sk.1=(m2,p2):=⟨_,_,rfl⟩;rw[vW]at nV lq;dsimp only at nV;have yE:=lq.len;have hl2:=bO.len;have ym:=lq.ok.len;dsimp only at yE ym;have Cn:B_ (dy sk.2.cL m2.cB.length):=As (bO.gp.cL.mono (by omega));have YL:B_ (m2.cB.length<=448):=As (by omega);have CM:B_ (∀ W,fE base M F' W sk.1->aH (· <n0) W (Bs (aq t.kind t.set t.mn t.mx (AI p' t.subs.length c'))) t->ah 102 #[AM (AF ⟨M,0,An⟩),Bs (aq t.kind t.set t.mn t.mx (AI p' t.subs.length c'))] W (jQ base M F' W m2 p2)):=As fun W h1 h2=>by
    have:=HT.out t (ax pM) base M F' sk.1 W _ bX h1 h2 bO.ok bO.ok.len (by rw[bO.len];omega);rw[vW]at this;exact this
   have UI:=As nV;have QG:¬F' (w.heap.size+1+1):=fun e=>by rcases hF2 _ e with h | h;exact absurd (HM.lt _ h).2 (by omega);omega
   have hnX:¬F' X:=fun e=>by rcases hF2 _ e with h | h;exact YI h;omega
   have O1:=As (hO.ext E1);have M1:B_ (fE base M F' W1 sk.1):=As (Bb.keeps E1.keeps fun x hx=>(Bb.lt x hx).2);have R1:B_ (aH (· <n0) W1 (Bs (aq t.kind t.set t.mn t.mx (AI p' t.subs.length c'))) t):=As (UG.keeps E1.keeps fun x hx=>by have:=KO.size;omega);have acs:∀ x,x<n0->¬F' x:=fun x hx e=>by have:=(Bb.lt x e).1;omega
   have Wp:¬F' wo.heap.size:=fun e=>by have:=(Bb.lt _ e).2;omega
   have Wo:=As Mn;have JV:=As hF2;have Mo:=As Eo;have pG:=As QG;have JS:=As acs;have hX1:X<W1.heap.size:=by have:=KO.size;have:=E1.size;omega
   have anw:n0<=W1.heap.size:=by have:=KO.size;have:=E1.size;omega
   clear nV vW hsk hO Bb Mn hF2 Eo QG HI bO lq hcs hct yE hl2 ym acs;refine RegQ.br (UK base M W1.heap.size F' m2) (UK.ext (aF _) (Ext.refl _).drew) (fun _ _ _ h k=>h.trans k) (by kernel_rfl) 5 [0,0,0,0,12,31,63] (fun i=>i==4 || i==5 || i==6) (by kernel_rfl) (fun i=>if i=4 then vV.mk _ _ _ _ _ p2 else aU.any _) (agZ base M W1.heap.size F' sk.1) (fun _ _ _=>⟨rfl,M1.keeps (Ext.refl _).drew.keeps fun x hx=>(M1.lt x hx).2⟩) ?_;intro C hC hne;have HC:=As hC;have fc:∀ (b o:Nat) (u:Value),b<W1.heap.size->¬F' b->W1.cell? ⟨b,o,An⟩=AF u->∀ W: {W//C W},W.1.cell? ⟨b,o,An⟩=AF u:=fun b o u h1 h2 h3 W=>(((hC W.1).1 W.2).keep.cell (p:=⟨b,o,An⟩) ⟨h1,h2⟩).trans h3
   have fX:=fc _ _ _ hX1 hnX Tp;obtain⟨o0,o1,o2,o3,o4,o5,o6,o7,o8,o9,qw,qx,qy,qz,qg⟩:=O1.part;have q0:=fc _ _ _ O1.lt pG o0;have q1:=fc _ _ _ O1.lt pG o1;have q2:=fc _ _ _ O1.lt pG o2;have q3:=fc _ _ _ O1.lt pG o3;have q4:=fc _ _ _ O1.lt pG o4;have q5:=fc _ _ _ O1.lt pG o5;have q6:=fc _ _ _ O1.lt pG o6;have q7:=fc _ _ _ O1.lt pG o7;have q8:=fc _ _ _ O1.lt pG o8;have q9:=fc _ _ _ O1.lt pG o9;have q10:=fc _ _ _ O1.lt pG qw;have q11:=fc _ _ _ O1.lt pG qx;have q12:=fc _ _ _ O1.lt pG qy;have q13:=fc _ _ _ O1.lt pG qz;have q14:=fc _ _ _ O1.lt pG qg;have f0:=fc _ _ _ N1.lt Wp e0;have f1:=fc _ _ _ N1.lt Wp e1;have f2:=fc _ _ _ N1.lt Wp e2;have f3:=fc _ _ _ N1.lt Wp e3;have f4:=fc _ _ _ N1.lt Wp e4;have f5:=fc _ _ _ N1.lt Wp e5;have f6:=fc _ _ _ N1.lt Wp e6;have f7:=fc _ _ _ N1.lt Wp e7;clear hC fc e0 e1 e2 e3 e4 e5 e6 e7 Tp o0 o1 o2 o3 o4 o5 o6 o7 o8 o9 qw qx qy qz qg
   repeat (refine RegQ.au (fun K hK=>?_);first | (refine RegQ.bL rfl ?_;try go_simp;refine hK _ _ ?_;clear hK K) | (refine RegQ.bJ rfl rfl ?_;unfold az;go_simp;refine hK _ _ ?_;clear hK K))
   refine RegQ.au (fun K hK=>?_);refine RegQ.bS rfl rfl (vV.mk base M W1.heap.size F' m2 p2) rfl (fun W hW hD hN=>?_) (fun v hv=>?_)
   ·have hM:=(HC.out W).1 hW
    obtain⟨nI,hMW⟩:=hD rfl;clear hW hN hK K hD;go_simp;refine bA ((CM W hMW (R1.keeps hM.keep fun x hx=>⟨by omega,JS x hx⟩)).mono ?_);rintro e w2 ⟨rfl,hF'',hx,hsz⟩;rw[nI]at hF'' hx hsz;exact⟨_,rfl,⟨⟨hx,fun h=>by omega⟩,fun j hj _ _ e=>absurd e hj⟩,rfl,hsz,hF''⟩
   replace hv:v=_:=hv;subst hv;go_simp;refine hK _ _ ?_;clear hK K;refine RegQ.bC (fun W hW hH=>?_);have jq:=(HC.out W).1 hW;obtain⟨hsz,F2,g1,g2,g3⟩:W1.heap.size<W.heap.size/\∃ F2,fE base M F2 W m2/\(∀ x,F' x->F2 x)/\∀ x,F2 x->F' x\/W1.heap.size<=x:=hH _ (ax (show _=AF _ from rfl:_[0]? =AF _));have hO1:w.heap.size+1+1<W1.heap.size:=O1.lt;have dP:¬F2 (w.heap.size+1+1):=fun e=>by rcases g3 _ e with h | h;exact pG h;omega
   have O2:=As (O1.keeps jq.keep ⟨O1.lt,pG⟩);have UJ:=As jq.keep;have CT:B_ (ah 203 #[AM (AF ⟨M,0,An⟩),Bs (aA sk.2),Bs (aA p2)] W fun e w'=>e=DQ (Bs (aA (cH m2 sk.2 p2).2))/\fE base M F2 w' (cH m2 sk.2 p2).1/\ae (fun x=>x<W.heap.size/\¬F2 x) W w'):=As (oz base M F2 m2 sk.2 p2 W g1 Cn YL);obtain⟨m3,p3,YM⟩:∃ m3 p3,cH m2 sk.2 p2=(m3,p3):=⟨_,_,rfl⟩;rw[YM]at CT;dsimp only at CT;have nV:=UI.out;rw[YM]at nV;have ag1:=As nV;have G2:=As g2;have G3:=As g3;have pO:=As dP;clear jq hW hH HC hne fX q0 q1 q2 q3 q4 q5 q6 q7 q8 q9 q10 q11 q12 q13 q14 f0 f1 f2 f3 f4 f5 f6 f7 g1 g2 g3 dP YM nV UI CM O1;go_wp2_with fail
   refine CT.mono ?_;rintro e w2 ⟨rfl,hF3,hx⟩;have O3:=As (O2.keeps hx ⟨O2.lt,pO⟩);have M3:=As hF3;have YN:=As hx;clear hx hF3 CT;go_wp2_with (first | (refine Bm rfl 181 (DP 4) (DP 20) rfl (w.heap.size+1+1) (aA p3) rfl rfl 181 (_) O3 (bE _) rfl (ew _) ?_;refine FG ?_));refine As ?_;obtain⟨W4,JY⟩:=ag (w2.setRow (w.heap.size+1+1) (aA p3));rw[<-JY];have O4:B_ (ar W4 (w.heap.size+1+1) (aA p3) 181):=by rw[JY];exact As O3.setRow
   have K4:B_ (ae (· ≠w.heap.size+1+1) w2 W4):=by rw[JY];exact As (bG _ _ _)
   clear JY;go_wp2;go_roundw;case rel=>
    refine⟨k+1,by omega,by go_num,?_⟩;rw[ag1.out];have h1:=E1.keeps.size;have h2:=Mo.size;have h3:=UJ.size;refine⟨⟨F2,M3.keeps K4 fun x hx e=>pO (e▸hx),fun x h=>G2 x (Wo x h),fun x h=>by rcases G3.out x h with h | h;exact JV x h;exact .inr (by omega)⟩,O4,?_⟩;exact Mo.tr ((E1.keeps.mono fun x hx=>by have:=hx.1;omega).tr ((UJ.mono fun x hx=>⟨by have:=hx.1;omega,fun e=>by rcases JV.out x e with h | h;exact hx.2.1 h;have:=hx.1;omega⟩).tr ((YN.mono fun x hx=>⟨by have:=hx.1;omega,fun e=>by rcases G3.out x e with h | h;rcases JV.out x h with h | h;exact hx.2.1 h;have:=hx.1;omega;have:=hx.1;omega⟩).tr (K4.mono fun x hx=>hx.2.2))))
   case measure=>simp[intOf];omega
  ·obtain rfl:k=n:=by omega
   have Cq:¬ ((k:Int)<k):=by omega
   obtain⟨hF',hO,hK⟩:=HI.out;rw[QF.out,GS, <-HST.out]at hF' hO;have Qz:=As hF';have O3:=As hO;have HK:=As hK;have R3:B_ (ar wo (w.heap.size+1) (zeroV A') 181):=As (R0.keeps hK ⟨R0.lt,fun e=>by have:=(HM.lt _ e).2;omega,by omega⟩);clear hF' hO hK HI;go_wp2_with (first | (refine aY rfl 181 (DP 4) rfl (w.heap.size+1+1) rfl (aA st.2) _ O3.range AT rfl (bE _) ?_) | (refine Bm rfl 181 (DP 3) (DP 22) rfl (w.heap.size+1) (aA st.2) rfl rfl 181 (zeroV A') R3 (bE _) rfl (ew _) ?_;refine FG ?_));refine As ?_;obtain⟨V3,cP⟩:=ag (wo.setRow (w.heap.size+1) (aA st.2));rw[<-cP];have R9:B_ (ar V3 (w.heap.size+1) (aA st.2) 181):=by rw[cP];exact As R3.setRow
   have K9:ae (· ≠w.heap.size+1) wo V3:=by rw[cP];exact bG _ _ _
   clear cP;go_wp2;obtain⟨m0,m1,m2,m3,m4,m5,m6,m7,m8,m9,m10,m11,m12,m13,m14⟩:=R9.part;refine C' (v:=Bs (aA st.2)) (by simp[results,Tryz.results202,aA,go_sem,m0,m1,m2,m3,m4,m5,m6,m7,m8,m9,m10,m11,m12,m13,m14]) rfl ⟨rfl,?_,?_,?_⟩
   ·obtain⟨F',h1,h2,h3⟩:=Qz.out
    exact⟨F',h1.keeps K9 fun x hx e=>by(rcases h3 x hx with h | h; · exact absurd (HM.lt x h).2 (by omega));omega,h2,fun x hx=>(h3 x hx).imp id fun h=>by omega⟩
   ·exact(E0.keeps.mono fun x hx=>hx.1).tr ((HK.mono fun x hx=>⟨by have:=hx.1;omega,hx.2,by have:=hx.1;omega⟩).tr (K9.mono fun x hx=>by have:=hx.1;omega))
   ·have:=K9.size;have:=HK.size;omega
theorem Ep {t:RX} (ht:t.full=DS) {m:GM} (hm:m.ok) (mn mx:Int) (k:Nat):iY m (dS mn mx (fun m=>t.dw m) m k) (k*t.cnt):=vJ (fun m hm=>nD t ht m hm) hm k
theorem acu (n0 base M:Nat) (F:Nat->Prop) (m:GM) (k0:Nat) (s:BS) (mn:Int) (N:Nat) (t:RX) (l:List RX) (p:Option L_) (n c:Nat) (w:A_) (bX:n0<=base) (h:fE base M F w m) (hr:aH (· <n0) w (Bs (aq k0 s mn (-1) (AI p n c))) (.nd k0 s mn (-1) (t::l))) (ht:Hy n0 t) (hf:t.full=DS) (ok:m.ok) (hm:m.cB.length=m.aO.length) (hN:max mn 1=(N:Int)) (ag2:N<=16) (hG:eR mn (-1)=N) (hn:m.aO.length+N*t.cnt<=448): ah 206 #[AM (AF ⟨M,0,An⟩),Bs (aq k0 s mn (-1) (AI p n c))] w (jQ base M F w (dS mn (-1) (fun m=>t.dw m) m N).1 (dS mn (-1) (fun m=>t.dw m) m N).2):=by
 have hlen:n=l.length+1:=by obtain⟨p2,c2,e⟩:=hr.form;simp[aq,RX.subs,RX.kind,RX.set,RX.mn,RX.mx]at e;exact e.2.1
 have cM:0<n:=by omega
 obtain⟨b,off,p',c',rfl,hb,rq,mD,⟨e0,e1,e2,e3,e4,e5,e6,e7⟩,hrt⟩:=hr.elem (i:=0) (t:=t) rfl;simp only[Is,G_]at e0 e1 e2 e3 e4 e5 e6 e7;have HM:=As h;have UG:=As hrt;have HT:=As ht;have Tn:=As hf;have iM:=As ok;have HGG:=As hG;have JN:=As hm;have EE:=As (By e0 (By e1 (By e2 (By e3 (By e4 (By e5 (By e6 e7)))))));have Wk:M<w.heap.size:=(h.lt M h.fm).2;have acv:n0<=w.heap.size:=by have:=(h.lt M h.fm).1;omega
 have vY:¬F b:=fun e=>by have:=(h.lt b e).1;omega
 obtain⟨st,hst⟩:=ag (dS mn (-1) (fun m=>t.dw m) m N);rw[<-hst];have HST:=As hst;have HMU:=As hn;clear h hr hrt ht hf ok hm hlen hst hG e0 e1 e2 e3 e4 e5 e6 e7 hn;unfold aq;go_enter Kx,J_;go_upto_region 5 with fail
 refine aw ?_;intro V hV;have N0:B_ (ar V w.heap.size #[AN Ly k0,AN B' (wd s 0).toNat,AN B' (wd s 1).toNat,AN B' (wd s 2).toNat,AN B' (wd s 3).toNat,AN DE mn,AN DE (-1),AI (AF ⟨b,off,An⟩) n c] 97):=by rw[hV];exact As (((ar.new _ _ _).alloc _).alloc _)
 have R0:B_ (ar V (w.heap.size+1) (zeroV A') 181):=by rw[hV];exact As ((ar.at (ar.new _ _ _) (by simp)).alloc _)
 have O0:B_ (ar V (w.heap.size+1+1) (zeroV DS) 181):=by rw[hV];exact As (ar.at (ar.new _ _ _) (by simp))
 have E0:B_ (Ext w V):=by rw[hV];exact As ((((Ext.refl w).alloc _).alloc _).alloc _)
 have lF:B_ (V.heap.size=w.heap.size+1+1+1):=As (by rw[hV];simp);clear hV;have yg:w.heap.size+1+1<V.heap.size:=by rw[lF.out];omega
 have MV:B_ (fE base M F V m):=As (HM.keeps E0.keeps fun x hx=>(HM.lt x hx).2);go_wp2;go_loopw [18] (fun iv W=>∃ k:Nat,k<=N/\iv=AN DE k/\UH base M F (dS mn (-1) (fun m=>t.dw m) m k) (w.heap.size+1+1) V W) (fun iv _=>N-(intOf iv).toNat);case atStart=>
  refine⟨0,by omega,rfl,?_⟩;exact⟨⟨F,MV,fun _ h=>h,fun _ h=>.inl h⟩,by show ar _ _ (aA ⟨0,0,DS⟩) _;rw[ir];exact O0,ae.refl _ _⟩
 case round=>
  obtain⟨k,hk,rfl,hI⟩:=hrel;obtain⟨wo,rfl⟩:=ag (wr:A_);have HI:=As hI;clear hI;by_cases hlt:k<N
  ·have ed:(k:Int)<N:=by omega
   obtain⟨⟨F',Bb,Mn,hF2⟩,hO,Eo⟩:=HI.out;have bO:=Ep Tn iM mn (-1) k;have lq:=nD t Tn _ bO.ok;have nV:dS mn (-1) (fun m=>t.dw m) m (k+1)=AX mn (-1) k (dS mn (-1) (fun m=>t.dw m) m k).2 (t.dw (dS mn (-1) (fun m=>t.dw m) m k).1):=rfl;have hmul:(k+1)*t.cnt<=N*t.cnt:=H' _ hlt;have QI:(k+1)*t.cnt=k*t.cnt+t.cnt:=K_ _ _;have hmu:=HMU.out;obtain⟨sk,hsk⟩:=ag (dS mn (-1) (fun m=>t.dw m) m k);rw[<-hsk]at hO Bb nV bO lq;obtain⟨m2,p2,vW⟩:∃ m2 p2,t.dw sk.1=(m2,p2):=⟨_,_,rfl⟩;rw[vW]at nV lq;have yE:=lq.len;have hl2:=bO.len;have ym:=lq.ok.len;have YP:=lq.gp;dsimp only at yE ym YP;have Cn:B_ (dy sk.2.cL m2.cB.length):=As (bO.gp.cL.mono (by omega));have HP2:B_ (dy p2.cL m2.cB.length):=As (YP.cL.mono (by omega));have YL:B_ (m2.cB.length<=448):=As (by omega);have CM:B_ (∀ W,fE base M F' W sk.1->aH (· <n0) W (Bs (aq t.kind t.set t.mn t.mx (AI p' t.subs.length c'))) t->ah 102 #[AM (AF ⟨M,0,An⟩),Bs (aq t.kind t.set t.mn t.mx (AI p' t.subs.length c'))] W (jQ base M F' W m2 p2)):=As fun W h1 h2=>by
    have:=HT.out base M F' sk.1 W _ bX h1 h2 bO.ok bO.ok.len (by omega);rw[vW]at this;exact this
   have UI:=As nV;have QG:¬F' (w.heap.size+1+1):=fun e=>by rcases hF2 _ e with h | h;exact absurd (HM.lt _ h).2 (by omega);omega
   have hnN:¬F' w.heap.size:=fun e=>by rcases hF2 _ e with h | h;exact absurd (HM.lt _ h).2 (by omega);omega
   have KO:B_ (ae (fun x=>x<w.heap.size/\¬F x) w wo):=As ((E0.keeps.mono fun x hx=>hx.1).tr (Eo.mono fun x hx=>⟨by have:=hx.1;omega,hx.2,by have:=hx.1;omega⟩));have F8:=Eo.size;have NO:B_ (ar wo w.heap.size #[AN Ly k0,AN B' (wd s 0).toNat,AN B' (wd s 1).toNat,AN B' (wd s 2).toNat,AN B' (wd s 3).toNat,AN DE mn,AN DE (-1),AI (AF ⟨b,off,An⟩) n c] 97):=As (N0.keeps Eo ⟨by omega,fun e=>by have:=(HM.lt _ e).2;omega,by omega⟩);have O1:=As hO;have M1:=As Bb;have R1:B_ (aH (· <n0) wo (Bs (aq t.kind t.set t.mn t.mx (AI p' t.subs.length c'))) t):=As (UG.keeps KO fun x hx=>⟨by omega,fun e=>by have:=(HM.lt x e).1;omega⟩);have ec:∀ (o:Nat) (u:Value),w.cell? ⟨b,o,An⟩=AF u->wo.cell? ⟨b,o,An⟩=AF u:=fun o u h=>(KO.cell (p:=⟨b,o,An⟩) ⟨rq,vY⟩).trans h
   obtain⟨e0,e1,e2,e3,e4,e5,e6,e7⟩:=EE.out;replace e0:=ec _ _ e0;replace e1:=ec _ _ e1;replace e2:=ec _ _ e2;replace e3:=ec _ _ e3;replace e4:=ec _ _ e4;replace e5:=ec _ _ e5;replace e6:=ec _ _ e6;replace e7:=ec _ _ e7;have n5:wo.cell? ⟨w.heap.size,5,An⟩=AF (AN DE mn):=NO.cell 5;have n6:wo.cell? ⟨w.heap.size,6,An⟩=AF (AN DE (-1)):=NO.cell 6;have n7:wo.cell? ⟨w.heap.size,7,An⟩=AF (AI (AF ⟨b,off,An⟩) n c):=NO.cell 7;have Wo:=As Mn;have JV:=As hF2;have Mo:=As Eo;have pG:=As QG;have oO:=As hnN;have JZ:=As (CM.out wo M1 R1);clear nV vW hsk hO Bb Mn hF2 Eo QG hnN HI bO lq yE hl2 ym YP hmul QI hmu ec CM M1 R1;go_wp2_with fail
   refine JZ.mono ?_;rintro e w2 ⟨rfl,hF'',hx,hsz⟩;have hOl:w.heap.size+1+1<wo.heap.size:=O1.lt;have O2:=As (O1.keeps hx ⟨O1.lt,pG⟩);have N2:=As (NO.keeps hx ⟨NO.lt,oO⟩);obtain⟨F2,g1,g2,g3⟩:=hF'';have dP:¬F2 (w.heap.size+1+1):=fun e=>by rcases g3 _ e with h | h;exact pG h;omega
   have QJ:¬F2 w.heap.size:=fun e=>by rcases g3 _ e with h | h;exact oO h;omega
   have M2:=As g1;have G2:=As g2;have G3:=As g3;have pO:=As dP;have acx:=As QJ;have UJ:=As hx;have H5:=As hsz;clear hx g1 g2 g3 dP QJ hsz JZ O1 NO e0 e1 e2 e3 e4 e5 e6 e7 n5 n6 n7;unfold aA;go_upto_region 9 with fail
   refine aw ?_;intro W3 hW3;have X3:B_ (ar W3 w2.heap.size (aA p2) 181):=by rw[hW3];exact As (ar.new _ _ _)
   have E3:B_ (Ext w2 W3):=by rw[hW3];exact As ((Ext.refl w2).alloc _)
   have O3:=As (O2.ext E3);have N3:=As (N2.ext E3);have M3:B_ (fE base M F2 W3 m2):=As (M2.keeps E3.keeps fun x hx=>(M2.lt x hx).2);have hx2:¬F2 w2.heap.size:=fun e=>by have:=(M2.lt _ e).2;omega
   have gh:=As hx2;clear hW3 hx2 O2 N2;have n5:W3.cell? ⟨w.heap.size,5,An⟩=AF (AN DE mn):=N3.cell 5;have n6:W3.cell? ⟨w.heap.size,6,An⟩=AF (AN DE (-1)):=N3.cell 6;obtain⟨a0,a1,a2,a3,a4,a5,a6,a7,a8,a9,jZ,j3,a12,j4,jo⟩:=X3.part
   try dsimp only at a0 a1 a2 a3 a4 a5 a6 a7 a8 a9 jZ j3 a12 j4 jo
   by_cases acy:(k:Int)=N-1
   ·have hkN:k+1=eR mn (-1):=by rw[HGG.out];omega
    have HKN:=As hkN;clear hkN;go_wp2_with fail
    refine(lp base M F2 m2 p2.cL p2.fst W3 M3 HP2 YL).mono ?_;rintro e w5 ⟨⟨u,rfl⟩,hF5,hx5⟩;obtain⟨m4,tG⟩:=ag (iD m2 p2.cL p2.fst);rw[<-tG]at hF5;have K5:=As hx5;have M5:=As hF5;have P5:B_ (dy sk.2.cL m4.cB.length/\m4.cB.length<=448):=As (by rw[tG];exact⟨by show dy _ (m2.cB.mapIdx _).length;rw[If];exact Cn,by show(m2.cB.mapIdx _).length<=_;rw[If];exact YL⟩);have YQ:=As tG;have X5:=As (X3.keeps hx5 ⟨X3.lt,gh⟩);have O5:=As (O3.keeps hx5 ⟨O3.lt,pO⟩);have N5:=As (N3.keeps hx5 ⟨N3.lt,acx⟩);clear hx5 hF5 tG acy n5 n6 a0 a1 a2 a3 a4 a5 a6 a7 a8 a9 jZ j3 a12 j4 jo;have n5:w5.cell? ⟨w.heap.size,5,An⟩=AF (AN DE mn):=N5.cell 5;obtain⟨a0,a1,a2,a3,a4,a5,a6,a7,a8,a9,jZ,j3,a12,j4,jo⟩:=X5.part
    try dsimp only at a0 a1 a2 a3 a4 a5 a6 a7 a8 a9 jZ j3 a12 j4 jo
    obtain⟨eb,Hz⟩:=ag p2.emp;rw[<-Hz]at jo;have YJ:=As Hz;clear Hz;have QK:w5.frozen? ⟨w2.heap.size,14,An⟩=false:=X5.frozen 14;cases eb;all_goals
     go_upto_region 12 with fail
     refine aw ?_;intro W6 rW;obtain⟨e6,QL⟩:=ag ((p2.emp || decide (mn<=(k:Int))));obtain⟨p6,QM⟩:=ag (⟨p2.fst,p2.cL,e6⟩:GP);have X6:B_ (ar W6 w2.heap.size (aA p6) 181):=by rw[QM,rW,QL, <-YJ.out];exact As (X5.set 14 _)
     have K6:B_ (ae (· ≠w2.heap.size) w5 W6):=by rw[rW];exact As ((ae.refl (· ≠w2.heap.size) _).setCell (p:=⟨w2.heap.size,14,An⟩) (fun h=>h rfl) _)
     have O6:=As (O5.keeps K6 (by have:=O3.lt;have:=H5.out;omega));have M6:B_ (fE base M F2 W6 m4):=As (M5.keeps K6 fun x hx e=>gh (e▸hx))
     try clear n6
     clear rW n5 a0 a1 a2 a3 a4 a5 a6 a7 a8 a9 jZ j3 a12 j4 jo QK;have HE6:=As QL;clear QL;have HP6:=As QM;clear QM;have CT:B_ (ah 203 #[AM (AF ⟨M,0,An⟩),Bs (aA sk.2),Bs (aA p6)] W6 fun e w'=>e=DQ (Bs (aA (cH m4 sk.2 p6).2))/\fE base M F2 w' (cH m4 sk.2 p6).1/\ae (fun x=>x<W6.heap.size/\¬F2 x) W6 w'):=As (oz base M F2 m4 sk.2 p6 W6 M6 P5.1 P5.2);have kM:dS mn (-1) (fun m=>t.dw m) m (k+1)=cH m4 sk.2 p6:=by
      rw[UI.out,HP6.out,HE6.out];unfold AX;rw[if_pos ⟨rfl,HKN.out⟩, <-YQ.out]
     have Er:=As kM;clear kM;obtain⟨m7,p7,Es⟩:∃ m7 p7,cH m4 sk.2 p6=(m7,p7):=⟨_,_,rfl⟩;rw[Es]at CT Er;dsimp only at CT;clear Es;go_wp2_with (first | (refine aY rfl 181 (DP 6) rfl (w.heap.size+1+1) rfl (aA sk.2) _ O6.range AT rfl (bE _) ?_) | (refine aY rfl 181 (DP 8) rfl w2.heap.size rfl (aA p6) _ X6.range AT rfl (bE _) ?_));refine CT.mono ?_;rintro e w8 ⟨rfl,hF3,hx⟩;have O8:=As (O6.keeps hx ⟨O6.lt,pO⟩);have M8:=As hF3;have YN:=As hx;clear hx hF3 CT;go_wp2_with (refine Bm rfl 181 (DP 6) (DP 54) rfl (w.heap.size+1+1) (aA p7) rfl rfl 181 (aA sk.2) O8 (bE _) rfl (ew _) ?_;refine FG ?_);refine As ?_;obtain⟨W9,dG⟩:=ag (w8.setRow (w.heap.size+1+1) (aA p7));rw[<-dG];have O9:B_ (ar W9 (w.heap.size+1+1) (aA p7) 181):=by rw[dG];exact As O8.setRow
     have K9:B_ (ae (· ≠w.heap.size+1+1) w8 W9):=by rw[dG];exact As (bG _ _ _)
     clear dG;go_wp2;go_roundw;case rel=>
      refine⟨k+1,by omega,by go_num,?_⟩;rw[Er.out];have h1:=Mo.size;have h2:=H5.out;have h3:=E3.size;have h4:=K6.size;have h5:=K5.size;refine⟨⟨F2,M8.keeps K9 fun x hx e=>pO (e▸hx),fun x h=>G2 x (Wo x h),fun x h=>by rcases G3.out x h with h | h;exact JV x h;exact .inr (by omega)⟩,O9,?_⟩;have hq:∀ x,x<V.heap.size->¬F x->¬F2 x:=fun x h h6 e=>by rcases G3.out x e with h7 | h7;(rcases JV.out x h7 with h8 | h8;exact h6 h8;omega);omega
      have NT:∀ x,x<V.heap.size->¬F x->¬F' x:=fun x h h6 e=>hq x h h6 (G2 x e)
      exact Mo.tr ((UJ.mono fun x hx=>⟨by have:=hx.1;omega,NT x hx.1 hx.2.1⟩).tr ((E3.keeps.mono fun x hx=>by have:=hx.1;omega).tr ((K5.mono fun x hx=>⟨by have:=hx.1;omega,hq x hx.1 hx.2.1⟩).tr ((K6.mono fun x hx=>by have:=hx.1;omega).tr ((YN.mono fun x hx=>⟨by have:=hx.1;omega,hq x hx.1 hx.2.1⟩).tr (K9.mono fun x hx=>hx.2.2))))))
     case measure=>simp[intOf];omega
   ·have hkN:¬ (k+1=eR mn (-1)):=by rw[HGG.out];omega
    have HKN:=As hkN;clear hkN;obtain⟨m4,tG⟩:=ag m2;obtain⟨W5,YR⟩:=ag W3;have K5:B_ (ae (fun x=>x<W3.heap.size/\¬F2 x) W3 W3):=As (ae.refl _ _);have X5:=X3;have O5:=O3;have M5:B_ (fE base M F2 W3 m4):=As (by rw[tG];exact M3);have P5:B_ (dy sk.2.cL m4.cB.length/\m4.cB.length<=448):=As (by rw[tG];exact⟨Cn,YL⟩);have YQ:=As tG;clear tG W5 YR;obtain⟨eb,Hz⟩:=ag p2.emp;rw[<-Hz]at jo;have YJ:=As Hz;clear Hz;have QK:W3.frozen? ⟨w2.heap.size,14,An⟩=false:=X5.frozen 14;cases eb;all_goals
     go_upto_region 12 with fail
     refine aw ?_;intro W6 rW;obtain⟨e6,QL⟩:=ag ((p2.emp || decide (mn<=(k:Int))));obtain⟨p6,QM⟩:=ag (⟨p2.fst,p2.cL,e6⟩:GP);have X6:B_ (ar W6 w2.heap.size (aA p6) 181):=by rw[QM,rW,QL, <-YJ.out];exact As (X5.set 14 _)
     have K6:B_ (ae (· ≠w2.heap.size) W3 W6):=by rw[rW];exact As ((ae.refl (· ≠w2.heap.size) _).setCell (p:=⟨w2.heap.size,14,An⟩) (fun h=>h rfl) _)
     have O6:=As (O5.keeps K6 (by have:=O3.lt;have:=H5.out;omega));have M6:B_ (fE base M F2 W6 m4):=As (M5.keeps K6 fun x hx e=>gh (e▸hx))
     try clear n6
     clear rW n5 a0 a1 a2 a3 a4 a5 a6 a7 a8 a9 jZ j3 a12 j4 jo QK;have HE6:=As QL;clear QL;have HP6:=As QM;clear QM;have CT:B_ (ah 203 #[AM (AF ⟨M,0,An⟩),Bs (aA sk.2),Bs (aA p6)] W6 fun e w'=>e=DQ (Bs (aA (cH m4 sk.2 p6).2))/\fE base M F2 w' (cH m4 sk.2 p6).1/\ae (fun x=>x<W6.heap.size/\¬F2 x) W6 w'):=As (oz base M F2 m4 sk.2 p6 W6 M6 P5.1 P5.2);have kM:dS mn (-1) (fun m=>t.dw m) m (k+1)=cH m4 sk.2 p6:=by
      rw[UI.out,HP6.out,HE6.out];unfold AX;rw[if_neg (fun h=>HKN.out h.2), <-YQ.out]
     have Er:=As kM;clear kM;obtain⟨m7,p7,Es⟩:∃ m7 p7,cH m4 sk.2 p6=(m7,p7):=⟨_,_,rfl⟩;rw[Es]at CT Er;dsimp only at CT;clear Es;go_wp2_with (first | (refine aY rfl 181 (DP 6) rfl (w.heap.size+1+1) rfl (aA sk.2) _ O6.range AT rfl (bE _) ?_) | (refine aY rfl 181 (DP 8) rfl w2.heap.size rfl (aA p6) _ X6.range AT rfl (bE _) ?_));refine CT.mono ?_;rintro e w8 ⟨rfl,hF3,hx⟩;have O8:=As (O6.keeps hx ⟨O6.lt,pO⟩);have M8:=As hF3;have YN:=As hx;clear hx hF3 CT;go_wp2_with (refine Bm rfl 181 (DP 6) (DP 54) rfl (w.heap.size+1+1) (aA p7) rfl rfl 181 (aA sk.2) O8 (bE _) rfl (ew _) ?_;refine FG ?_);refine As ?_;obtain⟨W9,dG⟩:=ag (w8.setRow (w.heap.size+1+1) (aA p7));rw[<-dG];have O9:B_ (ar W9 (w.heap.size+1+1) (aA p7) 181):=by rw[dG];exact As O8.setRow
     have K9:B_ (ae (· ≠w.heap.size+1+1) w8 W9):=by rw[dG];exact As (bG _ _ _)
     clear dG;go_wp2;go_roundw;case rel=>
      refine⟨k+1,by omega,by go_num,?_⟩;rw[Er.out];have h1:=Mo.size;have h2:=H5.out;have h3:=E3.size;have h4:=K6.size;have h5:=K5.size;refine⟨⟨F2,M8.keeps K9 fun x hx e=>pO (e▸hx),fun x h=>G2 x (Wo x h),fun x h=>by rcases G3.out x h with h | h;exact JV x h;exact .inr (by omega)⟩,O9,?_⟩;have hq:∀ x,x<V.heap.size->¬F x->¬F2 x:=fun x h h6 e=>by rcases G3.out x e with h7 | h7;(rcases JV.out x h7 with h8 | h8;exact h6 h8;omega);omega
      have NT:∀ x,x<V.heap.size->¬F x->¬F' x:=fun x h h6 e=>hq x h h6 (G2 x e)
      exact Mo.tr ((UJ.mono fun x hx=>⟨by have:=hx.1;omega,NT x hx.1 hx.2.1⟩).tr ((E3.keeps.mono fun x hx=>by have:=hx.1;omega).tr ((K5.mono fun x hx=>⟨by have:=hx.1;omega,hq x hx.1 hx.2.1⟩).tr ((K6.mono fun x hx=>by have:=hx.1;omega).tr ((YN.mono fun x hx=>⟨by have:=hx.1;omega,hq x hx.1 hx.2.1⟩).tr (K9.mono fun x hx=>hx.2.2))))))
     case measure=>simp[intOf];omega
  ·obtain rfl:k=N:=by omega
   have Cq:¬ ((k:Int)<k):=by omega
   obtain⟨hF',hO,hK⟩:=HI.out;rw[<-HST.out]at hF' hO;have Qz:=As hF';have O3:=As hO;have HK:=As hK;have R3:B_ (ar wo (w.heap.size+1) (zeroV A') 181):=As (R0.keeps hK ⟨R0.lt,fun e=>by have:=(HM.lt _ e).2;omega,by omega⟩);clear hF' hO hK HI;go_wp2_with (first | (refine aY rfl 181 (DP 6) rfl (w.heap.size+1+1) rfl (aA st.2) _ O3.range AT rfl (bE _) ?_) | (refine Bm rfl 181 (DP 4) (DP 56) rfl (w.heap.size+1) (aA st.2) rfl rfl 181 (zeroV A') R3 (bE _) rfl (ew _) ?_;refine FG ?_));refine As ?_;obtain⟨V3,cP⟩:=ag (wo.setRow (w.heap.size+1) (aA st.2));rw[<-cP];have R9:B_ (ar V3 (w.heap.size+1) (aA st.2) 181):=by rw[cP];exact As R3.setRow
   have K9:ae (· ≠w.heap.size+1) wo V3:=by rw[cP];exact bG _ _ _
   clear cP;go_wp2;obtain⟨m0,m1,m2,m3,m4,m5,m6,m7,m8,m9,m10,m11,m12,m13,m14⟩:=R9.part;refine C' (v:=Bs (aA st.2)) (by simp[results,IN,aA,go_sem,m0,m1,m2,m3,m4,m5,m6,m7,m8,m9,m10,m11,m12,m13,m14]) rfl ⟨rfl,?_,?_,?_⟩
   ·obtain⟨F',h1,h2,h3⟩:=Qz.out
    exact⟨F',h1.keeps K9 fun x hx e=>by(rcases h3 x hx with h | h; · exact absurd (HM.lt x h).2 (by omega));omega,h2,fun x hx=>(h3 x hx).imp id fun h=>by omega⟩
   ·exact(E0.keeps.mono fun x hx=>hx.1).tr ((HK.mono fun x hx=>⟨by have:=hx.1;omega,hx.2,by have:=hx.1;omega⟩).tr (K9.mono fun x hx=>by have:=hx.1;omega))
   ·have:=K9.size;have:=HK.size;omega
theorem acC (n0 base M:Nat) (F:Nat->Prop) (m:GM) (k0:Nat) (s:BS) (mn:Int) (N:Nat) (t:RX) (l:List RX) (p:Option L_) (n c:Nat) (w:A_) (bX:n0<=base) (h:fE base M F w m) (hr:aH (· <n0) w (Bs (aq k0 s mn (N:Int) (AI p n c))) (.nd k0 s mn (N:Int) (t::l))) (ht:Hy n0 t) (hf:t.full=DS) (ok:m.ok) (hm:m.cB.length=m.aO.length) (hN:1<=N) (ag2:N<=16) (hG:eR mn (N:Int)=N) (hn:m.aO.length+N*t.cnt<=448): ah 206 #[AM (AF ⟨M,0,An⟩),Bs (aq k0 s mn (N:Int) (AI p n c))] w (jQ base M F w (dS mn (N:Int) (fun m=>t.dw m) m N).1 (dS mn (N:Int) (fun m=>t.dw m) m N).2):=by
 have hlen:n=l.length+1:=by obtain⟨p2,c2,e⟩:=hr.form;simp[aq,RX.subs,RX.kind,RX.set,RX.mn,RX.mx]at e;exact e.2.1
 have cM:0<n:=by omega
 obtain⟨b,off,p',c',rfl,hb,rq,mD,⟨e0,e1,e2,e3,e4,e5,e6,e7⟩,hrt⟩:=hr.elem (i:=0) (t:=t) rfl;simp only[Is,G_]at e0 e1 e2 e3 e4 e5 e6 e7;have HM:=As h;have UG:=As hrt;have HT:=As ht;have Tn:=As hf;have iM:=As ok;have HGG:=As hG;have JN:=As hm;have EE:=As (By e0 (By e1 (By e2 (By e3 (By e4 (By e5 (By e6 e7)))))));have Wk:M<w.heap.size:=(h.lt M h.fm).2;have acv:n0<=w.heap.size:=by have:=(h.lt M h.fm).1;omega
 have vY:¬F b:=fun e=>by have:=(h.lt b e).1;omega
 obtain⟨st,hst⟩:=ag (dS mn (N:Int) (fun m=>t.dw m) m N);rw[<-hst];have HST:=As hst;have HMU:=As hn;clear h hr hrt ht hf ok hm hlen hst hG e0 e1 e2 e3 e4 e5 e6 e7 hn;have hmx:¬ ((N:Int)= -1):=by omega
 have acD:((N:Int)== -1)=false:=by simp[hmx]
 unfold aq;go_enter Kx,J_;go_upto_region 5 with fail
 refine aw ?_;intro V hV;have N0:B_ (ar V w.heap.size #[AN Ly k0,AN B' (wd s 0).toNat,AN B' (wd s 1).toNat,AN B' (wd s 2).toNat,AN B' (wd s 3).toNat,AN DE mn,AN DE (N:Int),AI (AF ⟨b,off,An⟩) n c] 97):=by rw[hV];exact As (((ar.new _ _ _).alloc _).alloc _)
 have R0:B_ (ar V (w.heap.size+1) (zeroV A') 181):=by rw[hV];exact As ((ar.at (ar.new _ _ _) (by simp)).alloc _)
 have O0:B_ (ar V (w.heap.size+1+1) (zeroV DS) 181):=by rw[hV];exact As (ar.at (ar.new _ _ _) (by simp))
 have E0:B_ (Ext w V):=by rw[hV];exact As ((((Ext.refl w).alloc _).alloc _).alloc _)
 have lF:B_ (V.heap.size=w.heap.size+1+1+1):=As (by rw[hV];simp);clear hV;have yg:w.heap.size+1+1<V.heap.size:=by rw[lF.out];omega
 have MV:B_ (fE base M F V m):=As (HM.keeps E0.keeps fun x hx=>(HM.lt x hx).2);go_wp2;go_loopw [18] (fun iv W=>∃ k:Nat,k<=N/\iv=AN DE k/\UH base M F (dS mn (N:Int) (fun m=>t.dw m) m k) (w.heap.size+1+1) V W) (fun iv _=>N-(intOf iv).toNat);case atStart=>
  refine⟨0,by omega,rfl,?_⟩;exact⟨⟨F,MV,fun _ h=>h,fun _ h=>.inl h⟩,by show ar _ _ (aA ⟨0,0,DS⟩) _;rw[ir];exact O0,ae.refl _ _⟩
 case round=>
  obtain⟨k,hk,rfl,hI⟩:=hrel;obtain⟨wo,rfl⟩:=ag (wr:A_);have HI:=As hI;clear hI;by_cases hlt:k<N
  ·have ed:(k:Int)<N:=by omega
   obtain⟨⟨F',Bb,Mn,hF2⟩,hO,Eo⟩:=HI.out;have bO:=Ep Tn iM mn (N:Int) k;have lq:=nD t Tn _ bO.ok;have nV:dS mn (N:Int) (fun m=>t.dw m) m (k+1)=AX mn (N:Int) k (dS mn (N:Int) (fun m=>t.dw m) m k).2 (t.dw (dS mn (N:Int) (fun m=>t.dw m) m k).1):=rfl;have hmul:(k+1)*t.cnt<=N*t.cnt:=H' _ hlt;have QI:(k+1)*t.cnt=k*t.cnt+t.cnt:=K_ _ _;have hmu:=HMU.out;obtain⟨sk,hsk⟩:=ag (dS mn (N:Int) (fun m=>t.dw m) m k);rw[<-hsk]at hO Bb nV bO lq;obtain⟨m2,p2,vW⟩:∃ m2 p2,t.dw sk.1=(m2,p2):=⟨_,_,rfl⟩;rw[vW]at nV lq;have yE:=lq.len;have hl2:=bO.len;have ym:=lq.ok.len;have YP:=lq.gp;dsimp only at yE ym YP;have Cn:B_ (dy sk.2.cL m2.cB.length):=As (bO.gp.cL.mono (by omega));have HP2:B_ (dy p2.cL m2.cB.length):=As (YP.cL.mono (by omega));have YL:B_ (m2.cB.length<=448):=As (by omega);have CM:B_ (∀ W,fE base M F' W sk.1->aH (· <n0) W (Bs (aq t.kind t.set t.mn t.mx (AI p' t.subs.length c'))) t->ah 102 #[AM (AF ⟨M,0,An⟩),Bs (aq t.kind t.set t.mn t.mx (AI p' t.subs.length c'))] W (jQ base M F' W m2 p2)):=As fun W h1 h2=>by
    have:=HT.out base M F' sk.1 W _ bX h1 h2 bO.ok bO.ok.len (by omega);rw[vW]at this;exact this
   have UI:=As nV;have QG:¬F' (w.heap.size+1+1):=fun e=>by rcases hF2 _ e with h | h;exact absurd (HM.lt _ h).2 (by omega);omega
   have hnN:¬F' w.heap.size:=fun e=>by rcases hF2 _ e with h | h;exact absurd (HM.lt _ h).2 (by omega);omega
   have KO:B_ (ae (fun x=>x<w.heap.size/\¬F x) w wo):=As ((E0.keeps.mono fun x hx=>hx.1).tr (Eo.mono fun x hx=>⟨by have:=hx.1;omega,hx.2,by have:=hx.1;omega⟩));have F8:=Eo.size;have NO:B_ (ar wo w.heap.size #[AN Ly k0,AN B' (wd s 0).toNat,AN B' (wd s 1).toNat,AN B' (wd s 2).toNat,AN B' (wd s 3).toNat,AN DE mn,AN DE (N:Int),AI (AF ⟨b,off,An⟩) n c] 97):=As (N0.keeps Eo ⟨by omega,fun e=>by have:=(HM.lt _ e).2;omega,by omega⟩);have O1:=As hO;have M1:=As Bb;have R1:B_ (aH (· <n0) wo (Bs (aq t.kind t.set t.mn t.mx (AI p' t.subs.length c'))) t):=As (UG.keeps KO fun x hx=>⟨by omega,fun e=>by have:=(HM.lt x e).1;omega⟩);have ec:∀ (o:Nat) (u:Value),w.cell? ⟨b,o,An⟩=AF u->wo.cell? ⟨b,o,An⟩=AF u:=fun o u h=>(KO.cell (p:=⟨b,o,An⟩) ⟨rq,vY⟩).trans h
   obtain⟨e0,e1,e2,e3,e4,e5,e6,e7⟩:=EE.out;replace e0:=ec _ _ e0;replace e1:=ec _ _ e1;replace e2:=ec _ _ e2;replace e3:=ec _ _ e3;replace e4:=ec _ _ e4;replace e5:=ec _ _ e5;replace e6:=ec _ _ e6;replace e7:=ec _ _ e7;have n5:wo.cell? ⟨w.heap.size,5,An⟩=AF (AN DE mn):=NO.cell 5;have n6:wo.cell? ⟨w.heap.size,6,An⟩=AF (AN DE (N:Int)):=NO.cell 6;have n7:wo.cell? ⟨w.heap.size,7,An⟩=AF (AI (AF ⟨b,off,An⟩) n c):=NO.cell 7;have Wo:=As Mn;have JV:=As hF2;have Mo:=As Eo;have pG:=As QG;have oO:=As hnN;have JZ:=As (CM.out wo M1 R1);clear nV vW hsk hO Bb Mn hF2 Eo QG hnN HI bO lq yE hl2 ym YP hmul QI hmu ec CM M1 R1;go_wp2_with fail
   refine JZ.mono ?_;rintro e w2 ⟨rfl,hF'',hx,hsz⟩;have hOl:w.heap.size+1+1<wo.heap.size:=O1.lt;have O2:=As (O1.keeps hx ⟨O1.lt,pG⟩);have N2:=As (NO.keeps hx ⟨NO.lt,oO⟩);obtain⟨F2,g1,g2,g3⟩:=hF'';have dP:¬F2 (w.heap.size+1+1):=fun e=>by rcases g3 _ e with h | h;exact pG h;omega
   have QJ:¬F2 w.heap.size:=fun e=>by rcases g3 _ e with h | h;exact oO h;omega
   have M2:=As g1;have G2:=As g2;have G3:=As g3;have pO:=As dP;have acx:=As QJ;have UJ:=As hx;have H5:=As hsz;clear hx g1 g2 g3 dP QJ hsz JZ O1 NO e0 e1 e2 e3 e4 e5 e6 e7 n5 n6 n7;unfold aA;go_upto_region 9 with fail
   refine aw ?_;intro W3 hW3;have X3:B_ (ar W3 w2.heap.size (aA p2) 181):=by rw[hW3];exact As (ar.new _ _ _)
   have E3:B_ (Ext w2 W3):=by rw[hW3];exact As ((Ext.refl w2).alloc _)
   have O3:=As (O2.ext E3);have N3:=As (N2.ext E3);have M3:B_ (fE base M F2 W3 m2):=As (M2.keeps E3.keeps fun x hx=>(M2.lt x hx).2);have hx2:¬F2 w2.heap.size:=fun e=>by have:=(M2.lt _ e).2;omega
   have gh:=As hx2;clear hW3 hx2 O2 N2;have n5:W3.cell? ⟨w.heap.size,5,An⟩=AF (AN DE mn):=N3.cell 5;have n6:W3.cell? ⟨w.heap.size,6,An⟩=AF (AN DE (N:Int)):=N3.cell 6;obtain⟨a0,a1,a2,a3,a4,a5,a6,a7,a8,a9,jZ,j3,a12,j4,jo⟩:=X3.part
   try dsimp only at a0 a1 a2 a3 a4 a5 a6 a7 a8 a9 jZ j3 a12 j4 jo
   obtain⟨m4,tG⟩:=ag m2;obtain⟨W5,YR⟩:=ag W3;have K5:B_ (ae (fun x=>x<W3.heap.size/\¬F2 x) W3 W3):=As (ae.refl _ _);have X5:=X3;have O5:=O3;have M5:B_ (fE base M F2 W3 m4):=As (by rw[tG];exact M3);have P5:B_ (dy sk.2.cL m4.cB.length/\m4.cB.length<=448):=As (by rw[tG];exact⟨Cn,YL⟩);have YQ:=As tG;clear tG W5 YR;obtain⟨eb,Hz⟩:=ag p2.emp;rw[<-Hz]at jo;have YJ:=As Hz;clear Hz;have QK:W3.frozen? ⟨w2.heap.size,14,An⟩=false:=X5.frozen 14;cases eb;all_goals
    go_upto_region 12 with fail
    refine aw ?_;intro W6 rW;obtain⟨e6,QL⟩:=ag ((p2.emp || decide (mn<=(k:Int))));obtain⟨p6,QM⟩:=ag (⟨p2.fst,p2.cL,e6⟩:GP);have X6:B_ (ar W6 w2.heap.size (aA p6) 181):=by rw[QM,rW,QL, <-YJ.out];exact As (X5.set 14 _)
    have K6:B_ (ae (· ≠w2.heap.size) W3 W6):=by rw[rW];exact As ((ae.refl (· ≠w2.heap.size) _).setCell (p:=⟨w2.heap.size,14,An⟩) (fun h=>h rfl) _)
    have O6:=As (O5.keeps K6 (by have:=O3.lt;have:=H5.out;omega));have M6:B_ (fE base M F2 W6 m4):=As (M5.keeps K6 fun x hx e=>gh (e▸hx))
    try clear n6
    clear rW n5 a0 a1 a2 a3 a4 a5 a6 a7 a8 a9 jZ j3 a12 j4 jo QK;have HE6:=As QL;clear QL;have HP6:=As QM;clear QM;have CT:B_ (ah 203 #[AM (AF ⟨M,0,An⟩),Bs (aA sk.2),Bs (aA p6)] W6 fun e w'=>e=DQ (Bs (aA (cH m4 sk.2 p6).2))/\fE base M F2 w' (cH m4 sk.2 p6).1/\ae (fun x=>x<W6.heap.size/\¬F2 x) W6 w'):=As (oz base M F2 m4 sk.2 p6 W6 M6 P5.1 P5.2);have kM:dS mn (N:Int) (fun m=>t.dw m) m (k+1)=cH m4 sk.2 p6:=by
     rw[UI.out,HP6.out,HE6.out];unfold AX;rw[if_neg (fun h=>hmx h.1), <-YQ.out]
    have Er:=As kM;clear kM;obtain⟨m7,p7,Es⟩:∃ m7 p7,cH m4 sk.2 p6=(m7,p7):=⟨_,_,rfl⟩;rw[Es]at CT Er;dsimp only at CT;clear Es;go_wp2_with (first | (refine aY rfl 181 (DP 6) rfl (w.heap.size+1+1) rfl (aA sk.2) _ O6.range AT rfl (bE _) ?_) | (refine aY rfl 181 (DP 8) rfl w2.heap.size rfl (aA p6) _ X6.range AT rfl (bE _) ?_));refine CT.mono ?_;rintro e w8 ⟨rfl,hF3,hx⟩;have O8:=As (O6.keeps hx ⟨O6.lt,pO⟩);have M8:=As hF3;have YN:=As hx;clear hx hF3 CT;go_wp2_with (refine Bm rfl 181 (DP 6) (DP 54) rfl (w.heap.size+1+1) (aA p7) rfl rfl 181 (aA sk.2) O8 (bE _) rfl (ew _) ?_;refine FG ?_);refine As ?_;obtain⟨W9,dG⟩:=ag (w8.setRow (w.heap.size+1+1) (aA p7));rw[<-dG];have O9:B_ (ar W9 (w.heap.size+1+1) (aA p7) 181):=by rw[dG];exact As O8.setRow
    have K9:B_ (ae (· ≠w.heap.size+1+1) w8 W9):=by rw[dG];exact As (bG _ _ _)
    clear dG;go_wp2;go_roundw;case rel=>
     refine⟨k+1,by omega,by go_num,?_⟩;rw[Er.out];have h1:=Mo.size;have h2:=H5.out;have h3:=E3.size;have h4:=K6.size;have h5:=K5.size;refine⟨⟨F2,M8.keeps K9 fun x hx e=>pO (e▸hx),fun x h=>G2 x (Wo x h),fun x h=>by rcases G3.out x h with h | h;exact JV x h;exact .inr (by omega)⟩,O9,?_⟩;have hq:∀ x,x<V.heap.size->¬F x->¬F2 x:=fun x h h6 e=>by rcases G3.out x e with h7 | h7;(rcases JV.out x h7 with h8 | h8;exact h6 h8;omega);omega
     have NT:∀ x,x<V.heap.size->¬F x->¬F' x:=fun x h h6 e=>hq x h h6 (G2 x e)
     exact Mo.tr ((UJ.mono fun x hx=>⟨by have:=hx.1;omega,NT x hx.1 hx.2.1⟩).tr ((E3.keeps.mono fun x hx=>by have:=hx.1;omega).tr ((K5.mono fun x hx=>⟨by have:=hx.1;omega,hq x hx.1 hx.2.1⟩).tr ((K6.mono fun x hx=>by have:=hx.1;omega).tr ((YN.mono fun x hx=>⟨by have:=hx.1;omega,hq x hx.1 hx.2.1⟩).tr (K9.mono fun x hx=>hx.2.2))))))
    case measure=>simp[intOf];omega
  ·obtain rfl:k=N:=by omega
   have Cq:¬ ((k:Int)<k):=by omega
   obtain⟨hF',hO,hK⟩:=HI.out;rw[<-HST.out]at hF' hO;have Qz:=As hF';have O3:=As hO;have HK:=As hK;have R3:B_ (ar wo (w.heap.size+1) (zeroV A') 181):=As (R0.keeps hK ⟨R0.lt,fun e=>by have:=(HM.lt _ e).2;omega,by omega⟩);clear hF' hO hK HI;go_wp2_with (first | (refine aY rfl 181 (DP 6) rfl (w.heap.size+1+1) rfl (aA st.2) _ O3.range AT rfl (bE _) ?_) | (refine Bm rfl 181 (DP 4) (DP 56) rfl (w.heap.size+1) (aA st.2) rfl rfl 181 (zeroV A') R3 (bE _) rfl (ew _) ?_;refine FG ?_));refine As ?_;obtain⟨V3,cP⟩:=ag (wo.setRow (w.heap.size+1) (aA st.2));rw[<-cP];have R9:B_ (ar V3 (w.heap.size+1) (aA st.2) 181):=by rw[cP];exact As R3.setRow
   have K9:ae (· ≠w.heap.size+1) wo V3:=by rw[cP];exact bG _ _ _
   clear cP;go_wp2;obtain⟨m0,m1,m2,m3,m4,m5,m6,m7,m8,m9,m10,m11,m12,m13,m14⟩:=R9.part;refine C' (v:=Bs (aA st.2)) (by simp[results,IN,aA,go_sem,m0,m1,m2,m3,m4,m5,m6,m7,m8,m9,m10,m11,m12,m13,m14]) rfl ⟨rfl,?_,?_,?_⟩
   ·obtain⟨F',h1,h2,h3⟩:=Qz.out
    exact⟨F',h1.keeps K9 fun x hx e=>by(rcases h3 x hx with h | h; · exact absurd (HM.lt x h).2 (by omega));omega,h2,fun x hx=>(h3 x hx).imp id fun h=>by omega⟩
   ·exact(E0.keeps.mono fun x hx=>hx.1).tr ((HK.mono fun x hx=>⟨by have:=hx.1;omega,hx.2,by have:=hx.1;omega⟩).tr (K9.mono fun x hx=>by have:=hx.1;omega))
   ·have:=K9.size;have:=HK.size;omega
def eD (M X:Nat):Array Value:= #[.func (.func 198) #[] #[],.func (.func 199) #[] #[],.func (.func 200) #[] #[AM (AF ⟨X,0,An⟩)],.func (.func 202) #[] #[AM (AF ⟨X,0,An⟩)],
 .func (.func 204) #[] #[AM (AF ⟨X,0,An⟩)],.func (.func 206) #[AM (AF ⟨M,0,An⟩)] #[],.func (.func 207) #[] #[AM (AF ⟨X,0,An⟩)]]
theorem Mp (M:Nat) (w:A_):ah 163 #[AM (AF ⟨M,0,An⟩)] w fun e w'=>e=DQ (Bs (eD M w.heap.size))/\Ext w w'/\w'.cell? ⟨w.heap.size,0,An⟩=AF (AM (AF ⟨M,0,An⟩)):=by
 go_enter Tryz.func163,Tryz.ntmps163
 go_wp2;refine aQ ?_;intro V hV;have R1:B_ (ar V (w.heap.size+1) (eD M w.heap.size) 253):=by
  rw[hV];exact As (ar.at (ar.new _ _ _) (by simp))
 have B0:B_ (ar V w.heap.size #[AM (AF ⟨M,0,An⟩)] 174):=by rw[hV];exact As ((ar.new _ _ _).alloc _)
 have X1:Ext w V:=by rw[hV];exact((Ext.refl w).alloc _).alloc _
 clear hV;have m0:=R1.cell 0;have m1:=R1.cell 1;have m2:=R1.cell 2;have m3:=R1.cell 3;have m4:=R1.cell 4;have m5:=R1.cell 5;have m6:=R1.cell 6;simp only[eD,FF,D_,D']at m0 m1 m2 m3 m4 m5 m6;refine C' (v:=Bs (eD M w.heap.size)) (by simp[results,Tryz.results163,eD,go_sem,m0,m1,m2,m3,m4,m5,m6]) rfl ⟨rfl,X1,B0.cell 0⟩
def Wq (base M:Nat) (F:Nat->Prop) (w:A_) (m:GM) (p:GP) (e:L7) (w':A_):Prop:=
 e=DQ (Bs (aA p))/\(∃ F',fE base M F' w' m/\(∀ x,F x->F' x)/\∀ x,F' x->F x\/w.heap.size<=x)/\ae (fun x=>x<w.heap.size/\¬F x) w w'
def kF (k:Nat):FuncId:=if k=1 then 199 else if k=2 then 200 else if k=3 then 202 else if k=4 then 204 else if k=5 then 206 else 207
def acE (k M X:Nat) (v:Value):Array Value:=if k=1 then #[v]else if k=5 then #[AM (AF ⟨M,0,An⟩),v]else #[v,AM (AF ⟨X,0,An⟩)]
def acF.tab (M n9:Nat):aU (Move A' (fun _=>False)) where
 P:=fun v=>∃ X,v=Bs (eD M X)/\n9<=X
 H:=fun v W=>∀ X,v=Bs (eD M X)->X<W.heap.size/\W.cell? ⟨X,0,An⟩=AF (AM (AF ⟨M,0,An⟩))
 nU:=Bs (eD M n9)
 pw:=⟨n9,rfl,aF _⟩
 st:=fun _ _ _ hm _ h X e=>⟨ay (h X e).1 hm.size,((ae.aj hm.below fun _ h=>h:ae (· <_) _ _).cell (p:=⟨X,0,An⟩) (h X e).1).trans (h X e).2⟩
theorem H6 {M X Y:Nat} (h:Bs (eD M X)=Bs (eD M Y)):X=Y:=by
 injection h with h
 have:=congrArg (fun a:Array Value=>a[2]?) h;simp[eD]at this;exact this
theorem lz (M X:Nat) (W:A_): (EV 253 (Bs (eD M X)) (AN Ly 1)).run DH W=.ok (.func (.func 199) #[] #[]) W/\ (EV 253 (Bs (eD M X)) (AN Ly 2)).run DH W=.ok (.func (.func 200) #[] #[AM (AF ⟨X,0,An⟩)]) W/\ (EV 253 (Bs (eD M X)) (AN Ly 3)).run DH W=.ok (.func (.func 202) #[] #[AM (AF ⟨X,0,An⟩)]) W/\ (EV 253 (Bs (eD M X)) (AN Ly 4)).run DH W=.ok (.func (.func 204) #[] #[AM (AF ⟨X,0,An⟩)]) W/\ (EV 253 (Bs (eD M X)) (AN Ly 5)).run DH W=.ok (.func (.func 206) #[AM (AF ⟨M,0,An⟩)] #[]) W/\ (EV 253 (Bs (eD M X)) (AN Ly 6)).run DH W=.ok (.func (.func 207) #[] #[AM (AF ⟨X,0,An⟩)]) W:=by refine⟨?_,?_,?_,?_,?_,?_⟩<;>simp[EV,asIntOf,run_underlying Tryz.underlying253,part,Tryz.isAgg182,Tryz.sizeOf182,eD,go_sem]
theorem H7 (n0 base M:Nat) (F:Nat->Prop) (m m2:GM) (p2:GP) (k:Nat) (s:BS) (mn mx:Int) (l:List RX) (p:Option L_) (n c:Nat) (w:A_) (bX:n0<=base) (h:fE base M F w m) (hr:aH (· <n0) w (Bs (aq k s mn mx (AI p n c))) (.nd k s mn mx l)) (h1:1<=k) (h6:k<=6) (HCl:∀ (W:A_) (X:Nat),fE base M F W m->aH (· <n0) W (Bs (aq k s mn mx (AI p n c))) (.nd k s mn mx l)->W.cell? ⟨X,0,An⟩=AF (AM (AF ⟨M,0,An⟩))->¬F X->ah (kF k) (acE k M X (Bs (aq k s mn mx (AI p n c)))) W (Wq base M F W m2 p2)): ah 102 #[AM (AF ⟨M,0,An⟩),Bs (aq k s mn mx (AI p n c))] w (jQ base M F w m2 p2):=by
 have HM:=As h;have HR:=As hr;have HCL:=As HCl;have Wk:M<w.heap.size:=(h.lt M h.fm).2;have acv:n0<=w.heap.size:=by have:=(h.lt M h.fm).1;omega
 clear h hr HCl;unfold aq;go_enter Tryz.func102,Tryz.ntmps102;go_upto_region 1 with fail
 refine aw ?_;intro V hV;have N0:B_ (ar V w.heap.size (aq k s mn mx (AI p n c)) 97):=by rw[hV];exact As ((ar.new _ _ _).alloc _)
 have R0:B_ (ar V (w.heap.size+1) (zeroV A') 181):=by rw[hV];exact As (ar.at (ar.new _ _ _) (by simp))
 have E0:B_ (Ext w V):=by rw[hV];exact As (((Ext.refl w).alloc _).alloc _)
 have lF:B_ (V.heap.size=w.heap.size+1+1):=As (by rw[hV];simp);clear hV;have yg:w.heap.size+1<V.heap.size:=by rw[lF.out];omega
 have e0:V.cell? ⟨w.heap.size,0,An⟩=AF (AN Ly k):=N0.cell 0;have e1:V.cell? ⟨w.heap.size,1,An⟩=AF (AN B' (wd s 0).toNat):=N0.cell 1;have e2:V.cell? ⟨w.heap.size,2,An⟩=AF (AN B' (wd s 1).toNat):=N0.cell 2;have e3:V.cell? ⟨w.heap.size,3,An⟩=AF (AN B' (wd s 2).toNat):=N0.cell 3;have e4:V.cell? ⟨w.heap.size,4,An⟩=AF (AN B' (wd s 3).toNat):=N0.cell 4;have e5:V.cell? ⟨w.heap.size,5,An⟩=AF (AN DE mn):=N0.cell 5;have e6:V.cell? ⟨w.heap.size,6,An⟩=AF (AN DE mx):=N0.cell 6;have e7:V.cell? ⟨w.heap.size,7,An⟩=AF (AI p n c):=N0.cell 7;have Ws:w.heap.size<V.heap.size:=N0.lt;have hk:k=1\/k=2\/k=3\/k=4\/k=5\/k=6:=by omega
 clear h1 h6;rcases hk with rfl | rfl | rfl | rfl | rfl | rfl
 all_goals
  refine aI A' (fun _=>False) (by kernel_rfl) 6 [0,1,0,4,15,0,63,127] (fun i=>i==1 || i==6 || i==7) (by kernel_rfl) (fun i=>if i=1 then acF.tab M w.heap.size else aU.any _) ?_;intro C hC hne;have HC:=As hC;have f0:=aD hC (p:=⟨w.heap.size,0,An⟩) Ws (fun h=>h) e0;have f1:=aD hC (p:=⟨w.heap.size,1,An⟩) Ws (fun h=>h) e1;have f2:=aD hC (p:=⟨w.heap.size,2,An⟩) Ws (fun h=>h) e2;have f3:=aD hC (p:=⟨w.heap.size,3,An⟩) Ws (fun h=>h) e3;have f4:=aD hC (p:=⟨w.heap.size,4,An⟩) Ws (fun h=>h) e4;have f5:=aD hC (p:=⟨w.heap.size,5,An⟩) Ws (fun h=>h) e5;have f6:=aD hC (p:=⟨w.heap.size,6,An⟩) Ws (fun h=>h) e6;have f7:=aD hC (p:=⟨w.heap.size,7,An⟩) Ws (fun h=>h) e7;clear hC e0 e1 e2 e3 e4 e5 e6 e7
  repeat (refine au (fun K hK=>?_);first | (refine bL rfl ?_;try go_simp;refine hK _ _ ?_;clear hK K) | (refine bJ rfl rfl ?_;unfold az;go_simp;refine hK _ _ ?_;clear hK K))
  refine au (fun K hK=>?_);refine bS rfl rfl (acF.tab M w.heap.size) rfl (fun W hW hN=>?_) (fun v hv=>?_)
  ·have hM:=(HC.out W).1 hW
   clear hW hN hK K;go_simp;refine bA ((Mp M W).mono ?_);rintro e w' ⟨rfl,hx,hc⟩;have hz:=hM.size;exact⟨_,rfl,Move.ext hx,⟨_,rfl,by omega⟩,fun Y hY=>by have:=H6 hY;subst this;exact⟨AS _ _ hc,hc⟩⟩
  obtain⟨X,rfl,hXn⟩:=hv;have ix1:=fun W=>(lz M X W).1
  have ix2:=fun W=>(lz M X W).2.1
  have ix3:=fun W=>(lz M X W).2.2.1
  have ix4:=fun W=>(lz M X W).2.2.2.1
  have ix5:=fun W=>(lz M X W).2.2.2.2.1
  have ix6:=fun W=>(lz M X W).2.2.2.2.2
  go_simp;refine hK _ _ ?_;clear hK K
  repeat (refine au (fun K hK=>?_);first | (refine bL rfl ?_;try go_simp;refine hK _ _ ?_;clear hK K) | (refine bJ rfl rfl ?_;unfold az;go_simp;refine hK _ _ ?_;clear hK K))
  refine bC (fun W hW hH=>?_);have jq:=(HC.out W).1 hW;obtain⟨hXl,hXc⟩:X<W.heap.size/\W.cell? ⟨X,0,An⟩=AF (AM (AF ⟨M,0,An⟩)):=(hH _ (ax (show _=AF _ from rfl:_[0]? =AF _))) X rfl;have MW:B_ (fE base M F W m):=As ((HM.keeps E0.keeps fun x hx=>(HM.lt x hx).2).keeps (ae.aj jq.below fun _ h=>h:ae (· <V.heap.size) V W) fun x hx=>by have:=(HM.lt x hx).2;omega);have IW:=As ((HR.keeps E0.keeps fun x hx=>by omega).keeps (ae.aj jq.below fun _ h=>h:ae (· <V.heap.size) V W) fun x hx=>by omega);have RW:=As (R0.below jq.below R0.lt);have KW:B_ (ae (· <w.heap.size) w W):=As (E0.keeps.tr (ae.aj jq.below fun x hx=>by omega:ae (· <w.heap.size) V W));have nI:w.heap.size+1<W.heap.size:=by have:=jq.size;omega
  have hnX:¬F X:=fun e=>by have:=(HM.lt X e).2;omega
  have CC:=As (HCL.out W X MW IW hXc hnX);clear jq hW hH HC hne f0 f1 f2 f3 f4 f5 f6 f7 MW IW HCL hXc ix1 ix2 ix3 ix4 ix5 ix6;go_wp2_with fail
  refine CC.mono ?_;rintro e w3 ⟨rfl,hF',hx⟩;have ox:∀ k,w.heap.size<=k->¬F k:=fun k hk e=>by have:=(HM.lt k e).2;omega
  have R3:B_ (ar w3 (w.heap.size+1) (zeroV A') 181):=As (RW.keeps hx ⟨by omega,ox _ (by omega)⟩);have Qz:=As hF';have HK:=As hx;have hs3:=hx.size;clear hx hF' CC;go_wp2_with (refine Bm rfl 181 (DP 4) (DP 11) rfl (w.heap.size+1) (aA p2) rfl rfl 181 (zeroV A') R3 (bE _) rfl (ew _) ?_;refine FG ?_);refine As ?_;obtain⟨V3,cP⟩:=ag (w3.setRow (w.heap.size+1) (aA p2));rw[<-cP];have R9:B_ (ar V3 (w.heap.size+1) (aA p2) 181):=by rw[cP];exact As R3.setRow
  have K9:ae (· ≠w.heap.size+1) w3 V3:=by rw[cP];exact bG _ _ _
  clear cP;go_wp2;obtain⟨m0,m1,m2,m3,m4,m5,m6,m7,m8,m9,m10,m11,m12,m13,m14⟩:=R9.part;refine C' (v:=Bs (aA p2)) (by simp[results,Tryz.results102,aA,go_sem,m0,m1,m2,m3,m4,m5,m6,m7,m8,m9,m10,m11,m12,m13,m14]) rfl ⟨rfl,?_,?_,?_⟩
  ·obtain⟨F',h1,h2,h3⟩:=Qz.out
   refine⟨F',h1.keeps K9 fun x hx e=>by(rcases h3 x hx with h | h;exact ox _ (by omega) h;omega),h2,fun x hx=>(h3 x hx).imp id fun h=>by omega⟩
  ·exact(KW.mono fun x hx=>hx.1).tr ((HK.mono fun x hx=>⟨by have:=hx.1;omega,hx.2⟩).tr (K9.mono fun x hx=>by have:=hx.1;omega))
  ·have:=K9.size;omega
theorem jQ.clo {base M:Nat} {F:Nat->Prop} {w:A_} {m:GM} {p:GP} {e:L7} {w':A_} (h:jQ base M F w m p e w'):Wq base M F w m p e w':=⟨h.1,h.2.1,h.2.2.1⟩
theorem oA {l:List RX} :∀ {t:RX},t∈l->t.size<=RX.sizes l:=by
 induction l with
 | nil=>intro t h;cases h
 | cons x l ih=>
  intro t h;rw[RX.sizes];rcases D0.1 h with rfl | h
  ·omega
  ·have:=ih h;omega
theorem vZ:∀ (l:List RX),l.length<=RX.sizes l
 | []=>Nat.zero_le _
 | t::l=>by rw[RX.sizes,GW];have:=size_pos t;have:=vZ l;omega
theorem QN (n0:Nat) (t:RX):t.fine->t.size<=10000->Hy n0 t:=by
 induction t using RX.ind with
 | h k s mn mx l ih=>
  intro hf hs;obtain⟨hr,hl⟩:=lR.1 hf;obtain⟨_,q2,q3,q4,q5,q6,_⟩:=sB hr;rw[RX.size]at hs;have hlen:=vZ l;have ih:∀ t∈l,Hy n0 t:=fun t ht=>ih t ht (hl t ht) (by have:=oA ht;omega)
  have wh:∀ t∈l,t.full=true:=fun t ht=>pV t (hl t ht)
  intro base M F m w v bX hm hv ok oW acH;obtain⟨p,c,rfl⟩:=hv.form;simp only[RX.kind,RX.set,RX.mn,RX.mx,RX.subs]at hv ⊢;refine H7 n0 base M F m _ _ k s mn mx l p _ c w bX hm hv (by omega) q4 fun W X hW hvW hX El=>?_
  have hk:k=1\/k=2\/k=3\/k=4\/k=5\/k=6:=by omega
  rcases hk with rfl | rfl | rfl | rfl | rfl | rfl
  ·have e:(RX.nd 1 s mn mx l).dw m=(m,⟨0,0,DS⟩):=by rw[RX.dw];rfl
   rw[e];refine(Hr 1 s mn mx _ W).mono ?_;rintro e w' ⟨rfl,hx⟩;exact⟨by show _=DQ (Bs (aA ⟨0,0,DS⟩));rw[ir],⟨F,hW.keeps hx fun x h=>(hW.lt x h).2,fun _ h=>h,fun _ h=>.inl h⟩,hx.mono fun _ h=>h.1⟩
  ·have e:(RX.nd 2 s mn mx l).dw m=(⟨m.aO++ [s],m.cB++ [0]⟩,⟨eC m.aO.length,eC m.aO.length,A'⟩):=by rw[RX.dw];rfl
   rw[e];have hc1:(RX.nd 2 s mn mx l).cnt=1:=by rw[RX.cnt];rfl
   exact(Ht base M F m s mn mx _ X W hW hX El oW (by omega)).mono fun e w' h=>h
  ·have e:(RX.nd 3 s mn mx l).dw m=RX.iT l (m,⟨0,0,DS⟩):=by rw[RX.dw];rfl
   have hc1:(RX.nd 3 s mn mx l).cnt=RX.gi l:=by rw[RX.cnt];rfl
   rw[e];exact(QH n0 base M F m 3 s mn mx l p _ c X W bX hW hvW ih wh hX El ok oW (by omega) (by omega)).mono fun e w' h=>h.clo
  ·have e:(RX.nd 4 s mn mx l).dw m=RX.fM l (m,⟨0,0,A'⟩):=by rw[RX.dw];rfl
   have hc1:(RX.nd 4 s mn mx l).cnt=RX.gi l:=by rw[RX.cnt];rfl
   rw[e];exact(QE n0 base M F m 4 s mn mx l p _ c X W bX hW hvW ih wh hX El ok oW (by omega) (by omega)).mono fun e w' h=>h.clo
  ·have hb:=q6 rfl
   obtain⟨g1,g2,g3⟩:=tB hb;obtain⟨t,l',rfl⟩:∃ t l',l=t::l':=by
    cases l with
    | nil=>have:=q5 (.inl rfl);simp at this
    | cons t l'=>exact⟨t,l',rfl⟩
   have e:(RX.nd 5 s mn mx (t::l')).dw m=dS mn mx (fun m=>t.dw m) m (eR mn mx):=by rw[RX.dw];show RX.rpG mn mx (t::l') m=_;rw[RX.rpG]
   have hc1:(RX.nd 5 s mn mx (t::l')).cnt=eR mn mx*t.cnt:=by rw[RX.cnt];show eR mn mx*RX.cnt1 (t::l')=_;rw[RX.cnt1]
   rw[e];have hmx:mx= -1\/(1<=mx/\mx≠ -1):=by
    unfold iA at hb;split at hb
    ·cases hb
    ·simp at hb
     omega
   rcases hmx with rfl | ⟨hmx,hne⟩
   ·refine(acu n0 base M F m 5 s mn (eR mn (-1)) t l' p _ c W bX hW hvW (ih t (bu ..)) (wh t (bu ..)) ok oW ?_ g3 rfl (by omega)).mono fun e w' h=>h.clo
    unfold eR;rw[if_pos rfl];omega
   ·obtain⟨N,rfl⟩:∃ N:Nat,mx=N:=⟨mx.toNat,by omega⟩
    have hN:eR mn (N:Int)=N:=by unfold eR;rw[if_neg hne];simp
    rw[hN]at g3 hc1 ⊢;exact(acC n0 base M F m 5 s mn N t l' p _ c W bX hW hvW (ih t (bu ..)) (wh t (bu ..)) ok oW (by omega) g3 hN (by omega)).mono fun e w' h=>h.clo
  ·obtain⟨t,l',rfl⟩:∃ t l',l=t::l':=by
    cases l with
    | nil=>have:=q5 (.inr rfl);simp at this
    | cons t l'=>exact⟨t,l',rfl⟩
   have e:(RX.nd 6 s mn mx (t::l')).dw m=t.dw m:=by rw[RX.dw];show RX.hdG (t::l') m=_;rw[RX.hdG]
   have hc1:(RX.nd 6 s mn mx (t::l')).cnt=t.cnt:=by rw[RX.cnt];show RX.cnt1 (t::l')=_;rw[RX.cnt1]
   rw[e];exact(UF n0 base M F m 6 s mn mx t l' p _ c X W bX hW hvW (ih t (bu ..)) hX El ok oW (by omega)).mono fun e w' h=>h.clo
attribute [local go_sem] Oper.semAt_some gj dz
theorem qh {T:Nat->Prop} :∀ (Ds:List Nat) (W:A_),(∀ D∈Ds,T D)->Move DS T W (Ds.foldl (fun W D=>W.putObj D (.deferred An)) W)
 | [],_,_=>Move.refl _ _ _
 | D::Ds,_,h=>(Move.put (h D (bu ..)) _).trans (qh Ds _ fun E hE=>h E (bM _ hE))
theorem jR:∀ (Ds:List Nat) (W:A_),(Ds.foldl (fun W D=>W.putObj D (.deferred An)) W).heap.size=W.heap.size
 | [],_=>rfl
 | D::Ds,_=>by rw[List.foldl_cons,jR Ds];simp
theorem lU (c:Array Value) (w:A_):ah 160 #[Bs c] w fun e w'=>e=DQ (.func (.func 195) #[] #[AM (AF ⟨w.heap.size,0,An⟩)])/\w'=w.alloc (.cells c 97 (0,0)):=by
 go_enter Tryz.func160,Tryz.ntmps160
 go_wp2;go_ret;exact⟨rfl,rfl⟩
theorem oB:∀ args w,(callFunc 195 args).run DH w=.ok (.enter 195 args) w:=enters_of Lo (by kernel_rfl) rfl
abbrev j9:=Value×RX
def Et (x:j9):Array Value:= #[x.1]
theorem zA {l:List RX} (f:Nat->List j9) (hf:∀ i t,l[i]? =AF t->(f i).map (·.2)=t.pre):∀ j,j<=l.length->((C_ j).flatMap f).map (·.2)=RX.kY (l.take j)
 | 0,_=>by simp[RX.kY]
 | j+1,hj=>by
  have hl:l[j]? =AF (l[j]'(by omega)):=aB (by omega);have pa:∀ a b:List RX,RX.kY (a++b)=RX.kY a++RX.kY b:=by
   intro a b;induction a with
   | nil=>rfl
   | cons x a ih=>rw[Cd,RX.kY,RX.kY,ih,E_]
  rw[G',GO,List.map_append,zA f hf j (by omega),Iv,hl,pa];congr 1;simp[hf j _ hl,RX.kY]
theorem zB (f:Nat->List j9) (h:j9) {i n:Nat} (hi:i<=n):h::(C_ i).flatMap f<+:h::(C_ n).flatMap f:=by
 induction n with
 | zero=>rw[show i=0 by omega];exact IT
 | succ n ih=>
  by_cases e:i=n+1
  ·subst e;exact IT
  ·exact(ih (by omega)).trans (by rw[G',GO];exact⟨_,by rw[Cd]⟩)
theorem Bc (f:Nat->List j9) (h:j9) (i:Nat):h::(C_ (i+1)).flatMap f=(h::(C_ i).flatMap f)++f i:=by rw[G',GO,Cd];simp
theorem wk:∀ {l:List RX} {t:RX},t∈l->t.size<=RX.sizes l
 | x::l,t,h=>by
  rw[RX.sizes];rcases D0.1 h with rfl | h
  ·omega
  ·have:=wk h;omega
theorem oC:∀ (l:List RX),l.length<=RX.sizes l
 | []=>by simp
 | x::l=>by
  rw[RX.sizes,GW];have:=oC l;have h1:1<=x.size:=by cases x;rw[RX.size];omega
  omega
def Wt (D:Nat):Deferred:= {target:=.collected D,args:= #[]}
theorem my {P:Program} {fn:Func} {R:L7->A_->Prop} {tmps:Array Value} {v:Value} {Ds:List Nat} {W:A_} {x:Exit} (hx:x=.normal\/x=.ret) (hn:Ds.Nodup) (hD:∀ D∈Ds,W.heap[D]? =AF (.deferred (AF []))) (hr:∀ W,(results fn tmps).run P W=.ok v W) (hR:R (DQ v) (Ds.foldl (fun W D=>W.putObj D (.deferred An)) W)):bodyPostM Fence.wide 0 P fn R x {tmps:=tmps,defers:=Ds.map Wt} W:=by
 have h:=pD (P:=P) (fn:=fn) (tmps:=tmps) (R:=R) Ds W hn hD (hr _) hR;rcases hx with rfl | rfl
 ·exact h
 ·exact h
structure fQ (R:Nat->Prop) (J:List j9->(Nat->Prop)->A_->Prop) (W1:A_) (Y:Nat) (yv:Value) (pre:List j9) (Ds:List Nat) (T:Nat->Prop) (W:A_):Prop where
 iK:∀ k,T k->W1.heap.size<=k/\k<W.heap.size
 y:T Y
 yb:ar W Y #[yv] 172
 nodup:Ds.Nodup
 ds:∀ D∈Ds,T D/\W.heap[D]? =AF (.deferred (AF []))
 keep:ae R W1 W
 j:J pre T W
theorem fQ.more {R:Nat->Prop} {J:List j9->(Nat->Prop)->A_->Prop} {W1:A_} {Y:Nat} {yv:Value} {pre:List j9} {Ds:List Nat} {T:Nat->Prop} {W W':A_} (h:fQ R J W1 Y yv pre Ds T W) (hJ:eL DS W1.heap.size J) (hR:∀ k,R k->k<W1.heap.size) {T':Nat->Prop} (hx:Ext W W') (ht:∀ k,T k->T' k) (Wu:∀ k,T' k->(T k\/W.heap.size<=k)/\k<W'.heap.size):fQ R J W1 Y yv pre Ds T' W':=by
 have h1:W1.heap.size<=W.heap.size:=h.keep.size;have hr:∀ k,T' k->W1.heap.size<=k/\k<W'.heap.size:=fun k hk=>⟨by rcases(Wu k hk).1 with h2 | h2;exact(h.iK k h2).1;omega,(Wu k hk).2⟩
 refine⟨hr,ht _ h.y,h.yb.ext hx,h.nodup,fun D hD=>⟨ht _ (h.ds D hD).1,?_⟩,h.keep.tr (hx.mono fun k hk=>by have:=hR k hk;omega),hJ _ _ _ _ _ h.j h.iK hr ht (fun k hk=>(Wu k hk).1) (.ext hx)⟩;exact(hx.keep D (h.iK D (h.ds D hD).1).2).trans (h.ds D hD).2
theorem fQ.move {R:Nat->Prop} {J:List j9->(Nat->Prop)->A_->Prop} {W1:A_} {Y:Nat} {yv:Value} {pre:List j9} {Ds:List Nat} {T Ti NV:Nat->Prop} {W W':A_} {B:Nat} (h:fQ R J W1 Y yv pre Ds (fun k=>T k\/Ti k) W) (hJ:eL DS W1.heap.size J) (hR:∀ k,R k->k<W1.heap.size) (hB:W1.heap.size<=B) (hYB:Y<B) (hDB:∀ D∈Ds,D<B) (h1:∀ k,Ti k->B<=k/\k<W.heap.size) (h2:∀ k,NV k->B<=k/\k<W'.heap.size) (h3:∀ k,Ti k->NV k) (h4:∀ k,NV k->Ti k\/W.heap.size<=k) (h5:Move DS Ti W W'):fQ R J W1 Y yv pre Ds (fun k=>T k\/NV k) W':=by
 have hs:=h5.size;have hr:∀ k,(T k\/NV k)->W1.heap.size<=k/\k<W'.heap.size:=fun k hk=>by
  rcases hk with hk | hk
  ·have:=h.iK k (.inl hk);exact⟨this.1,by omega⟩
  ·have:=h2 k hk;exact⟨by omega,this.2⟩
 refine⟨hr,?_,h.yb.keeps h5.keeps ⟨h.yb.lt,fun e=>by have:=(h1 _ e).1;omega⟩,h.nodup,fun D hD=>⟨?_,?_⟩,h.keep.tr (h5.keeps.mono fun k hk=>⟨by have:=hR k hk;have:=h.keep.size;omega,fun e=>by have:=(h1 _ e).1;have:=hR k hk;omega⟩),hJ _ _ _ _ _ h.j h.iK hr (fun k hk=>hk.imp id (h3 k)) (fun k hk=>hk.elim (fun h=>.inl (.inl h)) fun h=>(h4 k h).imp .inr id) (h5.mono fun k hk=>.inr hk)⟩
 ·exact h.y.imp id (h3 _)
 ·exact(h.ds D hD).1.imp id (h3 _)
 ·exact(h5.keeps.keep D ⟨(h.iK D (h.ds D hD).1).2,fun e=>by have:=(h1 _ e).1;have:=hDB D hD;omega⟩).trans (h.ds D hD).2
theorem fQ.round {R:Nat->Prop} {J:List j9->(Nat->Prop)->A_->Prop} {W1:A_} {Y:Nat} {yv:Value} {pre pre':List j9} {Ds:List Nat} {T:Nat->Prop} {W W':A_} (h:fQ R J W1 Y yv pre Ds T W) (hk:ae (fun k=>R k\/T k) W W') (hj:J pre' T W'):fQ R J W1 Y yv pre' Ds T W':=
 ⟨fun k sU=>⟨(h.iK k sU).1,ay (h.iK k sU).2 hk.size⟩,h.y,h.yb.keeps hk (.inr h.y),h.nodup,fun D hD=>⟨(h.ds D hD).1,(hk.keep D (.inr (h.ds D hD).1)).trans (h.ds D hD).2⟩,h.keep.tr (hk.mono fun _ hk=>.inl hk),hj⟩
structure Bd (Jx:List j9->(Nat->Prop)->A_->Prop) (W1:A_) (pre:List j9) (Ds:List Nat) (T:Nat->Prop) (W:A_):Prop where
 iK:∀ k,T k->W1.heap.size<=k/\k<W.heap.size
 ds:∀ D∈Ds,T D/\W.heap[D]? =AF (.deferred (AF []))
 j:Jx pre T W
theorem Bd.move {Jx:List j9->(Nat->Prop)->A_->Prop} {W1:A_} {pre:List j9} {Ds:List Nat} {T Ti NV:Nat->Prop} {W W':A_} {B:Nat} (h:Bd Jx W1 pre Ds (fun k=>T k\/Ti k) W) (hJ:eL DS W1.heap.size Jx) (hB:W1.heap.size<=B) (hDB:∀ D∈Ds,D<B) (h1:∀ k,Ti k->B<=k/\k<W.heap.size) (h2:∀ k,NV k->B<=k/\k<W'.heap.size) (h3:∀ k,Ti k->NV k) (h4:∀ k,NV k->Ti k\/W.heap.size<=k) (h5:Move DS Ti W W'):Bd Jx W1 pre Ds (fun k=>T k\/NV k) W':=by
 have hs:=h5.size;have hr:∀ k,(T k\/NV k)->W1.heap.size<=k/\k<W'.heap.size:=fun k hk=>by
  rcases hk with hk | hk
  ·have:=h.iK k (.inl hk);exact⟨this.1,by omega⟩
  ·have:=h2 k hk;exact⟨by omega,this.2⟩
 refine⟨hr,fun D hD=>⟨(h.ds D hD).1.imp id (h3 _),?_⟩,hJ _ _ _ _ _ h.j h.iK hr (fun k hk=>hk.imp id (h3 k)) (fun k hk=>hk.elim (fun h=>.inl (.inl h)) fun h=>(h4 k h).imp .inr id) (h5.mono fun k hk=>.inr hk)⟩;exact(h5.keeps.keep D ⟨(h.iK D (h.ds D hD).1).2,fun e=>by have:=(h1 _ e).1;have:=hDB D hD;omega⟩).trans (h.ds D hD).2
theorem sH (n0:Nat) (t:RX):t.size<=10000000->∀ (v:Value) (w:A_),aH (· <n0) w v t->n0<=w.heap.size->∃ xs:List j9,xs.map (·.2)=t.pre/\(∀ x∈xs,aH (· <n0) w x.1 x.2)/\ ∀ (W:A_) (B:Nat) (c:Array Value),v=Bs c->ae (· <n0) w W->ar W B c 97->Seq DS DH 195 #[AM (AF ⟨B,0,An⟩)] Et (fun k=>k<n0\/k=B) xs W:=by
 induction t using RX.ind with
 | h k s mn mx l ih=>
  intro hsz v w hv bX;obtain⟨p,cp,rfl⟩:=hv.form;obtain⟨n,hn⟩:=ag l.length;have HV:=As hv;simp only[RX.kind,RX.set,RX.mn,RX.mx,RX.subs]at HV ⊢;rw[<-hn]at HV ⊢
  have hch:∀ i,∃ xs:List j9,∀ t,l[i]? =AF t->xs.map (·.2)=t.pre/\(∀ x∈xs,aH (· <n0) w x.1 x.2)/\∀ (p':Option L_) (c':Nat),aH (· <n0) w (Bs (aq t.kind t.set t.mn t.mx (AI p' t.subs.length c'))) t->∀ b off,p=AF ⟨b,off,An⟩->w.cell? ⟨b,off+i*8+7,An⟩=AF (AI p' t.subs.length c')->
    ∀ (W:A_) (B:Nat),ae (· <n0) w W->ar W B (aq t.kind t.set t.mn t.mx (AI p' t.subs.length c')) 97->Seq DS DH 195 #[AM (AF ⟨B,0,An⟩)] Et (fun k=>k<n0\/k=B) xs W:=fun i=>by
   cases hi:l[i]? with
   | none=>exact⟨[],fun t h=>by cases h⟩
   | some t=>
    obtain⟨b,off,p',c',ep,_,_,_,YS,hr⟩:=HV.elem hi;obtain⟨xs,h1,h2,h3⟩:=ih t (ax hi) (Lw (wk (ax hi)) (by rw[RX.size]at hsz;omega)) _ w hr bX;refine⟨xs,fun t' e=>?_⟩;cases e;refine⟨h1,h2,fun p2 c2 _ b2 fL e2 hc2 W B hW hB=>?_⟩;rw[ep]at e2;cases e2;have e3:=YS.2.2.2.2.2.2.2;rw[hc2]at e3;cases e3;exact h3 W B _ rfl hW hB
  obtain⟨f,hf⟩:=Classical.axiomOfChoice hch;clear hch ih;obtain⟨cv,hcv⟩:=ag (aq k s mn mx (AI p n cp));obtain⟨x0,hx0⟩:=ag ((Bs cv,.nd k s mn mx l):j9);refine⟨x0::(C_ n).flatMap f,?_,fun x hx=>?_,?_⟩
  ·rw[List.map_cons,zA f (fun i t h=>(hf i t h).1) n (by omega),hn,GS,RX.pre,hx0]
  ·rcases D0.1 hx with rfl | hx
   ·rw[hx0,hcv];exact HV
   ·obtain⟨i,hi,hxi⟩:=List.mem_flatMap.1 hx
    have fT:i<l.length:=by have:=List.mem_range.1 hi;omega
    exact(hf i _ (aB fT)).2.1 x hxi
  intro WS B c ec hKS hB;cases ec;rw[<-hcv]at hB;have HF:=As hf;have Lb:=As hx0;clear hf hv hx0;intro ly J Jx W1 hK hJ Xw hY h0;have HY:=As hY;have HJ:=As hJ;have HJX:=As Xw;clear hY hJ Xw;have B1:=hB.keeps hK hB.lt;have KW:ae (· <n0) w W1:=hKS.tr (hK.mono fun k hk=>ay hk (by have:=hKS.size;omega));have Yg:n0<=W1.heap.size:=by have:=KW.size;omega
  have YT:∀ k,(k<n0\/k=B)->k<W1.heap.size:=fun k hk=>by rcases hk with hk | rfl;omega;exact B1.lt
  have anL:n<=10000000:=by rw[hn];exact Lw (oC l) (by rw[RX.size]at hsz;omega)
  refine callsIn_wide (n:=0).1 ?_;refine callsIn_of_wp_marks Lo rfl trivial ?_ rfl;simp only[Tryz.ntmps195,List.size_toArray,GW,List.length_nil,Nat.reduceAdd,Nat.reduceSub,Array.replicate_succ,Array.replicate_zero,List.push_toArray,List.append_toArray,F_,Cd];have I2:fQ (fun k=>k<n0\/k=B) J W1 W1.heap.size (.func (.yield ly) #[] #[]) [] [] (fun k=>k=W1.heap.size) (W1.alloc (.cells #[.func (.yield ly) #[] #[]] 172 (0,0))):=
   ⟨fun k hk=>by rw[hk];simp,rfl,ar.new _ _ _,List.nodup_nil,fun D h=>by(cases h),((Ext.refl _).alloc _).mono fun k hk=>YT k hk,HJ _ _ _ _ _ h0 (fun k h=>h.elim) (fun k hk=>by rw[hk];simp) (fun k h=>h.elim) (fun k hk=>.inr (by rw[hk];exact aF _)) (.ext ((Ext.refl _).alloc _))⟩
  obtain⟨fn,tm,Cv,bd,hy,De⟩:=HY.out [] x0 _ _ ⟨_,rfl⟩ I2.iK I2.keep I2.j;have NI:=As De;have I2H:=As I2;have B2:=As (B1.alloc (.cells #[.func (.yield ly) #[] #[]] 172 (0,0)));clear De I2 h0;rw[Et,Lb.out]at hy;obtain⟨YU,UL⟩:=ag ((⟨W1.heap.size,0,An⟩:L_));have q0:(W1.alloc (.cells #[.func (.yield ly) #[] #[]] 172 (0,0))).cell? ⟨W1.heap.size,0,An⟩=AF (.func (.yield ly) #[] #[]):=(ar.new _ _ _).cell 0;rw[hcv]at B2 hy;obtain⟨b0,b1,b2,b3,b4,b5,b6,b7⟩:=(show _/\_/\_/\_/\_/\_/\_/\_ from⟨B2.cell 0,B2.cell 1,B2.cell 2,B2.cell 3,B2.cell 4,B2.cell 5,B2.cell 6,B2.cell 7⟩);simp only[aq,FF,D_,D']at b0 b1 b2 b3 b4 b5 b6 b7;dsimp only[aq]at hy;clear UL YU;have HN:=As hn;clear hn
  gi_wp2
  refine NI.mono ?_;rintro e W2 (⟨rfl,kN,hk2⟩ | ⟨rfl,hjx,hk2⟩)
  rotate_left
  ·have UM:=I2H.iK
   have h5:=hk2.size;clear hy
   gi_wp2
   exact xP rfl (IF rfl _ _ _) ⟨⟨_,rfl⟩,_,fun k hk=>⟨(UM k hk).1,ay (UM k hk).2 h5⟩,.inr ⟨[x0],⟨_,rfl⟩,hjx⟩⟩
  have I3:=As (I2H.round hk2 kN);have KB:B_ (ar W2 B (aq k s mn mx (AI p n cp)) 97):=As (B2.keeps hk2 (.inl (.inr rfl)));have g7:W2.cell? ⟨B,7,An⟩=AF (AI p n cp):=KB.cell 7;clear hy kN hk2 q0 b0 b1 b2 b3 b4 b5 b6 b7 B2 I2H NI
  gi_wp2
  have HR:=As YT;have yl:=As KW;clear g7 KB YT KW hB hKS hK;refine wpIn_loop (fun a W=>∃ (i:Nat) (Ds:List Nat) (T:Nat->Prop) (u4 u14 u15 u16 u17 u18 u24:Value),i<=n/\a= {tmps:= #[.func (.yield ly) #[] #[],AM (AF ⟨B,0,An⟩),AM (AF ⟨W1.heap.size,0,An⟩),Ft,u4,Ft,.func (.yield ly) #[] #[],Bs (aq k s mn mx (AI p n cp)),J' DS,J' A',AM (AF ⟨B,7,An⟩),AI p n cp,AN DE n,AN DE i,u14,u15,u16,u17,u18,Ft,Ft,Ft,Ft,Ft,u24],defers:=Ds.map Wt} /\fQ (fun k=>k<n0\/k=B) J W1 W1.heap.size (.func (.yield ly) #[] #[]) (x0::(C_ i).flatMap f) Ds T W)
   (fun a _=>n-(intOf (a.tmps.getD 13 Ft)).toNat) ⟨0,[],_,Ft,Ft,Ft,Ft,Ft,Ft,Ft,by omega,rfl,I3⟩ ?_
  rintro a w4 ⟨i,Ds,T,u4,u14,u15,u16,u17,u18,u24,hi,rfl,hI⟩;have HI:=As hI;clear I3;by_cases hlt:i<n
  rotate_left
  ·obtain rfl:i=n:=by omega
   have ed:¬ ((i:Int)<i):=by omega
   clear hI
   gi_wp2
   refine my (.inl rfl) HI.nodup (fun D hD=>(HI.ds D hD).2) (fun W=>IF rfl _ _ _) ⟨⟨_,rfl⟩,T,fun k hk=>by rw[jR];exact HI.iK k hk,.inl ?_⟩;exact HJ _ _ _ _ _ HI.j HI.iK (fun k hk=>by rw[jR];exact HI.iK k hk) (fun _ h=>h) (fun _ h=>.inl h) (qh Ds w4 fun D hD=>(HI.ds D hD).1)
  have ed:(i:Int)<n:=by omega
  obtain⟨t,ht⟩:∃ t,l[i]? =AF t:=⟨_,aB (by have:=HN.out;omega)⟩;have KW4:B_ (ae (· <n0) w w4):=As (yl.tr (hI.keep.mono fun k hk=>.inl hk));obtain⟨b,off,p',c',ep,hbF,hb,anM,⟨q0,q1,q2,q3,q4,q5,q6,q7⟩,hrt⟩:=HV.elem ht;have hf9:=(HF.out i t ht).2.2 p' c' hrt b off ep q7;have HFM:=As ((HF i t ht).2.1);have hcell:∀ j,w4.cell? ⟨b,j,An⟩=w.cell? ⟨b,j,An⟩:=fun j=>KW4.cell (p:=⟨b,j,An⟩) hbF
  replace q0:=(hcell _).trans q0;replace q1:=(hcell _).trans q1;replace q2:=(hcell _).trans q2;replace q3:=(hcell _).trans q3;replace q4:=(hcell _).trans q4;replace q5:=(hcell _).trans q5;replace q6:=(hcell _).trans q6;replace q7:=(hcell _).trans q7;replace hb:b<w4.heap.size:=ay hb KW4.size;subst ep;have HF9:=As hf9;have HT:=As ht;clear hf9 hI ht hcell hrt
  gi_wp2_with (gi_at_call 160;refine(callsIn_wide.2 (lU _ _)).mono ?_;rintro e w5 ⟨rfl,rfl⟩)
  refine Gq ?_;intro w5 hw5;have anO:w5.heap.size=w4.heap.size+2:=by rw[hw5];simp
  have x45:Ext w4 w5:=by rw[hw5];exact((Ext.refl _).alloc _).alloc _
  have BN:ar w5 (w4.heap.size+1) (aq t.kind t.set t.mn t.mx (AI p' t.subs.length c')) 97:=by rw[hw5];exact(ar.new _ _ _).at (by simp)
  have anP:W1.heap.size<=w4.heap.size:=HI.keep.size;obtain⟨T2,UM⟩:=ag (fun k=>T k\/k=w4.heap.size\/k=w4.heap.size+1:Nat->Prop)
  have i5:fQ (fun k=>k<n0\/k=B) J W1 W1.heap.size (.func (.yield ly) #[] #[]) (x0::(C_ i).flatMap f) Ds T2 w5:=HI.more HJ HR x45 (fun k hk=>by rw[UM];exact .inl hk) (fun k hk=>by
   rw[UM]at hk;rcases hk with hk | hk | hk
   ·exact⟨.inl hk,by have:=(HI.iK k hk).2;omega⟩
   ·exact⟨.inr (by omega),by omega⟩
   ·exact⟨.inr (by omega),by omega⟩)
  have hDs:∀ D∈Ds,D<w5.heap.size:=fun D hD=>(i5.iK D (i5.ds D hD).1).2
  have ahb:T2 (w4.heap.size+1):=by rw[UM];exact .inr (.inr rfl)
  have hseq:=HF9.out w5 (w4.heap.size+1) (KW4.tr (x45.mono fun k hk=>by have:k<n0:=hk;omega)) BN;have hY5:W1.heap.size<w5.heap.size:=by omega
  have i5':fQ (fun k=>k<n0\/k=B) J W1 W1.heap.size (.func (.yield ly) #[] #[]) ((x0::(C_ i).flatMap f)++ []) Ds (fun k=>T2 k\/False) w5:=by
   rw[List.append_nil];exact i5.more HJ HR (Ext.refl _) (fun k h=>.inl h) fun k h=>by
    rcases h with h | h
    ·exact⟨.inl h,(i5.iK k h).2⟩
    ·exact h.elim
  have HPF:B_ (∀ pre (x:j9),pre++ [x]<+:f i->((x0::(C_ i).flatMap f)++pre)++ [x]<+:x0::(C_ n).flatMap f):=As fun pre x h=>by
   refine List.IsPrefix.trans ?_ (zB f x0 (show i+1<=n by omega));rw[Bc,E_];exact GB _ |>.2 h
  have TD:∀ k,(k<n0\/k=w4.heap.size+1)->k<w5.heap.size:=fun k hk=>by
   rcases hk with hk | hk
   ·have:=HR.out k (.inl hk);omega
   ·omega
  have HI5:=As i5';have I5K:=As i5;have HT2:=As UM;have XW5:=As x45;have HDS:=As hDs;obtain⟨done,hdone⟩:=ag (x0::(C_ i).flatMap f);rw[<-hdone]at HI5 HPF I5K;have HDN:=As hdone;clear i5 i5' UM x45 BN hw5 hDs q0 q1 q2 q3 q4 q5 q6 q7 ed hdone
  refine wpIn_wide.2 (uP (d:=DS) hseq (by rfl) oB (by intro _;rfl) TD
   (fun pre Ti W=>fQ (fun k=>k<n0\/k=B) J W1 W1.heap.size (.func (.yield ly) #[] #[]) (done++pre) Ds (fun k=>T2 k\/Ti k) W)
   (fun c pre Ti W=>c=.ret/\Bd Jx W1 (done++pre) Ds (fun k=>T2 k\/Ti k) W)
   (fun s T T' W W' h h1 h2 h3 h4 h5=>h.move HJ HR (by omega) hY5 HDS h1 h2 h3 h4 h5)
   (fun c s T T' W W' h h1 h2 h3 h4 h5=>⟨h.1,h.2.move HJX (by omega) HDS h1 h2 h3 h4 h5⟩)
   HI5
   (fun z Ti W=>∃ b9:Nat,z.2.2= {tmps:= #[.func (.yield ly) #[] #[],AM (AF ⟨B,0,An⟩),AM (AF ⟨W1.heap.size,0,An⟩),Ft,AM (AF ⟨w4.heap.size,0,An⟩),AM (AF ⟨b9,0,An⟩),.func (.yield ly) #[] #[],Bs (aq k s mn mx (AI (AF ⟨b,off,An⟩) n cp)),J' DS,J' A',AM (AF ⟨B,7,An⟩),AI (AF ⟨b,off,An⟩) n cp,AN DE n,AN DE i,J' DS,AM (AF ⟨b,off+i*8,An⟩),Bs (aq t.kind t.set t.mn t.mx (AI p' t.subs.length c')),Bs (aq t.kind t.set t.mn t.mx (AI p' t.subs.length c')),.func (.func 195) #[] #[AM (AF ⟨w4.heap.size+1,0,An⟩)],z.2.1.1,Ft,Ft,Ft,Ft,u24],defers:=[]} /\w5.heap.size<=b9/\b9<W.heap.size/\¬Ti b9/\(∃ c,z.2.1.1=Bs c/\ar W b9 c 97)/\fQ (fun k=>k<n0\/k=B) J W1 W1.heap.size (.func (.yield ly) #[] #[]) (done++z.1) Ds (fun k=>T2 k\/Ti k) W)
   ?hIa ?assign ?body ?done ?stop)
  case hIa=>
   rintro⟨pre,x,a1⟩ Ti NV W W' ⟨b9,e1,e2,e3,e4,⟨c,e5,e6⟩,e7⟩ h1 h2 h3 h4 h5;have hs:=h5.size;refine⟨b9,e1,e2,by omega,fun h=>?_,⟨c,e5,e6.keeps h5.keeps ⟨e3,e4⟩⟩,e7.move HJ HR (by omega) hY5 HDS h1 h2 h3 h4 h5⟩;rcases h4 b9 h with h | h
   ·exact e4 h
   ·omega
  case assign=>
   rintro lr pre ⟨xv,xt⟩ Ti W hp YV hk hI;have hx:=HFM.out (xv,xt) (hp.subset (by simp));obtain⟨p9,c9,e9⟩:=hx.form;dsimp only at e9;subst e9;have HI9:=As hI;have HTI:=As YV;clear hI YV hx hp hseq;dsimp only[aq,Et]
   gi_wp2
   have nI:w5.heap.size<=W.heap.size:=hk.size;refine⟨((ae.refl _ _).alloc (fun j hj=>?_) _),W.heap.size,rfl,nI,by simp,fun h=>by have:=(HTI.out _ h).2;omega,⟨_,rfl,ar.new _ _ _⟩,HI9.more HJ HR ((Ext.refl _).alloc _) (fun _ h=>h) fun j hj=>⟨.inl hj,by have:=(HI9.iK j hj).2;simp;omega⟩⟩;rcases hj with hj | hj
   ·have:=TD j hj;omega
   ·exact(HTI j hj).2
  case body=>
   rintro lr pre ⟨xv,xt⟩ Ti a1 W hp YV hk xO rR ⟨b9,e1,e2,e3,e4,⟨c9,e5,e6⟩,e7⟩;have hx:=HFM.out (xv,xt) (hp.subset (by simp));obtain⟨p9,cp9,e9⟩:=hx.form;dsimp only at e1 e5 e7 e9;rw[e5]at e9;injection e9 with e9
   subst e1 e5 e9;obtain⟨fn,tm,Cv,bd,hy,De⟩:=HY.out _ _ _ _ (HPF pre _ hp) e7.iK e7.keep e7.j;have NI:B_ (RoundIn (Fence.wide.inRound lr) 0 DH ly fn tm Cv bd W _):=As De;have q0:W.cell? ⟨W1.heap.size,0,An⟩=AF (.func (.yield ly) #[] #[]):=e7.yb.cell 0;have E7:=As e7;obtain⟨b0,b1,b2,b3,b4,b5,b6,b7⟩:=(show _/\_/\_/\_/\_/\_/\_/\_ from⟨e6.cell 0,e6.cell 1,e6.cell 2,e6.cell 3,e6.cell 4,e6.cell 5,e6.cell 6,e6.cell 7⟩);simp only[aq,FF,D_,D']at b0 b1 b2 b3 b4 b5 b6 b7;dsimp only[aq,Et]at hy;have HTI:=As YV;clear De e7 e6 hx hp rR hseq xO YV
   gi_wp2
   refine NI.mono ?_;rintro e W2 (⟨rfl,kN,hk2⟩ | ⟨rfl,hjx,hk2⟩)
   ·clear hy q0 b0 b1 b2 b3 b4 b5 b6 b7
    gi_wp2
    refine⟨hk2.mono fun j hj=>?_,?_⟩
    ·rcases hj with(hj | hj) | hj
     ·exact .inl (.inl hj)
     ·exact .inr (.inl (by rw[hj];exact ahb))
     ·exact .inr (.inr hj)
    ·dsimp only
     rw[<-E_];exact E7.round hk2 kN
   ·clear hy q0 b0 b1 b2 b3 b4 b5 b6 b7
    gi_wp2
    refine⟨hk2.mono fun j hj=>.inr hj,rfl,?_⟩;rw[<-E_];exact⟨fun j hj=>⟨(E7.iK j hj).1,ay (E7.iK j hj).2 hk2.size⟩,fun D hD=>⟨(E7.ds D hD).1,(hk2.keep D (E7.ds D hD).1).trans (E7.ds D hD).2⟩,hjx⟩
  case done=>
   rintro D Ti W hD xR YV hI mB;have HI9:=As hI;have xF:=As mB;clear hI mB hseq;dsimp only
   gi_wp2
   refine⟨⟨i+1,D::Ds,fun k=>T2 k\/Ti k,_,_,_,_,_,_,_,by omega,rfl,?_⟩,?_⟩
   ·have e5:=HI9.out
    rw[HDN.out, <-Bc]at e5;refine⟨e5.iK,e5.y,e5.yb,I_.2 ⟨fun h=>by have:=HDS.out D h;omega,e5.nodup⟩,fun E hE=>?_,e5.keep,e5.j⟩;rcases D0.1 hE with rfl | hE
    ·exact⟨.inr xR,xF⟩
    ·exact e5.ds E hE
   ·simp[intOf];omega
  case stop=>
   rintro D c pre Ti W hD xR YV hp ⟨rfl,ho⟩ mB;have HO:=As ho;clear ho hseq;dsimp only;go_wp2;refine my (Ds:=D::Ds) (.inr rfl) (I_.2 ⟨fun h=>by have:=HDS.out D h;omega,HI.nodup⟩) (fun E hE=>?_) (fun W=>IF rfl _ _ _) ⟨⟨_,rfl⟩,fun k=>T2 k\/Ti k,fun k hk=>by rw[jR];exact HO.iK k hk,.inr ⟨done++pre,?_,?_⟩⟩
   ·rcases D0.1 hE with rfl | hE
    ·exact mB
    ·exact(HO.ds E hE).2
   ·refine List.IsPrefix.trans ?_ (zB f x0 (show i+1<=n by omega))
    rw[Bc, <-HDN.out];exact GB _ |>.2 hp
   ·exact HJX _ _ _ _ _ HO.j HO.iK (fun k hk=>by rw[jR];exact HO.iK k hk) (fun _ h=>h) (fun _ h=>.inl h) (qh (D::Ds) W fun E hE=>by
     rcases D0.1 hE with rfl | hE
     ·exact .inr xR
     ·exact(HO.ds E hE).1)
end
end Go.Proofs.YtjgccapbphadjaaGreatDoor
