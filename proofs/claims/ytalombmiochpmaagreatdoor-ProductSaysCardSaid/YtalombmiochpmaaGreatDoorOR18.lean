/- The maker of automata of positions: loop. -/
import Derived.Test.YtalombmiochpmaaGreatDoorOR17
set_option maxRecDepth 100000
set_option maxHeartbeats 16000000
open Go.Lib (hid)
namespace Go.Proofs.YtalombmiochpmaaGreatDoor
section
open Go Go.RowKit Go.Shelf Go.Maps
def ij (w:World) (g off:Nat) (s:Nat->BitVec 64):Prop:=g<w.heap.size/\∀ i,i<7->w.cell? ⟨g,off+i,none⟩=some (.int .u64 (s i).toNat)
theorem ij.keeps {w w':World} {g off:Nat} {s:Nat->BitVec 64} (h:ij w g off s) {R:Nat->Prop} (hk:aa R w w') (hR:R g):ij w' g off s:=⟨Nat.lt_of_lt_of_le h.1 hk.size,fun i hi=>(hk.cell (p:=⟨g,off+i,none⟩) hR).trans (h.2 i hi)⟩
theorem ij.S7 {w:World} {b:Nat} {s:Nat->BitVec 64} {t:TypeId} (h:ah w b (cM s) t):ij w b 0 s:=⟨h.lt,fun i hi=>by rw[Nat.zero_add];exact(h.cell i).trans (mQ s hi)⟩
theorem rP {R:Nat->Prop} {w W:World} (h:aa R w W) (p:Addr) (u:Value):aa R (w.setCell p u) (W.setCell p u):=by
 refine⟨h.os,h.tape,h.output,by simpa[World.setCell]using h.size,fun k hk=>?_⟩;by_cases e:k=p.block
 ·have h1:=h.keep k hk
  subst e;unfold World.setCell;simp only[Array.getElem?_modify,h1]
 ·rw[Below.heap_setCell _ _ _ _ e,Below.heap_setCell _ _ _ _ e]
  exact h.keep k hk
theorem OJ (s:Nat->BitVec 64) (b off p:Nat) (hp:p<448) (w:World) (h:ij w b off s): Calls Tryz.prog 137 #[.pointer (some ⟨b,off,none⟩),.int .i64 p] w fun e w'=>e=.returned (.bool (uY s p))/\w'=w:=by
 obtain⟨q,hq⟩:∃ q,q=p/64:=⟨_,rfl⟩;obtain⟨r,hr⟩:∃ r,r=p%64:=⟨_,rfl⟩;have SF:q<7:=by omega
 have SG:r<64:=by omega
 have c1:w.cell? ⟨b,off+q,none⟩=some (.int .u64 (s q).toNat):=h.2 q SF;have e1:(p:Int).tdiv 64=(q:Int):=by rw[Int.tdiv_eq_ediv_of_nonneg (by omega)];omega
 have e2:(p:Int).tmod 64=(r:Int):=by rw[Int.tmod_eq_emod_of_nonneg (by omega)];omega
 have w1:IntKind.i64.wrap (q:Int)=q:=IntWalk.i64_in _ (by omega);have w2:IntKind.i64.wrap (r:Int)=r:=IntWalk.i64_in _ (by omega);have q7i:(q:Int)<7:=by omega
 have r0i:¬ ((r:Int)<0):=by omega
 have lB:uY s p=(s q).getLsbD r:=by unfold uY;rw[<-hq, <-hr]
 rw[lB];clear lB hq hr h;go_enter Tryz.func137,Tryz.ntmps137;go_wp2;go_ret;exact⟨congrArg (fun b=>Ending.returned (.bool b)) (Cx (s q) r),rfl⟩
theorem Dg (s:Nat->BitVec 64) (b off p:Nat) (hp:p<448) (w:World) (h:ij w b off s) (hz:w.frozen? ⟨b,off+p/64,none⟩=false): Calls Tryz.prog 128 #[.pointer (some ⟨b,off,none⟩),.int .i64 p] w fun e w'=>(∃ u,e=.returned u)/\aa (· <w.heap.size) (w.setCell ⟨b,off+p/64,none⟩ (.int .u64 (kK s p (p/64)).toNat)) w':=by
 obtain⟨q,hq⟩:∃ q,q=p/64:=⟨_,rfl⟩;obtain⟨r,hr⟩:∃ r,r=p%64:=⟨_,rfl⟩;have SF:q<7:=by omega
 have SG:r<64:=by omega
 have hpw:kK s p (p/64)=s q ||| BitVec.twoPow 64 r:=by unfold kK;rw[if_pos rfl, <-hq, <-hr];rfl
 rw[hpw];rw[<-hq]at hz ⊢;have c1:w.cell? ⟨b,off+q,none⟩=some (.int .u64 (s q).toNat):=h.2 q SF;have e1:(p:Int).tdiv 64=(q:Int):=by rw[Int.tdiv_eq_ediv_of_nonneg (by omega)];omega
 have e2:(p:Int).tmod 64=(r:Int):=by rw[Int.tmod_eq_emod_of_nonneg (by omega)];omega
 have w1:IntKind.i64.wrap (q:Int)=q:=IntWalk.i64_in _ (by omega);have w2:IntKind.i64.wrap (r:Int)=r:=IntWalk.i64_in _ (by omega);have q7i:(q:Int)<7:=by omega
 have r0i:¬ ((r:Int)<0):=by omega
 have q0i:¬ ((q:Int)<0):=by omega
 have lY:=J4 (s q) SG;have H:=hid h;have HZ:=hid hz;clear hq hr h hpw hz;go_enter Tryz.func128,Tryz.ntmps128;go_wp2;refine aD false (fun _=>False) (by kernel_rfl) 11 [0,0,2,1,15,31,0,64,192,511,1,2047,4095] (fun i=>i==12) (by kernel_rfl) (fun _=>aH.any _) ?_;intro C hC hne;have HC:=hid hC;have f1:=ak hC (p:=⟨b,off+q,none⟩) H.out.1 (fun h=>h) c1;clear hC c1
 repeat (refine ae (fun K hK=>?_);first | (refine aR rfl ?_;try go_simp;refine hK _ _ ?_;clear hK K) | (refine aO rfl rfl ?_;unfold ai;go_simp;refine hK _ _ ?_;clear hK K))
 refine bh (fun W hW hH=>?_);have hM:=((HC.out W).1 hW);have HX:=hid hM.below;have c2:W.cell? ⟨b,off+q,none⟩=some (.int .u64 (s q).toNat):=(hM.keeps.cell (p:=⟨b,off+q,none⟩) ⟨H.out.1,fun h=>h⟩).trans (H.out.2 q SF);have z2:W.frozen? ⟨b,off+q,none⟩=false:=by
  have e:W.heap[b]? =w.heap[b]? :=hM.keeps.keep b ⟨H.out.1,fun h=>h⟩;have e3:=HZ.out;unfold World.frozen? at e3 ⊢;rw[e];exact e3
 clear hM hW hH HC hne f1;go_wp2;have hval:((s q).toNat ||| 2^r%18446744073709551616)=(s q ||| BitVec.twoPow 64 r).toNat:=by rw[BitVec.toNat_or,BitVec.toNat_twoPow]
 refine bodyPost_end (v:=.tuple #[]) (by simp[results,Tryz.results128,go_sem]) rfl ⟨⟨_,rfl⟩,?_⟩;rw[hval];exact rP (aa.ag HX.out fun _ h=>h) _ _
def gv (w:World) (g off:Nat) (z:Nat->BitVec 64):Nat->World
 | 0=>w
 | i+1=>(gv w g off z i).setCell ⟨g,off+i,none⟩ (.int .u64 (z i).toNat)
theorem cX (w:World) (g off:Nat) (z:Nat->BitVec 64):∀ i,aa (· ≠g) w (gv w g off z i)
 | 0=>aa.refl _ _
 | i+1=>(cX w g off z i).setCell (fun h=>h rfl) _
theorem qo (w:World) (g off:Nat) (z:Nat->BitVec 64) {j:Nat} {v:Value} (h:w.cell? ⟨g,j,none⟩=some v):∀ i,(off+i<=j)->(gv w g off z i).cell? ⟨g,j,none⟩=some v
 | 0,_=>h
 | i+1,hj=>by
  have ih:=qo w g off z h i (by omega);exact(World.cell?_setCell_other _ _ _ _ (by intro e;injection e with _ e2;omega)).trans ih
theorem rQ (w:World) (g off:Nat) (z:Nat->BitVec 64) {j:Nat} (h:w.frozen? ⟨g,j,none⟩=false):∀ i,(gv w g off z i).frozen? ⟨g,j,none⟩=false
 | 0=>h
 | i+1=>by
  have ih:=rQ w g off z h i;show((gv w g off z i).setCell _ _).frozen? _=false;rw[World.frozen?_setCell];exact ih
theorem kN (s c:Nat->BitVec 64) (b off:Nat) (w:World) (h:ij w b off s) (hz:∀ i,i<7->w.frozen? ⟨b,off+i,none⟩=false): Calls Tryz.prog 132 #[.pointer (some ⟨b,off,none⟩),.agg (cM c)] w fun e w'=>(∃ u,e=.returned u)/\aa (· <w.heap.size) (gv w b off (fun i=>s i ||| c i) 7) w':=by
 have H:=hid h;have HZ:=hid hz;have GX:=h.1;obtain⟨z,hz0⟩:∃ z:Nat->BitVec 64,z=fun i=>s i ||| c i:=⟨_,rfl⟩
 rw[<-hz0];have HZ0:=hid hz0;clear h hz hz0;obtain⟨cv,hcv⟩:∃ v,v=cM c:=⟨_,rfl⟩;rw[<-hcv];have HCV:=hid hcv;clear hcv;unfold cM at HCV;rw[HCV.out];go_enter Tryz.func132,Tryz.ntmps132;go_wp2;refine aw ?_;intro V hV;have B1:Hid (ah V w.heap.size (cM c) 137):=by rw[hV];exact hid (ah.new _ _ _)
 have X1:Hid (aa (· <w.heap.size) w V):=by rw[hV];exact hid ((Ext.refl _).alloc _).keeps
 have H7:V.heap.size=w.heap.size+1:=by rw[hV];simp
 clear hV;go_loopw [5] (fun iv wr=>∃ i:Nat,i<=7/\iv=.int .i64 i/\ah wr w.heap.size (cM c) 137/\aa (· <w.heap.size) (gv w b off z i) wr) (fun iv _=>7-(intOf iv).toNat);case atStart=>exact⟨0,by omega,rfl,B1.out,X1.out⟩
 case round=>
  obtain⟨i,hi,rfl,hb,hx⟩:=hrel;obtain⟨wo,rfl⟩:∃ wo:World,wo=wr:=⟨_,rfl⟩;have HB:=hid hb;have HX:=hid hx;clear hb hx;by_cases hlt:i<7
  ·have gz:(i:Int)<7:=by omega
   have c1:wo.cell? ⟨b,off+i,none⟩=some (.int .u64 (s i).toNat):=(HX.out.cell (p:=⟨b,off+i,none⟩) GX).trans (qo w b off z (H.out.2 i hlt) i (Nat.le_refl _));have c2:wo.cell? ⟨w.heap.size,i,none⟩=some (.int .u64 (c i).toNat):=(HB.out.cell i).trans (mQ c hlt);have z1:wo.frozen? ⟨b,off+i,none⟩=false:=by have e:wo.heap[b]? =(gv w b off z i).heap[b]? :=HX.out.keep b GX;have e3:=rQ w b off z (HZ.out i hlt) i;unfold World.frozen? at e3 ⊢;rw[e];exact e3
   have U9:b<wo.heap.size:=Nat.lt_of_lt_of_le GX (Nat.le_trans (cX w b off z i).size HX.out.size);have Z1:=hid z1;clear z1;go_upto_region 4 with fail
   refine aD false (fun _=>False) (by kernel_rfl) 10 [0,0,1,7,15,0,32,96,255,1,1023,2047] (fun i=>i==11) (by kernel_rfl) (fun _=>aH.any _) ?_;intro C hC hne;have HC:=hid hC;have f1:=ak hC (p:=⟨b,off+i,none⟩) U9 (fun h=>h) c1;have f2:=ak hC (p:=⟨w.heap.size,i,none⟩) HB.out.lt (fun h=>h) c2;clear hC c1 c2
   repeat (refine ae (fun K hK=>?_);first | (refine aR rfl ?_;try go_simp;refine hK _ _ ?_;clear hK K) | (refine aO rfl rfl ?_;unfold ai;go_simp;refine hK _ _ ?_;clear hK K))
   refine bh (fun W hW hH=>?_);have hM:=((HC.out W).1 hW);have KX:Hid (aa (· <wo.heap.size) wo W):=hid (hM.keeps.mono fun k hk=>⟨hk,fun h=>h⟩);have z2:W.frozen? ⟨b,off+i,none⟩=false:=by
    have e:W.heap[b]? =wo.heap[b]? :=KX.out.keep b U9;have e3:=Z1.out;unfold World.frozen? at e3 ⊢;rw[e];exact e3
   have c3:W.cell? ⟨b,off+i,none⟩=some (.int .u64 (s i).toNat):=(KX.out.cell (p:=⟨b,off+i,none⟩) U9).trans ((HX.out.cell (p:=⟨b,off+i,none⟩) GX).trans (qo w b off z (H.out.2 i hlt) i (Nat.le_refl _)));clear hM hW hH HC hne f1 f2;go_wp2;go_roundw;case rel=>
    refine⟨i+1,by omega,by go_num,?_,?_⟩
    ·exact(HB.out.keeps KX.out HB.out.lt).other (by show b≠_;omega) _
    ·rw[Eb]
     have e:(s i ||| c i)=z i:=by rw[HZ0.out]
     rw[e];exact rP (HX.out.tr (KX.out.mono fun k hk=>by have h1:=HX.out.size;have h2:=(cX w b off z i).size;have h3:k<w.heap.size:=hk;omega)) _ _
   case measure=>simp[intOf];omega
  ·obtain rfl:i=7:=by omega
   have gz:¬ (((7:Nat):Int)<7):=by omega
   go_wp2;refine bodyPost_end (v:=.tuple #[]) (by simp[results,Tryz.results132,go_sem]) rfl ⟨⟨_,rfl⟩,HX.out⟩
attribute [local go_sem] Oper.semAt_some gO dC
theorem Dh (s:Nat->BitVec 64) (B b off:Nat) (w:World) (hB:ah w B #[.pointer (some ⟨b,off,none⟩)] 167) (hb0:ij w b off s):Seq true Tryz.prog 136 #[.pointer (some ⟨B,0,none⟩)] (fun p:Nat=> #[.int .i64 (p:Int)]) (fun k=>k=B\/k=b) (dY s 448) w:=by
 intro l J Jx W hK hJ hJx hY h0;have HY:=hid hY;have HH:=hid (OJ s b off);clear hY;have B0:=hB.keeps hK hB.lt;have B1:=hb0.keeps hK hb0.1;clear hB hb0;refine callsIn_wide (n:=0).1 ?_;refine callsIn_of_wp Tryz.func136 rfl trivial ?_ rfl;simp only[Tryz.ntmps136,List.size_toArray,List.length_cons,List.length_nil,Nat.reduceAdd,Nat.reduceSub,Array.replicate_succ,Array.replicate_zero,List.push_toArray,List.append_toArray,List.nil_append,List.cons_append]
 gi_wp2
 gi_loopw [4] (fun i wr=>∃ (k:Nat) (T:Nat->Prop),k<=448/\i=.int .i64 k/\ah wr B #[.pointer (some ⟨b,off,none⟩)] 167/\ij wr b off s/\J (dY s k) T wr/\(∀ k,T k->W.heap.size<=k/\k<wr.heap.size)/\aa (fun k=>k=B\/k=b) W wr)
  (fun i _=>448-(intOf i).toNat)
 case atStart=>
  exact⟨0,fun _=>False,by omega,rfl,B0,B1,h0,fun _ h=>h.elim,aa.refl _ _⟩
 case round=>
  obtain⟨k,T,hk,rfl,hB,hb,hj,hT,hR⟩:=hrel;by_cases hlt:k<448
  ·have c0:wr.cell? ⟨B,0,none⟩=some (.pointer (some ⟨b,off,none⟩)):=hB.cell 0
   have WG:=hid hB;have HB:=hid hb;have HJ:=hid hj;have HT:=hid hT;have HR:=hid hR;clear hB hb hj hT hR B0 B1;have bQ:=vd s k;by_cases mC:uY s k=true
   ·rw[if_pos mC]at bQ
    have HP:=hid bQ;have Qh:dY s k++ [k]<+:dY s 448:=by rw[<-bQ];exact wq s (by omega)
    have Q9:=hid Qh;have h1:Calls Tryz.prog 137 #[.pointer (some ⟨b,off,none⟩),.int .i64 k] wr fun e w'=>e=.returned (.bool true)/\w'=wr:=by have:=HH.out k hlt wr HB.out;rwa[mC]at this
    have H1:=hid h1;clear bQ Qh h1 mC HH
    gi_wp2_with (gi_at_call 137;refine(callsIn_wide.2 H1.out).mono ?_;rintro e w1 ⟨rfl,hw⟩;replace hw:=hw.symm;subst hw;obtain⟨fn,tm,Gq,bd,hy,GJ⟩:=HY.out (dY s k) k T _ Q9.out HT.out HR.out HJ.out;have Qi:=hid GJ;clear GJ)
    refine Qi.out.mono ?_;rintro e W2 (⟨rfl,eE,hk2⟩ | ⟨rfl,eE,hk2⟩)
    ·have xB:=hid eE
     have rS:=hid hk2;clear eE hk2 hy
     gi_wp2
     go_roundw
     case rel=>
      refine⟨k+1,T,by omega,by go_num,?_,?_,?_,?_,?_⟩
      ·exact WG.out.keeps rS.out (.inl (.inl rfl))
      ·exact HB.out.keeps rS.out (.inl (.inr rfl))
      ·rw[HP.out];exact xB.out
      ·exact fun j hj=>⟨(HT.out j hj).1,Nat.lt_of_lt_of_le (HT.out j hj).2 rS.out.size⟩
      ·exact HR.out.tr (rS.out.mono fun j hj=>.inl hj)
     case measure=>simp[intOf];omega
    ·have xB:=hid eE
     have rS:=hid hk2;clear eE hk2 hy
     gi_wp2
     refine bodyPost_ret (results_none rfl _ _ _) rfl ?_;exact⟨⟨_,rfl⟩,T,fun j hj=>⟨(HT.out j hj).1,Nat.lt_of_lt_of_le (HT.out j hj).2 rS.out.size⟩,.inr ⟨_,Q9.out,xB.out⟩⟩
   ·have vL:uY s k=false:=by simpa using mC
    rw[if_neg mC,List.append_nil]at bQ;have HP:=hid bQ;have h1:Calls Tryz.prog 137 #[.pointer (some ⟨b,off,none⟩),.int .i64 k] wr fun e w'=>e=.returned (.bool false)/\w'=wr:=by have:=HH.out k hlt wr HB.out;rwa[vL]at this
    have H1:=hid h1;clear bQ h1 mC vL HH
    gi_wp2_with (gi_at_call 137;refine(callsIn_wide.2 H1.out).mono ?_;rintro e w1 ⟨rfl,hw⟩;replace hw:=hw.symm;subst hw)
    go_roundw
    case rel=>
     refine⟨k+1,T,by omega,by go_num,WG.out,HB.out,?_,HT.out,HR.out⟩;rw[HP.out];exact HJ.out
    case measure=>simp[intOf];omega
  ·obtain rfl:k=448:=by omega
   gi_wp2
   refine bodyPost_end (results_none rfl _ _ _) rfl ?_;exact⟨⟨_,rfl⟩,T,hT,.inl hj⟩
theorem zg (b off:Nat) (w:World):Calls Tryz.prog 101 #[.pointer (some ⟨b,off,none⟩)] w fun e w'=>e=.returned (.func (.func 136) #[] #[.pointer (some ⟨w.heap.size,0,none⟩)])/\w'=w.alloc (.cells #[.pointer (some ⟨b,off,none⟩)] 167 (0,0)):=by
 go_enter Tryz.func101,Tryz.ntmps101
 go_wp2;go_ret;exact⟨rfl,rfl⟩
theorem Lf (s:Nat->BitVec 64) (b off:Nat) (w:World) (hb:ij w b off s): Calls Tryz.prog 78 #[.pointer (some ⟨b,off,none⟩)] w fun e w'=>∃ v,e=.returned v/\w'.ownsRow w.heap.size 3 1 v (dY s 448).length ((dY s 448).map yT)/\Below w.heap.size w w':=by
 have eg:∀ args w,(callFunc 136 args).run Tryz.prog w=.ok (.enter 136 args) w:=enters_of Tryz.func136 (by kernel_rfl) rfl;have hlen:(dY s 448).length<=1000000:=Nat.le_trans (H5 _ _) (by decide);have H:Hid (∀ (W:World) (B:Nat),ah W B #[.pointer (some ⟨b,off,none⟩)] 167->ij W b off s->Calls Tryz.prog 100 #[.func (.func 136) #[] #[.pointer (some ⟨B,0,none⟩)]] W fun e w'=>∃ v,e=.returned v/\w'.ownsRow W.heap.size 3 1 v (dY s 448).length ((dY s 448).map yT)/\Below W.heap.size W w'):=
  fun W B hB hb=>tO _ W (Dh s B b off W hB hb) eg (fun k hk=>hk.elim (fun e=>by rw[e];exact hB.lt) (fun e=>by rw[e];exact hb.1)) hlen
 have HB:=hid hb;clear eg hlen hb;generalize dY s 448=xs at H ⊢;go_enter Tryz.func78,Tryz.ntmps78;go_wp2_with (first | (go_at_call 101;refine(zg b off _).mono ?_;rintro e w1 ⟨rfl,rfl⟩) | (go_at_call 100;refine(H.out _ _ ((ah.new _ _ _).at (by simp)) (HB.out.keeps ((Ext.refl _).alloc _).keeps HB.out.1)).mono ?_;rintro e w1 ⟨v,rfl,h1,h2⟩;have H1:=hid h1;have H2:=hid h2;clear h1 h2));go_ret;refine⟨v,rfl,aA H1.out (by simp),?_⟩;exact((Ext.refl w).alloc _).below.trans (H2.out.mono (by simp))
end
section
open Go Go.RowKit Go.Shelf Go.Maps
def bW (x:PB):Nat->BitVec 64:=fun i=>x.extractLsb' (64*i) 64
theorem zh (x y:PB) (i:Nat):bW (x ||| y) i=bW x i ||| bW y i:=by unfold bW;apply BitVec.eq_of_getLsbD_eq;intro j hj;simp[hj]
theorem S8 (x:PB) {p:Nat} :uY (bW x) p=x.getLsbD p:=by unfold uY bW;rw[BitVec.getLsbD_extractLsb'];have h1:p%64<64:=Nat.mod_lt _ (by decide);rw[show 64*(p/64)+p%64=p by omega];simp[h1]
theorem Ta (x:PB) {p:Nat} (hp:p<448) (i:Nat):bW (x ||| eZ p) i=kK (bW x) p i:=by
 apply BitVec.eq_of_getLsbD_eq;intro j hj;have e1:(bW (x ||| eZ p) i).getLsbD j=(x ||| eZ p).getLsbD (64*i+j):=by unfold bW;rw[BitVec.getLsbD_extractLsb'];simp[hj]
 have e2:(bW x i).getLsbD j=x.getLsbD (64*i+j):=by unfold bW;rw[BitVec.getLsbD_extractLsb'];simp[hj]
 rw[e1,BitVec.getLsbD_or,MT];unfold kK;by_cases hi:i=p/64
 ·rw[if_pos hi,BitVec.getLsbD_or,e2]
  congr 1
  rw[BitVec.getLsbD_shiftLeft];by_cases h:64*i+j=p
  ·have eE:j=p%64:=by omega
   have h4:64*i+j<448:=by omega
   rw[decide_eq_true h4,decide_eq_true h,decide_eq_true hj,eE];simp
  ·by_cases h5:j<p%64
   ·simp[h,h5]
   ·have h6:j-p%64≠0:=by omega
    simp[h,h5,h6,hj]
 ·rw[if_neg hi,e2]
  have h:64*i+j≠p:=by omega
  simp[h]
theorem OL (x:PB):(dY (bW x) 448).map Int.ofNat=et x:=by unfold dY et;congr 1;exact List.filter_congr fun p _=>S8 x
def ax (a:GP):Array Value:= #[.int .u64 (bW a.fst 0).toNat,.int .u64 (bW a.fst 1).toNat,.int .u64 (bW a.fst 2).toNat,.int .u64 (bW a.fst 3).toNat,.int .u64 (bW a.fst 4).toNat,.int .u64 (bW a.fst 5).toNat,.int .u64 (bW a.fst 6).toNat,
 .int .u64 (bW a.dh 0).toNat,.int .u64 (bW a.dh 1).toNat,.int .u64 (bW a.dh 2).toNat,.int .u64 (bW a.dh 3).toNat,.int .u64 (bW a.dh 4).toNat,.int .u64 (bW a.dh 5).toNat,.int .u64 (bW a.dh 6).toNat,.bool a.emp]
theorem OO (a:GP) {i:Nat} (hi:i<7):(ax a)[i]? =some (.int .u64 (bW a.fst i).toNat):=by
 match i,hi with
 | 0,_=>rfl
 | 1,_=>rfl
 | 2,_=>rfl
 | 3,_=>rfl
 | 4,_=>rfl
 | 5,_=>rfl
 | 6,_=>rfl
theorem OS (a:GP) {i:Nat} (hi:i<7):(ax a)[7+i]? =some (.int .u64 (bW a.dh i).toNat):=by
 match i,hi with
 | 0,_=>rfl
 | 1,_=>rfl
 | 2,_=>rfl
 | 3,_=>rfl
 | 4,_=>rfl
 | 5,_=>rfl
 | 6,_=>rfl
theorem ij.fst {w:World} {b:Nat} {a:GP} {t:TypeId} (h:ah w b (ax a) t):ij w b 0 (bW a.fst):=⟨h.lt,fun i hi=>by rw[Nat.zero_add];exact(h.cell i).trans (OO a hi)⟩
theorem ij.dh {w:World} {b:Nat} {a:GP} {t:TypeId} (h:ah w b (ax a) t):ij w b 7 (bW a.dh):=⟨h.lt,fun _ hi=>(h.cell _).trans (OS a hi)⟩
theorem Tb (v0 v1 v2 v3 v4 v5 v6 v7 v8 v9 v10 v11 v12 v13 v14 u0 u1 u2 u3 u4 u5 u6:Value) {w:World} {b:Nat} {t:TypeId} (h:ah w b #[v0,v1,v2,v3,v4,v5,v6,v7,v8,v9,v10,v11,v12,v13,v14] t):ah (((((((w.setCell ⟨b,0,none⟩ u0).setCell ⟨b,1,none⟩ u1).setCell ⟨b,2,none⟩ u2).setCell ⟨b,3,none⟩ u3).setCell ⟨b,4,none⟩ u4).setCell ⟨b,5,none⟩ u5).setCell ⟨b,6,none⟩ u6) b #[u0,u1,u2,u3,u4,u5,u6,v7,v8,v9,v10,v11,v12,v13,v14] t:=by have h0:=h.jW 0 u0 (c':= #[u0,v1,v2,v3,v4,v5,v6,v7,v8,v9,v10,v11,v12,v13,v14]) rfl;have h1:=h0.jW 1 u1 (c':= #[u0,u1,v2,v3,v4,v5,v6,v7,v8,v9,v10,v11,v12,v13,v14]) rfl;have h2:=h1.jW 2 u2 (c':= #[u0,u1,u2,v3,v4,v5,v6,v7,v8,v9,v10,v11,v12,v13,v14]) rfl;have h3:=h2.jW 3 u3 (c':= #[u0,u1,u2,u3,v4,v5,v6,v7,v8,v9,v10,v11,v12,v13,v14]) rfl;have h4:=h3.jW 4 u4 (c':= #[u0,u1,u2,u3,u4,v5,v6,v7,v8,v9,v10,v11,v12,v13,v14]) rfl;have h5:=h4.jW 5 u5 (c':= #[u0,u1,u2,u3,u4,u5,v6,v7,v8,v9,v10,v11,v12,v13,v14]) rfl;have h6:=h5.jW 6 u6 (c':= #[u0,u1,u2,u3,u4,u5,u6,v7,v8,v9,v10,v11,v12,v13,v14]) rfl;exact h6
theorem Tc (v0 v1 v2 v3 v4 v5 v6 v7 v8 v9 v10 v11 v12 v13 v14 u0 u1 u2 u3 u4 u5 u6:Value) {w:World} {b:Nat} {t:TypeId} (h:ah w b #[v0,v1,v2,v3,v4,v5,v6,v7,v8,v9,v10,v11,v12,v13,v14] t):ah (((((((w.setCell ⟨b,7,none⟩ u0).setCell ⟨b,8,none⟩ u1).setCell ⟨b,9,none⟩ u2).setCell ⟨b,10,none⟩ u3).setCell ⟨b,11,none⟩ u4).setCell ⟨b,12,none⟩ u5).setCell ⟨b,13,none⟩ u6) b #[v0,v1,v2,v3,v4,v5,v6,u0,u1,u2,u3,u4,u5,u6,v14] t:=by have h0:=h.jW 7 u0 (c':= #[v0,v1,v2,v3,v4,v5,v6,u0,v8,v9,v10,v11,v12,v13,v14]) rfl;have h1:=h0.jW 8 u1 (c':= #[v0,v1,v2,v3,v4,v5,v6,u0,u1,v9,v10,v11,v12,v13,v14]) rfl;have h2:=h1.jW 9 u2 (c':= #[v0,v1,v2,v3,v4,v5,v6,u0,u1,u2,v10,v11,v12,v13,v14]) rfl;have h3:=h2.jW 10 u3 (c':= #[v0,v1,v2,v3,v4,v5,v6,u0,u1,u2,u3,v11,v12,v13,v14]) rfl;have h4:=h3.jW 11 u4 (c':= #[v0,v1,v2,v3,v4,v5,v6,u0,u1,u2,u3,u4,v12,v13,v14]) rfl;have h5:=h4.jW 12 u5 (c':= #[v0,v1,v2,v3,v4,v5,v6,u0,u1,u2,u3,u4,u5,v13,v14]) rfl;have h6:=h5.jW 13 u6 (c':= #[v0,v1,v2,v3,v4,v5,v6,u0,u1,u2,u3,u4,u5,u6,v14]) rfl;exact h6
theorem sf {w:World} {b:Nat} {a:GP} {t:TypeId} (h:ah w b (ax a) t) (x:PB) {z:Nat->BitVec 64} (hz:∀ i,i<7->z i=bW x i):ah (gv w b 0 z 7) b (ax ⟨x,a.dh,a.emp⟩) t:=by have e0:=hz 0 (by decide);have e1:=hz 1 (by decide);have e2:=hz 2 (by decide);have e3:=hz 3 (by decide);have e4:=hz 4 (by decide);have e5:=hz 5 (by decide);have e6:=hz 6 (by decide);unfold ax at h ⊢;dsimp only at h ⊢;rw[<-e0, <-e1, <-e2, <-e3, <-e4, <-e5, <-e6];clear e0 e1 e2 e3 e4 e5 e6 hz;exact Tb _ _ _ _ _ _ _ _ _ _ _ _ _ _ _ _ _ _ _ _ _ _ h
theorem si {w:World} {b:Nat} {a:GP} {t:TypeId} (h:ah w b (ax a) t) (x:PB) {z:Nat->BitVec 64} (hz:∀ i,i<7->z i=bW x i):ah (gv w b 7 z 7) b (ax ⟨a.fst,x,a.emp⟩) t:=by have e0:=hz 0 (by decide);have e1:=hz 1 (by decide);have e2:=hz 2 (by decide);have e3:=hz 3 (by decide);have e4:=hz 4 (by decide);have e5:=hz 5 (by decide);have e6:=hz 6 (by decide);unfold ax at h ⊢;dsimp only at h ⊢;rw[<-e0, <-e1, <-e2, <-e3, <-e4, <-e5, <-e6];clear e0 e1 e2 e3 e4 e5 e6 hz;exact Tc _ _ _ _ _ _ _ _ _ _ _ _ _ _ _ _ _ _ _ _ _ _ h
def ey (l:List PB):List Value:=l.flatMap fun x=>(cM (bW x)).toList
theorem zi:∀ {l:List PB} {p i:Nat} {x:PB},l[p]? =some x->i<7->(ey l)[p*7+i]? =some (.int .u64 (bW x i).toNat)
 | y::l,0,_,x,h,hi=>by
  simp at h;subst h;unfold ey;rw[List.flatMap_cons,List.getElem?_append_left (by simp[cM];omega),Nat.zero_mul,Nat.zero_add];have:=mQ (bW y) hi;simpa using this
 | y::l,p+1,i,x,h,hi=>by
  have ih:=zi (l:=l) (p:=p) (i:=i) (x:=x) (by simpa using h) hi;unfold ey at ih ⊢;rw[List.flatMap_cons,List.getElem?_append_right (by simp[cM];omega)];rw[<-ih];congr 1;simp[cM];omega
theorem Fc (a b:List PB):ey (a++b)=ey a++ey b:=by unfold ey;rw[List.flatMap_append]
attribute [local go_sem] Oper.semAt_some gO dC
structure gM (base M:Nat) (F:Nat->Prop) (w:World) (m:GM):Prop where
 fm:F M
 lt:∀ x,F x->base<=x/\x<w.heap.size
 row:∃ sv fv,ah w M #[sv,fv] 135/\w.ownsRow base 59 4 sv m.aM.length (aN m.aM)/\(∀ x,sv.ownBlock=some x->F x)/\w.ownsRow base 137 7 fv m.cN.length (ey m.cN)/\(∀ x,fv.ownBlock=some x->F x)
theorem gM.keeps {base M:Nat} {F R:Nat->Prop} {w w':World} {m:GM} (h:gM base M F w m) (hk:aa R w w') (hR:∀ x,F x->R x):gM base M F w' m:=by obtain⟨sv,fv,h1,h2,h3,h4,h5⟩:=h.row;exact⟨h.fm,fun x hx=>⟨(h.lt x hx).1,Nat.lt_of_lt_of_le (h.lt x hx).2 hk.size⟩,sv,fv,h1.keeps hk (hR M h.fm),aj h2 hk fun x e=>hR x (h3 x e),h3,aj h4 hk fun x e=>hR x (h5 x e),h5⟩
theorem Di:∀ {l:List PB} {p:Nat} (y:PB),p<l.length->((((((((ey l).set (p*7) (.int .u64 (bW y 0).toNat)).set (p*7+1) (.int .u64 (bW y 1).toNat)).set (p*7+2) (.int .u64 (bW y 2).toNat)).set (p*7+3) (.int .u64 (bW y 3).toNat)).set (p*7+4) (.int .u64 (bW y 4).toNat)).set (p*7+5) (.int .u64 (bW y 5).toNat)).set (p*7+6) (.int .u64 (bW y 6).toNat))=ey (l.set p y)
 | x::l,0,y,_=>by
  unfold ey;rw[List.set_cons_zero,List.flatMap_cons,List.flatMap_cons];simp[cM]
 | x::l,p+1,y,hp=>by
  have ih:=Di (l:=l) (p:=p) y (by simpa using hp);have e:∀ (l:List PB),ey (x::l)=(cM (bW x)).toList++ey l:=fun l=>by unfold ey;rw[List.flatMap_cons]
  rw[List.set_cons_succ,e,e, <-ih];have h7:(cM (bW x)).toList.length=7:=by simp[cM]
  have hs:∀ (ys:List Value) (j:Nat) (v:Value),((cM (bW x)).toList++ys).set (7+j) v=(cM (bW x)).toList++ys.set j v:=fun ys j v=>by
   rw[List.set_append_right _ _ (by omega),h7,Nat.add_sub_cancel_left]
  rw[show(p+1)*7=7+p*7 by omega,hs,show 7+p*7+1=7+(p*7+1) by omega,hs,show 7+p*7+2=7+(p*7+2) by omega,hs,show 7+p*7+3=7+(p*7+3) by omega,hs,show 7+p*7+4=7+(p*7+4) by omega,hs,show 7+p*7+5=7+(p*7+5) by omega,hs,show 7+p*7+6=7+(p*7+6) by omega,hs]
theorem gM.or {base M:Nat} {F:Nat->Prop} {w:World} {m:GM} (h:gM base M F w m) {sv:Value} {g n cap:Nat} (hg:ah w M #[sv,.slice (some ⟨g,0,none⟩) n cap] 135) {p:Nat} (hp:p<m.cN.length) (y:PB) {z:Nat->BitVec 64} (hz:∀ i,i<7->z i=bW y i):gM base M F (gv w g (p*7) z 7) ⟨m.aM,m.cN.set p y⟩:=by
 obtain⟨sv',fv,h1,h2,h3,h4,h5⟩:=h.row;have e: #[sv',fv]= #[sv,.slice (some ⟨g,0,none⟩) n cap]:=by
  unfold ah at h1 hg;rw[h1]at hg;injection hg with h6
  injection h6
 have e2:fv=.slice (some ⟨g,0,none⟩) n cap:=by have:=congrArg (fun a:Array Value=>a[1]?) e;simpa using this
 subst e2;have hk:=cX w g (p*7) z 7;have hgM:g≠M:=fun e3=>by
  rcases h4.2 with⟨e4,_⟩ | ⟨g',c',cur,e4,_,h6,_⟩
  ·cases e4
  ·cases e4
   rw[e3]at h6;unfold ah at h1;rw[h1]at h6;injection h6 with h7
   injection h7 with _ h8
   exact absurd h8 (by decide)
 have hn:n=m.cN.length:=by obtain⟨_,_,e4⟩:=ownsRow_form h4;injection e4
 have hgs:∀ x,sv'.ownBlock=some x->x≠g:=fun x e3 e4=>by
  rcases ownBlock_ne (by decide) h2 h4 with h6 | h6
  ·rw[h6]at e3;cases e3
  ·exact h6 (by rw[e3,e4];rfl)
 refine⟨h.fm,fun x hx=>⟨(h.lt x hx).1,Nat.lt_of_lt_of_le (h.lt x hx).2 hk.size⟩,sv',_,h1.keeps hk (fun e3=>hgM e3.symm),aj h2 hk hgs,h3,?_,h5⟩;subst hn;rw[List.length_set, <-Di y hp];have h7:=((((((((((((((h4.stored (p*7+0) (.int .u64 (z 0).toNat)).1).stored (p*7+1) (.int .u64 (z 1).toNat)).1).stored (p*7+2) (.int .u64 (z 2).toNat)).1).stored (p*7+3) (.int .u64 (z 3).toNat)).1).stored (p*7+4) (.int .u64 (z 4).toNat)).1).stored (p*7+5) (.int .u64 (z 5).toNat)).1).stored (p*7+6) (.int .u64 (z 6).toNat)).1);rw[<-hz 0 (by decide), <-hz 1 (by decide), <-hz 2 (by decide), <-hz 3 (by decide), <-hz 4 (by decide), <-hz 5 (by decide), <-hz 6 (by decide)];exact h7
def mV (m:GM) (pre:List Nat) (first:PB):GM:=⟨m.aM,m.cN.mapIdx fun p f=>if pre.contains p then f ||| first else f⟩
theorem OT (m:GM) (first:PB):mV m [] first=m:=by
 unfold mV;have:m.cN.mapIdx (fun p f=>if([]:List Nat).contains p then f ||| first else f)=m.cN:=by
  apply List.ext_getElem
  ·simp
  ·intro i h1 h2;simp
 rw[this]
theorem Dj (m:GM) (pre:List Nat) (first:PB):(mV m pre first).cN.length=m.cN.length:=by unfold mV;simp
theorem Lg (m:GM) (pre:List Nat) (first:PB) {p:Nat} {x:PB} (hx:m.cN[p]? =some x):(⟨(mV m pre first).aM,(mV m pre first).cN.set p (x ||| first)⟩:GM)=mV m (pre++ [p]) first:=by
 unfold mV;congr 1;apply List.ext_getElem?;intro j;rw[List.getElem?_set,List.getElem?_mapIdx,List.getElem?_mapIdx];by_cases e:p=j
 ·subst e
  rw[if_pos rfl,hx];have hl:=(List.getElem?_eq_some_iff.1 hx).1;simp[hl]
 ·rw[if_neg e]
  cases m.cN[j]? with
  | none=>rfl
  | some f=>
   have:(pre++ [p]).contains j=pre.contains j:=by rw[Bool.eq_iff_iff];simp;intro e2;exact absurd e2.symm e
   simp only[Option.map_some,this]
theorem OU (m:GM) (last first:PB) (hl:m.cN.length<=448):mV m (dY (bW last) 448) first=jC m last first:=by
 unfold mV jC;congr 1;apply List.ext_getElem
 ·simp
 ·intro i h1 h2
  simp only[List.getElem_mapIdx];have hi:i<448:=by simp at h1;omega
  have:(dY (bW last) 448).contains i=last.getLsbD i:=by rw[Bool.eq_iff_iff,List.contains_iff_mem];unfold dY;rw[List.mem_filter,S8,List.mem_range];simp[hi]
  rw[this]
theorem mW (base M:Nat) (F:Nat→Prop) (m:GM) (last first:PB) (w:World) (h:gM base M F w m) (hl:dM last m.cN.length) (hn:m.cN.length≤448): Calls Tryz.prog 153 #[.pointer (some ⟨M,0,none⟩),.agg (cM (bW last)),.agg (cM (bW first))] w fun e w'=>(∃ u,e=.returned u)∧gM base M F w' (jC m last first)∧aa (fun x=>x<w.heap.size∧¬F x) w w':=by
  have H:=hid h;have HL:=hid hl;have YF:M<w.heap.size:=(h.lt M h.fm).2;rw[←OU m last first hn];clear h hl;refine ck Tryz.func153 rfl ?_;simp only[Tryz.ntmps153,List.size_toArray,List.length_cons,List.length_nil,Nat.reduceAdd,Nat.reduceSub,Array.replicate_succ,Array.replicate_zero,List.push_toArray,List.append_toArray,List.nil_append,List.cons_append];go_wp2_with (go_at_call 101;refine(zg _ 0 _).mono ?_;rintro e w1 ⟨rfl,rfl⟩);refine aw ?_;intro W0 hW0;have B0:ah W0 w.heap.size #[.pointer (some ⟨M,0,none⟩)] 132:=by rw[hW0];exact(((ah.new _ _ _).alloc _).alloc _).alloc _
  have B1:ah W0 (w.heap.size+1) (cM (bW last)) 137:=by rw[hW0];exact(((ah.new _ _ _).at (by simp)).alloc _).alloc _
  have B2:ah W0 (w.heap.size+1+1) (cM (bW first)) 137:=by rw[hW0];exact((ah.new _ _ _).at (by simp)).alloc _
  have B3:ah W0 (w.heap.size+1+1+1) #[.pointer (some ⟨w.heap.size+1,0,none⟩)] 167:=by rw[hW0];exact(ah.new _ _ _).at (by simp)
  have hx:Ext w W0:=by rw[hW0];exact((((Ext.refl w).alloc _).alloc _).alloc _).alloc _
  have hsz:W0.heap.size=w.heap.size+1+1+1+1:=by rw[hW0];simp
  clear hW0;have hF:∀ x,F x→x<w.heap.size:=fun x hx=>(H.out.lt x hx).2
  have HND:Hid (∀ (pre:List Nat) (x:Nat),pre++ [x]<+:dY (bW last) 448→pre.contains x=false∧x<m.cN.length):=hid fun pre x hp=>by
    have Vy:(dY (bW last) 448).Nodup:=List.nodup_range.filter _;have h2:=Vy.sublist hp.sublist;refine⟨?_,?_⟩
    · rw[Bool.eq_false_iff]
      intro e;rw[List.contains_iff_mem]at e;exact(List.nodup_append.1 h2).2.2 x e x (by simp) rfl
    · have hm:x∈dY (bW last) 448:=hp.subset (by simp)
      unfold dY at hm;have:=(List.mem_filter.1 hm).2;rw[S8]at this;exact HL.out x this
  have HF:=hid hF;have HMi:=hid (H.out.keeps hx.keeps hF);have Ge:aa (fun x=>x<w.heap.size∧¬F x) w W0:=hx.mono fun x hx=>hx.1
  have eg:∀ args w,(callFunc 136 args).run Tryz.prog w=.ok (.enter 136 args) w:=enters_of Tryz.func136 (by kernel_rfl) rfl
  refine im (w:=W0) (d:=true) (Dh (bW last) (w.heap.size+1+1+1) (w.heap.size+1) 0 W0 B3 (ij.S7 B1)) (by rfl) eg (by intro _;rfl) (by intro k hk;rcases hk with hk | hk<;>omega)
    (fun pre _ W=>gM base M F W (mV m pre first)∧ah W w.heap.size #[.pointer (some ⟨M,0,none⟩)] 132∧ah W (w.heap.size+1+1) (cM (bW first)) 137∧aa (fun x=>x<w.heap.size∧¬F x) w W)
    (fun _ _ _ _=>False)
    (fun ys T T' W W' ⟨h1,h2,h3,h4⟩ hT Ra hs hn hk=>⟨h1.keeps hk.1 fun x hx=>⟨(h1.lt x hx).2,fun e=>by have:=(hT x e).1;have:=HF.out x hx;omega⟩,h2.nA hT hk (by omega),h3.nA hT hk (by omega),h4.tr (hk.1.mono fun x hx=>⟨by have:=h4.size;have:=hx.1;omega,fun e=>by have:=(hT x e).1;have:=hx.1;omega⟩)⟩)
    (fun c ys T T' W W' h=>h.elim)
    ⟨by rw[OT];exact HMi.out,B0,B2,Ge⟩
    (fun x=>⟨#[.pointer (some ⟨M,0,none⟩),.agg (cM (bW last)),.agg (cM (bW first)),.pointer (some ⟨w.heap.size,0,none⟩),.pointer (some ⟨w.heap.size+1,0,none⟩),.pointer (some ⟨w.heap.size+1+1,0,none⟩),.int .i64 (x:Int),.func (.func 136) #[] #[.pointer (some ⟨w.heap.size+1+1+1,0,none⟩)],.int .i64 (x:Int),undef,undef,undef,undef,undef,undef,undef,undef],[]⟩) ?assign ?body ?done ?stop
  case assign=>
    intro l x W K hK
    gi_wp2
    exact hK
  case body=>
    rintro lr pre x T W bQ hT hR xR hl ⟨i1,i2,i3,i4⟩;obtain⟨hnc,Qr⟩:=HND.out pre x bQ;obtain⟨f,hf⟩:∃ f,m.cN[x]? =some f:=⟨_,List.getElem?_eq_getElem Qr⟩;have El:(mV m pre first).cN[x]? =some f:=by show(m.cN.mapIdx _)[x]? =_;rw[List.getElem?_mapIdx,hf];simp only[Option.map_some];rw[hnc];rfl
    obtain⟨sv,fv,r1,r2,r3,r4,r5⟩:=i1.row;have VX:(mV m pre first).cN.length=m.cN.length:=Dj _ _ _;rw[VX]at r4
    obtain⟨g,cap,rfl⟩:∃ g cap,fv=.slice (some ⟨g,0,none⟩) m.cN.length cap:=by
      rcases r4.2 with⟨_,e2⟩ | ⟨g,cap,cur,e2,_⟩
      · exfalso;omega
      · exact⟨g,cap,e2⟩
    have hFg:F g:=r5 g rfl;have hgw:g<w.heap.size:=HF.out g hFg;have hFM:F M:=i1.fm
    have hgM:M≠g:=fun e=>by
      subst e;rcases r4.2 with⟨e4,_⟩ | ⟨g',c',cur,e4,_,h6,_⟩
      · cases e4
      · cases e4
        unfold ah at r1;rw[r1]at h6;injection h6 with h7
        injection h7 with _ h8
        exact absurd h8 (by decide)
    have hwd:ij W g (x*7) (bW f):=⟨(i1.lt g hFg).2,fun i hi=>by
      have:=r4.cells (g:=g) rfl _ _ (zi El hi);rw[Addr.add_mid]at this
      simpa using this⟩
    have hfz:∀ i,i<7→W.frozen? ⟨g,x*7+i,none⟩=false:=fun i _=>r4.frozenAt _
    have xI:w.heap.size+1+1+1+1≤W.heap.size:=by have:=hR.size;omega
    have q0:W.cell? ⟨w.heap.size,0,none⟩=some (.pointer (some ⟨M,0,none⟩)):=i2.cell 0;have q1:W.cell? ⟨M,1,none⟩=some (.slice (some ⟨g,0,none⟩) m.cN.length cap):=r1.cell 1;have hxi:(x:Int)<m.cN.length:=by omega
    have I1:=hid i1;have I2:=hid i2;have I3:=hid i3;have I4:=hid i4;have R1:=hid r1;have HWD:=hid hwd;have HFZ:=hid hfz;have HT:=hid hT;have arD:=hid El;have HFX:=hid hf;have hb3:=i3;obtain⟨nf,xh⟩:∃ n,n=m.cN.length:=⟨_,rfl⟩;rw[←xh]at q1 hxi R1;have MR:=hid xh;clear i1 i2 i3 i4 r1 r2 r3 r4 r5 hwd hfz hT hR xR hl bQ El hf VX xh B0 B1 B2 B3 Ge
    gi_upto_region 3 with fail
    refine uH (fun _=>trivial) rfl (fun k=>k<W.heap.size∧k≠g) (by kernel_rfl) (fun i=>i==7) (by kernel_rfl) ?_;intro C hC hne W2 hK2 hblk ajZ hx2;have HC:=hid hC;have f0:=dV hC (p:=⟨w.heap.size,0,none⟩) ⟨I2.out.lt,by show w.heap.size≠g;omega⟩ q0;have f1:=dV hC (p:=⟨M,1,none⟩) ⟨R1.out.lt,hgM⟩ q1;have hb2:w.heap.size+1+1<W.heap.size:=I3.out.lt;have g0:=dV hC (p:=⟨w.heap.size+1+1,0,none⟩) ⟨hb2,by show w.heap.size+1+1≠g;omega⟩ (I3.out.cell 0);have g1:=dV hC (p:=⟨w.heap.size+1+1,1,none⟩) ⟨hb2,by show w.heap.size+1+1≠g;omega⟩ (I3.out.cell 1);have g2:=dV hC (p:=⟨w.heap.size+1+1,2,none⟩) ⟨hb2,by show w.heap.size+1+1≠g;omega⟩ (I3.out.cell 2);have g3:=dV hC (p:=⟨w.heap.size+1+1,3,none⟩) ⟨hb2,by show w.heap.size+1+1≠g;omega⟩ (I3.out.cell 3);have g4:=dV hC (p:=⟨w.heap.size+1+1,4,none⟩) ⟨hb2,by show w.heap.size+1+1≠g;omega⟩ (I3.out.cell 4);have g5:=dV hC (p:=⟨w.heap.size+1+1,5,none⟩) ⟨hb2,by show w.heap.size+1+1≠g;omega⟩ (I3.out.cell 5);have g6:=dV hC (p:=⟨w.heap.size+1+1,6,none⟩) ⟨hb2,by show w.heap.size+1+1≠g;omega⟩ (I3.out.cell 6);simp only[cM,List.getElem?_toArray,List.getElem?_cons_zero,List.getElem?_cons_succ]at g0 g1 g2 g3 g4 g5 g6;have rS:=hid hK2;have HBL:=hid hblk;have gP:=hid hx2;clear hC hK2 hblk hx2;refine eG.out ?_
    repeat (refine fO (fun K hK=>?_);first | (refine lexN rfl ?_;try go_simp;refine hK _ _ ?_;clear hK K) | (refine VD rfl rfl ?_;unfold ai;go_simp;refine hK _ _ ?_;clear hK K))
    refine fO (fun K hK=>?_);refine QH rfl rfl ?_;go_simp;have aj0:ij W2 g (x*7) (bW f):=HWD.out.keeps gP.out.keeps HWD.out.1
    have aj1:∀ i,i<7→W2.frozen? ⟨g,x*7+i,none⟩=false:=fun i hi=>by
      have e3:=HFZ.out i hi;unfold World.frozen? at e3 ⊢;rw[HBL.out g];exact e3
    refine Gu ((kN (bW f) (bW first) g (x*7) W2 aj0 aj1).mono ?_);rintro e w2 ⟨⟨u,rfl⟩,hx⟩;have abe:=gP.out.size;have k1:aa (· ≠g) W2 (gv W2 g (x*7) (fun i=>bW f i ||| bW first i) 7):=cX _ _ _ _ _;have k2:aa (fun k=>k<W.heap.size∧k≠g) W w2:=(gP.out.mono fun k hk=>hk.1:aa (fun k=>k<W.heap.size∧k≠g) W W2).tr ((k1.mono fun k hk=>hk.2).tr (hx.mono fun k hk=>by have:=hk.1;omega));refine⟨_,rfl,(HC.out _).2 k2,hK _ _ ?_⟩;clear hK K;refine Gx ?_;refine⟨k2.mono fun k hk=>?_,?_,?_,?_,?_⟩
    · rcases hk with(hk | hk) | hk
      · exact⟨by omega,by omega⟩
      · exact⟨by omega,by omega⟩
      · have h9:=HT.out k hk
        exact⟨h9.2,by omega⟩
    · have h9:=(I1.out.keeps gP.out.keeps fun x hx=>(I1.out.lt x hx).2)
      have h8:=h9.or (R1.out.keeps gP.out.keeps R1.out.lt) (p:=x) (by rw[Dj];exact Qr) (f ||| first) (z:=fun i=>bW f i ||| bW first i) fun i _=>(zh f first i).symm
      rw[Lg m pre first HFX.out]at h8;exact h8.keeps hx fun y hy=>by have:=(h9.lt y hy).2;omega
    · exact I2.out.keeps k2 ⟨I2.out.lt,by omega⟩
    · exact I3.out.keeps k2 ⟨I3.out.lt,by omega⟩
    · exact I4.out.tr (k2.mono fun k hk=>⟨by have:=hk.1;omega,fun e=>hk.2 (by rw[e];exact hFg)⟩)
  case done=>
    rintro D T W hD yf hT ⟨i1,i2,i3,i4⟩ nw;have I1:=hid i1;have I4:=hid i4;have HD:=hid hD;have xC:=hid nw;clear i1 i2 i3 i4 yf hT nw hD B0 B1 B2 B3 Ge;dsimp only;go_wp2;have hDw:=HD.out;refine wS rfl xC.out (results_none rfl _ _ _) ⟨⟨_,rfl⟩,?_,?_⟩
    · exact I1.out.keeps ((aa.refl (fun x=>x≠D) _).putObj (fun h=>h rfl) _) fun x hx e=>by have:=HF.out x hx;omega
    · exact I4.out.putObj (fun h=>by have:=h.1;omega) _
  case stop=>rintro D c pre T W _ _ _ _ h _;exact h.elim
end
end Go.Proofs.YtalombmiochpmaaGreatDoor
