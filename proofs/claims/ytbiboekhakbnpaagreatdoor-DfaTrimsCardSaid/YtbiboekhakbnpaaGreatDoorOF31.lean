/- The examples of the laws of automata of parts, in plain words. -/
import Derived.Test.YtbiboekhakbnpaaGreatDoorOF29
import Derived.Test.YtbiboekhakbnpaaGreatDoorOF30
set_option maxRecDepth 100000
set_option maxHeartbeats 16000000
open Go.Lib (hid)
namespace Go.Proofs.YtbiboekhakbnpaaGreatDoor
open Go Go.RowKit Go.Shelf Go.Maps
theorem Ct (b off c:Nat) (l:List (Nat×Nat×Nat)) (w:World) (hb:b<w.heap.size) (hc:l.length<=c) (gv:l.length<=1000000000000000) (hS:∀ (i:Nat) (s:Nat×Nat×Nat),l[i]? =some s->s.1<256/\s.2.1<256/\s.2.2<256/\w.cell? ⟨b,off+i*3,none⟩=some (.int .u8 s.1)/\w.cell? ⟨b,off+i*3+1,none⟩=some (.int .u8 s.2.1)/\w.cell? ⟨b,off+i*3+2,none⟩=some (.int .u8 s.2.2)): Calls Tryz.prog 39 #[.slice (some ⟨b,off,none⟩) l.length c] w fun e w'=>∃ u,e=.returned u/\aG (· <w'.heap.size) w' u (jk l)/\Below w.heap.size w w':=
 (dF b off c l w hb hc gv hS).out (M0 b off c l w hb hc gv hS) (Nb b off c l w hb hc gv hS) (Nc b off c l w hb hc gv hS) (Ng b off c l w hb hc gv hS) (Nh b off c l w hb hc gv hS) (Ni b off c l w hb hc gv hS) (Nj b off c l w hb hc gv hS) (Nk b off c l w hb hc gv hS)
theorem uA (p:Option Addr) (c:Nat) (w:World): Calls Tryz.prog 39 #[.slice p 0 c] w fun e w'=>∃ u,e=.returned u/\aG (· <w'.heap.size) w' u (jk [])/\Below w.heap.size w w':=by
 go_enter Tryz.func39,Tryz.ntmps39
 have jy:min (0:Int) 25=0:=by decide
 go_wp2;refine au ?_;intro V hV;have R0:Hid (ak V w.heap.size eF 86):=by rw[hV];exact hid (ak.new _ _ _)
 have X0:Hid (Below w.heap.size w V):=by rw[hV];exact hid ((Ext.refl w).alloc _).below
 clear hV;go_loopw [3,4,5,22] (fun u x y i wr=>u=.slice none 0 0/\x=.int .i64 1/\y=.int .i64 0/\i=.int .i64 0/\wr=V) (fun _ _ _ _ _=>0);case atStart=>exact⟨rfl,rfl,rfl,rfl,rfl⟩
 case round=>
  obtain⟨rfl,rfl,rfl,rfl,hwr⟩:=hrel;replace hwr:=hwr.symm;subst hwr;go_wp2_with fail
  refine(lW _ [97] rfl (by decide) V).mono ?_;rintro e w2 ⟨rfl,hx2⟩;obtain⟨S,hS⟩:∃ S,S=nE fun c=>([97]:List Nat).contains c:=⟨_,rfl⟩
  rw[<-hS];have fw:jk []=.nd 2 S 0 0 []:=by rw[hS];rfl
  have R2:=hid (R0.out.below hx2 R0.out.lt);have X2:Hid (Below w.heap.size w w2):=hid (X0.out.trans (hx2.mono X0.out.size));clear hS hx2;go_wp2_with (refine wpList_store_row rfl 86 (.tmp 2) (.tmp 188) rfl w.heap.size (aj 2 S 0 0 (.slice none 0 0)) rfl rfl 86 eF R2.out (ck _ _ _ _ _) rfl (kr _ _ _ _ _ _ _) ?_;refine Hid.out ?_);refine hid ?_;obtain⟨V3,cg⟩:∃ W,W=w2.setRow w.heap.size (aj 2 S 0 0 (.slice none 0 0)):=⟨_,rfl⟩;rw[<-cg];have RR:Hid (ak V3 w.heap.size (aj 2 S 0 0 (.slice none 0 0)) 86):=by rw[cg];exact hid R2.out.setRow
  have KK:aa (· ≠w.heap.size) w2 V3:=by rw[cg];exact aV _ _ _
  clear cg;go_wp2;obtain⟨m0,m1,m2,m3,m4,m5,m6,m7⟩:=RR.out.eight;refine bodyPost_ret (v:=.agg (aj 2 S 0 0 (.slice none 0 0))) (by simp[results,Tryz.results39,aj,go_sem,m0,m1,m2,m3,m4,m5,m6,m7]) rfl ⟨_,rfl,?_,X2.out.trans (KK.mono fun x (hx:x<w.heap.size)=>by show x≠_;omega:aa (· <w.heap.size) w2 V3).below⟩;rw[fw];exact aG.leaf _ _ _ _ _ _ _ _
theorem gJ.form {w:World} {v:Value} {l:List (Nat×Nat×Nat)} (h:gJ w v l):∃ a c,v=.slice a l.length c:=by
 rcases h with⟨rfl,rfl⟩ | ⟨ad,c,rfl,rfl⟩ | ⟨b,off,c,rfl,_⟩
 ·exact⟨_,_,rfl⟩
 ·exact⟨_,_,rfl⟩
 ·exact⟨_,_,rfl⟩
theorem FD (v:Value) (l:List (Nat×Nat×Nat)) (gv:l.length<=1000000000000000) (w:World) (h:gJ w v l): Calls Tryz.prog 39 #[v] w fun e w'=>∃ u,e=.returned u/\aG (· <w'.heap.size) w' u (jk l)/\Below w.heap.size w w':=by
 rcases h with⟨rfl,rfl⟩ | ⟨ad,c,rfl,rfl⟩ | ⟨b,off,c,rfl,hb,hc,_,h⟩
 ·exact uA none 0 w
 ·exact uA (some ad) c w
 ·exact Ct b off c l w hb hc gv h
def jQ (w:World) (v:Value) (l:List (List (Nat×Nat×Nat)×Bool×Nat)):Prop:=(∃ p c,v=.slice p 0 c/\l=[])\/
 ∃ b off c,v=.slice (some ⟨b,off,none⟩) l.length c/\b<w.heap.size/\l.length<=c/\l≠[]/\∀ (i:Nat) (s:List (Nat×Nat×Nat)×Bool×Nat),l[i]? =some s->s.1.length<=1000000000000000/\s.2.2<256/\∃ u,gJ w u s.1/\w.cell? ⟨b,off+i*3,none⟩=some u/\w.cell? ⟨b,off+i*3+1,none⟩=some (.bool s.2.1)/\w.cell? ⟨b,off+i*3+2,none⟩=some (.int .u8 s.2.2)
theorem jQ.below {w w':World} {v:Value} {l:List (List (Nat×Nat×Nat)×Bool×Nat)} (h:jQ w v l) (hk:Below w.heap.size w w'):jQ w' v l:=by
 rcases h with h | ⟨b,off,c,hv,hb,hc,hl,h⟩
 ·exact .inl h
 ·have hcell:∀ j,w'.cell? ⟨b,j,none⟩=w.cell? ⟨b,j,none⟩:=fun j=>(aa.ah hk fun _ h=>h:aa (· <w.heap.size) w w').cell (p:=⟨b,j,none⟩) hb
  refine .inr ⟨b,off,c,hv,Nat.lt_of_lt_of_le hb hk.size,hc,hl,fun i s hi=>?_⟩;rw[hcell,hcell,hcell];obtain⟨h1,h2,u,h3,h4⟩:=h i s hi;exact⟨h1,h2,u,h3.below hk,h4⟩
theorem Cu (b off c:Nat) (l:List (List (Nat×Nat×Nat)×Bool×Nat)) (w:World) (hb:b<w.heap.size) (hc:l.length<=c) (gv:l.length<=1000000000000000) (hS:∀ (i:Nat) (s:List (Nat×Nat×Nat)×Bool×Nat),l[i]? =some s->s.1.length<=1000000000000000/\s.2.2<256/\∃ u,gJ w u s.1/\w.cell? ⟨b,off+i*3,none⟩=some u/\w.cell? ⟨b,off+i*3+1,none⟩=some (.bool s.2.1)/\w.cell? ⟨b,off+i*3+2,none⟩=some (.int .u8 s.2.2)): Calls Tryz.prog 10 #[.slice (some ⟨b,off,none⟩) l.length c] w fun e w'=>∃ u,e=.returned (.tuple #[u,.bool true])/\bP w.heap.size w' u (cy l)/\Below w.heap.size w w':=by
 obtain⟨iP,hiP,QE,QF,U8⟩:=info_parts Tryz.Uk;have HS:=hid hS;obtain⟨n,hn⟩:∃ n,n=l.length:=⟨_,rfl⟩;obtain⟨N,hN⟩:∃ N,N=min n 4:=⟨_,rfl⟩;have jy:min (n:Int) 4=(N:Int):=by omega
 have Cp:N<=n:=by omega
 have hN4:N<=4:=by omega
 rw[<-hn]at hc gv ⊢;have Cq:N<=c:=by omega
 have lU:=hid hn;have HN:=hid hN;clear hS hn hN;go_enter Tryz.func10,Tryz.ntmps10;go_wp2;go_loopw [4,15] (fun pv iv wr=>∃ k:Nat,k<=N/\iv=.int .i64 k/\bP w.heap.size wr pv ((l.take k).map kn)/\Below w.heap.size w wr) (fun _ iv _=>N-(intOf iv).toNat);case atStart=>exact⟨0,by omega,rfl,bP.nil _ _,Below.refl _ _⟩
 case round=>
  obtain⟨k,hk,rfl,hI,hx⟩:=hrel;obtain⟨wo,rfl⟩:∃ wo:World,wo=wr:=⟨_,rfl⟩;have HI:=hid hI;have HX:=hid hx;clear hI hx;by_cases hlt:k<N
  ·have ed:(k:Int)<N:=by omega
   obtain⟨s,hsk⟩:∃ s,l[k]? =some s:=⟨_,List.getElem?_eq_getElem (by have:=lU.out;omega)⟩;obtain⟨hs9,hs8,u,hu,c0,c1,c2⟩:=HS.out k _ hsk;have wc:∀ (o:Nat) (u:Value),w.cell? ⟨b,o,none⟩=some u->wo.cell? ⟨b,o,none⟩=some u:=fun o u h=>((aa.ah HX.out fun _ h=>h:aa (· <w.heap.size) w wo).cell (p:=⟨b,o,none⟩) hb).trans h
   replace c0:=wc _ _ c0;replace c1:=wc _ _ c1;replace c2:=wc _ _ c2;obtain⟨ua,uc,rfl⟩:=hu.form;obtain⟨m,hm⟩:∃ m,m=((l.take k).map kn).length:=⟨_,rfl⟩;obtain⟨pa,pc,hpe,HI2⟩:∃ pa pc,_=Value.slice pa m pc/\Hid (bP w.heap.size wo (.slice pa m pc) ((l.take k).map kn)):=by obtain⟨pa,pc,e⟩:=HI.out.form;rw[<-hm]at e;exact⟨pa,pc,e,hid (e▸HI.out)⟩
   subst hpe;have HM:=hid hm;have HU:=hid hu;have hmN:m<=4:=by rw[hm,List.length_map,List.length_take];omega
   have HSK:=hid hsk;clear HI hm hu hsk wc;go_upto_region 5 with fail
   refine au ?_;intro V hV;have BX:Hid (ak V wo.heap.size #[.slice ua s.1.length uc,.bool s.2.1,.int .u8 s.2.2] 81):=hid (by rw[hV];exact ak.new wo _ _);have XV:Hid (Below wo.heap.size wo V):=hid (by rw[hV];exact((Ext.refl wo).alloc _).below);clear hV c0 c1 c2;have d0:V.cell? ⟨wo.heap.size,0,none⟩=some (.slice ua s.1.length uc):=BX.out.cell 0;have HWV:Hid (Below w.heap.size w V):=hid (HX.out.trans (XV.out.mono HX.out.size));go_wp2_with fail
   refine(FD _ s.1 hs9 V (HU.out.below HWV.out)).mono ?_;rintro e w1 ⟨t,rfl,ht,hx1⟩;have HT:=hid ht;have B1:=hid (BX.out.below hx1 BX.out.lt);have X1:Hid (Below w.heap.size w w1):=hid (HWV.out.trans (hx1.mono HWV.out.size));have P1:=hid ((HI2.out.below XV.out).below hx1);obtain⟨tp,tc,rfl⟩:=ht.form;clear ht hx1 BX XV HWV HI2 d0;go_wp2_with fail
   refine(Jl _ (jk s.1) w1 HT.out (lQ s.1).fine (by have:=(lQ s.1).size;omega) (lQ s.1).bM).mono ?_;rintro e w2 ⟨u2,rfl,ho,hx2⟩;obtain⟨J6,J7,J8,J9,Ka,Kb,Kc,Kd,Ke,Kf,Kg,Kh,rfl⟩:=ho.form;have HO:=hid (ho.base (base':=w.heap.size) X1.out.size);have B2:=hid (B1.out.below hx2 B1.out.lt);have X2:Hid (Below w.heap.size w w2):=hid (X1.out.trans (hx2.mono X1.out.size));have P2:=hid (P1.out.below hx2);clear ho hx2 B1 X1 P1 HT;go_upto_region 6 with fail
   refine au ?_;intro V2 hV2;have BN:Hid (ak V2 w2.heap.size #[.slice J6 J7 J8,.slice J9 Ka Kb,.slice Kc Kd Ke,.slice Kf Kg Kh,.bool (jk s.1).nf.emp] 44):=hid (by rw[hV2];exact ak.new w2 _ _);have WJ:Hid (Below w2.heap.size w2 V2):=hid (by rw[hV2];exact((Ext.refl w2).alloc _).below);clear hV2;have B3:=hid (B2.out.below WJ.out B2.out.lt);have e1:V2.cell? ⟨wo.heap.size,1,none⟩=some (.bool s.2.1):=B3.out.cell 1;have e2:V2.cell? ⟨wo.heap.size,2,none⟩=some (.int .u8 s.2.2):=B3.out.cell 2;have f0:V2.cell? ⟨w2.heap.size,0,none⟩=some (.slice J6 J7 J8):=BN.out.cell 0;have f1:V2.cell? ⟨w2.heap.size,1,none⟩=some (.slice J9 Ka Kb):=BN.out.cell 1;have f2:V2.cell? ⟨w2.heap.size,2,none⟩=some (.slice Kc Kd Ke):=BN.out.cell 2;have f3:V2.cell? ⟨w2.heap.size,3,none⟩=some (.slice Kf Kg Kh):=BN.out.cell 3;have f4:V2.cell? ⟨w2.heap.size,4,none⟩=some (.bool (jk s.1).nf.emp):=BN.out.cell 4;have hcv:IntKind.i64.wrap (s.2.2:Int)=(s.2.2:Int):=IntWalk.i64_in _ (by omega);go_wp2_with (at_builtin;refine ku rfl ?_);refine hid ?_;refine fB ?_;intro W4 DD;have B4:Hid (ak W4 V2.heap.size #[.slice J6 J7 J8,.slice J9 Ka Kb,.slice Kc Kd Ke,.slice Kf Kg Kh,.bool (jk s.1).nf.emp,.bool s.2.1,.int .i64 s.2.2] 46):=by rw[DD];exact hid (ak.new _ _ _)
   have E4:Hid (Below V2.heap.size V2 W4):=by rw[DD];exact hid ((Ext.refl _).alloc _).below
   clear DD e1 e2 f0 f1 f2 f3 f4;have hs2:w.heap.size<=w2.heap.size:=X2.out.size;have X4:Hid (Below w.heap.size w W4):=hid (X2.out.trans ((WJ.out.trans (E4.out.mono WJ.out.size)).mono hs2));have P4:=hid ((P2.out.below WJ.out).below E4.out);have O4:=hid ((HO.out.below WJ.out).below E4.out);have ael:w.heap.size<=W4.heap.size:=X4.out.size;clear P2 WJ E4 HO BN B2 B3;obtain⟨cs,g1,g2⟩:=P4.out;rw[<-HM.out]at g1;have G1:=hid g1;have G2:=hid g2;clear g1 g2 P4
   refine wpList_append_own_at _ rfl (.tmp 28) (.tmp 36) 25 rfl w.heap.size 46 iP (.agg #[.slice none 0 0,.slice none 0 0,.slice none 0 0,.slice none 0 0,.bool false,.bool false,.int .i64 0]) 7 120 Tryz.underlying25 hiP QE QF U8 rfl (by decide) _ _ _ rfl G1.out ⟨V2.heap.size,0,none⟩ 1 1 (yE (.slice J6 J7 J8) (.slice J9 Ka Kb) (.slice Kc Kd Ke) (.slice Kf Kg Kh) (kn s)) rfl rfl (bZ B4.out) (by
    intro u hu;simp only[yE,List.mem_cons,List.not_mem_nil,or_false]at hu
    rcases hu with rfl | rfl | rfl | rfl | rfl | rfl | rfl<;>rfl) (by unfold maxLen;omega) (by omega) ael ?_
   intro v' w5 hown' hgrow hh hat;obtain⟨pa3,pc3,rfl⟩:=ownsRow_form hown';have P5:Hid (bP w.heap.size w5 (.slice pa3 (m+1) pc3) ((l.take k).map kn++ [kn s])):=hid (bP.more (by rw[<-HM.out];exact G1.out) G2.out O4.out hgrow (by rw[<-HM.out];exact hown'));have X5:Hid (Below w.heap.size w w5):=hid (X4.out.trans ((Below.refl _ _).grown hgrow X4.out.size (fun c e=>(G1.out.lt c e).1)));clear hown' hgrow hh hat;go_wp2;go_roundw;case rel=>
    refine⟨k+1,by omega,by go_num,?_,X5.out⟩;rw[List.take_add_one,HSK.out];simp only[Option.toList_some,List.map_append,List.map_cons,List.map_nil];exact P5.out
   case measure=>simp[intOf];omega
  ·obtain rfl:k=N:=by omega
   have vQ:¬ ((k:Int)<k):=by omega
   have dw:l.take k=l.take 4:=by
    rw[HN.out,lU.out];rcases Nat.le_total l.length 4 with h | h
    ·rw[Nat.min_eq_left h,List.take_length,List.take_of_length_le h]
    ·rw[Nat.min_eq_right h]
   have DL:Hid (bP w.heap.size wo _ (cy l)):=hid (by unfold cy;rw[<-dw];exact HI.out);clear dw HI;obtain⟨pa,pc,rfl⟩:=DL.out.form;go_wp2;refine bodyPost_ret (v:=.tuple #[.slice pa (cy l).length pc,.bool true]) (by simp[results,Tryz.results10,go_sem]) rfl ⟨_,rfl,DL.out,HX.out⟩
theorem FE (p:Option Addr) (c:Nat) (w:World): Calls Tryz.prog 10 #[.slice p 0 c] w fun e w'=>∃ u,e=.returned (.tuple #[u,.bool true])/\bP w.heap.size w' u (cy [])/\Below w.heap.size w w':=by
 go_enter Tryz.func10,Tryz.ntmps10
 have jy:min (0:Int) 4=0:=by decide
 go_wp2;go_loopw [4,15] (fun pv iv wr=>pv=.slice none 0 0/\iv=.int .i64 0/\wr=w) (fun _ _ _=>0);case atStart=>exact⟨rfl,rfl,rfl⟩
 case round=>
  obtain⟨rfl,rfl,rfl⟩:=hrel;go_wp2;refine bodyPost_ret (v:=.tuple #[.slice none 0 0,.bool true]) (by simp[results,Tryz.results10,go_sem]) rfl ⟨_,rfl,bP.nil _ _,Below.refl _ _⟩
theorem n4 (v:Value) (l:List (List (Nat×Nat×Nat)×Bool×Nat)) (gv:l.length<=1000000000000000) (w:World) (h:jQ w v l): Calls Tryz.prog 10 #[v] w fun e w'=>∃ u,e=.returned (.tuple #[u,.bool true])/\bP w.heap.size w' u (cy l)/\Below w.heap.size w w':=by
 rcases h with⟨p,c,rfl,rfl⟩ | ⟨b,off,c,rfl,hb,hc,_,h⟩
 ·exact FE p c w
 ·exact Cu b off c l w hb hc gv h
theorem ky (v:Value) (d:DF) (rt:Rt d) (w:World) (h:gN w v d): Calls Tryz.prog 46 #[v] w fun e w'=>e=.returned (.agg (bB d.cl))/\Below w.heap.size w w':=by
 obtain⟨v0,v1,v2,rfl,h0,h1,h2⟩:=h;obtain⟨a0,c0,rfl⟩:=h0.1.form;obtain⟨a1,c1,rfl⟩:=h1.form;obtain⟨a2,c2,rfl⟩:=h2.form;have H0:=hid h0.1;have CO:Hid (∀ W,cd W (.slice a0 d.cl.length c0) d.cl->Calls Tryz.prog 41 #[.slice a0 d.cl.length c0] W fun e w'=>∃ b,e=.returned (.pointer (some ⟨b,0,none⟩))/\fe w' W.heap.size (.pointer (some ⟨b,0,none⟩)) d.cl/\Below W.heap.size W w'):=fun W h=>by
  have:=s4 d.cl _ W h (by have:=rt.Ey;omega);rwa[rt.cl]at this
 have CT:Hid (∀ b base W,fe W base (.pointer (some ⟨b,0,none⟩)) d.cl->Calls Tryz.prog 84 #[.pointer (some ⟨b,0,none⟩)] W fun e w'=>e=.returned (.agg (bB d.cl))/\Ext W w'):=fun b base W h=>Ie _ base d.cl W h
 clear h0 h1 h2;have hsz:=gL;have hz:=iC;generalize d.cl.length=n0 at*;go_enter Tryz.func46,Tryz.ntmps46;go_wp2_with fail
 refine aw ?_;intro V hV;have B2:Hid (ak V (w.heap.size+1) (bB []) 102):=by rw[hV];exact(ak.new (w.alloc _) _ _).at (by simp)
 have X1:Hid (Below w.heap.size w V):=by rw[hV];exact(((Ext.refl w).alloc _).alloc _).below
 clear hV;refine(CO.out _ (H0.out.below X1.out)).mono ?_;rintro e w2 ⟨b,rfl,ha,hx⟩;have B3:=hid (B2.out.below hx B2.out.lt);have X2:=hid (X1.out.trans (hx.mono X1.out.size));have A2:=hid ha;clear ha hx B2 X1;go_wp2_with fail
 refine(CT.out _ _ _ A2.out).mono ?_;rintro e w3 ⟨rfl,hx⟩;have B4:=hid (B3.out.ext hx);have X3:=hid (X2.out.trans (hx.below.mono X2.out.size));clear hx B3 X2;go_wp2_with (refine wpList_store_row rfl 102 (.tmp 2) (.tmp 6) rfl (w.heap.size+1) (bB d.cl) rfl rfl 102 (bB []) B4.out (by rw[aN];exact hsz) (by rw[aN,aN]) (iD _) ?_);refine bodyPost_ret (results_cell_row rfl _ _ (w.heap.size+1) 102 (bB d.cl) (0,0) _ rfl B4.out.setRow Tryz.underlying102 rfl (by rw[aN];exact gL)) rfl ⟨rfl,Below.PN X3.out (by omega) _⟩
def cA (d:DF) (s:Nat) (b:List Nat):Nat:=b.foldl (fun s c=>rb d s (cls d.cl c)) s
theorem xE {d:DF} {s:Nat} {b:List Nat} {k c:Nat} (h:b[k]? =some c):cA d s (b.take (k+1))=rb d (cA d s (b.take k)) (cls d.cl c):=by unfold cA;rw[List.take_add_one,h,List.foldl_append];rfl
theorem pN {d:DF} (rt:Rt d) {s:Nat} (hs:s<d.nx.length):∀ (b:List Nat),(∀ c∈b,c<256)->cA d s b<d.nx.length:=by
 intro b;induction b generalizing s with
 | nil=>intro _;exact hs
 | cons c r ih=>intro h;exact ih (rt.TP hs (rt.part.lp (h c (by simp)))) (fun x hx=>h x (by simp[hx]))
theorem uB (v bv:Value) (d:DF) (rt:Rt d) (sm:Sm d) (s:Nat) (hs:s<d.nx.length) (b:List Nat) (hb:∀ c∈b,c<256) (y8:b.length<=1000000) (w:World) (h:gN w v d) (nz:bg en w bv b): Calls Tryz.prog 17 #[v,.int .i64 s,bv] w fun e w'=>e=.returned (.tuple #[.int .i64 (cA d s b),.int .i64 0])/\Below w.heap.size w w':=by
 have CR:Hid (∀ W,Below w.heap.size w W->Calls Tryz.prog 21 #[v] W fun e w'=>e=.returned (.bool true)/\Below W.heap.size W w'):=fun W hW=>by
  have:=fY v d W (h.below hW) sm;rwa[(cU d).2 rt]at this
 have CT:Hid (∀ W,Below w.heap.size w W->Calls Tryz.prog 46 #[v] W fun e w'=>e=.returned (.agg (bB d.cl))/\Below W.heap.size W w'):=fun W hW=>ky v d rt W (h.below hW)
 obtain⟨v0,v1,v2,rfl,h0,h1,h2⟩:=h;obtain⟨a0,c0,rfl⟩:=h0.1.form;obtain⟨a1,c1,rfl⟩:=h1.form;obtain⟨a2,c2,rfl⟩:=h2.form;obtain⟨ab,cb,rfl⟩:=nz.form;obtain⟨n1,fL⟩:∃ n,n=d.nx.length:=⟨_,rfl⟩;obtain⟨nb,mm⟩:∃ n,n=b.length:=⟨_,rfl⟩;have gS:=hid fL;have Gr:=hid mm;have hs1:s<n1:=by omega
 have Sz:n1<=4000:=by rw[fL];exact rt.le
 rw[<-fL]at h1 CR CT ⊢;rw[<-mm]at nz y8 ⊢;have H1:=hid h1;have Nl:=hid nz;have HB:=hid hb;have RT:=hid rt;have e1:decide ((s:Int)<0)=false:=decide_eq_false (by omega);have e2:decide ((n1:Int)<=s)=false:=decide_eq_false (by omega);have e3:decide (n1<=s)=false:=decide_eq_false (by omega);have hsz:=gL;have hz:=iC;clear h0 h1 h2 nz fL mm hb;go_enter Tryz.func17,Tryz.ntmps17;go_wp2_with fail
 refine aw ?_;intro V hV;have B1:Hid (ak V w.heap.size #[.slice a0 d.cl.length c0,.slice a1 n1 c1,.slice a2 d.mr.length c2] 31):=by rw[hV];exact ak.new w _ _
 have X1:Hid (Below w.heap.size w V):=by rw[hV];exact((Ext.refl w).alloc _).below
 clear hV;refine(CR.out _ X1.out).mono ?_;rintro e w2 ⟨rfl,hx⟩;have B2:=hid (B1.out.below hx B1.out.lt);have X2:=hid (X1.out.trans (hx.mono X1.out.size));clear hx B1 X1;obtain⟨⟨k0,k1,k2⟩,_⟩:=B2.out.three;go_wp2_with fail
 refine(CT.out _ X2.out).mono ?_;rintro e w3 ⟨rfl,hx⟩;have B3:=hid (B2.out.below hx B2.out.lt);have X3:=hid (X2.out.trans (hx.mono X2.out.size));clear hx B2 X2 k0 k1 k2 e1 e2 e3 CR CT;have hst:=run_storeCells_new (P:=Tryz.prog) w3 102 (bB []) (bB d.cl) (by rw[aN];exact hsz) (by rw[aN,aN]) (iD _);have hs0:=aN d.cl;go_wp2;refine au ?_;intro V2 hV2;have B4:Hid (ak V2 w.heap.size #[.slice a0 d.cl.length c0,.slice a1 n1 c1,.slice a2 d.mr.length c2] 31):=by rw[hV2];exact B3.out.alloc _
 have T4:Hid (ak V2 w3.heap.size (bB d.cl) 102):=by rw[hV2];exact ak.new _ _ _
 have X4:Hid (Below w.heap.size w V2):=by rw[hV2];exact X3.out.alloc X3.out.size _
 clear hV2 hst hs0 hz hsz B3 X3;go_loopw [29,1] (fun i sv wr=>∃ k:Nat,k<=nb/\i=.int .i64 k/\sv=.int .i64 (cA d s (b.take k))/\Below V2.heap.size V2 wr) (fun i _ _=>nb-(intOf i).toNat);case atStart=>exact⟨0,by omega,rfl,rfl,Below.refl _ _⟩
 case round=>
  obtain⟨k,hk,rfl,rfl,hx⟩:=hrel;obtain⟨wo,rfl⟩:∃ wo:World,wo=wr:=⟨_,rfl⟩;have HX:=hid hx;have B5:=hid (B4.out.below hx B4.out.lt);have T5:=hid (T4.out.below hx T4.out.lt);have X5:=hid (X4.out.trans (hx.mono X4.out.size));clear hx;by_cases hlt:k<nb
  ·obtain⟨c,hc⟩:∃ c,b[k]? =some c:=⟨_,List.getElem?_eq_getElem (by have:=Gr.out;omega)⟩
   have fP:=HB.out c (List.mem_of_getElem? hc);have HT:=hid (xE (d:=d) (s:=s) hc);have dI:=pN RT.out (s:=s) (by rw[<-gS.out];exact hs1) (b.take k) (fun x hx=>HB.out x (List.mem_of_mem_take hx));obtain⟨g0,o0,rfl,hg0,x0⟩:=(Nl.out.below X5.out).elem hc;replace x0:wo.cell? ⟨g0,o0+k,none⟩=some (.int .u8 c):=x0;generalize cA d s (b.take k)=sv at HT dI ⊢;obtain⟨l,hl⟩:∃ l,d.nx[sv]? =some l:=⟨_,List.getElem?_eq_getElem dI⟩;obtain⟨g1,o1,e1,k1,rfl,hg1,x1,y1⟩:=(H1.out.below X5.out).elem hl;obtain⟨q,hq⟩:∃ q,q=cls d.cl c:=⟨_,rfl⟩;have Zv:q<d.cl.length:=by rw[hq];exact RT.out.part.lp fP
   have JX:l.length=d.cl.length:=by have:=RT.out.len sv dI;rwa[getD_some hl]at this
   obtain⟨r,hr⟩:∃ r,r=rb d sv q:=⟨_,rfl⟩;have U9:l[q]? =some (r:Int):=by have:=RT.out.AR dI Zv;rwa[getD_some hl, <-hr]at this
   obtain⟨g2,o2,rfl,hg2,x2⟩:=y1.elem U9;replace x2:wo.cell? ⟨g2,o2+q,none⟩=some (.int .i64 r):=x2;have x3:wo.cell? ⟨w3.heap.size,c,none⟩=some (.int .u8 q):=by rw[hq];exact(T5.out.cell c).trans (j5 _ fP)
   have b1:=B5.out.cell 1;simp only[List.getElem?_toArray,List.getElem?_cons_zero,List.getElem?_cons_succ]at b1;have pV:sv<n1:=by rw[gS.out];exact dI
   have hci:(c:Int)<256:=by omega
   have JP:(sv:Int)<n1:=by omega
   obtain⟨j,hj⟩:∃ j,j=l.length:=⟨_,rfl⟩;have hqj:q<j:=by omega
   have WE:(q:Int)<j:=by omega
   rw[<-hj]at x1;have ed:(k:Int)<nb:=by omega
   have HRQ:=hid hr;have HQ:=hid hq;clear hc hl y1 U9 JX Zv hq hr hj dI;go_wp2;refine aA false (fun _=>False) (by kernel_rfl) 11 [0,1,0,7,15,0,32,96,255,511,1023] (fun i=>false) (by kernel_rfl) (fun i=>aO.any _) ?_;intro C hC hne;have HC:=hid hC;have f0:=ay hC (p:=⟨w.heap.size,1,none⟩) (by have:=B5.out.lt;exact this) (fun h=>h) b1;have f1:=ay hC (p:=⟨g1,o1+sv,none⟩) hg1 (fun h=>h) x1;have f2:=ay hC (p:=⟨g2,o2+q,none⟩) hg2 (fun h=>h) x2;have f3:=ay hC (p:=⟨w3.heap.size,c,none⟩) (by have:=T5.out.lt;exact this) (fun h=>h) x3;clear hC b1 x1 x2 x3 x0
   repeat (refine ai (fun K hK=>?_);first | (refine br rfl ?_;try go_simp;refine hK _ _ ?_;clear hK K) | (refine aZ rfl rfl ?_;unfold ar;go_simp;refine hK _ _ ?_;clear hK K))
   refine aY (fun W hW hH=>?_);have hM:=(HC.out W).1 hW;have XX:=hid (HX.out.trans (hM.below.mono HX.out.size));clear hM hW hH HC HX f0 f1 f2 f3;go_wp2;go_roundw;case rel=>exact⟨k+1,by omega,by go_num,by rw[HT.out, <-HQ.out, <-HRQ.out],XX.out⟩
   case measure=>simp[intOf];omega
  ·obtain rfl:k=nb:=by omega
   have dw:b.take k=b:=by rw[Gr.out];exact List.take_length
   rw[dw];clear dw;go_wp2
   go_ret2
   exact⟨rfl,X5.out⟩
theorem fI (v bv:Value) (d:DF) (rt:Rt d) (sm:Sm d) (b:List Nat) (hb:∀ c∈b,c<256) (y8:b.length<=1000000) (w:World) (h:gN w v d) (nz:bg en w bv b): Calls Tryz.prog 13 #[v,bv] w fun e w'=>∃ u,e=.returned (.tuple #[u,.int .i64 0])/\w'.ownsRow w.heap.size 3 1 u (d.mr.getD (cA d 0 b) []).length ((d.mr.getD (cA d 0 b) []).map aF)/\Below w.heap.size w w':=by
 have CR:Hid (∀ W,Below w.heap.size w W->Calls Tryz.prog 17 #[v,.int .i64 0,bv] W fun e w'=>e=.returned (.tuple #[.int .i64 (cA d 0 b),.int .i64 0])/\Below W.heap.size W w'):=fun W hW=>uB v bv d rt sm 0 rt.pos b hb y8 W (h.below hW) (nz.below hW)
 obtain⟨v0,v1,v2,rfl,h0,h1,h2⟩:=h;obtain⟨a0,c0,rfl⟩:=h0.1.form;obtain⟨a1,c1,rfl⟩:=h1.form;obtain⟨a2,c2,rfl⟩:=h2.form;obtain⟨ab,cb,rfl⟩:=nz.form;have dI:=pN rt rt.pos b hb;rw[<-rt.mr]at dI;generalize cA d 0 b=sv at CR dI ⊢;obtain⟨m,hm⟩:∃ m,d.mr[sv]? =some m:=⟨_,List.getElem?_eq_getElem dI⟩;rw[getD_some hm];obtain⟨g1,o1,e1,k1,rfl,hg1,x1,y1⟩:=h2.elem hm;have lm:=sm.PS m (List.mem_of_getElem? hm);have JP:(sv:Int)<(d.mr.length:Nat):=by omega
 obtain⟨n2,jc⟩:∃ n,n=d.mr.length:=⟨_,rfl⟩;rw[<-jc]at dI JP CR ⊢;have Y1:=hid y1;obtain⟨j,hj⟩:∃ j,j=m.length:=⟨_,rfl⟩;rw[<-hj]at x1 Y1;have HJ:=hid hj;have LM:=hid lm;have X0:=hid x1;clear h0 h1 h2 hm y1 nz hb y8 rt sm jc hj lm x1;go_enter Tryz.func13,Tryz.ntmps13;go_wp2_with fail
 refine aw ?_;intro V hV;have B1:Hid (ak V w.heap.size #[.slice a0 d.cl.length c0,.slice a1 d.nx.length c1,.slice (some ⟨g1,o1,none⟩) n2 c2] 31):=by rw[hV];exact ak.new w _ _
 have X1:Hid (Below w.heap.size w V):=by rw[hV];exact((Ext.refl w).alloc _).below
 clear hV;refine(CR.out _ X1.out).mono ?_;rintro e w2 ⟨rfl,hx⟩;have B2:=hid (B1.out.below hx B1.out.lt);have X2:=hid (X1.out.trans (hx.mono X1.out.size));clear hx B1 X1 CR;have b2:=B2.out.cell 2;simp only[List.getElem?_toArray,List.getElem?_cons_zero,List.getElem?_cons_succ]at b2;have x2:w2.cell? ⟨g1,o1+sv,none⟩=some (.slice e1 j k1):=(DW X2.out).1 g1 (o1+sv) hg1▸X0.out;go_wp2_with fail
 refine(jw _ m _ (Y1.out.below X2.out) LM.out).mono ?_;rintro e w3 ⟨ur,rfl,ho,hx⟩;have O3:=hid (ax ho X2.out.size);have X3:=hid (X2.out.trans (hx.mono X2.out.size));clear ho hx b2 x2;go_wp2
 go_ret2
 exact⟨_,rfl,O3.out,X3.out⟩
attribute [local go_sem] encS
def er (d:DF) (b:List Nat) (n:Nat):List Int:=d.mr.getD (cA d 0 (b.take n)) []
def gK (d:DF) (b:List Nat) (r:Int×Int×Bool):Prop:=
 (∃ (n:Nat) (x:Int) (l:List Int),n<=b.length/\(∀ m,m<n->er d b m=[])/\er d b n=x::l/\r=((n:Int),x,true))\/((∀ m,m<=b.length->er d b m=[])/\r=(0,0,false))
theorem gK.uniq {d:DF} {b:List Nat} {r r':Int×Int×Bool} (h:gK d b r) (h':gK d b r'):r=r':=by
 rcases h with⟨n,x,l,h1,h2,h3,rfl⟩ | ⟨h1,rfl⟩<;>rcases h' with⟨n',x',l',g1,g2,g3,rfl⟩ | ⟨g1,rfl⟩
 ·obtain rfl:n=n':=by
   rcases Nat.lt_trichotomy n n' with h | h | h
   ·rw[g2 n h]at h3;cases h3
   ·exact h
   ·rw[h2 n' h]at g3;cases g3
  rw[h3]at g3;cases g3;rfl
 ·rw[g1 n h1]at h3;cases h3
 ·rw[h1 n' g1]at g3;cases g3
 ·rfl
theorem y9 (v bv:Value) (d:DF) (rt:Rt d) (sm:Sm d) (b:List Nat) (hb:∀ c∈b,c<256) (y8:b.length<=1000000) (w:World) (h:gN w v d) (nz:bg en w bv b): Calls Tryz.prog 12 #[v,bv] w fun e w'=>∃ r,gK d b r/\e=.returned (.tuple #[.int .i64 r.1,.int .i64 r.2.1,.bool r.2.2,.int .i64 0])/\Below w.heap.size w w':=by
 have CR:Hid (∀ W,Below w.heap.size w W->Calls Tryz.prog 21 #[v] W fun e w'=>e=.returned (.bool true)/\Below W.heap.size W w'):=fun W hW=>by
  have:=fY v d W (h.below hW) sm;rwa[(cU d).2 rt]at this
 have CT:Hid (∀ W,Below w.heap.size w W->Calls Tryz.prog 46 #[v] W fun e w'=>e=.returned (.agg (bB d.cl))/\Below W.heap.size W w'):=fun W hW=>ky v d rt W (h.below hW)
 obtain⟨v0,v1,v2,rfl,h0,h1,h2⟩:=h;obtain⟨a0,c0,rfl⟩:=h0.1.form;obtain⟨a1,c1,rfl⟩:=h1.form;obtain⟨a2,c2,rfl⟩:=h2.form;obtain⟨ab,cb,rfl⟩:=nz.form;have DK:=rt.mr;rw[DK]at h2 CR CT ⊢;obtain⟨n1,fL⟩:∃ n,n=d.nx.length:=⟨_,rfl⟩;obtain⟨nb,mm⟩:∃ n,n=b.length:=⟨_,rfl⟩;have gS:=hid fL;have Gr:=hid mm;have Sz:n1<=4000:=by rw[fL];exact rt.le
 rw[<-fL]at h1 h2 CR CT ⊢;rw[<-mm]at nz y8 ⊢;have H1:=hid h1;have H2:=hid h2;have Nl:=hid nz;have HB:=hid hb;have RT:=hid rt;have HMR:=hid DK;have hsz:=gL;have hz:=iC;clear h0 h1 h2 nz fL mm hb DK;go_enter Tryz.func12,Tryz.ntmps12;go_wp2_with fail
 refine aw ?_;intro V hV;have B1:Hid (ak V w.heap.size #[.slice a0 d.cl.length c0,.slice a1 n1 c1,.slice a2 n1 c2] 31):=by rw[hV];exact ak.new w _ _
 have X1:Hid (Below w.heap.size w V):=by rw[hV];exact((Ext.refl w).alloc _).below
 clear hV;refine(CR.out _ X1.out).mono ?_;rintro e w2 ⟨rfl,hx⟩;have B2:=hid (B1.out.below hx B1.out.lt);have X2:=hid (X1.out.trans (hx.mono X1.out.size));clear hx B1 X1;obtain⟨⟨k0,k1,k2⟩,_⟩:=B2.out.three;go_wp2_with fail
 refine(CT.out _ X2.out).mono ?_;rintro e w3 ⟨rfl,hx⟩;have B3:=hid (B2.out.below hx B2.out.lt);have X3:=hid (X2.out.trans (hx.mono X2.out.size));clear hx B2 X2 k0 k1 k2 CR CT;have hst:=run_storeCells_new (P:=Tryz.prog) w3 102 (bB []) (bB d.cl) (by rw[aN];exact hsz) (by rw[aN,aN]) (iD _);have hs0:=aN d.cl;go_wp2;refine au ?_;intro V2 hV2;have B4:Hid (ak V2 w.heap.size #[.slice a0 d.cl.length c0,.slice a1 n1 c1,.slice a2 n1 c2] 31):=by rw[hV2];exact B3.out.alloc _
 have T4:Hid (ak V2 w3.heap.size (bB d.cl) 102):=by rw[hV2];exact ak.new _ _ _
 have X4:Hid (Below w.heap.size w V2):=by rw[hV2];exact X3.out.alloc X3.out.size _
 clear hV2 hst hs0 hz hsz B3 X3;go_loopw [9,10] (fun sv i wr=>∃ k:Nat,k<=nb/\i=.int .i64 k/\sv=.int .i64 (cA d 0 (b.take k))/\(∀ m,m<k->er d b m=[])/\Below V2.heap.size V2 wr) (fun _ i _=>nb+1-(intOf i).toNat);case atStart=>exact⟨0,by omega,rfl,rfl,fun m hm=>absurd hm (Nat.not_lt_zero _),Below.refl _ _⟩
 case round=>
  obtain⟨k,hk,rfl,rfl,hno,hx⟩:=hrel;obtain⟨wo,rfl⟩:∃ wo:World,wo=wr:=⟨_,rfl⟩;have HX:=hid hx;have oF:=hid hno;have B5:=hid (B4.out.below hx B4.out.lt);have T5:=hid (T4.out.below hx T4.out.lt);have X5:=hid (X4.out.trans (hx.mono X4.out.size));clear hx hno;have dI:=pN RT.out (s:=0) RT.out.pos (b.take k) (fun x hx=>HB.out x (List.mem_of_mem_take hx));have HMA:Hid (er d b k=d.mr.getD (cA d 0 (b.take k)) []):=hid rfl;have jW:Hid (∀ c,b[k]? =some c->cA d 0 (b.take (k+1))=rb d (cA d 0 (b.take k)) (cls d.cl c)):=hid fun c hc=>xE hc
  generalize cA d 0 (b.take k)=sv at HMA jW dI ⊢;obtain⟨mk,jx⟩:∃ l,d.mr[sv]? =some l:=⟨_,List.getElem?_eq_getElem (by have:=HMR.out;omega)⟩;obtain⟨gm,om,em,km,e9,hgm,xm,ym⟩:=(H2.out.below X5.out).elem jx;have Va:Hid (er d b k=mk):=hid (by rw[HMA.out,getD_some jx]);have pV:sv<n1:=by rw[gS.out];exact dI
  have JP:(sv:Int)<n1:=by omega
  cases e9
  obtain⟨⟨b0,b1,b2⟩,_⟩:=B5.out.three;cases mk with
  | cons x l=>
   obtain⟨g2,o2,rfl,hg2,x2⟩:=ym.elem (i:=0) (x:=x) rfl;replace x2:wo.cell? ⟨g2,o2+0,none⟩=some (.int .i64 x):=x2;rw[Nat.add_zero]at x2;obtain⟨j,hj⟩:∃ j,j=(x::l).length:=⟨_,rfl⟩;rw[<-hj]at xm;have Wn:0<j:=by rw[hj];simp
   have hj1:(0:Int)<j:=by omega
   have HF:Hid (gK d b ((k:Int),x,true)):=hid (.inl ⟨k,x,l,by rw[<-Gr.out];exact hk,oF.out,Va.out,rfl⟩);clear jx ym dI hj;go_wp2;refine aA false (fun _=>False) (by kernel_rfl) 12 [0,0,2,0,14,30,62,126,1,511,1023,2047] (fun i=>false) (by kernel_rfl) (fun i=>aO.any _) ?_;intro C hC hne;have HC:=hid hC;have f0:=ay hC (p:=⟨w.heap.size,2,none⟩) (by have:=B5.out.lt;exact this) (fun h=>h) b2;have f1:=ay hC (p:=⟨gm,om+sv,none⟩) hgm (fun h=>h) xm;have f2:=ay hC (p:=⟨g2,o2,none⟩) hg2 (fun h=>h) x2;clear hC b0 b1 b2 xm x2
   repeat (refine ai (fun K hK=>?_);first | (refine br rfl ?_;try go_simp;refine hK _ _ ?_;clear hK K) | (refine aZ rfl rfl ?_;unfold ar;go_simp;refine hK _ _ ?_;clear hK K))
   refine aY (fun W hW hH=>?_);have XX:=hid (X5.out.trans (((HC.out W).1 hW).below.mono X5.out.size));clear hW hH HC hne f0 f1 f2;go_wp2;refine bodyPost_ret (v:=.tuple #[.int .i64 k,.int .i64 x,.bool true,.int .i64 0]) (by simp[results,Tryz.results12,go_sem]) rfl ⟨((k:Int),x,true),HF.out,rfl,XX.out⟩
  | nil=>
   replace xm:wo.cell? ⟨gm,om+sv,none⟩=some (.slice em 0 km):=xm;by_cases vQ:k=nb
   ·subst vQ
    have HF:Hid (gK d b (0,0,false)):=hid (.inr ⟨fun m hm=>by
     by_cases e:m<k
     ·exact oF.out m e
     ·obtain rfl:m=k:=by have:=Gr.out;omega
      exact Va.out,rfl⟩)
    have d1:((k:Int)==k)=true:=by simp
    clear jx ym dI;go_wp2;refine bodyPost_ret (v:=.tuple #[.int .i64 0,.int .i64 0,.bool false,.int .i64 0]) (by simp[results,Tryz.results12,go_sem]) rfl ⟨(0,0,false),HF.out,rfl,X5.out⟩
   ·have hlt:k<nb:=by omega
    have d1:((k:Int)==nb)=false:=by rw[beq_eq_false_iff_ne];omega
    obtain⟨c,hc⟩:∃ c,b[k]? =some c:=⟨_,List.getElem?_eq_getElem (by have:=Gr.out;omega)⟩;have fP:=HB.out c (List.mem_of_getElem? hc);have HT:=hid (jW.out c hc);obtain⟨g0,o0,rfl,hg0,x0⟩:=(Nl.out.below X5.out).elem hc;replace x0:wo.cell? ⟨g0,o0+k,none⟩=some (.int .u8 c):=x0;obtain⟨l,hl⟩:∃ l,d.nx[sv]? =some l:=⟨_,List.getElem?_eq_getElem dI⟩;obtain⟨g1,o1,e1,k1,e9,hg1,x1,y1⟩:=(H1.out.below X5.out).elem hl;cases e9;obtain⟨q,hq⟩:∃ q,q=cls d.cl c:=⟨_,rfl⟩;have Zv:q<d.cl.length:=by rw[hq];exact RT.out.part.lp fP
    have JX:l.length=d.cl.length:=by have:=RT.out.len sv dI;rwa[getD_some hl]at this
    obtain⟨r,hr⟩:∃ r,r=rb d sv q:=⟨_,rfl⟩;have U9:l[q]? =some (r:Int):=by have:=RT.out.AR dI Zv;rwa[getD_some hl, <-hr]at this
    obtain⟨g2,o2,rfl,hg2,x2⟩:=y1.elem U9;replace x2:wo.cell? ⟨g2,o2+q,none⟩=some (.int .i64 r):=x2;have x3:wo.cell? ⟨w3.heap.size,c,none⟩=some (.int .u8 q):=by rw[hq];exact(T5.out.cell c).trans (j5 _ fP)
    have hci:(c:Int)<256:=by omega
    obtain⟨j,hj⟩:∃ j,j=l.length:=⟨_,rfl⟩;have hqj:q<j:=by omega
    have WE:(q:Int)<j:=by omega
    rw[<-hj]at x1;have ed:(k:Int)<nb:=by omega
    have HRQ:=hid hr;have HQ:=hid hq;clear hc hl y1 U9 JX Zv hq hr hj dI jx ym;go_wp2;refine aA false (fun _=>False) (by kernel_rfl) 14 [0,1,0,7,15,0,0,96,224,480,992,2047,4095,8191] (fun i=>false) (by kernel_rfl) (fun i=>aO.any _) ?_;intro C hC hne;have HC:=hid hC;have f0:=ay hC (p:=⟨w.heap.size,1,none⟩) (by have:=B5.out.lt;exact this) (fun h=>h) b1;have f1:=ay hC (p:=⟨g1,o1+sv,none⟩) hg1 (fun h=>h) x1;have f2:=ay hC (p:=⟨g2,o2+q,none⟩) hg2 (fun h=>h) x2;have f3:=ay hC (p:=⟨w3.heap.size,c,none⟩) (by have:=T5.out.lt;exact this) (fun h=>h) x3;have f4:=ay hC (p:=⟨g0,o0+k,none⟩) hg0 (fun h=>h) x0;clear hC b0 b1 b2 x1 x2 x3 x0 xm
    repeat (refine ai (fun K hK=>?_);first | (refine br rfl ?_;try go_simp;refine hK _ _ ?_;clear hK K) | (refine aZ rfl rfl ?_;unfold ar;go_simp;refine hK _ _ ?_;clear hK K))
    refine aY (fun W hW hH=>?_);have hM:=(HC.out W).1 hW;have XX:=hid (HX.out.trans (hM.below.mono HX.out.size));clear hM hW hH HC HX f0 f1 f2 f3 f4;go_wp2;go_roundw
    case rel=>exact⟨k+1,by omega,by go_num,by rw[HT.out, <-HQ.out, <-HRQ.out],fun m hm=>by
     by_cases e:m<k
     ·exact oF.out m e
     ·obtain rfl:m=k:=by omega
      exact Va.out,XX.out⟩
    case measure=>simp[intOf];omega
end Go.Proofs.YtbiboekhakbnpaaGreatDoor
namespace Go.Proofs.YtbiboekhakbnpaaGreatDoor
open Go Go.RowKit Go.Shelf Go.Maps
theorem Nn (a b c:BS) (h:(!ltOf aI b a)=true) (k:(!ltOf aI c b)=true):(!ltOf aI c a)=true:=by
 simp only[Bool.not_eq_true']at*;cases TM:ltOf aI c a with
 | false=>rfl
 | true=>
  exfalso;rw[<-Bool.not_eq_true,dS]at h k;rw[dS]at TM;rcases mj a b with e | e | e
  ·subst e;exact k TM
  ·exact k (fV TM e)
  ·exact h e
theorem Np (a b:BS):((!ltOf aI b a) || (!ltOf aI a b))=true:=by
 cases TJ:ltOf aI b a with
 | false=>rfl
 | true=>
  cases hab:ltOf aI a b with
  | false=>rfl
  | true=>
   rw[dS]at TJ hab;exact absurd (fV TJ hab) (iA b)
theorem uC {l L:List BS} (hp:(aM l).isPerm L=true) (hs:decide (L.Pairwise fun x y=>(!ltOf aI y x)=true)=true):partsOf l=L:=
 List.Perm.eq_of_pairwise (fun a b _ _ h k=>Xx a b (by simpa using k) (by simpa using h)) (List.pairwise_mergeSort Nn Np _) (of_decide_eq_true hs) ((List.mergeSort_perm _ _).trans (List.isPerm_iff.1 hp))
def fh (l:List Nat):BS:=nE fun c=>l.contains c
def dt (l:List Nat):NF:=⟨l.map fun c=>fh [c],(List.range l.length).map fun i=>if i+1<l.length then [(i:Int)+1]else [],[0],[(l.length:Int)-1],false⟩
def SN:List PT:=[⟨dt [97,98],false,5⟩]
def Nq:List PT:=[⟨dt [97,98],true,0⟩]
def Nr:List PT:=[⟨dt [97],false,0⟩,⟨⟨[fh [97,98]],[[]],[0],[0],false⟩,false,7⟩]
def cW:List BS:=[~~~(fh [97,98]),fh [97],fh [98]]
theorem SP:partsOf (aL SN)=cW:=uC (by kernel_rfl) (by kernel_rfl)
theorem Vb:partsOf (aL Nq)=cW:=SP
theorem Vc:partsOf (aL Nr)=cW:=uC (by kernel_rfl) (by kernel_rfl)
theorem Zw:partsOf (aL [])=[~~~(0:BS)]:=uC (by kernel_rfl) (by kernel_rfl)
theorem za {ps:List PT} {P:List BS} {f:Nat} {st:List (List (List Int))×List (List Nat)} (hP:partsOf (aL ps)=P) (hl:¬64<ps.length) (ho:ps.all PT.ok=true) (h1:1<=f) (h2:f<=4000) (hst:cQ f (fun row k=>bU ps row (lb P k)) P.length (gh ps) f=some st):fJ ps f=(⟨P,st.2.map fun r=>r.map Int.ofNat,st.1.map (bX ps)⟩,0):=by subst hP;unfold fJ fD;rw[if_neg hl,if_neg (by rw[ho];decide),if_neg (by omega),Int.toNat_natCast,if_neg (by omega),hst]
def Ns:DF:=⟨cW,[[0,1,0],[0,1,2],[0,1,0]],[[],[],[5]]⟩
def aen:DF:=⟨cW,[[1,2,1],[1,1,1],[1,1,3],[1,1,1]],[[],[],[],[0]]⟩
def dNo:DF:=⟨[~~~(0:BS)],[[0]],[[]]⟩
def zb:DF:=⟨cW,[[0,1,2],[0,1,2],[0,1,2]],[[],[0,7],[7]]⟩
theorem G9:fJ SN 3=(Ns,0):=(za (f:=3) (st:=([[[-1]],[[-1,0]],[[-1,1]]],[[0,1,0],[0,1,2],[0,1,0]])) SP (by decide) (by kernel_rfl) (by decide) (by decide) (by kernel_rfl)).trans (by kernel_rfl)
theorem Vd:(fJ SN 2).2=181:=by rw[wZ (f:=3) (by rw[G9]) (by decide) (by decide),G9,if_neg (by decide)]
theorem Ve:fJ Nq 9=(aen,0):=(za (f:=9) (st:=([[[-1]],[[]],[[0]],[[1]]],[[1,2,1],[1,1,1],[1,1,3],[1,1,1]])) Vb (by decide) (by kernel_rfl) (by decide) (by decide) (by kernel_rfl)).trans (by kernel_rfl)
theorem Zx:fJ [] 9=(dNo,0):=(za (f:=9) (st:=([[]],[[0]])) Zw (by decide) (by kernel_rfl) (by decide) (by decide) (by kernel_rfl)).trans (by kernel_rfl)
theorem Nu:fJ Nr 9=(zb,0):=(za (f:=9) (st:=([[[-1],[-1]],[[-1,0],[-1,0]],[[-1],[-1,0]]],[[0,1,2],[0,1,2],[0,1,2]])) Vc (by decide) (by kernel_rfl) (by decide) (by decide) (by kernel_rfl)).trans (by kernel_rfl)
theorem FH:Ns.mr.getD (cA Ns 0 [120,97,98]) []=[5]:=by kernel_rfl
theorem Cv:Ns.mr.getD (cA Ns 0 [97,98,120]) []=[]:=by kernel_rfl
theorem Cw:zb.mr.getD (cA zb 0 [120,97]) []=[0,7]:=by kernel_rfl
theorem Cx:gK Ns [97,97,98,97,98] (3,5,true):=by
 have h0:er Ns [97,97,98,97,98] 0=[]:=by kernel_rfl
 have h1:er Ns [97,97,98,97,98] 1=[]:=by kernel_rfl
 have h2:er Ns [97,97,98,97,98] 2=[]:=by kernel_rfl
 have h3:er Ns [97,97,98,97,98] 3=[5]:=by kernel_rfl
 refine .inl ⟨3,5,[],by decide,fun m hm=>?_,h3,rfl⟩;have:m=0\/m=1\/m=2:=by omega
 rcases this with rfl | rfl | rfl
 ·exact h0
 ·exact h1
 ·exact h2
theorem ze:gK zb [120,97] (2,0,true):=by
 have h0:er zb [120,97] 0=[]:=by kernel_rfl
 have h1:er zb [120,97] 1=[]:=by kernel_rfl
 have h2:er zb [120,97] 2=[0,7]:=by kernel_rfl
 refine .inl ⟨2,0,[7],by decide,fun m hm=>?_,h2,rfl⟩;have:m=0\/m=1:=by omega
 rcases this with rfl | rfl
 ·exact h0
 ·exact h1
end Go.Proofs.YtbiboekhakbnpaaGreatDoor
