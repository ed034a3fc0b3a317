/- The law DfaWrong. Printed by wip/gen/o18.py. -/
import Derived.Test.YtbiboekhakbnpaaGreatDoorOFsInsQ
import Derived.Test.YtbiboekhakbnpaaGreatDoorOFsRvp
set_option maxRecDepth 100000
set_option maxHeartbeats 16000000
open Go.Lib (hid)
namespace Go.Proofs.YtbiboekhakbnpaaGreatDoor
open Go Go.RowKit Go.Shelf Go.Maps
def zPT:PT:=⟨⟨[],[],[],[],false⟩,false,0⟩
def qN:Array Value:= #[.slice none 0 0,.slice none 0 0,.slice none 0 0,.slice none 0 0,.bool false,.bool false,.int .i64 0]
theorem zNf (W:World):dO W (.agg #[.slice none 0 0,.slice none 0 0,.slice none 0 0,.slice none 0 0,.bool false]) ⟨[],[],[],[],false⟩:=
 ⟨_,_,_,_,rfl,⟨.inl ⟨rfl,rfl⟩,fun a n cap e=>by cases e;omega⟩,⟨[],rfl,.inl ⟨rfl,rfl⟩,fun i u l h=>by simp at h⟩,.inl ⟨rfl,rfl⟩,.inl ⟨rfl,rfl⟩⟩
theorem afe {base n:Nat} {W:World} {v:Value} (hn:0<n) (h:W.ownsRow base 46 7 v n (madeCells qN (n*7)).toList):dh W v (List.replicate n zPT):=by
 obtain⟨a,c,rfl⟩:=ownsRow_form h;rcases h.2 with⟨h1,_⟩ | ⟨g,c',cur,h1,_,h3,_⟩
 ·cases h1;omega
 ·cases h1
  obtain⟨c1,_,_⟩:=cP h;refine .inr ⟨g,0,c,by rw[List.length_replicate],(Array.getElem?_eq_some_iff.1 h3).1,fun i x hx=>?_⟩;obtain⟨hi,rfl⟩:=List.getElem?_eq_some_iff.1 hx;rw[List.length_replicate]at hi;rw[List.getElem_replicate];have key:∀ t,t<7->W.cell? ⟨g,i*7+t,none⟩=qN[t]? :=fun t ht=>by
   have hz:qN[t]? =some (qN[t]!):=by rw[getElem!_pos qN t (by show t<7;exact ht)];exact Array.getElem?_eq_getElem _
   rw[hz];refine c1 _ _ ?_;unfold madeCells;have h7:qN.size=7:=rfl;have hm:(i*7+t)%7=t:=by omega
   simp[h7,hm,show i*7+t<n*7 by omega]
  rw[Nat.zero_add];exact⟨_,_,_,_,zNf W,key 0 (by decide),key 1 (by decide),key 2 (by decide),key 3 (by decide),key 4 (by decide),key 5 (by decide),key 6 (by decide)⟩
theorem zG {P:List PT} {f code:Int} (he:fJ P f=(⟨[],[],[]⟩,code)) (sm:∀ x∈P,vR x.nf) (W:World) (u:Value) (hu:dh W u P) (hT:∀ V,Below W.heap.size W V->gO V): Calls Tryz.prog 11 #[u,.int .i64 f] W fun e w'=>∃ a0 c0 a1 c1 a2 c2,e=.returned (.tuple #[.agg #[.slice a0 0 c0,.slice a1 0 c1,.slice a2 0 c2],.int .i64 code])/\(Z0 w' (.slice a0 0 c0)/\Z0 w' (.slice a1 0 c1)/\Z0 w' (.slice a2 0 c2))/\Below W.heap.size W w':=(mL u P f W hu sm hT).mono fun e w' ⟨r,hr,hd,hx⟩=>by
 rw[he]at hr hd;obtain⟨v0,v1,v2,rfl,h0,⟨us,h1,h2,_⟩,⟨us',h3,h4,_⟩⟩:=hd;have e1:us=[]:=List.eq_nil_of_length_eq_zero h1;have e2:us'=[]:=List.eq_nil_of_length_eq_zero h3;subst e1 e2;have z0:=Z0.Gb h0;have z1:=Z0.Gb h2;have z2:=Z0.Gb h4;obtain⟨a0,c0,rfl⟩:=z0.form;obtain⟨a1,c1,rfl⟩:=z1.form;obtain⟨a2,c2,rfl⟩:=z2.form;exact⟨a0,c0,a1,c1,a2,c2,hr,⟨z0,z1,z2⟩,hx⟩
theorem Rz {ps:List PT} (h:Ps ps) {f:Int} (hf:f<0\/4000<f):fJ ps f=(⟨[],[],[]⟩,2):=by unfold fJ;rw[if_neg (by have:=h.len;omega),if_neg (by rw[h.all];simp),if_pos hf]
theorem JL {d:DF} {s:Nat} {l:List Int} {z:Int} (hl:d.nx[s]? =some l) (hz:z∈l) (h:(d.nx.length:Int)<=z):d.right=false:=by
 cases e:d.right with
 | false=>rfl
 | true=>
  have rt:=(cU d).1 e;have hs:=(List.getElem?_eq_some_iff.1 hl).1;have:=(rt.iV s hs z (by rw[getD_some hl];exact hz)).2;omega
theorem rZ (v:Value) (l:List (List (Nat×Nat×Nat)×Bool×Nat)) (gv:l.length<=1000000000000000) (um:Nat) (hum:um<256) (z:Int) (w:World) (h:jQ w v l) (hT:∀ W,Below w.heap.size w W->gO W): Calls Tryz.prog 8 #[v,.int .u8 um,.int .i64 z] w fun e w'=>e=.returned (.bool true)/\Below w.heap.size w w':=by
 have HT:=hid hT;have PK:=oq h;have CM:Hid (∀ W,Below w.heap.size w W->Calls Tryz.prog 10 #[v] W fun e w'=>∃ u,e=.returned (.tuple #[u,.bool true])/\bP W.heap.size w' u (cy l)/\Below W.heap.size W w'):=hid fun W hW=>n4 v l gv W (h.below hW)
 obtain⟨sa,sc,rfl⟩:=h.form;have Oi:(cy l).length<=4:=by rw[jl];omega
 obtain⟨P,hP⟩:∃ P,P=cy l:=⟨_,rfl⟩;rw[<-hP]at PK CM Oi;generalize l.length=sn at*;clear h hP hT;obtain⟨d,code,Hk⟩:∃ d code,fJ P 300=(d,code):=⟨_,_,rfl⟩;have two:=zq PK (f:=300) (by decide) (by decide);rw[Hk]at two;obtain⟨n0,cN⟩:∃ n,n=d.cl.length:=⟨_,rfl⟩;obtain⟨n1,fL⟩:∃ n,n=d.nx.length:=⟨_,rfl⟩;obtain⟨n2,jc⟩:∃ n,n=d.mr.length:=⟨_,rfl⟩;have TT:Hid (∀ A,Below w.heap.size w A->∀ V,Below A.heap.size A V->gO V):=hid fun A hA V hV=>HT.out V (hA.trans (hV.mono hA.size))
 have CO:Hid (∀ W u,Below w.heap.size w W->dh W u P->Calls Tryz.prog 11 #[u,.int .i64 300] W (Rm n0 n1 n2 code d W)):=hid fun W u hW hu=>jT PK Hk cN fL jc W u hu (TT.out W hW)
 have Rs:=hid PK;have JH:=hid Hk;have j8:=hid cN;have gS:=hid fL;have kI:=hid jc;obtain⟨pm,tk⟩:∃ m,m=P.length:=⟨_,rfl⟩;have aal:pm<=4:=by rw[tk];exact Oi
 have Ph:=hid tk;clear PK Hk cN fL jc tk Oi;go_enter Tryz.func8,Tryz.ntmps8;go_wp2_with fail
 refine(lY w HT.out).mono ?_;rintro e w1 ⟨rfl,hx⟩;have X1:=hid hx;clear hx;go_wp2_with fail
 refine(CM.out w1 X1.out).mono ?_;rintro e w2 ⟨u,rfl,ho,hx⟩;obtain⟨pa,pc,rfl⟩:=ho.form;have OP:=hid (show bP w1.heap.size w2 (.slice pa pm pc) P by rw[Ph.out];exact ho);have X2:=hid (X1.out.trans (hx.mono X1.out.size));rw[<-Ph.out];have X2S:Hid (w1.heap.size<=w2.heap.size):=hid hx.size;clear ho hx CM;go_wp2_with fail
 refine(CO.out w2 _ X2.out OP.out.Ul).mono ?_;rintro e w3 ⟨a0,c0,a1,c1,a2,c2,rfl,hd,hx⟩;have X3:=hid (X2.out.trans (hx.mono X2.out.size));have OD:=hid hd;have VJ:=hid (OP.out.below hx);have aao:=X1.out.size;have Ol:=hx.size;clear hd hx CO;rcases two with h0 | h0
 case inr=>
  replace h0:code=181:=h0;subst h0;go_wp2;go_ret;exact⟨rfl,X3.out.trans ((((Ext.refl _).alloc _).below).mono X3.out.size)⟩
 case inl=>
 replace h0:code=0:=h0;subst h0;have RT:Hid (Rt d):=hid (gi JH.out);have SD:Hid (Sm d):=hid RT.out.Ui;obtain⟨iP,hiP,QE,QF,U8⟩:=info_parts (show(Tryz.prog.info? 46).map (fun i=>(i.zero,i.size,i.bytes))=some (some (.agg #[.slice none 0 0,.slice none 0 0,.slice none 0 0,.slice none 0 0,.bool false,.bool false,.int .i64 0]),7,120) by kernel_rfl);have Gf:n1=n2:=by rw[kI.out,gS.out];exact RT.out.mr.symm
 subst Gf;have al8:1<=n1/\n1<=4000:=by rw[gS.out];exact⟨RT.out.pos,RT.out.le⟩
 have al9:1<=n0/\n0<=256:=by rw[j8.out];exact⟨RT.out.XQ,RT.out.Ey⟩
 go_upto_region 5 with fail
 refine au ?_;intro V hV;have BD:Hid (ak V w3.heap.size #[.slice a0 n0 c0,.slice a1 n1 c1,.slice a2 n1 c2] 31):=hid (by rw[hV];exact ak.new w3 _ _);have XV:Hid (Below w3.heap.size w3 V):=hid (by rw[hV];exact((Ext.refl w3).alloc _).below);clear hV;have Pj:=hid (OD.out.below XV.out);have OP4:=hid (VJ.out.below XV.out);have X4:=hid (X3.out.trans (XV.out.mono X3.out.size));have h1V:w1.heap.size<=V.heap.size:=Nat.le_trans X2S.out (Nat.le_trans Ol XV.out.size);clear OD OP VJ XV X3;obtain⟨csP,hP1,hP2⟩:=OP4.out;rw[<-Ph.out]at hP1;have RP:=hid hP1;have PP:=hid hP2;clear hP1 hP2;have PSM:Hid (∀ x∈P,Nt x.nf/\vR x.nf/\0<=x.mark/\x.mark<=255):=hid Rs.out.ok;obtain⟨p1,rF⟩:∃ x,x=pm+1:=⟨_,rfl⟩;obtain⟨i,hi⟩:∃ i,i=um%p1:=⟨_,rfl⟩;have hip:i<=pm:=by have:=Nat.mod_lt um (show 0<p1 by omega);omega
 have q1:IntKind.i64.wrap (um:Int)=(um:Int):=IntWalk.i64_in _ (by omega);have q2:IntKind.i64.wrap ((pm:Int)+1)=(p1:Int):=by rw[IntWalk.i64_in _ (by omega)];omega
 have q3:(um:Int).tmod (p1:Int)=(i:Int):=by rw[hi];exact(Int.ofNat_tmod um p1).symm
 have q4:¬ ((p1:Int)=0):=by omega
 obtain⟨m0,DA⟩:∃ m,m=min z (-1):=⟨_,rfl⟩;obtain⟨m1,GY⟩:∃ m,m=max z 256:=⟨_,rfl⟩;have RA:m0<0:=by omega
 have afi:255<m1:=by omega
 have q5:min z (-1)=m0:=DA.symm;have q6:max z 256=m1:=GY.symm;have HP1:=hid rF;have HM0:=hid DA;clear hi DA GY rF;go_upto_region 9 with fail
 refine au ?_;intro V8 VS;have B1:Hid (ak V8 V.heap.size #[.int .i64 0] 3):=hid (by rw[VS];exact(ak.new V _ _).alloc _);have B2:Hid (ak V8 (V.heap.size+1) #[.slice none 0 0,.slice none 0 0,.slice none 0 0,.slice none 0 0,.bool false,.bool false,.int .i64 m0,.slice none 0 0,.slice none 0 0,.slice none 0 0,.slice none 0 0,.bool false,.bool false,.int .i64 m1,.slice none 0 0,.slice none 0 0,.slice (some ⟨V.heap.size,0,none⟩) 1 1,.slice none 0 0,.bool false,.bool false,.int .i64 0] 46):=hid (by rw[VS];exact(ak.new (V.alloc _) _ _).at (by simp));have X8:Hid (Below V.heap.size V V8):=hid (by rw[VS];exact(((Ext.refl V).alloc _).alloc _).below);clear VS q1 q2 q3 q4 q5 q6;have aaC:Hid (∀ k,k<3->∃ (b2:Option Addr) (bn bc:Nat) (x:PT),x.A0=false/\x.nf.emp=false/\x.ok=false/\vR x.nf/\dO V8 (.agg #[.slice none 0 0,.slice none 0 0,.slice b2 bn bc,.slice none 0 0,.bool false]) x.nf/\V8.cell? ⟨V.heap.size+1,k*7,none⟩=some (.slice none 0 0)/\V8.cell? ⟨V.heap.size+1,k*7+1,none⟩=some (.slice none 0 0)/\V8.cell? ⟨V.heap.size+1,k*7+2,none⟩=some (.slice b2 bn bc)/\V8.cell? ⟨V.heap.size+1,k*7+3,none⟩=some (.slice none 0 0)/\V8.cell? ⟨V.heap.size+1,k*7+4,none⟩=some (.bool false)/\V8.cell? ⟨V.heap.size+1,k*7+5,none⟩=some (.bool false)/\V8.cell? ⟨V.heap.size+1,k*7+6,none⟩=some (.int .i64 x.mark)):=hid fun k hk=>by
  rcases(show k=0\/k=1\/k=2 by omega)with rfl | rfl | rfl
  ·exact⟨none,0,0,⟨⟨[],[],[],[],false⟩,false,m0⟩,rfl,rfl,by unfold PT.ok;rw[decide_eq_false (show ¬0<=m0 by omega)];simp,⟨Nat.zero_le _,Nat.zero_le _,Nat.zero_le _,Nat.zero_le _,fun _ h=>(by cases h)⟩,zNf _,B2.out.cell 0,B2.out.cell 1,B2.out.cell 2,B2.out.cell 3,B2.out.cell 4,B2.out.cell 5,B2.out.cell 6⟩
  ·exact⟨none,0,0,⟨⟨[],[],[],[],false⟩,false,m1⟩,rfl,rfl,by unfold PT.ok;rw[decide_eq_false (show ¬m1<=255 by omega)];simp,⟨Nat.zero_le _,Nat.zero_le _,Nat.zero_le _,Nat.zero_le _,fun _ h=>(by cases h)⟩,zNf _,B2.out.cell 7,B2.out.cell 8,B2.out.cell 9,B2.out.cell 10,B2.out.cell 11,B2.out.cell 12,B2.out.cell 13⟩
  ·refine⟨some ⟨V.heap.size,0,none⟩,1,1,⟨⟨[],[],[0],[],false⟩,false,0⟩,rfl,rfl,by decide,⟨by decide,by decide,by decide,by decide,fun _ h=>(by cases h)⟩,?_,B2.out.cell 14,B2.out.cell 15,B2.out.cell 16,B2.out.cell 17,B2.out.cell 18,B2.out.cell 19,B2.out.cell 20⟩
   obtain⟨w0,w1,w2,w3,e,h0,h1,h2,h3⟩:=zNf V8;cases e
   exact⟨_,_,_,_,rfl,h0,h1,.inr ⟨V.heap.size,0,1,rfl,B1.out.lt,Nat.le_refl _,fun i x hx=>by
    have hi:=(List.getElem?_eq_some_iff.1 hx).1;obtain rfl:i=0:=by simp at hi;omega
    cases hx
    exact B1.out.cell 0⟩,h3⟩
 have hb2:V.heap.size+1<V8.heap.size:=B2.out.lt;have XW8:Hid (Below w.heap.size w V8):=hid (X4.out.trans (X8.out.mono X4.out.size));clear B1 B2 RA afi;go_loopw [76] (fun iv wr=>∃ k:Nat,k<=3/\iv=.int .i64 k/\Below V8.heap.size V8 wr) (fun iv _=>3-(intOf iv).toNat);case atStart=>exact⟨0,by omega,rfl,Below.refl _ _⟩
 case round=>
  obtain⟨k,hk,rfl,hx⟩:=hrel;obtain⟨wo,rfl⟩:∃ wo:World,wo=wr:=⟨_,rfl⟩;have XO:=hid hx;clear hx;by_cases hlt:k<3
  ·have ed:(k:Int)<3:=by omega
   obtain⟨b2,bn,bc,x,e1,e2,e3,e4,e5,f0,f1,f2,f3,f4,f5,f6⟩:=aaC.out k hlt;have kc:∀ {o:Nat} {u:Value},V8.cell? ⟨V.heap.size+1,o,none⟩=some u->wo.cell? ⟨V.heap.size+1,o,none⟩=some u:=fun {o u} h=>((aa.ah XO.out fun _ h=>h:aa (· <V8.heap.size) V8 wo).cell (p:=⟨V.heap.size+1,o,none⟩) hb2).trans h
   have g0:=kc f0;have g1:=kc f1;have g2:=kc f2;have g3:=kc f3;have g4:=kc f4;have g5:=kc f5;have g6:=kc f6;obtain⟨mk,jx⟩:∃ mk,mk=x.mark:=⟨_,rfl⟩;rw[<-jx]at g6;have Va:=hid jx;have E1:=hid e1;have E2:=hid e2;have E3:=hid e3;have E4:=hid e4;have E5:=hid e5;clear e1 e2 e3 e4 e5 f0 f1 f2 f3 f4 f5 f6 kc jx;go_upto_region 11 with fail
   refine au ?_;intro V9 Om;have BB:Hid (ak V9 wo.heap.size #[.slice none 0 0,.slice none 0 0,.slice b2 bn bc,.slice none 0 0,.bool false,.bool false,.int .i64 mk] 46):=hid (by rw[Om];exact ak.new _ _ _);have XN:Hid (Below wo.heap.size wo V9):=hid (by rw[Om];exact((Ext.refl _).alloc _).below);clear Om g0 g1 g2 g3 g4 g5 g6;have X9:Hid (Below V8.heap.size V8 V9):=hid (XO.out.trans (XN.out.mono XO.out.size));have RD:Hid (Below V.heap.size V V9):=hid (X8.out.trans (X9.out.mono X8.out.size));have Rv:Hid (Below w.heap.size w V9):=hid (X4.out.trans (RD.out.mono X4.out.size));have RP9:=hid (ag RP.out RD.out);obtain⟨BL,hBL⟩:∃ BL:List Value,BL=[.slice none 0 0,.slice none 0 0,.slice b2 bn bc,.slice none 0 0,.bool false,.bool false,.int .i64 mk]:=⟨_,rfl⟩
   have PB:Hid (tM dO V9 x fun t=>BL[t]?):=hid (by
    rw[hBL];refine⟨_,_,_,_,?_,rfl,rfl,rfl,rfl,?_,?_,?_⟩
    ·rw[E2.out];exact dO.below E5.out X9.out
    ·rw[E2.out];rfl
    ·rw[E1.out];rfl
    ·rw[<-Va.out];rfl)
   obtain⟨GG,hGG⟩:∃ GG:List Value->Prop,GG=fun p=>∃ y,y∈x::P/\tM dO V9 y fun t=>p[t]? :=⟨_,rfl⟩
   have GB:Hid (GG BL):=hid (by rw[hGG];exact⟨x,List.mem_cons_self ..,PB.out⟩);have VT:BL.length=7:=by rw[hBL];rfl
   have BLA:Hid (BL.toArray= #[.slice none 0 0,.slice none 0 0,.slice b2 bn bc,.slice none 0 0,.bool false,.bool false,.int .i64 mk]):=hid (by rw[hBL]);have BL1:Hid (∀ u∈BL,u.oneCell'=true):=hid fun u hu=>by
    rw[hBL]at hu;simp only[List.mem_cons,List.not_mem_nil,or_false]at hu;rcases hu with rfl | rfl | rfl | rfl | rfl | rfl | rfl<;>rfl
   have GP:Hid (kN GG pm csP):=hid fun j hj=>by
    obtain⟨y,hy⟩:∃ y,P[j]? =some y:=⟨_,List.getElem?_eq_getElem (by rw[<-Ph.out];exact hj)⟩;refine⟨(csP.drop (j*7)).take 7,?_,fun t ht=>by rw[List.getElem?_take,if_pos ht,List.getElem?_drop]⟩;rw[hGG];refine⟨y,List.mem_cons_of_mem _ (List.mem_of_getElem? hy),(PP.out j y hy).mono (fun v h=>dO.below h.nf RD.out) fun t ht u hu=>?_⟩;rw[List.getElem?_take,if_pos ht,List.getElem?_drop];exact hu
   have G1:Hid (∀ (n:Nat) (cs:List Value),kN GG n cs->cs.length=n*7->∀ u∈cs,u.oneCell'=true):=hid fun n cs h hl=>Oc (Q:=x::P) (V:=V9) (by rw[hGG]at h;exact h) hl
   have TT9:Hid (∀ A,Below V9.heap.size V9 A->∀ B,Below A.heap.size A B->gO B):=hid fun A hA B hB=>TT.out A (Rv.out.trans (hA.mono Rv.out.size)) B hB
   have CL:Hid (∀ A,Below V9.heap.size V9 A->Calls Tryz.prog 34 #[.slice pa pm pc] A fun e w'=>∃ u,e=.returned u/\w'.ownsRow A.heap.size 46 7 u pm csP/\Below A.heap.size A w'):=hid fun A hA=>zF _ pm _ csP A (ag RP9.out hA) (G1.out _ _ GP.out RP9.out.1) (by omega)
   have CO5:Hid (∀ A u cs,Below V9.heap.size V9 A->A.ownsRow V9.heap.size 46 7 u (pm+1) cs->kN GG (pm+1) cs->Dm BL (pm+1) cs->Calls Tryz.prog 11 #[u,.int .i64 (-1)] A fun e w'=>∃ a0 c0 a1 c1 a2 c2,e=.returned (.tuple #[.agg #[.slice a0 0 c0,.slice a1 0 c1,.slice a2 0 c2],.int .i64 180])/\(Z0 w' (.slice a0 0 c0)/\Z0 w' (.slice a1 0 c1)/\Z0 w' (.slice a2 0 c2))/\Below A.heap.size A w'):=hid fun A u cs hA ho hg hb=>by
    obtain⟨ps,h1,h2,h3,h4⟩:=Oe (Q:=x::P) (bx:=x) (V:=V9) (W:=A) (n0:=V9.heap.size) (n:=pm+1) (u:=u) (cs:=cs) (bad:=BL) rfl hA ho (by rw[hGG]at hg;exact hg) hb PB.out (List.mem_cons_self ..) (by omega);refine zG (P:=ps) (Od (bx:=x) (by omega) h3 E3.out (-1)) (fun y hy=>?_) A u h4 (TT9.out A hA);rcases List.mem_cons.1 (h2 y hy)with rfl | h
    ·exact E4.out
    ·exact(PSM.out y h).2.1
   clear hBL hGG;refine aU (cR V9.heap.size GG BL) cR.drew (fun _ _ _ h k=>h.trans k) (by kernel_rfl) 12 [0,1,0,0,8,31,63,127,255,255,0,1535,4095] (fun i=>i==1 || i==4 || i==5 || i==6 || i==10 || i==11) (by kernel_rfl) (fun i=>if i=1 then qM.row V9.heap.size GG BL pm false else if i=4 then qM.lit V9.heap.size GG BL else if i=5 then qM.row V9.heap.size GG BL (pm+1) true else if i=6 then qM.out V9.heap.size GG BL 180 else if i=10 then qM.box V9.heap.size GG BL else aO.any _) ?_;intro C hC hne;have HC:=hid hC;have Ta:∀ W: {W//C W},ak W.1 wo.heap.size #[.slice none 0 0,.slice none 0 0,.slice b2 bn bc,.slice none 0 0,.bool false,.bool false,.int .i64 mk] 46:=fun W=>BB.out.below (((hC W.1).1 W.2).below (Nat.le_refl _)) BB.out.lt
   have f0:∀ W: {W//C W},W.1.cell? ⟨wo.heap.size,0,none⟩=some (.slice none 0 0):=fun W=>(Ta W).cell 0
   have f1:∀ W: {W//C W},W.1.cell? ⟨wo.heap.size,1,none⟩=some (.slice none 0 0):=fun W=>(Ta W).cell 1
   have f2:∀ W: {W//C W},W.1.cell? ⟨wo.heap.size,2,none⟩=some (.slice b2 bn bc):=fun W=>(Ta W).cell 2
   have f3:∀ W: {W//C W},W.1.cell? ⟨wo.heap.size,3,none⟩=some (.slice none 0 0):=fun W=>(Ta W).cell 3
   have f4:∀ W: {W//C W},W.1.cell? ⟨wo.heap.size,4,none⟩=some (.bool false):=fun W=>(Ta W).cell 4
   have f5:∀ W: {W//C W},W.1.cell? ⟨wo.heap.size,5,none⟩=some (.bool false):=fun W=>(Ta W).cell 5
   have f6:∀ W: {W//C W},W.1.cell? ⟨wo.heap.size,6,none⟩=some (.int .i64 mk):=fun W=>(Ta W).cell 6
   clear hC Ta
   repeat (refine ai (fun K hK=>?_);first | (refine br rfl ?_;try go_simp;refine hK _ _ ?_;clear hK K) | (refine aZ rfl rfl ?_;unfold ar;go_simp;refine hK _ _ ?_;clear hK K))
   refine ai (fun K hK=>?_);refine bA rfl rfl (qM.row V9.heap.size GG BL pm false) rfl (fun W hW hN=>?_) (fun v hv=>?_)
   ·have hM:=(HC.out W).1 hW
    clear hW;go_simp;refine aT ((CL.out W (hM.below (Nat.le_refl _))).mono ?_);rintro e w2 ⟨u,rfl,ho,hx⟩;exact⟨_,rfl,cR.l9 (aa.ah hx fun _ h=>h),ownsRow_form ho,⟨_,ax ho hM.keeps.size,GP.out,fun h=>by cases h⟩⟩
   obtain⟨ua,uc,rfl⟩:=hv;go_simp;refine hK _ _ ?_;clear hK K
   repeat (refine ai (fun K hK=>?_);first | (refine br rfl ?_;try go_simp;refine hK _ _ ?_;clear hK K) | (refine aZ rfl rfl ?_;unfold ar;go_simp;refine hK _ _ ?_;clear hK K))
   refine ai (fun K hK=>?_);refine bA rfl rfl (qM.lit V9.heap.size GG BL) rfl (fun W hW hN=>?_) (fun v hv=>?_)
   ·have hM:=(HC.out W).1 hW
    clear hW hK K;exact rh 25 46 _ rfl Tryz.underlying25 hiP QE QF (by decide) (by decide) #[.slice none 0 0,.slice none 0 0,.slice b2 bn bc,.slice none 0 0,.bool false,.bool false,.int .i64 mk] rfl rfl ⟨cR.l9 (aa.ah ((Ext.refl _).alloc _).below fun _ h=>h),⟨_,rfl⟩,fun b hb=>by cases hb;rw[BLA.out];exact⟨ak.new _ _ _,hM.keeps.size⟩⟩
   obtain⟨bl,rfl⟩:=hv;go_simp;refine hK _ _ ?_;clear hK K;refine ai (fun K hK=>?_);refine bA rfl rfl (qM.row V9.heap.size GG BL (pm+1) true) rfl (fun W hW hN=>?_) (fun v hv=>?_)
   ·have hM:=(HC.out W).1 hW
    obtain⟨l1,l2⟩:ak W bl BL.toArray 46/\V9.heap.size<=bl:=(hN.at 0 rfl (by kernel_rfl)) bl rfl;obtain⟨cs,r1,r2,_⟩:∃ cs,W.ownsRow V9.heap.size 46 7 (.slice ua pm uc) pm cs/\kN GG pm cs/\(false=true->Dm BL pm cs):=hN.at 1 rfl (by kernel_rfl);clear hW hN hK K;go_simp;refine aT ((Ob V9.heap.size pm i bl _ cs BL W r1 hM.keeps.size hip (by omega) l1 VT (G1.out _ _ r2 r1.1) BL1.out).mono ?_);rintro e w2 ⟨u,rfl,ho,hI⟩;obtain⟨y1,y2⟩:=Og r2 GB.out r1.1 VT hip;exact⟨_,rfl,cR.ins hI r1 GB.out VT hip,ownsRow_form ho,⟨_,ho,y1,fun _=>y2⟩⟩
   obtain⟨ia,ic,rfl⟩:=hv;go_simp;refine hK _ _ ?_;clear hK K;refine ai (fun K hK=>?_);refine bA rfl rfl (qM.out V9.heap.size GG BL 180) rfl (fun W hW hN=>?_) (fun v hv=>?_)
   ·have hM:=(HC.out W).1 hW
    obtain⟨cs,r1,r2,r3⟩:∃ cs,W.ownsRow V9.heap.size 46 7 (.slice ia (pm+1) ic) (pm+1) cs/\kN GG (pm+1) cs/\(true=true->Dm BL (pm+1) cs):=hN.at 0 rfl (by kernel_rfl);clear hW hN hK K;go_simp;refine aT ((CO5.out W _ cs (hM.below (Nat.le_refl _)) r1 r2 (r3 rfl)).mono ?_);rintro e w2 ⟨y0,d0,y1,d1,y2,d2,rfl,hz,hx⟩;exact⟨_,rfl,cR.l9 (aa.ah hx fun _ h=>h),⟨_,_,_,_,_,_,rfl⟩,fun v0 v1 v2 e=>by cases e;exact hz⟩
   obtain⟨y0,d0,y1,d1,y2,d2,rfl⟩:=hv;go_simp;refine hK _ _ ?_;clear hK K
   repeat (refine ai (fun K hK=>?_);first | (refine br rfl ?_;try go_simp;refine hK _ _ ?_;clear hK K) | (refine aZ rfl rfl ?_;unfold ar;go_simp;refine hK _ _ ?_;clear hK K))
   refine ai (fun K hK=>?_);refine bA rfl rfl (qM.box V9.heap.size GG BL) rfl (fun W hW hN=>?_) (fun v hv=>?_)
   ·have hM:=(HC.out W).1 hW
    have vU:=hM.keeps.size;clear hW hN hK K;go_simp;exact⟨cR.l9 (aa.ah ((Ext.refl _).alloc _).below fun _ h=>h),⟨_,rfl⟩,fun b hb=>by cases hb;exact⟨⟨_,_,_,ak.new _ _ _,.inl rfl,.inl rfl,.inl rfl⟩,vU⟩⟩
   obtain⟨bx,rfl⟩:=hv;go_simp;refine hK _ _ ?_;clear hK K;refine ai (fun K hK=>?_);refine bA rfl rfl (aO.any _) rfl (fun W hW hN=>?_) (fun v hv=>?_)
   ·obtain⟨⟨v0,v1,v2,hb,_⟩,y8⟩:ZB W bx/\V9.heap.size<=bx:=(hN.at 0 rfl (by kernel_rfl)) bx rfl
    obtain⟨z0,z1,z2⟩:Z0 W (.slice y0 0 d0)/\Z0 W (.slice y1 0 d1)/\Z0 W (.slice y2 0 d2):=(hN.at 1 rfl (by kernel_rfl)) _ _ _ rfl;clear hW hN hK K;obtain⟨⟨x0,x1,x2⟩,t0,t1,t2⟩:=hb.three;have BN:=hid (hb.tD (x':=.slice y0 0 d0) (y':=.slice y1 0 d1) (z':=.slice y2 0 d2));have MV:Hid (cR V9.heap.size GG BL W (((W.setCell ⟨bx,0,none⟩ (.slice y0 0 d0)).setCell ⟨bx,1,none⟩ (.slice y1 0 d1)).setCell ⟨bx,2,none⟩ (.slice y2 0 d2))):=hid (cR.put y8 (kC _ _ _ _ _) hb ⟨_,_,_,BN.out,z0.mono (kC _ bx _ _ _).size,z1.mono (kC _ bx _ _ _).size,z2.mono (kC _ bx _ _ _).size⟩);clear hb z0 z1 z2;go_simp;exact⟨MV.out,trivial,trivial⟩
   clear hv;go_simp;refine hK _ _ ?_;clear hK K;refine aY (fun W hW hH=>?_);have hM:=(HC.out W).1 hW;obtain⟨⟨v0,v1,v2,hb,z0,z1,z2⟩,y8⟩:ZB W bx/\V9.heap.size<=bx:=(hH _ (List.mem_of_getElem? (show _=some _ from rfl:_[1]? =some _))) bx rfl;have XW:=hid (hM.below (Nat.le_refl _));obtain⟨s0,u0,rfl⟩:=z0.form;obtain⟨s1,u1,rfl⟩:=z1.form;obtain⟨s2,u2,rfl⟩:=z2.form;have ZD:=hid (z0.df z1 z2);clear hM hW hH HC hne f0 f1 f2 f3 f4 f5 f6 z0 z1 z2 CL CO5 GP GB PB G1;obtain⟨⟨x0,x1,x2⟩,_⟩:=hb.three;go_wp2_with fail
   refine(eX _ _ ⟨[],[],[]⟩ ⟨[],[],[]⟩ W ZD.out.e (zH W).e zI).mono ?_;rintro e w8 ⟨rfl,hx⟩;rw[mO.2 rfl];have XB:=hid hx;clear hx x0 x1 x2 hb;go_wp2;go_roundw;case rel=>exact⟨k+1,by omega,by go_num,X9.out.trans ((XW.out.trans (XB.out.mono XW.out.size)).mono X9.out.size)⟩
   case measure=>simp[intOf];omega
  ·obtain rfl:k=3:=by omega
   clear aaC hk hlt hb2;have XVO:Hid (Below V.heap.size V wo):=hid (X8.out.trans (XO.out.mono X8.out.size));clear XO X8 XW8;obtain⟨m4,xr⟩:∃ m,m=max z 4001:=⟨_,rfl⟩;have afj:4000<m4:=by omega
   have q6:max z 4001=m4:=xr.symm;have q5:min z (-1)=m0:=HM0.out.symm;have RA:m0<0:=by rw[HM0.out];omega
   clear xr;have CO1:Hid (∀ f,(f<0\/4000<f)->∀ A,Below V.heap.size V A->Calls Tryz.prog 11 #[.slice pa pm pc,.int .i64 f] A fun e w'=>∃ a0 c0 a1 c1 a2 c2,e=.returned (.tuple #[.agg #[.slice a0 0 c0,.slice a1 0 c1,.slice a2 0 c2],.int .i64 2])/\(Z0 w' (.slice a0 0 c0)/\Z0 w' (.slice a1 0 c1)/\Z0 w' (.slice a2 0 c2))/\Below A.heap.size A w'):=hid fun f hf A hA=>zG (Rz Rs.out hf) (fun y hy=>(PSM.out y hy).2.1) A _ (OP4.out.below hA).Ul (TT.out A (X4.out.trans (hA.mono X4.out.size)))
   go_wp2_with fail
   refine(CO1.out m0 (.inl RA) wo XVO.out).mono ?_;rintro e w5 ⟨y0,d0,y1,d1,y2,d2,rfl,_,hx⟩;have X5:=hid (XVO.out.trans (hx.mono XVO.out.size));clear hx XVO;go_upto_region 16 with fail
   refine au ?_;intro V5 GZ;have Y5:Hid (Below V.heap.size V V5):=hid (X5.out.trans (by rw[GZ];exact((Ext.refl _).alloc _).below.mono X5.out.size));clear GZ X5;go_wp2_with fail
   refine(CO1.out m4 (.inr afj) V5 Y5.out).mono ?_;rintro e w6 ⟨y0,d0,y1,d1,y2,d2,rfl,_,hx⟩;have X6:=hid (Y5.out.trans (hx.mono Y5.out.size));clear hx Y5;go_upto_region 17 with fail
   refine au ?_;intro V6 SF;have Y6:Hid (Below V.heap.size V V6):=hid (X6.out.trans (by rw[SF];exact((Ext.refl _).alloc _).below.mono X6.out.size));clear SF X6 CO1;go_wp2_with (at_make;refine wpList_make_full _ rfl (.const (.int .i64 65)) (.const (.int .i64 65)) 25 rfl V6.heap.size 46 iP (.agg #[.slice none 0 0,.slice none 0 0,.slice none 0 0,.slice none 0 0,.bool false,.bool false,.int .i64 0]) 7 Tryz.underlying25 hiP QE QF .i64 .i64 _ _ 65 rfl rfl rfl rfl (by rw[U8];omega) (by unfold maxLen;omega) (Nat.le_refl _) ?_;intro w7 hr hg;refine Hid.out ?_);refine hid ?_;have Ht:dh w7 (.slice (some ⟨V6.heap.size,0,none⟩) 65 65) (List.replicate 65 zPT):=afe (by decide) hr;have Xz:Below V6.heap.size V6 w7:=(aa.aW hg fun x hx=>⟨hx,fun e=>by cases e⟩:aa (· <V6.heap.size) V6 w7).below;have X7:=hid (Y6.out.trans (Xz.mono Y6.out.size));have C65:=hid (zG (CD (ps:=List.replicate 65 zPT) (f:= -1) (by rw[List.length_replicate];omega)) (fun y hy=>by rw[(List.mem_replicate.1 hy).2];exact⟨by decide,by decide,by decide,by decide,fun _ h=>(by cases h)⟩) w7 _ Ht (TT.out w7 (X4.out.trans (X7.out.mono X4.out.size))));clear hr hg Xz Ht Y6;go_wp2_with fail
   refine(C65.out).mono ?_;rintro e w8 ⟨y0,d0,y1,d1,y2,d2,rfl,_,hx⟩;have X8:=hid (X7.out.trans (hx.mono X7.out.size));clear hx X7 C65;go_upto_region 18 with fail
   refine au ?_;intro V8b VS;have Y8:Hid (Below V.heap.size V V8b):=hid (X8.out.trans (by rw[VS];exact((Ext.refl _).alloc _).below.mono X8.out.size));clear VS X8;obtain⟨b0,b1,b2⟩:=aP.mN (BD.out.below Y8.out BD.out.lt);have rE1:kT d m0 []=(0,2):=by unfold kT;rw[if_neg (by rw[(cU d).2 RT.out];simp),if_pos (.inl RA)]
   go_wp2_with fail
   refine(mf _ (.slice none 0 0) d SD.out m0 [] (fun _ h=>by cases h) (Nat.zero_le _) V8b (Pj.out.below Y8.out).df (.inl ⟨rfl,rfl⟩)).mono ?_;rintro e w9 ⟨rfl,hx⟩;rw[rE1];have X9:=hid (Y8.out.trans (hx.mono Y8.out.size));clear hx Y8 b0 b1 b2 rE1;obtain⟨b0,b1,b2⟩:=aP.mN (BD.out.below X9.out BD.out.lt);obtain⟨m5,hm5⟩:∃ m,m=max z (n1:Int):=⟨_,rfl⟩;have aaF:(n1:Int)<=m5:=by omega
   have q7:max z (n1:Int)=m5:=hm5.symm;clear hm5;have rE2:kT d m5 [97]=(0,2):=by unfold kT;rw[if_neg (by rw[(cU d).2 RT.out];simp),if_pos (.inr (by rw[<-gS.out];exact aaF))]
   go_wp2_with fail
   refine(Dn _ d SD.out m5 97 (by decide) w9 (Pj.out.below X9.out).df).mono ?_;rintro e zT ⟨rfl,hx⟩;rw[rE2];have Xc:=hid (X9.out.trans (hx.mono X9.out.size));clear hx X9 b0 b1 b2 rE2;obtain⟨b0,b1,b2⟩:=aP.mN (BD.out.below Xc.out BD.out.lt);go_wp2_with fail
   refine(Ip _ d zT (Pj.out.below Xc.out).df SD.out).mono ?_;rintro e gQ ⟨u,rfl,ho,_,hx⟩;obtain⟨v0,v1,v2,rfl,h0,⟨us,u1,u2,u3⟩,⟨ms,t1,t2,t3⟩⟩:=ho;rw[<-j8.out]at h0;rw[u1, <-gS.out]at u2;rw[t1, <-kI.out]at t2;obtain⟨e0,g0,rfl⟩:=ownsRow_form h0;obtain⟨e1,g1,rfl⟩:=ownsRow_form u2;obtain⟨e2,g2,rfl⟩:=ownsRow_form t2;have H0:=hid h0;have U1:=hid u1;have U2:=hid u2;have U3:=hid u3;have T1:=hid t1;have T2:=hid t2;have T3:=hid t3;have X11:=hid (Xc.out.trans (hx.mono Xc.out.size));have afm:=hx.size;clear hx h0 u1 u2 u3 t1 t2 t3 b0 b1 b2;go_upto_region 23 with fail
   refine au ?_;intro V1 hV1;have BC:Hid (ak V1 gQ.heap.size #[.slice e0 n0 g0,.slice e1 n1 g1,.slice e2 n1 g2] 31):=hid (by rw[hV1];exact ak.new _ _ _);have XN:Hid (Below gQ.heap.size gQ V1):=hid (by rw[hV1];exact((Ext.refl _).alloc _).below);clear hV1;have Y1:Hid (Below V.heap.size V V1):=hid (X11.out.trans (XN.out.mono X11.out.size));obtain⟨na,Jo⟩:∃ x,x=n1-1:=⟨_,rfl⟩;have q8:IntKind.i64.wrap ((n1:Int)-1)=(na:Int):=by rw[IntWalk.i64_in _ (by omega)];omega
   have q9:((n1:Int)==0)=false:=by simp;omega
   have q10:((n0:Int)==0)=false:=by simp;omega
   have q11:(na:Int)<n1:=by omega
   have q12:(0:Int)<n0:=by omega
   have q13:0<n0:=by omega
   have VU:na<n1:=by omega
   obtain⟨l,hl⟩:∃ l,d.nx[na]? =some l:=⟨_,List.getElem?_eq_getElem (by rw[<-gS.out];exact VU)⟩;have JX:l.length=n0:=by have:=RT.out.len na (by rw[<-gS.out];exact VU);rw[getD_some hl]at this;rw[this,j8.out]
   obtain⟨ga,u,rfl,_,Cn,Kj,CU,_⟩:=eH (ag U2.out XN.out) VU;have hrow:=ag (U3.out na u l Kj hl) XN.out;rw[JX]at hrow;obtain⟨ra,rc,rfl⟩:=ownsRow_form hrow;obtain⟨gr,ur,rfl,hgr1,hgr2,_,Zt,hrf⟩:=eH hrow q13;have HL:=hid hl;have HLL:=hid JX;have HOU:=hid Kj;have VV:=hid hrow;clear Jo hl JX Kj hrow;obtain⟨d0,d1,d2⟩:=aP.mN BC.out;obtain⟨b0,b1,b2⟩:=aP.mN (BD.out.below Y1.out BD.out.lt);go_upto_region 25 with fail
   refine aA false (fun _=>False) (by kernel_rfl) 13 [0,1,0,4,12,28,63,127,0,0,512,1536,3840,8191,16383] (fun i=>i==14) (by kernel_rfl) (fun _=>aO.any _) ?_;intro C hC hne;have HC:=hid hC;have k1:=ay hC (p:=⟨gQ.heap.size,1,none⟩) BC.out.lt (fun h=>h) d1;have k2:=ay hC (p:=⟨w3.heap.size,1,none⟩) (Nat.lt_of_lt_of_le BD.out.lt Y1.out.size) (fun h=>h) b1;have k3:=ay hC (p:=⟨ga,na,none⟩) Cn (fun h=>h) CU;clear hC d0 d1 d2 b0 b1 b2
   repeat (refine ai (fun K hK=>?_);first | (refine br rfl ?_;try go_simp;refine hK _ _ ?_;clear hK K) | (refine aZ rfl rfl ?_;unfold ar;go_simp;refine hK _ _ ?_;clear hK K))
   refine aY (fun W hW hH=>?_);have hM:=(HC.out W).1 hW;have XW:=hid hM.below;have Zu:W.cell? ⟨gr,0,none⟩=some ur:=((aa.ah hM.below fun _ h=>h:aa (· <V1.heap.size) V1 W).cell (p:=⟨gr,0,none⟩) hgr2).trans Zt;have afo:W.frozen? ⟨gr,0,none⟩=false:=(ag VV.out hM.below).frozenAt 0;clear hM hW hH HC hne k1 k2 k3 Zt hrf CU;go_upto_region 26 with fail
   refine au ?_;intro W5 J3;have K5:aa (· ≠gr) W W5:=by rw[J3];exact(aa.refl _ _).setCell (p:=⟨gr,0,none⟩) (fun h=>h rfl) _
   obtain⟨L',p1',p2,p3,p4⟩:=xR (g:=gr) (w:=W) U1.out (fun i u l hu hl=>ag (ag (U3.out i u l hu hl) XN.out) XW.out) m5;obtain⟨M',r1,r2,r3,_⟩:=xR (g:=gr) (w:=W) T1.out (fun i u l hu hl=>ag (ag (T3.out i u l hu hl) XN.out) XW.out) m5;rw[<-J3]at p2 r2;clear J3 Zu afo;have XC:Hid (Below gQ.heap.size gQ W):=hid (XN.out.trans (XW.out.mono XN.out.size));have far:∀ {e:TypeId} {sz m:Nat} {v:Value} {xs:List Value},gQ.ownsRow zT.heap.size e sz v m xs->3≠e->W5.ownsRow zT.heap.size e sz v m xs:=fun h he=>ae (ag h XC.out) K5 fun x hx e2=>by
    rcases ownBlock_ne he (ag VV.out XW.out) (ag h XC.out)with h5 | h5
    ·cases h5
    ·exact h5 (by rw[hx,e2];rfl)
   have OX:Hid (aP zT.heap.size W5 (.agg #[.slice e0 n0 g0,.slice (some ⟨ga,0,none⟩) n1 g1,.slice e2 n1 g2]) ⟨d.cl,L',M'⟩):=hid ⟨_,_,_,rfl,by
    have:=far H0.out (by decide);rw[j8.out]at this ⊢
    exact this,⟨us,by rw[U1.out,p1'],by
    have:=far U2.out (by decide);rw[gS.out, <-U1.out]at this;rw[gS.out, <-U1.out];exact this,p2⟩,⟨ms,by rw[T1.out,r1],by
    have:=far T2.out (by decide);rw[kI.out, <-T1.out]at this;rw[kI.out, <-T1.out]
    exact this,r2⟩⟩
   have NR:Hid ((⟨d.cl,L',M'⟩:DF).right=false):=hid (JL (s:=na) (l:=l.set 0 m5) (z:=m5) (p4 na _ l HOU.out HL.out rfl) (by
    have hl0:0<l.length:=by rw[HLL.out];exact q13
    exact List.mem_of_getElem? (i:=0) (by rw[List.getElem?_set_self hl0])) (by show(L'.length:Int)<=m5;rw[p1', <-gS.out];exact aaF))
   have SX:Hid (Sm ⟨d.cl,L',M'⟩):=hid ⟨SD.out.cl,by show L'.length<=_;rw[p1'];exact SD.out.nx,by show M'.length<=_;rw[r1];exact SD.out.mr,fun q hq=>by
    obtain⟨j,hj⟩:=List.getElem?_of_mem hq;obtain⟨q0,hq0⟩:∃ q0,d.nx[j]? =some q0:=⟨_,List.getElem?_eq_getElem (by have:=(List.getElem?_eq_some_iff.1 hj).1;rw[<-p1'];exact this)⟩;obtain⟨q1,h1,h2⟩:=p3 j q0 hq0;rw[hj]at h1;cases h1;rw[h2];exact SD.out.vO _ (List.mem_of_getElem? hq0),fun q hq=>by
    obtain⟨j,hj⟩:=List.getElem?_of_mem hq;obtain⟨q0,hq0⟩:∃ q0,d.mr[j]? =some q0:=⟨_,List.getElem?_eq_getElem (by have:=(List.getElem?_eq_some_iff.1 hj).1;rw[<-r1];exact this)⟩;obtain⟨q1,h1,h2⟩:=r3 j q0 hq0;rw[hj]at h1;cases h1
    rw[h2];exact SD.out.PS _ (List.mem_of_getElem? hq0)⟩
   have air:zT.heap.size<=gr:=by have:=(VV.out.lt gr rfl).1;exact this
   have ame:V.heap.size<=zT.heap.size:=Xc.out.size;have Z5:Hid (Below V.heap.size V W5):=hid ((Y1.out.trans (XW.out.mono Y1.out.size)).trans (K5.mono fun x (hx:x<V.heap.size)=>by show x≠gr;omega:aa (· <V.heap.size) W W5).below);have hbg:gQ.heap.size≠gr:=fun e=>by
    have:=VV.out.lt gr rfl;have h2:=U3.out na _ l HOU.out HL.out;have h3:=(h2.lt gr rfl).2;omega
   have BX:Hid (ak W5 gQ.heap.size #[.slice e0 n0 g0,.slice (some ⟨ga,0,none⟩) n1 g1,.slice e2 n1 g2] 31):=hid ((BC.out.below XW.out BC.out.lt).keeps K5 hbg);clear p1' p2 p3 p4 r1 r2 r3 K5 far H0 U1 U2 U3 T1 T2 T3 XN Y1 BC XC XW Xc X11 VV HOU HL HLL q8 q9 q10 q11 q12;obtain⟨DX,hDX⟩:∃ D:DF,D=⟨d.cl,L',M'⟩:=⟨_,rfl⟩;rw[<-hDX]at OX NR SX;clear hDX;obtain⟨d0,d1,d2⟩:=aP.mN BX.out;go_wp2_with fail
   refine(zC _ DX SX.out 97 (by decide) W5 OX.out.df).mono ?_;rintro e w12 ⟨rfl,hx⟩;rw[NR.out];have A1:=hid hx;clear hx d0 d1 d2;obtain⟨d0,d1,d2⟩:=aP.mN (BX.out.below A1.out BX.out.lt);go_wp2_with fail
   refine(uY _ (.slice none 0 0) DX SX.out NR.out [] (fun _ h=>by cases h) (Nat.zero_le _) w12 (OX.out.below A1.out).df (.inl ⟨rfl,rfl⟩)).mono ?_;rintro e w13 ⟨rfl,hx⟩;have A2:=hid (A1.out.trans (hx.mono A1.out.size));clear hx d0 d1 d2 A1;obtain⟨d0,d1,d2⟩:=aP.mN (BX.out.below A2.out BX.out.lt);go_wp2_with fail
   refine(uX _ (.slice none 0 0) DX SX.out NR.out w13 (OX.out.below A2.out).df).mono ?_;rintro e WW ⟨rfl,hx⟩;have A3:=hid (A2.out.trans (hx.mono A2.out.size));clear hx d0 d1 d2 A2;obtain⟨d0,d1,d2⟩:=aP.mN (BX.out.below A3.out BX.out.lt);go_wp2_with fail
   refine(nA _ DX SX.out NR.out WW (OX.out.below A3.out).df).mono ?_;rintro e WY ⟨rfl,hx⟩;have A4:=hid (A3.out.trans (hx.mono A3.out.size));clear hx d0 d1 d2 A3;obtain⟨d0,d1,d2⟩:=aP.mN (BX.out.below A4.out BX.out.lt);go_wp2_with fail
   refine(Gc _ DX SX.out NR.out WY (OX.out.below A4.out).df).mono ?_;rintro e Ri ⟨rfl,hx⟩;have A5:=hid (A4.out.trans (hx.mono A4.out.size));clear hx d0 d1 d2 A4;go_upto_region 32 with fail
   refine au ?_;intro V7 DG;have BZ:Hid (ak V7 Ri.heap.size #[.slice none 0 0,.slice none 0 0,.slice none 0 0] 31):=hid (by rw[DG];exact(ak.new Ri _ _).alloc _);have BE:Hid (ak V7 (Ri.heap.size+1) #[.int .i64 182,.int .i64 182,.int .i64 182,.int .i64 182,.int .i64 182] 32):=hid (by rw[DG];exact(ak.new (Ri.alloc _) _ _).at (by simp));have XN:Hid (Below Ri.heap.size Ri V7):=hid (by rw[DG];exact(((Ext.refl Ri).alloc _).alloc _).below);clear DG;have A6:=hid (A5.out.trans (XN.out.mono A5.out.size));clear A5 XN;go_loopw [225] (fun iv wr=>∃ k:Nat,k<=5/\iv=.int .i64 k/\Below V7.heap.size V7 wr) (fun iv _=>5-(intOf iv).toNat);case atStart=>exact⟨0,by omega,rfl,Below.refl _ _⟩
   case round=>
    obtain⟨k,hk,rfl,hx⟩:=hrel;obtain⟨nB,rfl⟩:∃ nB:World,nB=wr:=⟨_,rfl⟩;have XO2:=hid hx;clear hx;by_cases hlt:k<5
    ·have ed:(k:Int)<5:=by omega
     have hc:nB.cell? ⟨Ri.heap.size+1,k,none⟩=some (.int .i64 182):=by rw[(BE.out.below XO2.out BE.out.lt).cell k];rcases(show k=0\/k=1\/k=2\/k=3\/k=4 by omega)with rfl | rfl | rfl | rfl | rfl<;>rfl
     go_wp2;go_roundw;case rel=>exact⟨k+1,by omega,by go_num,XO2.out⟩
     case measure=>simp[intOf];omega
    ·obtain rfl:k=5:=by omega
     have A7:=hid (A6.out.trans (XO2.out.mono A6.out.size));have Z7:=hid (BZ.out.below XO2.out BZ.out.lt);clear A6 XO2 BZ BE hk hlt;obtain⟨d0,d1,d2⟩:=aP.mN (BX.out.below A7.out BX.out.lt);go_wp2_with fail
     refine(nK _ DX nB (OX.out.below A7.out).df.e SX.out).mono ?_;rintro e w17 ⟨rfl,hx⟩;rw[NR.out];have A8:=hid (A7.out.trans (hx.mono A7.out.size));have Z8:=hid (Z7.out.below hx Z7.out.lt);clear hx d0 d1 d2 A7 Z7;obtain⟨d0,d1,d2⟩:=aP.mN Z8.out;go_wp2_with fail
     refine(eX _ _ ⟨[],[],[]⟩ ⟨[],[],[]⟩ w17 (zH w17).e (zH w17).e zI).mono ?_;rintro e w18 ⟨rfl,hx⟩;rw[mO.2 rfl];have A9:=hid (A8.out.trans (hx.mono A8.out.size));have ZF:=hid (Z5.out.trans (A9.out.mono Z5.out.size));clear hx d0 d1 d2 A8 Z8;obtain⟨d0,d1,d2⟩:=aP.mN (BD.out.below ZF.out BD.out.lt);go_wp2_with fail
     refine(nK _ d w18 (Pj.out.below ZF.out).df.e SD.out).mono ?_;rintro e w19 ⟨rfl,hx⟩;rw[(cU d).2 RT.out];have ZG:=hid (ZF.out.trans (hx.mono ZF.out.size));clear hx d0 d1 d2;go_wp2;go_ret;exact⟨rfl,X4.out.trans (ZG.out.mono X4.out.size)⟩
end Go.Proofs.YtbiboekhakbnpaaGreatDoor
