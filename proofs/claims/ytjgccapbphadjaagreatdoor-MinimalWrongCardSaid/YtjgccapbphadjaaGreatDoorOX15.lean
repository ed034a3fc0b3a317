/- minimal.Merge. Printed by wip/gen/mmerge.py. -/
import Derived.Test.YtjgccapbphadjaaGreatDoorOX14
set_option maxRecDepth 100000
set_option maxHeartbeats 16000000
open Go.Lib (hid)
open Go.Value renaming slice->An,tuple->AT,int->Bm,bool->C_,okWide->DP,agg->Ft
open Go.Proofs.Tryz renaming prog->As,results39->A',underlying22->By,underlying24->DS,results12->FG,results14->F_,results36->GB,ntmps33->GO,ntmps12->GS,ntmps14->GW,ntmps36->G_,ntmps39->G',func33->H_,func12->H',func14->If,func36->Is,func39->It
open Go.Ending renaming returned->AF
open Option renaming none->AI,map_eq_some_iff->D0,some->EV
open Go.Lib renaming hid->AM
open Go renaming bodyPost_ret->AN,World->Cd,Value->DH
open Go.Proofs.YtjgccapbphadjaaGreatDoor.Rows renaming minimalWrongRow->AS,minimalWrongSpec->D'
open Bool renaming true->A_,false->DE
open Go.IntKind renaming i64->Bs
open Go.RowKit renaming Hid->B_
open List renaming range->B',eq_nil_of_length_eq_zero->C',getElem?_eq_some_iff->DQ
open Nat renaming not_lt_zero->D_,eq_zero_or_pos->E_,zero_le->FF
namespace Go.Proofs.YtjgccapbphadjaaGreatDoor
section
open Go Go.ChangeShapes Go.WideShapes Go.ChangeAt Go.RowKit Go.Deep
section
variable {H:Type} {enc:TypeId×DH→H} {W:Cd}
theorem Fu {fuel:Nat} {a:Option Addr} {len cap:Nat} {y:DataW H×List MemPlace} (h:DataW.trod enc As W 0 (fun _=>A_) A_ fuel 22 [An a len cap]=EV y) (hz:∀ m∈y.1.weights As 22,m<=reachBytes): ∃ l:List (List (Nat×Nat×Nat)),Fs W (An a len cap) l/\l.length<=1000000000000000:=by
 have hb3:1<=As.bytesOf 116:=by
  have:As.bytesOf 116=24:=by kernel_rfl
  omega
 have h0:=h;have Tt:=rz By hb3 h0 hz;rcases open_slice By h with⟨hcs,_⟩ | ⟨a',len',cap',m,n,D,Pl,hcs,_,hl,hm,tX,hd,hi⟩
 ·have:An a len cap=An AI 0 0:=by simpa using hcs
  cases this
  exact⟨[],.inl ⟨AI,0,rfl,rfl⟩,by simp⟩
 ·have:An a len cap=An (EV a') len' cap':=by simpa using hcs
  cases this
  rcases E_ len with h1 | h1
  ·subst h1
   exact⟨[],.inl ⟨EV a',cap,rfl,rfl⟩,by simp⟩
  have hc:As.cellsOf 116=1:=by kernel_rfl
  rw[hc]at hi;rw[if_pos rfl]at tX;have hd1:y.1=.slice ((B' len).map D) ((B' (m-len)).map fun j=>D (len+j)):=congrArg Prod.fst hd;have hD:∀ i,i<len->∀ w∈(D i).weights As 116,w<=reachBytes:=fun i fT w hw=>by
   refine hz w ?_;rw[hd1];simp only[DataW.weights,By,List.mem_cons,List.mem_append];exact .inr (.inl (pq (List.mem_map.2 ⟨i,List.mem_range.2 fT,rfl⟩) w hw))
  obtain⟨b,off,spot⟩:=a';have el:∀ i,i<len->∃ s:List (Nat×Nat×Nat),s.length<=1000000000000000/\∃ u,dM W u s/\W.cell? ((⟨b,off,spot⟩:Addr).add (i*1))=EV u:=fun i fT=>by
   obtain⟨cs',h2,h3⟩:=hi i (by omega);obtain⟨_,ym,hat⟩:=World.cells?_some h2;match cs',ym with
   | [c0],_=>
   obtain⟨st,s0,sl⟩:=EG h3 (hD i fT);have g0:=hat 0 (by decide);have e:∀ A:Addr,A.add 0=A:=fun A=>by simp[Addr.add]
   rw[e]at g0;exact⟨st,sl,c0,s0,g0⟩
  have hspot:spot=none:=by obtain⟨s,_,u,_,g0⟩:=el 0 h1;simpa[Addr.add]using World.cell?_spot g0
  subst hspot;have hb:b<W.heap.size:=by
   obtain⟨s,_,u,_,g0⟩:=el 0 h1;rw[nC]at g0;exact vI g0
  obtain⟨L,hL⟩:=choose_lt (α:=List (Nat×Nat×Nat)) (p:=fun i s=>s.length<=1000000000000000/\∃ u,dM W u s/\W.cell? ⟨b,off+i,AI⟩=EV u) (n:=len) (fun i fT=>by
   obtain⟨s,q1,u,q2,g0⟩:=el i fT;rw[nC,Nat.mul_one]at g0
   exact⟨s,q1,u,q2,g0⟩)
  refine⟨(B' len).map L,.inr ⟨b,off,cap,by simp,hb,by simpa using hl,?_,fun i s hx=>?_⟩,by simpa using Tt⟩
  ·intro e
   have:=congrArg List.length e;simp at this;omega
  ·simp only[aN,D0,Ob]at hx
   obtain⟨k,⟨hk,rfl⟩,rfl⟩:=hx;simp at hk ⊢;exact hL i hk
theorem yw {r:Go.Reach} {b0:Nat} {v:DH} (j5:DP As W r b0 24 v):∃ a n c v1,v=Ft #[An a n c,v1]:=by
 simp only[DP,DS]at j5;obtain⟨cs,rfl,hsz,ts,Lk,_,hrow⟩:=j5;have e:As.cellTypes As.depth 24=EV [22,5]:=by kernel_rfl
 rw[e]at Lk;cases Lk;have hc:As.cellsOf 24=2:=by kernel_rfl
 rw[hc]at hsz;obtain⟨l⟩:=cs;match l,hsz with
 | [v0,v1],_=>
  obtain⟨u,hu,h⟩:=hrow 0 v0 rfl;cases hu;have h5:DP As W r b0 22 v0:=by simp only[DP,By];exact h
  obtain⟨a,n,c,rfl⟩:=okWide_slice By h5;exact⟨a,n,c,v1,rfl⟩
theorem Sw {r:Go.Reach} {v:DH} {d:DataW H} {p:List MemPlace} {b0:Nat} (j5:DP As W r b0 24 v) (h:DataW.Trod enc As W 0 (fun _=>A_) A_ 24 v d p) (hz:∀ m∈d.weights As 24,m<=reachBytes): ∃ (l:List (List (Nat×Nat×Nat))) (fl:Nat),rM W v l fl/\l.length<=1000000000000000/\fl<256:=by
 obtain⟨a,n,c,v1,rfl⟩:=yw j5;obtain⟨fuel,hf⟩:=h;obtain⟨y0,y1,k,e,_,t0,t1⟩:=trod_struct2 DS hf;replace t0:DataW.trod enc As W 0 (fun _=>A_) A_ k 22 [An a n c]=EV y0:=t0;replace t1:DataW.trod enc As W 0 (fun _=>A_) A_ k 5 [v1]=EV y1:=t1;have e1:d=.agg [y0.1,y1.1]:=congrArg Prod.fst e;subst e1
 obtain⟨l,s0,g0⟩:=Fu t0 (fun m hm=>hz m (by
  simp only[DataW.weights,DS]
  exact DataW.weights_mem_each (j:=0) (ds:=[y0.1,y1.1]) rfl rfl m hm))
 obtain⟨fl,rfl,oW⟩:=rA Tryz.underlying5 t1;exact⟨l,fl,⟨_,rfl,s0⟩,g0,oW⟩
end
end
section
open Go
theorem Nk {P:Program} {f:FuncId} {fn:Func} {s:ChangeSpec} {c:OpenClaim} (k1:(c.wf (OpenSpec.ofChange s))=A_) (k2:(laidOutB P)=A_) (k3:(mapsRowed P)=A_) (k4:(fn.params.all (P.readableRec ·))=A_) (k5:(namedTie P c.named s.vars)=A_) (k6:(c.stops== [])=A_) (k7:(P.stops== [])=A_) (k8:(c.knobs== [])=A_) (k9:(P.stopKnobs== [])=A_) (k10:(c.inPlace==P.inPlace f)=A_) (k11:(c.unfollowed==P.unfollowed f)=A_) (k12:(c.recurses==P.recurses f)=A_) (k13:(c.named==P.varsNamed f)=A_) (k14:(c.maps==(fn.params.toList++s.plain.varTypes P).any (P.mapsRec ·))=A_) (k15:(c.ifaces==(fn.params.toList++s.plain.varTypes P).any (P.ifacesRec ·))=A_) (k16:(c.mapsOut==P.mapsAmong fn.resultTypes.toList)=A_) (k17:(c.loops==(fn.params.toList++s.plain.varTypes P).any (P.loopsFrom ·))=A_) (aiB:(c.wideKeys==(fn.params.toList++s.plain.varTypes P++fn.resultTypes.toList).any (P.wideKeysFrom ·))=A_) (k18:(s.vars.all (P.varReadable ·))=A_) (k19:(fn.resultTypes.all (fun t=>P.readableRec t&&decide (t<P.types.size)))=A_) (k20:(c.ifacesOut==fn.resultTypes.toList.any (P.ifacesRec ·))=A_) (k21:(c.loopsOut==fn.resultTypes.toList.any (P.loopsFrom ·))=A_) (k22:(c.plainKeys==P.plainKeys)=A_) (k23:c.shortTexts.isNone=A_) (aiC:P.stopsHeard=A_) (k24:P.mayEnter=A_) (aiD:(c.lifted==P.liftsFinal)=A_) (aiE:(P.make==EV c.make)=A_) (k25:(c.kinds==(if c.domain.isEmpty then []else fn.params.toList.map fun t=>match P.underlying t with | some (.int k)=>EV k | _=>AI))=A_) (k26:(c.pinned==c.pinnedBy)=A_) (k27:(c.veiled==(fn.params.toList++s.plain.varTypes P++fn.resultTypes.toList).any (P.veiledRec ·))=A_) (k28:(c.veiledFits P fn.params.toList (fn.params.toList++s.plain.varTypes P++fn.resultTypes.toList))=A_):joinedFacts P f fn s c=true:=by unfold joinedFacts;simp only[Bool.and_eq_true];exact⟨⟨⟨⟨⟨⟨⟨⟨⟨⟨⟨⟨⟨⟨⟨⟨⟨⟨⟨⟨⟨⟨⟨⟨⟨⟨⟨⟨⟨⟨⟨k1,k2⟩,k3⟩,k4⟩,k5⟩,k6⟩,k7⟩,k8⟩,k9⟩,k10⟩,k11⟩,k12⟩,k13⟩,k14⟩,k15⟩,k16⟩,k17⟩,aiB⟩,k18⟩,k19⟩,k20⟩,k21⟩,k22⟩,k23⟩,aiC⟩,k24⟩,aiD⟩,aiE⟩,k25⟩,k26⟩,k27⟩,k28⟩
theorem I8:(AS.wf (OpenSpec.ofChange D'))=true:=by kernel_rfl
theorem I9:(laidOutB As)=true:=by kernel_rfl
theorem Ja:(mapsRowed As)=true:=by kernel_rfl
theorem Fv:((AS.inPlace==As.inPlace 6))=true:=by kernel_rfl
theorem Fw:((AS.unfollowed==As.unfollowed 6))=true:=by kernel_rfl
theorem Fx:((AS.recurses==As.recurses 6))=true:=by kernel_rfl
theorem Fy:((AS.named==As.varsNamed 6))=true:=by kernel_rfl
theorem BU:(As.stopsHeard)=true:=by kernel_rfl
theorem Fz:(As.mayEnter)=true:=by kernel_rfl
theorem Ca:((AS.lifted==As.liftsFinal))=true:=by kernel_rfl
theorem Cb:((As.make==EV AS.make))=true:=by kernel_rfl
theorem xo:joinedFacts As 6 Tryz.f6 D' AS=true:=Nk I8 I9 Ja (by kernel_rfl) (by kernel_rfl) (by kernel_rfl) (by kernel_rfl) (by kernel_rfl) (by kernel_rfl) Fv Fw Fx Fy (by kernel_rfl) (by kernel_rfl) (by kernel_rfl) (by kernel_rfl) (by kernel_rfl) (by kernel_rfl) (by kernel_rfl) (by kernel_rfl) (by kernel_rfl) (by kernel_rfl) (by kernel_rfl) BU Fz Ca Cb (by kernel_rfl) (by kernel_rfl) (by kernel_rfl) (by kernel_rfl)
end
section
open Go Go.RowKit Go.Shelf Go.Maps
theorem Sx (a1 a2:Option Addr) (c1 c2:Nat) (w:Cd):ah 33 #[An a1 0 c1,An a2 0 c2] w fun e w'=>e=AF (C_ A_)/\Ext w w':=by
 go_enter H_,GO
 go_wp2;go_loopw [13] (fun i wr=>i=Bm Bs 0/\Ext w wr) (fun _ _=>0);case atStart=>exact⟨rfl,Ext.refl _⟩
 case round=>
  obtain⟨rfl,hx⟩:=hrel;obtain⟨wo,rfl⟩:=ag (wr:Cd);have HX:=AM hx;clear hx;go_wp2;go_ret;exact⟨rfl,HX⟩
theorem Vx {α:Type} [BEq α] [LawfulBEq α] {l1 l2:List α} (h:l1.length≠l2.length):(l1==l2)=false:=by rw[beq_eq_false_iff_ne];intro e;exact h (by rw[e])
theorem Sy (a1 a2:Option Addr) (n m c1 c2:Nat) (h:n≠m) (w:Cd):ah 33 #[An a1 n c1,An a2 m c2] w fun e w'=>e=AF (C_ DE)/\Ext w w':=by
 have d1:((n:Int)==m)=false:=by rw[beq_eq_false_iff_ne];omega
 have d2:((n:Int) != m)=true:=by rw[bne_iff_ne];omega
 have d3:¬ (n:Int)=m:=by omega
 go_enter H_,GO
 go_wp2;go_ret;exact⟨rfl,Ext.refl _⟩
theorem zV (v1 v2:DH) (l1 l2:List Int) (w:Cd) (h1:km aG w v1 l1) (h2:km aG w v2 l2) (hn:l1.length<=1000000): ah 33 #[v1,v2] w fun e w'=>e=AF (C_ (l1==l2))/\Ext w w':=by
 by_cases hl:l1.length=l2.length
 ·rcases E_ l1.length with h0 | h0
  ·have e1:=C' h0
   have e2:=C' (hl▸h0);subst e1 e2;obtain⟨a1,c1,rfl⟩:=h1.form;obtain⟨a2,c2,rfl⟩:=h2.form;exact Sx a1 a2 c1 c2 w
  ·have g1:bw aG w v1 l1:=by
    rcases h1 with h | ⟨h,_⟩
    ·exact h
    ·rw[h]at h0;exact absurd h0 (by simp)
   have g2:bw aG w v2 l2:=by
    rcases h2 with h | ⟨h,_⟩
    ·exact h
    ·rw[h]at hl;simp at hl;rw[hl]at h0;exact absurd h0 (by simp)
   exact s6 v1 v2 l1 l2 w g1 g2 hn
 ·rw[Vx hl]
  obtain⟨a1,c1,rfl⟩:=h1.form;obtain⟨a2,c2,rfl⟩:=h2.form;exact Sy _ _ _ _ _ _ hl w
theorem eW {d:DF} (rt:Rt d) (v:DH) (W:Cd) (h:bV W v d):ah 16 #[v] W fun e w'=>e=AF (C_ A_)/\aa W w':=by have:=r9 v d W h rt.Rh;rwa[(cX d).2 rt]at this
theorem eA {d:DF} (sm:Sm d) (hr:d.right=DE) (v:DH) (W:Cd) (h:bV W v d):ah 16 #[v] W fun e w'=>e=AF (C_ DE)/\aa W w':=by have:=r9 v d W h sm;rwa[hr]at this
theorem Nl {d:DF} (sm:Sm d) (hr:d.right=DE) (w:Cd) (v:DH) (h:bV w v d): ah 12 #[v] w fun e w'=>e=AF (AT #[Ft #[An AI 0 0,An AI 0 0,An AI 0 0],Bm Bs 182])/\aa w w':=by
 have CR:B_ (∀ W,aa w W->ah 16 #[v] W fun e w'=>e=AF (C_ DE)/\aa W w'):=AM fun W hW=>eA sm hr v W (h.below hW)
 obtain⟨n0,bX⟩:=ag d.cl.length;obtain⟨n1,cM⟩:=ag d.nx.length;obtain⟨n2,dP⟩:=ag d.mr.length;obtain⟨a0,c0,a1,c1,a2,c2,rfl⟩:=h.form;rw[<-bX, <-cM, <-dP]at h CR ⊢;have H:=AM h;have gS:=AM cM;clear h bX cM dP;go_enter H',GS;go_upto_region 1 with fail
 refine aw ?_;intro V hV;have B0:B_ (ar V w.heap.size #[An a0 n0 c0,An a1 n1 c1,An a2 n2 c2] 29):=AM (by rw[hV];exact(ar.new w _ _).alloc _);have R0:B_ (ar V (w.heap.size+1) #[An AI 0 0,An AI 0 0,An AI 0 0] 29):=AM (by rw[hV];exact(ar.new (w.alloc _) _ _).at (by simp));have X0:B_ (aa w V):=AM (by rw[hV];exact(((Ext.refl w).alloc _).alloc _).below);clear hV;obtain⟨p0,p1,p2⟩:=aM.fj B0;go_wp2_with fail
 refine(CR V X0).mono ?_;rintro e w1 ⟨rfl,hx⟩;have B1:=AM (B0.below hx B0.lt);have R1:=AM (R0.below hx R0.lt);have hV1:w.heap.size+1<V.heap.size:=R0.lt;have hW1:V.heap.size<=w1.heap.size:=hx.size;have X1:=AM (X0.trans (hx.mono X0.size));clear hx p0 p1 p2 B0 X0 CR R0;obtain⟨⟨l0,l1,l2⟩,z0,z1,z2⟩:=R1.three;go_wp2;refine aQ ?_;intro W9 dG;have E9:B_ (ar W9 (w.heap.size+1) #[An AI 0 0,An AI 0 0,An AI 0 0] 29/\ae (· ≠w.heap.size+1) w1 W9):=by rw[dG];exact AM ⟨R1.mG,cY _ _ _ _ _⟩
 clear dG z0 z1 z2 l0 l1 l2;obtain⟨m0,m1,m2⟩:=aM.fj E9.1;refine AN (v:=AT #[Ft #[An AI 0 0,An AI 0 0,An AI 0 0],Bm Bs 182]) (by simp[results,FG,go_sem,m0,m1,m2]) rfl ⟨rfl,X1.trans (E9.2.mono fun x (hx:x<w.heap.size)=>by show x≠w.heap.size+1;omega:ae (· <w.heap.size) w1 W9).below⟩
theorem FC {d:DF} (sm:Sm d) (hr:d.right=DE) (w:Cd) (v:DH) (h:bV w v d): ah 13 #[v] w fun e w'=>e=AF (AT #[C_ DE,Bm Bs 182])/\aa w w':=by
 have CR:B_ (∀ W,aa w W->ah 16 #[v] W fun e w'=>e=AF (C_ DE)/\aa W w'):=AM fun W hW=>eA sm hr v W (h.below hW)
 obtain⟨n0,bX⟩:=ag d.cl.length;obtain⟨n1,cM⟩:=ag d.nx.length;obtain⟨n2,dP⟩:=ag d.mr.length;obtain⟨a0,c0,a1,c1,a2,c2,rfl⟩:=h.form;rw[<-bX, <-cM, <-dP]at h CR ⊢;have H:=AM h;have gS:=AM cM;clear h bX cM dP;go_enter Tryz.func13,Tryz.ntmps13;go_upto_region 1 with fail
 refine aw ?_;intro V hV;have B0:B_ (ar V w.heap.size #[An a0 n0 c0,An a1 n1 c1,An a2 n2 c2] 29):=AM (by rw[hV];exact ar.new w _ _);have X0:B_ (aa w V):=AM (by rw[hV];exact((Ext.refl w).alloc _).below);clear hV;obtain⟨p0,p1,p2⟩:=aM.fj B0;go_wp2_with fail
 refine(CR V X0).mono ?_;rintro e w1 ⟨rfl,hx⟩;have B1:=AM (B0.below hx B0.lt);have X1:=AM (X0.trans (hx.mono X0.size));clear hx p0 p1 p2 B0 X0 CR;go_wp2;refine AN (v:=AT #[C_ DE,Bm Bs 182]) (by simp[results,Tryz.results13,go_sem]) rfl ⟨rfl,X1⟩
theorem Sz {d:DF} (sm:Sm d) (hr:d.right=DE) (w:Cd) (v:DH) (h:bV w v d): ah 14 #[v] w fun e w'=>e=AF (AT #[Bm Bs 0,Bm Bs 0,Bm Bs 182])/\aa w w':=by
 have CR:B_ (∀ W,aa w W->ah 16 #[v] W fun e w'=>e=AF (C_ DE)/\aa W w'):=AM fun W hW=>eA sm hr v W (h.below hW)
 obtain⟨n0,bX⟩:=ag d.cl.length;obtain⟨n1,cM⟩:=ag d.nx.length;obtain⟨n2,dP⟩:=ag d.mr.length;obtain⟨a0,c0,a1,c1,a2,c2,rfl⟩:=h.form;rw[<-bX, <-cM, <-dP]at h CR ⊢;have H:=AM h;have gS:=AM cM;clear h bX cM dP;go_enter If,GW;go_upto_region 1 with fail
 refine aw ?_;intro V hV;have B0:B_ (ar V w.heap.size #[An a0 n0 c0,An a1 n1 c1,An a2 n2 c2] 29):=AM (by rw[hV];exact ar.new w _ _);have X0:B_ (aa w V):=AM (by rw[hV];exact((Ext.refl w).alloc _).below);clear hV;obtain⟨p0,p1,p2⟩:=aM.fj B0;go_wp2_with fail
 refine(CR V X0).mono ?_;rintro e w1 ⟨rfl,hx⟩;have B1:=AM (B0.below hx B0.lt);have X1:=AM (X0.trans (hx.mono X0.size));clear hx p0 p1 p2 B0 X0 CR;go_wp2;refine AN (v:=AT #[Bm Bs 0,Bm Bs 0,Bm Bs 182]) (by simp[results,F_,go_sem]) rfl ⟨rfl,X1⟩
theorem FD {d:DF} (sm:Sm d) (hr:d.right=DE) (w:Cd) (v:DH) (h:bV w v d): ah 40 #[v] w fun e w'=>e=AF (AT #[An AI 0 0,Bm Bs 182])/\aa w w':=by
 have CR:B_ (∀ W,aa w W->ah 16 #[v] W fun e w'=>e=AF (C_ DE)/\aa W w'):=AM fun W hW=>eA sm hr v W (h.below hW)
 obtain⟨n0,bX⟩:=ag d.cl.length;obtain⟨n1,cM⟩:=ag d.nx.length;obtain⟨n2,dP⟩:=ag d.mr.length;obtain⟨a0,c0,a1,c1,a2,c2,rfl⟩:=h.form;rw[<-bX, <-cM, <-dP]at h CR ⊢;have H:=AM h;have gS:=AM cM;clear h bX cM dP;go_enter Tryz.func40,Tryz.ntmps40;go_upto_region 1 with fail
 refine aw ?_;intro V hV;have B0:B_ (ar V w.heap.size #[An a0 n0 c0,An a1 n1 c1,An a2 n2 c2] 29):=AM (by rw[hV];exact ar.new w _ _);have X0:B_ (aa w V):=AM (by rw[hV];exact((Ext.refl w).alloc _).below);clear hV;obtain⟨p0,p1,p2⟩:=aM.fj B0;go_wp2_with fail
 refine(CR V X0).mono ?_;rintro e w1 ⟨rfl,hx⟩;have B1:=AM (B0.below hx B0.lt);have X1:=AM (X0.trans (hx.mono X0.size));clear hx p0 p1 p2 B0 X0 CR;go_wp2;refine AN (v:=AT #[An AI 0 0,Bm Bs 182]) (by simp[results,Tryz.results40,go_sem]) rfl ⟨rfl,X1⟩
theorem Jb {d:DF} (sm:Sm d) (hr:d.right=DE) (w:Cd) (v:DH) (h:bV w v d): ah 36 #[v] w fun e w'=>e=AF (AT #[An AI 0 0,Bm Bs 182])/\aa w w':=by
 have CR:B_ (∀ W,aa w W->ah 16 #[v] W fun e w'=>e=AF (C_ DE)/\aa W w'):=AM fun W hW=>eA sm hr v W (h.below hW)
 obtain⟨n0,bX⟩:=ag d.cl.length;obtain⟨n1,cM⟩:=ag d.nx.length;obtain⟨n2,dP⟩:=ag d.mr.length;obtain⟨a0,c0,a1,c1,a2,c2,rfl⟩:=h.form;rw[<-bX, <-cM, <-dP]at h CR ⊢;have H:=AM h;have gS:=AM cM;clear h bX cM dP;go_enter Is,G_;go_upto_region 1 with fail
 refine aw ?_;intro V hV;have B0:B_ (ar V w.heap.size #[An a0 n0 c0,An a1 n1 c1,An a2 n2 c2] 29):=AM (by rw[hV];exact ar.new w _ _);have X0:B_ (aa w V):=AM (by rw[hV];exact((Ext.refl w).alloc _).below);clear hV;obtain⟨p0,p1,p2⟩:=aM.fj B0;go_wp2_with fail
 refine(CR V X0).mono ?_;rintro e w1 ⟨rfl,hx⟩;have B1:=AM (B0.below hx B0.lt);have X1:=AM (X0.trans (hx.mono X0.size));clear hx p0 p1 p2 B0 X0 CR;go_wp2;refine AN (v:=AT #[An AI 0 0,Bm Bs 182]) (by simp[results,GB,go_sem]) rfl ⟨rfl,X1⟩
theorem Nn {d:DF} (rt:Rt d) {k0 k1 k2:Nat} (rS:k0=(dJ d).cl.length) (mj:k1=(dJ d).nx.length) (hk2:k2=(dJ d).mr.length) (w:Cd) (v:DH) (h:bV w v d): ah 12 #[v] w (rD k0 k1 k2 0 (dJ d) w):=by
 have CR:B_ (∀ W,aa w W->ah 16 #[v] W fun e w'=>e=AF (C_ A_)/\aa W w'):=AM fun W hW=>eW rt v W (h.below hW)
 have CL:B_ (∀ W,aa w W->ah 62 #[v] W (zT k0 k1 k2 (dJ d) W)):=AM fun W hW=>xj rt rS mj hk2 W v (h.below hW)
 obtain⟨n0,bX⟩:=ag d.cl.length;obtain⟨n1,cM⟩:=ag d.nx.length;obtain⟨n2,dP⟩:=ag d.mr.length;obtain⟨a0,c0,a1,c1,a2,c2,rfl⟩:=h.form;rw[<-bX, <-cM, <-dP]at h CR CL ⊢;have H:=AM h;have gS:=AM cM;clear h bX cM dP rS mj hk2;go_enter H',GS;go_upto_region 1 with fail
 refine aw ?_;intro V hV;have B0:B_ (ar V w.heap.size #[An a0 n0 c0,An a1 n1 c1,An a2 n2 c2] 29):=AM (by rw[hV];exact(ar.new w _ _).alloc _);have R0:B_ (ar V (w.heap.size+1) #[An AI 0 0,An AI 0 0,An AI 0 0] 29):=AM (by rw[hV];exact(ar.new (w.alloc _) _ _).at (by simp));have X0:B_ (aa w V):=AM (by rw[hV];exact(((Ext.refl w).alloc _).alloc _).below);clear hV;obtain⟨p0,p1,p2⟩:=aM.fj B0;go_wp2_with fail
 refine(CR V X0).mono ?_;rintro e w1 ⟨rfl,hx⟩;have B1:=AM (B0.below hx B0.lt);have R1:=AM (R0.below hx R0.lt);have hV1:w.heap.size+1<V.heap.size:=R0.lt;have hW1:V.heap.size<=w1.heap.size:=hx.size;have X1:=AM (X0.trans (hx.mono X0.size));clear hx p0 p1 p2 B0 X0 CR R0;obtain⟨p0,p1,p2⟩:=aM.fj B1;go_wp2_with fail
 refine(CL w1 X1).mono ?_;rintro e w2 ⟨x0,y0,x1,y1,x2,y2,rfl,ho,hx⟩;have O2:=AM ho;have R2:=AM (R1.below hx R1.lt);have X2:=AM (X1.trans (hx.mono X1.size));clear ho hx p0 p1 p2 B1 R1 X1 CL;obtain⟨⟨l0,l1,l2⟩,z0,z1,z2⟩:=R2.three;go_wp2;refine aQ ?_;intro W9 dG;have E9:B_ (ar W9 (w.heap.size+1) #[An x0 k0 y0,An x1 k1 y1,An x2 k2 y2] 29/\ae (· ≠w.heap.size+1) w2 W9):=by
  rw[dG];exact AM ⟨R2.mG,cY _ _ _ _ _⟩
 clear dG z0 z1 z2 l0 l1 l2;obtain⟨m0,m1,m2⟩:=aM.fj E9.1;refine AN (v:=AT #[Ft #[An x0 k0 y0,An x1 k1 y1,An x2 k2 y2],Bm Bs 0]) (by simp[results,FG,go_sem,m0,m1,m2]) rfl ⟨x0,y0,x1,y1,x2,y2,rfl,(O2.keeps E9.2 fun x h1 _=>by show x≠_;omega).base (by omega),X2.trans (E9.2.mono fun x (hx:x<w.heap.size)=>by show x≠w.heap.size+1;omega:ae (· <w.heap.size) w2 W9).below⟩
theorem SF {d:DF} (rt:Rt d) {k0 k1 k2:Nat} (rS:k0=(dJ d).cl.length) (mj:k1=(dJ d).nx.length) (hk2:k2=(dJ d).mr.length) (w:Cd) (v:DH) (h:bV w v d): ah 14 #[v] w fun e w'=>e=AF (AT #[Bm Bs k1,Bm Bs k0,Bm Bs 0])/\aa w w':=by
 have CR:B_ (∀ W,aa w W->ah 16 #[v] W fun e w'=>e=AF (C_ A_)/\aa W w'):=AM fun W hW=>eW rt v W (h.below hW)
 have CL:B_ (∀ W,aa w W->ah 62 #[v] W (zT k0 k1 k2 (dJ d) W)):=AM fun W hW=>xj rt rS mj hk2 W v (h.below hW)
 obtain⟨n0,bX⟩:=ag d.cl.length;obtain⟨n1,cM⟩:=ag d.nx.length;obtain⟨n2,dP⟩:=ag d.mr.length;obtain⟨a0,c0,a1,c1,a2,c2,rfl⟩:=h.form;rw[<-bX, <-cM, <-dP]at h CR CL ⊢;have H:=AM h;have gS:=AM cM;clear h bX cM dP rS mj hk2;go_enter If,GW;go_upto_region 1 with fail
 refine aw ?_;intro V hV;have B0:B_ (ar V w.heap.size #[An a0 n0 c0,An a1 n1 c1,An a2 n2 c2] 29):=AM (by rw[hV];exact ar.new w _ _);have X0:B_ (aa w V):=AM (by rw[hV];exact((Ext.refl w).alloc _).below);clear hV;obtain⟨p0,p1,p2⟩:=aM.fj B0;go_wp2_with fail
 refine(CR V X0).mono ?_;rintro e w1 ⟨rfl,hx⟩;have B1:=AM (B0.below hx B0.lt);have X1:=AM (X0.trans (hx.mono X0.size));clear hx p0 p1 p2 B0 X0 CR;obtain⟨⟨p0,p1,p2⟩,z0,z1,z2⟩:=B1.three;go_wp2_with fail
 refine(CL w1 X1).mono ?_;rintro e w2 ⟨x0,y0,x1,y1,x2,y2,rfl,ho,hx⟩;have B2:=AM (B1.below hx B1.lt);have X2:=AM (X1.trans (hx.mono X1.size));clear ho hx p0 p1 p2 z0 z1 z2 B1 X1 CL;obtain⟨⟨p0,p1,p2⟩,z0,z1,z2⟩:=B2.three;go_upto_region 4 with fail
 refine aw ?_;intro V3 hV;have KV:B_ (ae (· ≠w.heap.size) w2 V3):=AM (by rw[hV];exact cY _ _ _ _ _);have B3:B_ (ar V3 w.heap.size #[An x0 k0 y0,An x1 k1 y1,An x2 k2 y2] 29):=AM (by rw[hV];exact B2.mG);clear hV p0 p1 p2 z0 z1 z2;have X3:B_ (aa w V3):=AM (X2.trans (KV.mono fun x (hx:x<w.heap.size)=>by show x≠w.heap.size;omega:ae (· <w.heap.size) w2 V3).below);obtain⟨p0,p1,p2⟩:=aM.fj B3
 go_quiet (fail)
 go_wp2;exact AN (v:=AT #[Bm Bs k1,Bm Bs k0,Bm Bs 0]) (by simp[results,F_,go_sem]) rfl ⟨rfl,((ae.aj X3 fun _ h=>h:ae (· <w.heap.size) w V3).drewN _).below⟩
theorem xp {d:DF} (rt:Rt d) (w:Cd) (v:DH) (h:bV w v d): ah 36 #[v] w fun e w'=>∃ a c,e=AF (AT #[An a d.nx.length c,Bm Bs 0])/\w'.ownsRow w.heap.size 3 1 (An a d.nx.length c) d.nx.length ((B' d.nx.length).map fun s=>cK (fS d s))/\aa w w':=by
 have CR:B_ (∀ W,aa w W->ah 16 #[v] W fun e w'=>e=AF (C_ A_)/\aa W w'):=AM fun W hW=>eW rt v W (h.below hW)
 have CL:B_ (∀ W,aa w W->ah 79 #[v] W fun e w'=>∃ u,e=AF u/\w'.ownsRow W.heap.size 3 1 u d.nx.length ((B' d.nx.length).map fun s=>cK (fS d s))/\aa W w'):=AM fun W hW=>xd v d rt W (h.below hW)
 obtain⟨n0,bX⟩:=ag d.cl.length;obtain⟨n1,cM⟩:=ag d.nx.length;obtain⟨n2,dP⟩:=ag d.mr.length;obtain⟨a0,c0,a1,c1,a2,c2,rfl⟩:=h.form;rw[<-bX, <-cM, <-dP]at h CR CL ⊢;have H:=AM h;have gS:=AM cM;obtain⟨R,hR⟩:=ag ((B' n1).map fun s=>cK (fS d s));rw[<-hR]at CL ⊢;clear h bX cM dP hR;go_enter Is,G_;go_upto_region 1 with fail
 refine aw ?_;intro V hV;have B0:B_ (ar V w.heap.size #[An a0 n0 c0,An a1 n1 c1,An a2 n2 c2] 29):=AM (by rw[hV];exact ar.new w _ _);have X0:B_ (aa w V):=AM (by rw[hV];exact((Ext.refl w).alloc _).below);clear hV;obtain⟨p0,p1,p2⟩:=aM.fj B0;go_wp2_with fail
 refine(CR V X0).mono ?_;rintro e w1 ⟨rfl,hx⟩;have B1:=AM (B0.below hx B0.lt);have X1:=AM (X0.trans (hx.mono X0.size));clear hx p0 p1 p2 B0 X0 CR;obtain⟨p0,p1,p2⟩:=aM.fj B1;go_wp2_with fail
 refine(CL w1 X1).mono ?_;rintro e w2 ⟨u,rfl,ho,hx⟩;obtain⟨ua,uc,rfl⟩:=ownsRow_form ho;have O2:=AM (aC ho X1.size);have X2:=AM (X1.trans (hx.mono X1.size));clear ho hx p0 p1 p2 B1 X1 CL;go_wp2;exact AN (v:=AT #[An ua n1 uc,Bm Bs 0]) (by simp[results,GB,go_sem]) rfl ⟨ua,uc,rfl,O2,X2⟩
def iH (l:List Int) (s:Nat):Nat:=(l.getD s 0).toNat
def Kq (l:List Int) (n:Nat):Prop:=∀ s,s<n->0<=l.getD s 0/\iH l s<=cO (iH l) s
def FE (d:DF) (l:List Int):Prop:=l.length=d.nx.length/\Kq l d.nx.length/\Kk d (iH l)
theorem Kr {p:Nat->Nat} :∀ {n:Nat},(∀ s,s<n->p s<=cO p s)->cO p n<=n
 | 0,_=>aF _
 | n+1,h=>by
  have h1:=Kr (p:=p) (n:=n) fun s hs=>h s (by omega)
  have h2:=h n (by omega);rw[cO];omega
theorem Np {d:DF} (sm:Sm d) (hr:d.right=DE) (w:Cd) (v pv:DH) (l:List Int) (hp:bw aG w pv l) (h:bV w v d): ah 39 #[v,pv] w fun e w'=>e=AF (AT #[Ft #[An AI 0 0,An AI 0 0,An AI 0 0],Bm Bs 182])/\aa w w':=by
 have CR:B_ (∀ W,aa w W->ah 16 #[v] W fun e w'=>e=AF (C_ DE)/\aa W w'):=AM fun W hW=>eA sm hr v W (h.below hW)
 obtain⟨n0,bX⟩:=ag d.cl.length;obtain⟨n1,cM⟩:=ag d.nx.length;obtain⟨n2,dP⟩:=ag d.mr.length;obtain⟨a0,c0,a1,c1,a2,c2,rfl⟩:=h.form;rw[<-bX, <-cM, <-dP]at h CR ⊢;obtain⟨pa,pc,rfl⟩:=hp.form;generalize l.length=ln at*;clear hp;have H:=AM h;have gS:=AM cM;clear h bX cM dP;go_enter It,G';go_upto_region 1 with fail
 refine aw ?_;intro V hV;have B0:B_ (ar V w.heap.size #[An a0 n0 c0,An a1 n1 c1,An a2 n2 c2] 29):=AM (by rw[hV];exact(ar.new w _ _).alloc _);have R0:B_ (ar V (w.heap.size+1) #[An AI 0 0,An AI 0 0,An AI 0 0] 29):=AM (by rw[hV];exact(ar.new (w.alloc _) _ _).at (by simp));have X0:B_ (aa w V):=AM (by rw[hV];exact(((Ext.refl w).alloc _).alloc _).below);clear hV;obtain⟨p0,p1,p2⟩:=aM.fj B0;go_wp2_with fail
 refine(CR V X0).mono ?_;rintro e w1 ⟨rfl,hx⟩;have B1:=AM (B0.below hx B0.lt);have R1:=AM (R0.below hx R0.lt);have hV1:w.heap.size+1<V.heap.size:=R0.lt;have hW1:V.heap.size<=w1.heap.size:=hx.size;have X1:=AM (X0.trans (hx.mono X0.size));clear hx p0 p1 p2 B0 X0 CR R0;obtain⟨⟨l0,l1,l2⟩,z0,z1,z2⟩:=R1.three;go_wp2;refine aQ ?_;intro W9 dG;have E9:B_ (ar W9 (w.heap.size+1) #[An AI 0 0,An AI 0 0,An AI 0 0] 29/\ae (· ≠w.heap.size+1) w1 W9):=by rw[dG];exact AM ⟨R1.mG,cY _ _ _ _ _⟩
 clear dG z0 z1 z2 l0 l1 l2;obtain⟨m0,m1,m2⟩:=aM.fj E9.1;refine AN (v:=AT #[Ft #[An AI 0 0,An AI 0 0,An AI 0 0],Bm Bs 182]) (by simp[results,A',go_sem,m0,m1,m2]) rfl ⟨rfl,X1.trans (E9.2.mono fun x (hx:x<w.heap.size)=>by show x≠w.heap.size+1;omega:ae (· <w.heap.size) w1 W9).below⟩
theorem Jc {d:DF} (rt:Rt d) (l:List Int) (w:Cd) (v pv:DH) (hp:bw aG w pv l) (h:bV w v d) {m0 m1 m2:Nat} (nZ:m0=(bI d (iH l)).cl.length) (lA:m1=(bI d (iH l)).nx.length) (mE:m2=(bI d (iH l)).mr.length): ah 39 #[v,pv] w fun e w'=>(FE d l/\rD m0 m1 m2 0 (bI d (iH l)) w e w')\/(¬FE d l/\e=AF (AT #[Ft #[An AI 0 0,An AI 0 0,An AI 0 0],Bm Bs 220])/\aa w w'):=by
 have CR:B_ (∀ W,aa w W->ah 16 #[v] W fun e w'=>e=AF (C_ A_)/\aa W w'):=AM fun W hW=>eW rt v W (h.below hW)
 have CM:B_ (∀ W,aa w W->l.length=d.nx.length->Kq l d.nx.length->ah 81 #[v,pv] W (zT m0 m1 m2 (bI d (iH l)) W)):=AM fun W hW hlen j5=>zU rt (iH l) nZ lA mE W v pv (h.below hW) (by
  have h5:bw aG W pv ((B' d.nx.length).map fun s=>((iH l s:Nat):Int)):=by
   have e:(B' d.nx.length).map (fun s=>((iH l s:Nat):Int))=l:=by
    refine List.ext_getElem? fun i=>?_
    rw[aN];by_cases hi:i<d.nx.length
    ·have h6:=(j5 i hi).1
     rw[List.getElem?_range hi,aB (by rw[hlen];exact hi)];have e5:l.getD i 0=l[i]'(by rw[hlen];exact hi):=by rw[bB,aB (by rw[hlen];exact hi)];rfl
     show EV (((l.getD i 0).toNat:Nat):Int)=_;rw[e5]at h6 ⊢;rw[Int.toNat_of_nonneg h6]
    ·rw[aT (by simpa using hi),aT (by omega)];rfl
   rw[e];exact hp.below hW
  rcases h5 with⟨e1,e2⟩ | ⟨b,off,cap,e1,e2,e3,e4⟩
  ·exact .inl ⟨e1,by simpa using e2⟩
  ·refine .inr ⟨b,off,cap,by rw[e1,aP,aP],e2,by rw[aP]at e3 ⊢;exact e3,fun i x hx=>?_⟩
   rw[aN]at hx;obtain⟨y,hy,rfl⟩:=D0.1 hx
   exact e4 i _ (by rw[aN,hy];rfl))
 have CE:B_ (∀ (x y:List Int) (u u':DH) (W:Cd),bw aG W u x->bw aG W u' y->x.length<=1000000->ah 33 #[u,u'] W fun e w'=>e=AF (C_ (x==y))/\Ext W w'):=AM fun x y u u' W h1 h2 h3=>zV u u' x y W (.inl h1) (.inl h2) h3
 have rO:=rt.mr;obtain⟨ln,Cr⟩:=ag l.length;obtain⟨pa,pc,rfl⟩:=hp.form;rw[<-Cr]at hp CM;have WV:B_ (∀ s,s<ln->∃ b off,pa=EV ⟨b,off,AI⟩/\b<w.heap.size/\w.cell? ⟨b,off+s,AI⟩=EV (Bm Bs (l.getD s 0))):=AM fun s hs=>by
  obtain⟨b,off,e1,e2,e3⟩:=hp.elem (i:=s) (x:=l.getD s 0) (by rw[bB,aB (by rw[<-Cr];exact hs)];rfl);exact⟨b,off,e1,e2,e3⟩
 have RT:=AM rt;have QF:=AM Cr;have HM0:=AM nZ;have HM1:=AM lA;have HM2:=AM mE;have MAT:B_ (Kq l d.nx.length->∀ b,b<cO (iH l) d.nx.length->b<m1/\b<m2/\∃ s,s<d.nx.length/\(bI d (iH l)).nx[b]? =EV ((d.nx.getD s []).map fun t=>((iH l t.toNat:Nat):Int))/\(bI d (iH l)).mr[b]? =EV (d.mr.getD s [])):=AM fun j5 b hb=>by
  obtain⟨s,h1,_,h3,h4⟩:=jV (d:=d) (p:=iH l) (n:=d.nx.length) (fun s hs=>(j5 s hs).2) b hb;exact⟨by rw[lA];exact(DQ.1 h3).1,by rw[mE];exact(DQ.1 h4).1,s,h1,h3,h4⟩
 obtain⟨n0,bX⟩:=ag d.cl.length;obtain⟨n1,cM⟩:=ag d.nx.length;obtain⟨n2,dP⟩:=ag d.mr.length;obtain⟨a0,c0,a1,c1,a2,c2,rfl⟩:=h.form;rw[rO]at dP;obtain rfl:n2=n1:=dP.trans cM.symm;rw[rO, <-bX, <-cM]at h CR;rw[<-bX,rO, <-cM]at CM;rw[rO, <-bX, <-cM, <-Cr];have H:=AM h;have gS:=AM cM;have pS:=AM bX;have QS:n2<=4000:=by rw[cM];exact rt.le
 have hK4:n0<=256:=by have:=rt.Av;omega
 clear h bX cM dP hp Cr rO rt nZ lA mE;go_enter It,G';go_upto_region 1 with fail
 refine aw ?_;intro V hV;have B0:B_ (ar V w.heap.size #[An a0 n0 c0,An a1 n2 c1,An a2 n2 c2] 29):=AM (by rw[hV];exact(ar.new w _ _).alloc _);have R0:B_ (ar V (w.heap.size+1) #[An AI 0 0,An AI 0 0,An AI 0 0] 29):=AM (by rw[hV];exact(ar.new (w.alloc _) _ _).at (by simp));have X0:B_ (aa w V):=AM (by rw[hV];exact(((Ext.refl w).alloc _).alloc _).below);clear hV;obtain⟨p0,p1,p2⟩:=aM.fj B0;go_wp2_with fail
 refine(CR V X0).mono ?_;rintro e w1 ⟨rfl,hx⟩;have B1:=AM (B0.below hx B0.lt);have R1:=AM (R0.below hx R0.lt);have hV1:w.heap.size+1<V.heap.size:=R0.lt;have hW1:V.heap.size<=w1.heap.size:=hx.size;have X1:=AM (X0.trans (hx.mono X0.size));clear hx p0 p1 p2 B0 X0 CR R0;have hwb:w.heap.size+1<w1.heap.size:=by omega
 clear hV1 hW1;have iV:(0:Int)<=n2:=by omega
 obtain⟨p0,p1,p2⟩:=aM.fj B1;by_cases Cr:ln=n2;case neg=>
  have d1:((ln:Int)==(n2:Int))=false:=beq_eq_false_iff_ne.2 (by omega);have d2:((ln:Int) != (n2:Int))=true:=by simp;omega
  have d3:(ln==n2)=false:=beq_eq_false_iff_ne.2 Cr;obtain⟨⟨l0,l1,l2⟩,z0,z1,z2⟩:=R1.three;have Cc:B_ (¬FE d l):=AM (fun h=>Cr (by rw[QF.out,gS.out];exact h.1));go_wp2;refine aQ ?_;intro W9 dG;have E9:B_ (ar W9 (w.heap.size+1) #[An AI 0 0,An AI 0 0,An AI 0 0] 29/\ae (· ≠w.heap.size+1) w1 W9):=by rw[dG];exact AM ⟨R1.mG,cY _ _ _ _ _⟩
  clear dG z0 z1 z2 l0 l1 l2;obtain⟨m0,m1,m2⟩:=aM.fj E9.1;refine AN (v:=AT #[Ft #[An AI 0 0,An AI 0 0,An AI 0 0],Bm Bs 220]) (by simp[results,A',go_sem,m0,m1,m2]) rfl (.inr ⟨Cc,rfl,X1.trans (E9.2.mono fun x (hx:x<w.heap.size)=>by show x≠w.heap.size+1;omega:ae (· <w.heap.size) w1 W9).below⟩)
 subst Cr;go_wp2_with fail
 go_loopw [6,27] (fun nv iv wr=>∃ k:Nat,k<=ln/\iv=Bm Bs k/\nv=Bm Bs (cO (iH l) k)/\(∀ s,s<k->0<=l.getD s 0/\iH l s<=cO (iH l) s)/\wr=w1) (fun _ iv _=>ln-(intOf iv).toNat)
 case atStart=>exact⟨0,FF _,rfl,rfl,fun s hs=>absurd hs (D_ _),rfl⟩
 case round=>
  obtain⟨k,hk,rfl,rfl,j5,hw⟩:=hrel;subst hw;have iM:=AM j5;clear j5;by_cases hlt:k<ln
  ·have ed:(k:Int)<ln:=by omega
   obtain⟨pb,po,rfl,lG,Km⟩:=WV.out k hlt;replace Km:=((ae.aj X1 fun _ h=>h:ae (· <w.heap.size) w wr).cell (p:=⟨pb,po+k,AI⟩) lG).trans Km;obtain⟨x,hx⟩:=ag (l.getD k 0);obtain⟨t,ht⟩:=ag (cO (iH l) k);have er:t<=k:=by rw[ht];exact Kr fun s hs=>(iM s hs).2
   rw[<-hx]at Km;rw[<-ht];have Tz:=AM hx;have HTE:=AM ht;clear hx ht;by_cases hx0:x<0;case pos=>
    have d1:decide (x<0)=true:=decide_eq_true hx0;obtain⟨⟨l0,l1,l2⟩,z0,z1,z2⟩:=R1.three;have Cc:B_ (¬FE d l):=AM (fun h=>by have h5:=(h.2.1 k (by rw[<-gS.out];exact hlt)).1;have h6:=Tz.out;omega);go_wp2;refine aQ ?_;intro W9 dG;have E9:B_ (ar W9 (w.heap.size+1) #[An AI 0 0,An AI 0 0,An AI 0 0] 29/\ae (· ≠w.heap.size+1) wr W9):=by rw[dG];exact AM ⟨R1.mG,cY _ _ _ _ _⟩
    clear dG z0 z1 z2 l0 l1 l2;obtain⟨m0,m1,m2⟩:=aM.fj E9.1;refine AN (v:=AT #[Ft #[An AI 0 0,An AI 0 0,An AI 0 0],Bm Bs 220]) (by simp[results,A',go_sem,m0,m1,m2]) rfl (.inr ⟨Cc,rfl,X1.trans (E9.2.mono fun x (hx:x<w.heap.size)=>by show x≠w.heap.size+1;omega:ae (· <w.heap.size) wr W9).below⟩)
   have d1:decide (x<0)=false:=decide_eq_false hx0;by_cases hxt:(t:Int)<x;case pos=>
    have d2:decide ((t:Int)<x)=true:=decide_eq_true hxt;obtain⟨⟨l0,l1,l2⟩,z0,z1,z2⟩:=R1.three;have Cc:B_ (¬FE d l):=AM (fun h=>by have h5:=(h.2.1 k (by rw[<-gS.out];exact hlt)).2;have h6:=Tz.out;have h7:=HTE.out;unfold iH at h5 h7;omega);go_wp2;refine aQ ?_;intro W9 dG;have E9:B_ (ar W9 (w.heap.size+1) #[An AI 0 0,An AI 0 0,An AI 0 0] 29/\ae (· ≠w.heap.size+1) wr W9):=by rw[dG];exact AM ⟨R1.mG,cY _ _ _ _ _⟩
    clear dG z0 z1 z2 l0 l1 l2;obtain⟨m0,m1,m2⟩:=aM.fj E9.1;refine AN (v:=AT #[Ft #[An AI 0 0,An AI 0 0,An AI 0 0],Bm Bs 220]) (by simp[results,A',go_sem,m0,m1,m2]) rfl (.inr ⟨Cc,rfl,X1.trans (E9.2.mono fun x (hx:x<w.heap.size)=>by show x≠w.heap.size+1;omega:ae (· <w.heap.size) wr W9).below⟩)
   have d2:decide ((t:Int)<x)=false:=decide_eq_false hxt;obtain⟨xn,rfl⟩:∃ xn:Nat,x=(xn:Int):=⟨x.toNat,by omega⟩;have WW:xn<=t:=by omega
   have TC:Bs.wrap ((xn:Int)+1)=((xn+1:Nat):Int):=by rw[IntWalk.i64_in _ (by omega)];omega
   have HST:B_ (cO (iH l) (k+1)=max t (xn+1)):=AM (by
    have e:iH l k=xn:=by unfold iH;rw[<-Tz.out];rfl
    rw[cO, <-HTE.out,e])
   go_wp2;go_roundw;case rel=>
    refine⟨k+1,by omega,by go_num,?_,fun s hs=>?_,trivial⟩
    ·rw[HST.out];go_num
    ·by_cases e:s=k
     ·subst e
      rw[<-Tz.out, <-HTE.out];exact⟨by omega,by unfold iH;rw[<-Tz.out];exact WW⟩
     ·exact iM s (by omega)
   case measure=>simp[intOf];omega
  ·obtain rfl:k=ln:=by omega
   have ed:¬ ((k:Int)<k):=by omega
   have NUM:B_ (Kq l d.nx.length):=AM (by rw[<-gS.out];exact iM);have HLE:B_ (l.length=d.nx.length):=AM (by rw[<-QF.out,gS.out]);clear iM;obtain⟨wb,rfl⟩:=ag (wr:Cd);go_wp2_with fail
   refine(CM wb X1 (by first | trivial | rfl) (by rw[gS.out];exact NUM)).mono ?_;rintro e w4 ⟨x0,y0,x1,y1,x2,y2,rfl,ho,hx⟩;have O4:=AM ho;have B4:=AM (B1.below hx B1.lt);have R4:=AM (R1.below hx R1.lt);have X4:=AM (X1.trans (hx.mono X1.size));have hw4:wb.heap.size<=w4.heap.size:=hx.size;clear ho hx B1 R1 X1 CM p0 p1 p2;go_wp2_with fail
   refine aw ?_;intro V5 hV;obtain⟨mb,pC⟩:=ag w4.heap.size;have M5:B_ (ar V5 mb #[An x0 m0 y0,An x1 m1 y1,An x2 m2 y2] 29):=AM (by rw[hV,pC];exact ar.new _ _ _);have Gb:aa w4 V5:=by rw[hV];exact((Ext.refl _).alloc _).below
   clear hV;have O5:=AM (O4.below Gb);have B5:=AM (B4.below Gb B4.lt);have R5:=AM (R4.below Gb R4.lt);have X5:=AM (X4.trans (Gb.mono X4.size));have hmw:w.heap.size+1<mb:=by omega
   have hm5:mb<V5.heap.size:=M5.lt;rw[<-pC];clear Gb O4 B4 R4 X4 pC;have HL5:B_ (∀ W,aa V5 W->fy W (An x1 m1 y1) (bI d (iH l)).nx/\fy W (An x2 m2 y2) (bI d (iH l)).mr):=AM fun W hW=>by
    obtain⟨u0,u1,u2,e,_,h1,h2⟩:=(O5.below hW).df;cases e;exact⟨h1,h2⟩
   have HD5:B_ (∀ W,aa w W->fy W (An a1 k c1) d.nx/\fy W (An a2 k c2) d.mr):=AM fun W hW=>by
    obtain⟨u0,u1,u2,e,_,h1,h2⟩:=H.below hW;cases e;exact⟨h1,h2⟩
   clear ed hlt hk;go_loopw [49] (fun iv wr=>∃ s:Nat,s<=k/\iv=Bm Bs s/\(∀ i,i<s->(bI d (iH l)).mr.getD (iH l i) []=d.mr.getD i []/\∀ j,j<d.cl.length->eH (bI d (iH l)) (iH l i) j=iH l (eH d i j))/\aa V5 wr) (fun iv _=>k-(intOf iv).toNat);case atStart=>exact⟨0,FF _,rfl,fun s hs=>absurd hs (D_ _),Below.refl _ _⟩
   case round=>
    obtain⟨s,hs,rfl,j5,hx⟩:=hrel;obtain⟨wo,rfl⟩:=ag (wr:Cd);have iM:=AM j5;have HX:=AM hx;have Y8:w.heap.size<=V5.heap.size:=X5.size;have XO:=AM (X5.trans (hx.mono Y8));have RO:=AM (R5.below hx R5.lt);have BO:=AM (B5.below hx B5.lt);have MO:=AM (M5.below hx M5.lt);clear j5 hx;by_cases hlt:s<k
    ·have Gi:(s:Int)<k:=by omega
     have kX:s<d.nx.length:=by rw[<-gS.out];exact hlt
     obtain⟨pb,po,rfl,lG,Km⟩:=WV.out s hlt;replace Km:=((ae.aj XO fun _ h=>h:ae (· <w.heap.size) w wo).cell (p:=⟨pb,po+s,AI⟩) lG).trans Km;obtain⟨b,hb⟩:=ag (iH l s);have hbl:l.getD s 0=(b:Int):=by rw[hb];unfold iH;have:=(NUM.out s kX).1;omega
     rw[hbl]at Km;obtain⟨ap0,ap1,s',hs',hMn,hMm⟩:=MAT.out NUM b (by rw[hb];exact jw kX);have ap2:(b:Int)<m1:=by omega
     have ap3:(b:Int)<m2:=by omega
     have HB:=AM hb;obtain⟨g2,o2,Tw,Tx,e2,hg2,hc2,rI⟩:=(HL5.out wo HX).2.elem hMm;cases e2;obtain⟨g3,o3,ad3,cp3,e3,hg3,hc3,adP⟩:=(HD5.out wo XO).2.elem (i:=s) (l:=d.mr.getD s []) (bn [] (by rw[RT.mr];exact kX));cases e3;have XC:=AM hMm;have HMN:=AM hMn;have oL:(d.mr.getD s' []).length<=1000000:=RT.Rh.Ug _ (ax (bn [] (by rw[RT.mr];exact hs')));have CE1:B_ (∀ W,aa wo W->ah 33 #[An Tw (d.mr.getD s' []).length Tx,An ad3 (d.mr.getD s []).length cp3] W fun e w'=>e=AF (C_ (d.mr.getD s' []==d.mr.getD s []))/\Ext W w'):=AM fun W hW=>CE _ _ _ _ W (rI.below hW) (adP.below hW) oL
     obtain⟨q,hq⟩:=ag ((d.mr.getD s' []==d.mr.getD s []));rw[<-hq]at CE1;have HQ:=AM hq;obtain⟨l2,hl2⟩:=ag ((d.mr.getD s' []).length);obtain⟨l3,ym⟩:=ag ((d.mr.getD s []).length);rw[<-hl2]at hc2;rw[<-ym]at hc3;rw[<-hl2, <-ym]at CE1;obtain⟨b0,b1,b2⟩:=aM.fj BO;obtain⟨k0,k1,k2⟩:=aM.fj MO;clear hb hbl hMn hMm rI adP hq hl2 ym oL;go_upto_region 17 with fail
     refine aI DE (fun _=>False) (by kernel_rfl) 10 [0,1,0,7,15,0,32,0,224,480,1023,2047] (fun i=>i==10) (by kernel_rfl) (fun _=>aU.any _) ?_;intro C hC hne;have HC:=AM hC;have f0:=aD hC (p:=⟨mb,2,AI⟩) MO.lt (fun h=>h) k2;have f1:=aD hC (p:=⟨g2,o2+b,AI⟩) hg2 (fun h=>h) hc2;have f2:=aD hC (p:=⟨w.heap.size,2,AI⟩) BO.lt (fun h=>h) b2;have f3:=aD hC (p:=⟨g3,o3+s,AI⟩) hg3 (fun h=>h) hc3;clear hC b0 b1 b2 k0 k1 k2 hc2 hc3
     repeat (refine au (fun K hK=>?_);first | (refine bL rfl ?_;try go_simp;refine hK _ _ ?_;clear hK K) | (refine bJ rfl rfl ?_;unfold az;go_simp;refine hK _ _ ?_;clear hK K))
     refine bC (fun W hW hH=>?_);have hM:=(HC.out W).1 hW;have hMs:V5.heap.size<=wo.heap.size:=HX.size;have jd:B_ (aa V5 W):=AM (HX.trans (hM.below.mono hMs));have HWO:=AM hM.below;clear hM hW hH HC hne f0 f1 f2 f3;go_wp2_with fail
     refine(CE1 W HWO).mono ?_;rintro e w6 ⟨rfl,hx⟩;have adQ:V5.heap.size<=W.heap.size:=jd.size;have F7:=AM (jd.trans (hx.below.mono adQ));have XO6:=AM (X5.trans (F7.mono Y8));have RO6:=AM (R5.below F7 R5.lt);have BO6:=AM (B5.below F7 B5.lt);have MO6:=AM (M5.below F7 M5.lt);clear hx jd HWO CE1 HX XO RO BO MO Km hMs adQ;have adR:B_ ((bI d (iH l)).mr.getD b []=d.mr.getD s' []):=AM (getD_some XC);cases q with
     | false=>
      obtain⟨⟨l0,l1,l2⟩,z0,z1,z2⟩:=RO6.three;have Cc:B_ (¬FE d l):=AM (fun h=>by have h5:=(h.2.2 s kX).1;rw[<-HB.out,adR.out]at h5;have h6:=HQ.out;rw[h5,beq_self_eq_true]at h6;cases h6);go_wp2;refine aQ ?_;intro W9 dG;have E9:B_ (ar W9 (w.heap.size+1) #[An AI 0 0,An AI 0 0,An AI 0 0] 29/\ae (· ≠w.heap.size+1) w6 W9):=by rw[dG];exact AM ⟨RO6.mG,cY _ _ _ _ _⟩
      clear dG z0 z1 z2 l0 l1 l2;obtain⟨m0,m1,m2⟩:=aM.fj E9.1;refine AN (v:=AT #[Ft #[An AI 0 0,An AI 0 0,An AI 0 0],Bm Bs 220]) (by simp[results,A',go_sem,m0,m1,m2]) rfl (.inr ⟨Cc,rfl,XO6.trans (E9.2.mono fun x (hx:x<w.heap.size)=>by show x≠w.heap.size+1;omega:ae (· <w.heap.size) w6 W9).below⟩)
     | true=>
     have HQE:B_ (d.mr.getD s' []=d.mr.getD s []):=AM (beq_iff_eq.1 HQ.symm);obtain⟨g4,o4,ad4,cp4,e4,hg4,N8,aac⟩:=(HL5.out w6 F7).1.elem HMN;cases e4;obtain⟨g5,o5,ad5,cp5,e5,N7,WM,aad⟩:=(HD5.out w6 XO6).1.elem (i:=s) (l:=d.nx.getD s []) (bn [] kX);cases e5;rw[aP,RT.len s' hs', <-pS.out]at N8 aac;rw[RT.len s kX, <-pS.out]at WM aad;obtain⟨b0,b1,b2⟩:=aM.fj BO6;obtain⟨k0,k1,k2⟩:=aM.fj MO6;have aiG:=AM aac;have aiH:=AM aad;have HC4:=AM N8;clear aac aad HQ;go_wp2_with fail
     clear N8 WM b0 b1 b2 k0 k1 k2;go_loopw [73] (fun jv wr=>∃ j:Nat,j<=n0/\jv=Bm Bs j/\(∀ i,i<j->eH (bI d (iH l)) b i=iH l (eH d s i))/\aa w6 wr) (fun jv _=>n0-(intOf jv).toNat);case atStart=>exact⟨0,FF _,rfl,fun i hi=>absurd hi (D_ _),Below.refl _ _⟩
     case round=>
      obtain⟨j,hj,rfl,hokj,hx⟩:=hrel;obtain⟨wi,rfl⟩:=ag (wr:Cd);have HOJ:=AM hokj;have rW:V5.heap.size<=w6.heap.size:=F7.size;have HXI:=AM (F7.trans (hx.mono rW));have XOI:=AM (X5.trans (HXI.mono Y8));have ROI:=AM (R5.below HXI R5.lt);have MOI:=AM (M5.below HXI M5.lt);have HX7:=AM hx;clear hokj hx;by_cases hjn:j<n0
      ·have jA:(j:Int)<n0:=by omega
       have hjK:j<d.cl.length:=by rw[<-pS.out];exact hjn
       obtain⟨ht1,ht2⟩:=nP RT kX hjK;obtain⟨ht3,ht4⟩:=nP RT hs' hjK;obtain⟨t,ht⟩:=ag (eH d s j);obtain⟨t',Wu⟩:=ag (eH d s' j);rw[<-ht]at ht1 ht2;rw[<-Wu]at ht3 ht4;have er:t<k:=by rw[gS.out];exact ht1
       have hti:(t:Int)<k:=by omega
       obtain⟨q5,w5',e5,hq5,hd5⟩:=(aiH.below HX7).elem ht2;cases e5;replace hd5:wi.cell? ⟨q5,w5'+j,AI⟩=EV (Bm Bs t):=hd5;obtain⟨q4,w4',e4,hq4,hd4⟩:=(aiG.below HX7).elem (i:=j) (x:=((iH l t':Nat):Int)) (by rw[aN,ht4];rfl);cases e4;obtain⟨y,hy⟩:=ag (iH l t');obtain⟨z,hz⟩:=ag (iH l t);rw[<-hy]at hd4;replace hd4:wi.cell? ⟨q4,w4'+j,AI⟩=EV (Bm Bs y):=hd4;obtain⟨pb2,po2,e6,aqf,aag⟩:=WV.out t er;cases e6;have hzl:l.getD t 0=(z:Int):=by rw[hz];unfold iH;have:=(NUM.out t ht1).1;omega
       rw[hzl]at aag;replace aag:=((ae.aj XOI fun _ h=>h:ae (· <w.heap.size) w wi).cell (p:=⟨pb,po+t,AI⟩) lG).trans aag;have N8:=((ae.aj HX7 fun _ h=>h:ae (· <w6.heap.size) w6 wi).cell (p:=⟨g4,o4+b,AI⟩) hg4).trans HC4
       have Bl:B_ (eH (bI d (iH l)) b j=iH l (eH d s j)↔y=z):=AM (by
        have e:eH (bI d (iH l)) b j=y:=by unfold eH;rw[getD_some HMN.out,getD_some (show((d.nx.getD s' []).map fun t=>((iH l t.toNat:Nat):Int))[j]? =EV ((y:Nat):Int) by rw[aN,ht4,hy];rfl)];rfl
        rw[e, <-ht, <-hz])
       obtain⟨k0,k1,k2⟩:=aM.fj MOI;clear ht Wu hy hz hzl ht2 ht4;by_cases hyz:y=z
       ·have d1:((y:Int) != (z:Int))=false:=by rw[hyz];simp
        have d2:((y:Int)==(z:Int))=true:=by rw[hyz];exact beq_self_eq_true _
        have HYZ:=AM hyz;subst hyz;go_wp2_with fail
        go_quiet (fail)
        go_wp2_with fail
        go_roundw
        case rel=>
         refine⟨j+1,by omega,by go_num,fun i hi=>?_,((ae.aj HX7 fun _ h=>h:ae (· <w6.heap.size) w6 wi).drewN _).below⟩;by_cases e:i=j
         ·subst e;exact Bl.2 (by first | trivial | rfl)
         ·exact HOJ i (by omega)
        case measure=>simp[intOf];omega
       ·have adS:¬ ((y:Int)=(z:Int)):=fun e=>hyz (by exact_mod_cast e)
        have d1:((y:Int) != (z:Int))=true:=bne_iff_ne.2 adS;have d2:((y:Int)==(z:Int))=false:=beq_eq_false_iff_ne.2 adS;have d3:(y==z)=false:=beq_eq_false_iff_ne.2 hyz;go_wp2_with fail
        go_quiet (fail)
        go_upto_region 23 with fail
        refine aw ?_;intro wq hwq;have XQ:B_ (aa w wq):=AM (by rw[hwq];exact((ae.aj XOI fun _ h=>h:ae (· <w.heap.size) w wi).drewN _).below);have RQ:B_ (ar wq (w.heap.size+1) #[An AI 0 0,An AI 0 0,An AI 0 0] 29):=AM (by rw[hwq];exact ROI.keeps ((ae.refl (fun _=>True) wi).drewN _) trivial);clear hwq;obtain⟨⟨l0,l1,l2⟩,z0,z1,z2⟩:=RQ.three;have Cc:B_ (¬FE d l):=AM (fun h=>by have h5:=(h.2.2 s kX).2 j hjK;rw[<-HB.out]at h5;exact hyz (Bl.1 h5));go_wp2;refine aQ ?_;intro W9 dG;have E9:B_ (ar W9 (w.heap.size+1) #[An AI 0 0,An AI 0 0,An AI 0 0] 29/\ae (· ≠w.heap.size+1) wq W9):=by
         rw[dG];exact AM ⟨RQ.mG,cY _ _ _ _ _⟩
        clear dG z0 z1 z2 l0 l1 l2;obtain⟨m0,m1,m2⟩:=aM.fj E9.1;refine AN (v:=AT #[Ft #[An AI 0 0,An AI 0 0,An AI 0 0],Bm Bs 220]) (by simp[results,A',go_sem,m0,m1,m2]) rfl (.inr ⟨Cc,rfl,XQ.trans (E9.2.mono fun x (hx:x<w.heap.size)=>by show x≠w.heap.size+1;omega:ae (· <w.heap.size) wq W9).below⟩)
      ·obtain rfl:j=n0:=by omega
       have jA:¬ ((j:Int)<j):=by omega
       have HST:B_ (∀ i,i<s+1->(bI d (iH l)).mr.getD (iH l i) []=d.mr.getD i []/\∀ j,j<d.cl.length->eH (bI d (iH l)) (iH l i) j=iH l (eH d i j)):=AM fun i hi=>by
        by_cases e:i=s
        ·subst e
         rw[<-HB.out];exact⟨adR.trans HQE,fun j hj=>HOJ j (by rw[pS.out];exact hj)⟩
        ·exact iM i (by omega)
       go_wp2;go_roundw;case rel=>exact⟨s+1,by omega,by go_num,HST,HXI⟩
       case measure=>simp[intOf];omega
    ·obtain rfl:s=k:=by omega
     have Gi:¬ ((s:Int)<s):=by omega
     have HMK:B_ (FE d l):=AM ⟨HLE,NUM,fun i hi=>iM i (by rw[gS.out];exact hi)⟩;have OO:=AM (O5.below HX);obtain⟨k0,k1,k2⟩:=aM.fj MO;obtain⟨⟨l0,l1,l2⟩,z0,z1,z2⟩:=RO.three;go_wp2;refine aQ ?_;intro W9 dG;have E9:B_ (ar W9 (w.heap.size+1) #[An x0 m0 y0,An x1 m1 y1,An x2 m2 y2] 29/\ae (· ≠w.heap.size+1) wo W9):=by rw[dG];exact AM ⟨RO.mG,cY _ _ _ _ _⟩
     clear dG z0 z1 z2 l0 l1 l2 k0 k1 k2;obtain⟨r0,r1,r2⟩:=aM.fj E9.1;refine AN (v:=AT #[Ft #[An x0 m0 y0,An x1 m1 y1,An x2 m2 y2],Bm Bs 0]) (by simp[results,A',go_sem,r0,r1,r2]) rfl (.inl ⟨HMK,x0,y0,x1,y1,x2,y2,rfl,(OO.keeps E9.2 fun x h1 _=>by show x≠_;omega).base (by omega),XO.trans (E9.2.mono fun x (hx:x<w.heap.size)=>by show x≠w.heap.size+1;omega:ae (· <w.heap.size) wo W9).below⟩)
end
end Go.Proofs.YtjgccapbphadjaaGreatDoor
