/- rx.positions, rx.Positions. -/
import Derived.Test.YtbiboekhakbnpaaGreatDoorOF24
import Derived.Deep.CutRange
set_option maxRecDepth 100000
set_option maxHeartbeats 16000000
open Go.Lib (hid)
namespace Go.Proofs.YtbiboekhakbnpaaGreatDoor
open Go Go.RowKit Go.Shelf Go.Maps
attribute [local go_sem] Oper.semAt_some fk cG
theorem MU (t:RX):∀ x∈t.pre,x.size<=t.size:=by
 induction t using RX.ind with
 | h k s a b l ih=>
  intro x hx;rw[RX.pre]at hx;rcases List.mem_cons.1 hx with rfl | hx
  ·exact Nat.le_refl _
  ·have:∀ l':List RX,(∀ t∈l',t∈l)->x∈RX.jL l'->x.size<=RX.sizes l':=by
    intro l';induction l' with
    | nil=>intro _ h;rw[RX.jL]at h;cases h
    | cons y l' Uj=>
     intro hs h;rw[RX.jL]at h;rw[RX.sizes];rcases List.mem_append.1 h with h | h
     ·have:=ih y (hs y (List.mem_cons_self ..)) x h;omega
     ·have:=Uj (fun t ht=>hs t (List.mem_cons_of_mem _ ht)) h;omega
   have h5:=this l (fun _ h=>h) hx;rw[RX.size];omega
theorem Fu (v:Value) (t:RX) (hs:t.size<=10000) (w:World) (h:aG (· <w.heap.size) w v t): Calls Tryz.prog 66 #[v] w fun e w'=>e=.returned (.int .i64 t.size)/\Below w.heap.size w w':=by
 have CL:Hid (∀ W,Below w.heap.size w W->Calls Tryz.prog 108 #[v] W fun e w'=>e=.returned (.bool true)/\Below W.heap.size W w'):=hid fun W hW=>qG v t hs W ((h.mV hW).mono fun b hb=>Nat.lt_of_lt_of_le hb hW.size)
 obtain⟨xs,hmap,sZ,hseq⟩:=qF w.heap.size t (by omega) v w h (Nat.le_refl _);obtain⟨p,c,rfl⟩:=h.form;have hlen:xs.length=t.size:=by
  have e:xs.length=t.pre.length:=by rw[<-hmap,List.length_map]
  rw[e,GX]
 rw[<-hlen]at hs ⊢;have MQ:=hid fun W B=>hseq W B _ rfl
 clear hseq sZ hmap h hlen;refine bD Tryz.func66 rfl ?_;simp only[Tryz.ntmps66,List.size_toArray,List.length_cons,List.length_nil,Nat.reduceAdd,Nat.reduceSub,Array.replicate_succ,Array.replicate_zero,List.push_toArray,List.append_toArray,List.nil_append,List.cons_append,aj]at CL ⊢;go_wp2_with fail
 refine aw ?_;intro V hV;have B1:Hid (ak V w.heap.size (aj t.kind t.set t.mn t.mx (.slice p t.subs.length c)) 86):=by rw[hV];exact hid (ak.new _ _ _)
 have X1:Hid (Below w.heap.size w V):=by rw[hV];exact hid ((Ext.refl _).alloc _).below
 clear hV;refine(CL.out V X1.out).mono ?_;rintro e w1 ⟨rfl,hx⟩;have B2:=hid (B1.out.below hx B1.out.lt);have X2:=hid (X1.out.trans (hx.mono X1.out.size));have TS:w.heap.size<w1.heap.size:=B2.out.lt;clear hx B1 X1 CL;obtain⟨b0,b1,b2,b3,b4,b5,b6,b7⟩:=(show _/\_/\_/\_/\_/\_/\_/\_ from⟨(B2.out.alloc (.cells #[.int .i64 0] 3 (0,0))).cell 0,(B2.out.alloc (.cells #[.int .i64 0] 3 (0,0))).cell 1,(B2.out.alloc (.cells #[.int .i64 0] 3 (0,0))).cell 2,(B2.out.alloc (.cells #[.int .i64 0] 3 (0,0))).cell 3,(B2.out.alloc (.cells #[.int .i64 0] 3 (0,0))).cell 4,(B2.out.alloc (.cells #[.int .i64 0] 3 (0,0))).cell 5,(B2.out.alloc (.cells #[.int .i64 0] 3 (0,0))).cell 6,(B2.out.alloc (.cells #[.int .i64 0] 3 (0,0))).cell 7⟩);simp only[aj,List.getElem?_toArray,List.getElem?_cons_zero,List.getElem?_cons_succ]at b0 b1 b2 b3 b4 b5 b6 b7;go_wp2_with (go_at_call 110;refine(kq _ _).mono ?_;rintro e w9 ⟨rfl,rfl⟩);refine au ?_;intro W0 hW0;have h1:ak W0 w1.heap.size #[.int .i64 0] 3:=by rw[hW0];exact(ak.new _ _ _).alloc _
 have h3:ak W0 (w1.heap.size+1) (aj t.kind t.set t.mn t.mx (.slice p t.subs.length c)) 86:=by rw[hW0];exact(ak.new _ _ _).at (by simp)
 have hx:Below w.heap.size w W0:=by rw[hW0];exact X2.out.trans (((Ext.refl w1).alloc _).alloc _ |>.below.mono X2.out.size)
 have hsz:W0.heap.size=w1.heap.size+1+1:=by rw[hW0];simp
 clear hW0 b0 b1 b2 b3 b4 b5 b6 b7;refine fT (w:=W0) (d:=true) (MQ.out W0 _ (aa.ah hx fun _ h=>h) h3) (by rfl) mI (by intro _;rfl) (by intro k hk;rcases hk with hk | hk<;>omega)
  (fun ys _ W=>ak W w1.heap.size #[.int .i64 ys.length] 3/\Below w.heap.size w W)
  (fun _ _ _ _=>False)
  (fun ys T T' W W' ⟨h1,h3⟩ hT Ld hs hn hk=>⟨h1.kX hT hk (by omega),fS h3 hT hk (Nat.le_refl _) (by omega)⟩)
  (fun c ys T T' W W' h=>h.elim)
  ⟨h1,hx⟩
  (fun x=>⟨#[.agg (aj t.kind t.set t.mn t.mx (.slice p t.subs.length c)),.pointer (some ⟨w.heap.size,0,none⟩),.int .i64 0,.pointer (some ⟨w1.heap.size,0,none⟩),.agg (aj t.kind t.set t.mn t.mx (.slice p t.subs.length c)),.bool true,.bool false,.agg (aj t.kind t.set t.mn t.mx (.slice p t.subs.length c)),.func (.func 136) #[] #[.pointer (some ⟨w1.heap.size+1,0,none⟩)],x.1,undef,undef,undef],[]⟩) ?assign ?body ?done ?stop
 case assign=>
  intro l x W K hK
  gi_wp2
  simpa[Ch,aj]using hK
 case body=>
  rintro l pre x T W bp hT hR vA hl ⟨h1,hx⟩;have hle:pre.length+1<=10000:=by
   have hle:=bp.length_le;rw[List.length_append]at hle;simp only[List.length_cons,List.length_nil]at hle;omega
  have c1:W.cell? ⟨w1.heap.size,0,none⟩=some (.int .i64 pre.length):=h1.cell 0;have f1:=h1.frozen 0;have e1:IntKind.i64.wrap ((pre.length:Int)+1)=(pre.length:Int)+1:=IntWalk.i64_in _ (by omega);have e4:((pre++ [x]).length:Int)=(pre.length:Int)+1:=by rw[List.length_append];rfl
  have H1:=hid h1;have HX:=hid hx;have HS:=hid hsz;have HT:=hid hT;have YZ:=hid e4;clear h1 hx hR hl vA hsz hT h3 bp e4;obtain⟨m,hm⟩:∃ m,m=pre.length:=⟨_,rfl⟩;rw[<-hm]at c1 e1 H1 YZ hle;clear hm
  gi_wp2
  refine⟨((aa.refl _ _).setCell (fun h=>?_) _),(by rw[YZ.out];exact H1.out.set 0 _),HX.out.setCell (by simp;omega) _⟩;have h2:=HS.out;rcases h with(h | h) | h
  ·dsimp only at h;omega
  ·dsimp only at h;omega
  ·have h1:=(HT.out _ h).1;dsimp only at h1;omega
 case done=>
  rintro D T W hD vD hT ⟨h1,hx⟩ kO;have c1:W.cell? ⟨w1.heap.size,0,none⟩=some (.int .i64 xs.length):=h1.cell 0;have HX:=hid hx;have HS:=hid hsz;have HD:=hid hD;have vt:=hid kO;clear h1 hx vD hsz hT kO hD;dsimp only;go_wp2;refine cm rfl vt.out (results_tmp rfl _ _ _) ⟨rfl,((aa.ah HX.out fun _ h=>h).putObj (by have h1:=HD.out;have h2:=HS.out;omega) _).below⟩
 case stop=>rintro D c pre T W _ _ _ _ h _;exact h.elim
end Go.Proofs.YtbiboekhakbnpaaGreatDoor
namespace Go.Proofs.YtbiboekhakbnpaaGreatDoor
open Go Go.RowKit Go.Shelf Go.Maps
attribute [local go_sem] Oper.semAt_some fk cG
theorem Cj (v:Value) (t:RX) (hf:t.fine) (hs:t.size<=10000) (w:World) (h:aG (· <w.heap.size) w v t): Calls Tryz.prog 65 #[v] w fun e w'=>e=.returned (.bool true)/\Below w.heap.size w w':=by
 have CL:Hid (∀ W,Below w.heap.size w W->Calls Tryz.prog 108 #[v] W fun e w'=>e=.returned (.bool true)/\Below W.heap.size W w'):=hid fun W hW=>qG v t hs W ((h.mV hW).mono fun b hb=>Nat.lt_of_lt_of_le hb hW.size)
 obtain⟨xs,hmap,sZ,hseq⟩:=qF w.heap.size t (by omega) v w h (Nat.le_refl _);obtain⟨p,c,rfl⟩:=h.form;have CR:Hid (∀ x∈xs,∀ W,aa (· <w.heap.size) w W->Calls Tryz.prog 111 #[x.1] W fun e w'=>e=.returned (.bool true)/\Below W.heap.size W w'):=hid fun x hx W hW=>by
  have hp:x.2∈t.pre:=by rw[<-hmap];exact List.mem_map_of_mem hx
  exact Ci w.heap.size x.1 x.2 (hf x.2 hp) W ((sZ x hx).kept hW) hW.size (by have:=MU t x.2 hp;omega)
 have MQ:=hid fun W B=>hseq W B _ rfl
 have UH:=hid sZ;clear hseq sZ hmap h hs hf;refine bD Tryz.func65 rfl ?_;simp only[Tryz.ntmps65,List.size_toArray,List.length_cons,List.length_nil,Nat.reduceAdd,Nat.reduceSub,Array.replicate_succ,Array.replicate_zero,List.push_toArray,List.append_toArray,List.nil_append,List.cons_append,aj]at CL ⊢;go_wp2_with fail
 refine aw ?_;intro V hV;have B1:Hid (ak V w.heap.size (aj t.kind t.set t.mn t.mx (.slice p t.subs.length c)) 86):=by rw[hV];exact hid ((ak.new _ _ _).alloc _)
 have R1:Hid (ak V (w.heap.size+1) #[.bool false] 4):=by rw[hV];exact hid ((ak.new (w.alloc _) _ _).at (by simp))
 have X1:Hid (Below w.heap.size w V):=by rw[hV];exact hid (((Ext.refl _).alloc _).alloc _).below
 clear hV;refine(CL.out V X1.out).mono ?_;rintro e w1 ⟨rfl,hx⟩;have B2:=hid (B1.out.below hx B1.out.lt);have R2:=hid (R1.out.below hx R1.out.lt);have X2:=hid (X1.out.trans (hx.mono X1.out.size));have TS:w.heap.size+1<w1.heap.size:=R2.out.lt;clear hx B1 X1 R1 CL;obtain⟨b0,b1,b2,b3,b4,b5,b6,b7⟩:=(show _/\_/\_/\_/\_/\_/\_/\_ from⟨B2.out.cell 0,B2.out.cell 1,B2.out.cell 2,B2.out.cell 3,B2.out.cell 4,B2.out.cell 5,B2.out.cell 6,B2.out.cell 7⟩);simp only[aj,List.getElem?_toArray,List.getElem?_cons_zero,List.getElem?_cons_succ]at b0 b1 b2 b3 b4 b5 b6 b7;go_wp2_with (go_at_call 110;refine(kq _ _).mono ?_;rintro e w9 ⟨rfl,rfl⟩);refine au ?_;intro W0 hW0;have h1:ak W0 (w.heap.size+1) #[.bool false] 4:=by rw[hW0];exact R2.out.alloc _
 have h3:ak W0 w1.heap.size (aj t.kind t.set t.mn t.mx (.slice p t.subs.length c)) 86:=by rw[hW0];exact ak.new _ _ _
 have hx:Below w.heap.size w W0:=by rw[hW0];exact X2.out.trans (((Ext.refl w1).alloc _).below.mono X2.out.size)
 have hsz:W0.heap.size=w1.heap.size+1:=by rw[hW0];simp
 clear hW0 b0 b1 b2 b3 b4 b5 b6 b7;have hR9:∀ k,(k<w.heap.size\/k=w1.heap.size)->k<W0.heap.size:=fun k hk=>by rcases hk with hk | hk<;>omega
 refine sL (w:=W0) (d:=true) (MQ.out W0 _ (aa.ah hx fun _ h=>h) h3) (by rfl) mI (by intro _;rfl) hR9
  (fun ys _ W=>ak W (w.heap.size+1) #[.bool false] 4/\Below w.heap.size w W)
  (fun _ _ _ _=>False)
  (fun ys T T' W W' ⟨h1,h3⟩ hT Ld hs hn hk=>⟨h1.kX hT hk (by omega),fS h3 hT hk (Nat.le_refl _) (by omega)⟩)
  (fun c ys T T' W W' h=>h.elim)
  ⟨h1,hx⟩
  (fun z T W=>∃ b9:Nat,z.2.2= {tmps:= #[.agg (aj t.kind t.set t.mn t.mx (.slice p t.subs.length c)),.pointer (some ⟨w.heap.size,0,none⟩),.pointer (some ⟨w.heap.size+1,0,none⟩),.pointer (some ⟨b9,0,none⟩),.agg (aj t.kind t.set t.mn t.mx (.slice p t.subs.length c)),.bool true,.bool false,.agg (aj t.kind t.set t.mn t.mx (.slice p t.subs.length c)),.func (.func 136) #[] #[.pointer (some ⟨w1.heap.size,0,none⟩)],z.2.1.1,undef,undef,undef],defers:=[]} /\W0.heap.size<=b9/\b9<W.heap.size/\¬T b9/\(∃ c,z.2.1.1=.agg c/\ak W b9 c 86)/\ak W (w.heap.size+1) #[.bool false] 4/\Below w.heap.size w W)
  ?hIa ?assign ?body ?done ?stop
 case hIa=>
  rintro⟨pre,x,a1⟩ T T' W W' ⟨b9,e1,e2,e3,e4,⟨c,e5,e6⟩,e7,e8⟩ h1 h2 h3 h4 h5;have hs:=h5.size;refine⟨b9,e1,e2,by omega,fun h=>?_,⟨c,e5,e6.keeps h5.keeps ⟨e3,e4⟩⟩,e7.kX h1 h5 (by omega),fS e8 h1 h5 (Nat.le_refl _) (by omega)⟩;rcases h4 b9 h with h | h
  ·exact e4 h
  ·omega
 case assign=>
  rintro lr pre ⟨xv,xt⟩ T W hp hT hk ⟨i1,i2⟩;have hx:=UH.out (xv,xt) (hp.subset (by simp));obtain⟨p9,c9,e9⟩:=hx.form;dsimp only at e9;subst e9;have I1:=hid i1;have I2:=hid i2;have HT:=hid hT;have HK:=hid hk;clear i1 i2 hT hx hp hk h3 h1;dsimp only[aj,Ch]
  gi_wp2
  have vU:W0.heap.size<=W.heap.size:=HK.out.size;refine⟨((aa.refl _ _).alloc (fun j hj=>?_) _),W.heap.size,rfl,vU,by simp,fun h=>by have:=(HT.out _ h).2;omega,⟨_,rfl,ak.new _ _ _⟩,I1.out.alloc _,I2.out.alloc I2.out.size _⟩;rcases hj with hj | hj
  ·have:=hR9 j hj;omega
  ·exact(HT.out j hj).2
 case body=>
  rintro lr pre ⟨xv,xt⟩ T a1 W hp hT hk vA pY ⟨b9,e1,e2,e3,e4,⟨c9,e5,e6⟩,e7,e8⟩;have hxm:=hp.subset (show(xv,xt)∈pre++ [(xv,xt)] by simp);have hx:=UH.out (xv,xt) hxm;obtain⟨p9,cp9,e9⟩:=hx.form;dsimp only at e1 e5 e9;rw[e5]at e9;injection e9 with e9
  subst e1 e5 e9;have C1:=hid (CR.out _ hxm W (aa.ah e8 fun _ h=>h));have E7:=hid e7;have E8:=hid e8;have HT:=hid hT;obtain⟨b0,b1,b2,b3,b4,b5,b6,b7⟩:=(show _/\_/\_/\_/\_/\_/\_/\_ from⟨e6.cell 0,e6.cell 1,e6.cell 2,e6.cell 3,e6.cell 4,e6.cell 5,e6.cell 6,e6.cell 7⟩);simp only[aj,List.getElem?_toArray,List.getElem?_cons_zero,List.getElem?_cons_succ]at b0 b1 b2 b3 b4 b5 b6 b7;dsimp only[aj]at C1;clear e7 e6 e8 hx hp pY vA hT h3 h1 hxm hk
  gi_wp2_with (gi_at_call 111;refine(CallsIn.inRound lr (callsIn_wide.2 C1.out)).mono ?_;rintro e w2 ⟨rfl,hx⟩;have eZ:=hid hx;clear hx)
  have hs2:=E8.out.size;refine⟨aa.ah eZ.out fun j hj=>?_,E7.out.below eZ.out E7.out.lt,E8.out.trans (eZ.out.mono hs2)⟩;rcases hj with hj | hj
  ·have:=hR9 j hj;omega
  ·exact(HT.out j hj).2
 case done=>
  rintro D T W hD vD hT ⟨i1,hx⟩ kO;have HX:=hid hx;have I1:=hid i1;have f1:=i1.frozen 0;have c1:W.cell? ⟨w.heap.size+1,0,none⟩=some (.bool false):=i1.cell 0;have HD:=hid hD;have vt:=hid kO;clear hx vD hT kO hD i1;dsimp only;go_wp2;have hne:w.heap.size+1≠D:=by have:=HD.out;omega
  have LD:(W.setCell ⟨w.heap.size+1,0,none⟩ (.bool true)).heap[D]? =some (.deferred (some [])):=(Below.heap_setCell _ _ _ _ (by simpa using hne.symm)).trans vt.out;have bt:=(I1.out.set 0 (.bool true));have m0:((W.setCell ⟨w.heap.size+1,0,none⟩ (.bool true)).putObj D (.deferred none)).cell? ⟨w.heap.size+1,0,none⟩=some (.bool true):=(Ad LD rfl rfl _).trans (bt.cell 0);refine cm rfl LD (v:=.bool true) (by simp[results,Tryz.results65,go_sem,m0]) ⟨rfl,?_⟩;have k1:aa (· <w.heap.size) w (W.setCell ⟨w.heap.size+1,0,none⟩ (.bool true)):=(aa.ah HX.out fun _ h=>h).setCell (by simp) _;exact(k1.putObj (by have h1:=HD.out;omega) _).below
 case stop=>rintro D c pre T W _ _ _ _ h _;exact h.elim
end Go.Proofs.YtbiboekhakbnpaaGreatDoor
namespace Go.Proofs.YtbiboekhakbnpaaGreatDoor
open Go Go.RowKit Go.Shelf Go.Maps
theorem Ck (l:List RX):RX.aS l<=10001*l.length:=by
 induction l with
 | nil=>simp[RX.aS]
 | cons x l ih=>
  rw[RX.aS,List.length_cons];have:=yK x;omega
theorem Fv {l:List RX} {i:Nat} {t:RX} (h:l[i]? =some t):RX.aS (l.take (i+1))=RX.aS (l.take i)+t.bM:=by rw[List.take_add_one,h,dD];simp[RX.aS]
theorem Jj (t:RX):t.size<=10000000->∀ (n0:Nat) (v:Value) (w:World),aG (· <n0) w v t->n0<=w.heap.size-> Calls Tryz.prog 112 #[v] w fun e w'=>e=.returned (.int .i64 t.bM)/\Below w.heap.size w w':=by
 induction t using RX.ind with
 | h k s mn mx l ih=>
  intro hsz n0 v w hv cN;obtain⟨p,c,rfl⟩:=hv.form;obtain⟨n,hn⟩:∃ n,n=l.length:=⟨_,rfl⟩;simp only[RX.kind,RX.set,RX.mn,RX.mx,RX.subs]at hv ⊢;rw[<-hn]at hv ⊢;have hn7:n<=10000000:=by rw[hn];exact Nat.le_trans (mJ l) (by rw[RX.size]at hsz;omega)
  have IH:Hid (∀ (i:Nat) (t:RX),l[i]? =some t->∀ (v:Value) (w:World),aG (· <n0) w v t->n0<=w.heap.size->Calls Tryz.prog 112 #[v] w fun e w'=>e=.returned (.int .i64 t.bM)/\Below w.heap.size w w'):=hid fun i t hi v w h h0=>ih t (List.mem_of_getElem? hi) (Nat.le_trans (uq (List.mem_of_getElem? hi)) (by rw[RX.size]at hsz;omega)) n0 v w h h0
  obtain⟨s0,hs0⟩:∃ s0:Nat,s0=if k=2 then 1 else 0:=⟨_,rfl⟩
  have aj8:s0<=1:=by rw[hs0];split<;>omega
  obtain⟨S,hS⟩:∃ S,S=s0+RX.aS l:=⟨_,rfl⟩;have Za:S<=200000000000:=by have:=Ck l;rw[<-hn]at this;omega
  obtain⟨R,hR⟩:∃ R,R=(RX.nd k s mn mx l).bM:=⟨_,rfl⟩;have hRS:R=min (S*(if k=5 then min (RX.times mn mx) 10001 else 1)) 10001:=by rw[hR,RX.bM,hS,hs0]
  rw[<-hR];have HV:=hid hv;have HN:=hid hn;have HS0:=hid hs0;have HSS:=hid hS;have Wv:=hid hRS;clear hv hn hs0 hS hRS hR ih hsz;unfold aj;go_enter Tryz.func112,Tryz.ntmps112;go_upto_region 2 with fail
  refine au ?_;intro V hV;have B1:Hid (ak V w.heap.size #[.int .u8 k,.int .u64 (wd s 0).toNat,.int .u64 (wd s 1).toNat,.int .u64 (wd s 2).toNat,.int .u64 (wd s 3).toNat,.int .i64 mn,.int .i64 mx,.slice p n c] 86):=by rw[hV];exact hid (ak.new _ _ _)
  have X1:Hid (Below w.heap.size w V):=by rw[hV];exact hid ((Ext.refl _).alloc _).below
  clear hV;have b0:V.cell? ⟨w.heap.size,0,none⟩=some (.int .u8 k):=B1.out.cell 0;have b7:V.cell? ⟨w.heap.size,7,none⟩=some (.slice p n c):=B1.out.cell 7
  go_upto_if 10 with fail
  go_cut [3] from 8 to 10 (fun x wx=>x=.int .i64 s0/\wx=V)
  case first=>
   by_cases hk:k=2
   ·have e0:s0=1:=by rw[HS0.out,if_pos hk]
    have d1:((k:Int)==2)=true:=by rw[hk];rfl
    go_wp2_with fail
    go_meet
    exact⟨by rw[e0];rfl,rfl⟩
   ·have e0:s0=0:=by rw[HS0.out,if_neg hk]
    have d1:((k:Int)==2)=false:=by rw[beq_eq_false_iff_ne];omega
    go_wp2_with fail
    go_meet
    exact⟨by rw[e0];rfl,rfl⟩
  case rest=>
  obtain⟨rfl,hwc⟩:=hcut;replace hwc:=hwc.symm;subst hwc;go_wp2;clear b0 b7;go_loopw [14,3] (fun iv sv wr=>∃ i:Nat,i<=n/\iv=.int .i64 i/\sv=.int .i64 ((s0+RX.aS (l.take i):Nat):Int)/\Below V.heap.size V wr) (fun iv _ _=>n-(intOf iv).toNat);case atStart=>exact⟨0,by omega,rfl,by simp[RX.aS],Below.refl _ _⟩
  case round=>
   obtain⟨i,hi,rfl,rfl,hx⟩:=hrel;obtain⟨wo,rfl⟩:∃ wo:World,wo=wr:=⟨_,rfl⟩;have HX:=hid hx;have XO:=hid (X1.out.trans (hx.mono X1.out.size));clear hx;by_cases hlt:i<n
   ·have ed:(i:Int)<n:=by omega
    obtain⟨t,ht⟩:∃ t,l[i]? =some t:=⟨_,List.getElem?_eq_getElem (by have:=HN.out;omega)⟩;obtain⟨b,off,p',c',ep,hbF,hb,_,⟨q0,q1,q2,q3,q4,q5,q6,q7⟩,hrt⟩:=(HV.out.mV (XO.out.mono cN)).elem ht;subst ep;have zR:=Fv ht;obtain⟨m,hm⟩:∃ m,m=RX.aS (l.take i):=⟨_,rfl⟩;have aka:m<=100010000000:=by have:=Ck (l.take i);rw[List.length_take]at this;rw[hm];omega
    have htp:=yK t;obtain⟨tp,UI⟩:∃ tp,tp=t.bM:=⟨_,rfl⟩;rw[<-hm]at zR ⊢;rw[<-UI]at zR htp;have e1:IntKind.i64.wrap (((s0+m:Nat):Int)+(tp:Int))=((s0+m+tp:Nat):Int):=by rw[IntWalk.i64_in _ (by omega)];omega
    obtain⟨sm,hsm⟩:∃ sm,sm=s0+m:=⟨_,rfl⟩;rw[<-hsm]at e1 ⊢;have Sy:s0+RX.aS (l.take (i+1))=sm+tp:=by rw[zR,hsm];omega
    have C1:=hid (fun W (hW:Below wo.heap.size wo W)=>IH.out i t ht _ W (hrt.mV (hW.mono (Nat.le_trans cN XO.out.size))) (Nat.le_trans (Nat.le_trans cN XO.out.size) hW.size));unfold aj at C1;rw[<-UI]at C1;have Ww:=hid Sy;clear hrt zR hm Sy hsm UI ht;go_wp2_with fail
    refine aw ?_;intro V2 hV2;have X2:Hid (Below wo.heap.size wo V2):=by rw[hV2];exact hid ((Ext.refl _).alloc _).below
    clear hV2;refine(C1.out V2 X2.out).mono ?_;rintro e w3 ⟨rfl,hx⟩;have X3:=hid (HX.out.trans ((X2.out.trans (hx.mono X2.out.size)).mono HX.out.size));clear hx C1 X2;go_wp2;go_roundw;case rel=>exact⟨i+1,by omega,by go_num,by rw[Ww.out,Int.natCast_add],X3.out⟩
    case measure=>simp[intOf];omega
   ·obtain rfl:i=n:=by omega
    have ed:¬ ((i:Int)<i):=by omega
    have dw:s0+RX.aS (l.take i)=S:=by rw[HSS.out,HN.out,List.take_length]
    rw[dw];obtain⟨b0,b5,b6⟩:=(show _/\_/\_ from⟨(B1.out.below HX.out B1.out.lt).cell 0,(B1.out.below HX.out B1.out.lt).cell 5,(B1.out.below HX.out B1.out.lt).cell 6⟩);simp only[List.getElem?_toArray,List.getElem?_cons_zero,List.getElem?_cons_succ]at b0 b5 b6;clear dw;by_cases hk:k=5
    ·have d1:((k:Int)==5)=true:=by rw[hk];rfl
     have Jk:=Wv.out;rw[if_pos hk]at Jk;obtain⟨L,hL⟩:∃ L:Int,max mn 0=L:=⟨_,rfl⟩;by_cases hx1:mx= -1
     ·have d2:(mx== -1)=true:=by rw[hx1];rfl
      obtain⟨T0,JQ⟩:∃ T0:Int,max L mx=T0:=⟨_,rfl⟩;obtain⟨T1,hT1⟩:∃ T1:Int,max L 1=T1:=⟨_,rfl⟩;obtain⟨F,hF⟩:∃ F:Nat,F=min (RX.times mn mx) 10001:=⟨_,rfl⟩;have Fm:min T1 10001=(F:Int):=by rw[hF, <-hT1, <-hL];unfold RX.times;rw[if_pos hx1];omega
      have UJ:F<=10001:=by rw[hF];omega
      rw[<-hF]at Jk;have GY:S*F<=200000000000*10001:=Nat.mul_le_mul Za UJ;obtain⟨M,hM⟩:∃ M,M=S*F:=⟨_,rfl⟩;have e1:IntKind.i64.wrap ((S:Int)*(F:Int))=(M:Int):=by rw[show(S:Int)*(F:Int)=(M:Int) by rw[hM];push_cast;rfl];exact IntWalk.i64_in _ (by omega)
      rw[<-hM]at Jk;have e2:min (M:Int) 10001=(R:Int):=by omega
      have HRX:=hid Jk;clear Jk hM hF GY;subst hx1;go_wp2;go_ret;exact⟨rfl,XO.out⟩
     ·have d2:(mx== -1)=false:=beq_false_of_ne hx1
      obtain⟨T0,JQ⟩:∃ T0:Int,max L mx=T0:=⟨_,rfl⟩;obtain⟨F,hF⟩:∃ F:Nat,F=min (RX.times mn mx) 10001:=⟨_,rfl⟩;have Fm:min T0 10001=(F:Int):=by rw[hF, <-JQ, <-hL];unfold RX.times;rw[if_neg hx1];omega
      have UJ:F<=10001:=by rw[hF];omega
      rw[<-hF]at Jk;have GY:S*F<=200000000000*10001:=Nat.mul_le_mul Za UJ;obtain⟨M,hM⟩:∃ M,M=S*F:=⟨_,rfl⟩;have e1:IntKind.i64.wrap ((S:Int)*(F:Int))=(M:Int):=by rw[show(S:Int)*(F:Int)=(M:Int) by rw[hM];push_cast;rfl];exact IntWalk.i64_in _ (by omega)
      rw[<-hM]at Jk;have e2:min (M:Int) 10001=(R:Int):=by omega
      have HRX:=hid Jk;clear Jk hM hF GY;go_wp2;go_ret;exact⟨rfl,XO.out⟩
    ·have d1:((k:Int)==5)=false:=by rw[beq_eq_false_iff_ne];omega
     have e2:min (S:Int) 10001=(R:Int):=by have:=Wv.out;rw[if_neg hk,Nat.mul_one]at this;omega
     go_wp2;go_ret;exact⟨rfl,XO.out⟩
theorem rT (v:Value) (t:RX) (hs:t.size<=10000) (w:World) (h:aG (· <w.heap.size) w v t): Calls Tryz.prog 67 #[v] w fun e w'=>e=.returned (.int .i64 t.bM)/\Below w.heap.size w w':=by
 have CL:Hid (∀ W,Below w.heap.size w W->Calls Tryz.prog 108 #[v] W fun e w'=>e=.returned (.bool true)/\Below W.heap.size W w'):=hid fun W hW=>qG v t hs W ((h.mV hW).mono fun b hb=>Nat.lt_of_lt_of_le hb hW.size)
 have CP:Hid (∀ W,Below w.heap.size w W->Calls Tryz.prog 112 #[v] W fun e w'=>e=.returned (.int .i64 t.bM)/\Below W.heap.size W w'):=hid fun W hW=>Jj t (by omega) w.heap.size v W (h.mV hW) hW.size
 obtain⟨p,c,rfl⟩:=h.form;generalize t.bM=r at*;clear h hs;unfold aj at*;go_enter Tryz.func67,Tryz.ntmps67;go_wp2_with fail
 refine aw ?_;intro V hV;have B1:Hid (ak V w.heap.size (aj t.kind t.set t.mn t.mx (.slice p t.subs.length c)) 86):=by rw[hV];exact hid (ak.new _ _ _)
 have X1:Hid (Below w.heap.size w V):=by rw[hV];exact hid ((Ext.refl _).alloc _).below
 clear hV;refine(CL.out V X1.out).mono ?_;rintro e w1 ⟨rfl,hx⟩;have B2:=hid (B1.out.below hx B1.out.lt);have X2:=hid (X1.out.trans (hx.mono X1.out.size));clear hx B1 X1 CL;obtain⟨b0,b1,b2,b3,b4,b5,b6,b7⟩:=(show _/\_/\_/\_/\_/\_/\_/\_ from⟨B2.out.cell 0,B2.out.cell 1,B2.out.cell 2,B2.out.cell 3,B2.out.cell 4,B2.out.cell 5,B2.out.cell 6,B2.out.cell 7⟩);simp only[aj,List.getElem?_toArray,List.getElem?_cons_zero,List.getElem?_cons_succ]at b0 b1 b2 b3 b4 b5 b6 b7;go_wp2_with fail
 refine(CP.out w1 X2.out).mono ?_;rintro e w2 ⟨rfl,hx⟩;have X3:=hid (X2.out.trans (hx.mono X2.out.size));clear hx b0 b1 b2 b3 b4 b5 b6 b7;go_wp2;go_ret;exact⟨rfl,X3.out⟩
end Go.Proofs.YtbiboekhakbnpaaGreatDoor
