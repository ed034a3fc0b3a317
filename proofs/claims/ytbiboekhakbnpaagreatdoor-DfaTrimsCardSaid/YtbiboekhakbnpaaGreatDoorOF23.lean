/- rx.nodes: the iterator over the nodes of a tree. -/
import Derived.Test.YtbiboekhakbnpaaGreatDoorOF15
set_option maxRecDepth 100000
set_option maxHeartbeats 16000000
open Go.Lib (hid)
namespace Go.Proofs.YtbiboekhakbnpaaGreatDoor
open Go Go.RowKit Go.Shelf Go.Maps
attribute [local go_sem] Oper.semAt_some fk cG
theorem nY {T:Nat->Prop} :∀ (Ds:List Nat) (W:World),(∀ D∈Ds,T D)->Move true T W (Ds.foldl (fun W D=>W.putObj D (.deferred none)) W)
 | [],_,_=>Move.refl _ _ _
 | D::Ds,_,h=>(Move.put (h D (List.mem_cons_self ..)) _).trans (nY Ds _ fun E hE=>h E (List.mem_cons_of_mem _ hE))
theorem iQ:∀ (Ds:List Nat) (W:World),(Ds.foldl (fun W D=>W.putObj D (.deferred none)) W).heap.size=W.heap.size
 | [],_=>rfl
 | D::Ds,_=>by rw[List.foldl_cons,iQ Ds];simp
theorem kq (c:Array Value) (w:World):Calls Tryz.prog 110 #[.agg c] w fun e w'=>e=.returned (.func (.func 136) #[] #[.pointer (some ⟨w.heap.size,0,none⟩)])/\w'=w.alloc (.cells c 86 (0,0)):=by
 go_enter Tryz.func110,Tryz.ntmps110
 go_wp2;go_ret;exact⟨rfl,rfl⟩
theorem mI:∀ args w,(callFunc 136 args).run Tryz.prog w=.ok (.enter 136 args) w:=enters_of Tryz.func136 (by kernel_rfl) rfl
abbrev je:=Value×RX
def Ch (x:je):Array Value:= #[x.1]
theorem xu {l:List RX} (f:Nat->List je) (hf:∀ i t,l[i]? =some t->(f i).map (·.2)=t.pre):∀ j,j<=l.length->((List.range j).flatMap f).map (·.2)=RX.jL (l.take j)
 | 0,_=>by simp[RX.jL]
 | j+1,hj=>by
  have hl:l[j]? =some (l[j]'(by omega)):=List.getElem?_eq_getElem (by omega);have pa:∀ a b:List RX,RX.jL (a++b)=RX.jL a++RX.jL b:=by
   intro a b;induction a with
   | nil=>rfl
   | cons x a ih=>rw[List.cons_append,RX.jL,RX.jL,ih,List.append_assoc]
  rw[List.range_succ,List.flatMap_append,List.map_append,xu f hf j (by omega),List.take_add_one,hl,pa];congr 1;simp[hf j _ hl,RX.jL]
theorem xw (f:Nat->List je) (h:je) {i n:Nat} (hi:i<=n):h::(List.range i).flatMap f<+:h::(List.range n).flatMap f:=by
 induction n with
 | zero=>rw[show i=0 by omega];exact List.prefix_rfl
 | succ n ih=>
  by_cases e:i=n+1
  ·subst e;exact List.prefix_rfl
  ·exact(ih (by omega)).trans (by rw[List.range_succ,List.flatMap_append];exact⟨_,by rw[List.cons_append]⟩)
theorem yQ (f:Nat->List je) (h:je) (i:Nat):h::(List.range (i+1)).flatMap f=(h::(List.range i).flatMap f)++f i:=by rw[List.range_succ,List.flatMap_append,List.cons_append];simp
theorem uq:∀ {l:List RX} {t:RX},t∈l->t.size<=RX.sizes l
 | x::l,t,h=>by
  rw[RX.sizes];rcases List.mem_cons.1 h with rfl | h
  ·omega
  ·have:=uq h;omega
theorem mJ:∀ (l:List RX),l.length<=RX.sizes l
 | []=>by simp
 | x::l=>by
  rw[RX.sizes,List.length_cons];have:=mJ l;have h1:1<=x.size:=by cases x;rw[RX.size];omega
  omega
def Sx (D:Nat):Deferred:= {target:=.collected D,args:= #[]}
theorem kL {P:Program} {fn:Func} {R:Ending->World->Prop} {tmps:Array Value} {v:Value} {Ds:List Nat} {W:World} {x:Exit} (hx:x=.normal\/x=.ret) (hn:Ds.Nodup) (hD:∀ D∈Ds,W.heap[D]? =some (.deferred (some []))) (hr:∀ W,(results fn tmps).run P W=.ok v W) (hR:R (.returned v) (Ds.foldl (fun W D=>W.putObj D (.deferred none)) W)):bodyPostM Fence.wide 0 P fn R x {tmps:=tmps,defers:=Ds.map Sx} W:=by
 have h:=nt (P:=P) (fn:=fn) (tmps:=tmps) (R:=R) Ds W hn hD (hr _) hR;rcases hx with rfl | rfl
 ·exact h
 ·exact h
structure eT (R:Nat->Prop) (J:List je->(Nat->Prop)->World->Prop) (W1:World) (Y:Nat) (yv:Value) (pre:List je) (Ds:List Nat) (T:Nat->Prop) (W:World):Prop where
 iV:∀ k,T k->W1.heap.size<=k/\k<W.heap.size
 y:T Y
 yb:ak W Y #[yv] 122
 nodup:Ds.Nodup
 ds:∀ D∈Ds,T D/\W.heap[D]? =some (.deferred (some []))
 keep:aa R W1 W
 j:J pre T W
theorem eT.more {R:Nat->Prop} {J:List je->(Nat->Prop)->World->Prop} {W1:World} {Y:Nat} {yv:Value} {pre:List je} {Ds:List Nat} {T:Nat->Prop} {W W':World} (h:eT R J W1 Y yv pre Ds T W) (hJ:dQ true W1.heap.size J) (hR:∀ k,R k->k<W1.heap.size) {T':Nat->Prop} (hx:Ext W W') (ht:∀ k,T k->T' k) (YV:∀ k,T' k->(T k\/W.heap.size<=k)/\k<W'.heap.size):eT R J W1 Y yv pre Ds T' W':=by
 have h1:W1.heap.size<=W.heap.size:=h.keep.size;have hr:∀ k,T' k->W1.heap.size<=k/\k<W'.heap.size:=fun k hk=>⟨by rcases(YV k hk).1 with h2 | h2;exact(h.iV k h2).1;omega,(YV k hk).2⟩
 refine⟨hr,ht _ h.y,h.yb.ext hx,h.nodup,fun D hD=>⟨ht _ (h.ds D hD).1,?_⟩,h.keep.tr (hx.mono fun k hk=>by have:=hR k hk;omega),hJ _ _ _ _ _ h.j h.iV hr ht (fun k hk=>(YV k hk).1) (.ext hx)⟩;exact(hx.keep D (h.iV D (h.ds D hD).1).2).trans (h.ds D hD).2
theorem eT.move {R:Nat->Prop} {J:List je->(Nat->Prop)->World->Prop} {W1:World} {Y:Nat} {yv:Value} {pre:List je} {Ds:List Nat} {T Ti J4:Nat->Prop} {W W':World} {B:Nat} (h:eT R J W1 Y yv pre Ds (fun k=>T k\/Ti k) W) (hJ:dQ true W1.heap.size J) (hR:∀ k,R k->k<W1.heap.size) (hB:W1.heap.size<=B) (hYB:Y<B) (hDB:∀ D∈Ds,D<B) (h1:∀ k,Ti k->B<=k/\k<W.heap.size) (h2:∀ k,J4 k->B<=k/\k<W'.heap.size) (h3:∀ k,Ti k->J4 k) (h4:∀ k,J4 k->Ti k\/W.heap.size<=k) (h5:Move true Ti W W'):eT R J W1 Y yv pre Ds (fun k=>T k\/J4 k) W':=by
 have hs:=h5.size;have hr:∀ k,(T k\/J4 k)->W1.heap.size<=k/\k<W'.heap.size:=fun k hk=>by
  rcases hk with hk | hk
  ·have:=h.iV k (.inl hk);exact⟨this.1,by omega⟩
  ·have:=h2 k hk;exact⟨by omega,this.2⟩
 refine⟨hr,?_,h.yb.keeps h5.keeps ⟨h.yb.lt,fun e=>by have:=(h1 _ e).1;omega⟩,h.nodup,fun D hD=>⟨?_,?_⟩,h.keep.tr (h5.keeps.mono fun k hk=>⟨by have:=hR k hk;have:=h.keep.size;omega,fun e=>by have:=(h1 _ e).1;have:=hR k hk;omega⟩),hJ _ _ _ _ _ h.j h.iV hr (fun k hk=>hk.imp id (h3 k)) (fun k hk=>hk.elim (fun h=>.inl (.inl h)) fun h=>(h4 k h).imp .inr id) (h5.mono fun k hk=>.inr hk)⟩
 ·exact h.y.imp id (h3 _)
 ·exact(h.ds D hD).1.imp id (h3 _)
 ·exact(h5.keeps.keep D ⟨(h.iV D (h.ds D hD).1).2,fun e=>by have:=(h1 _ e).1;have:=hDB D hD;omega⟩).trans (h.ds D hD).2
theorem eT.round {R:Nat->Prop} {J:List je->(Nat->Prop)->World->Prop} {W1:World} {Y:Nat} {yv:Value} {pre pre':List je} {Ds:List Nat} {T:Nat->Prop} {W W':World} (h:eT R J W1 Y yv pre Ds T W) (hk:aa (fun k=>R k\/T k) W W') (hj:J pre' T W'):eT R J W1 Y yv pre' Ds T W':=
 ⟨fun k sK=>⟨(h.iV k sK).1,Nat.lt_of_lt_of_le (h.iV k sK).2 hk.size⟩,h.y,h.yb.keeps hk (.inr h.y),h.nodup,fun D hD=>⟨(h.ds D hD).1,(hk.keep D (.inr (h.ds D hD).1)).trans (h.ds D hD).2⟩,h.keep.tr (hk.mono fun _ hk=>.inl hk),hj⟩
structure yR (Jx:List je->(Nat->Prop)->World->Prop) (W1:World) (pre:List je) (Ds:List Nat) (T:Nat->Prop) (W:World):Prop where
 iV:∀ k,T k->W1.heap.size<=k/\k<W.heap.size
 ds:∀ D∈Ds,T D/\W.heap[D]? =some (.deferred (some []))
 j:Jx pre T W
theorem yR.move {Jx:List je->(Nat->Prop)->World->Prop} {W1:World} {pre:List je} {Ds:List Nat} {T Ti J4:Nat->Prop} {W W':World} {B:Nat} (h:yR Jx W1 pre Ds (fun k=>T k\/Ti k) W) (hJ:dQ true W1.heap.size Jx) (hB:W1.heap.size<=B) (hDB:∀ D∈Ds,D<B) (h1:∀ k,Ti k->B<=k/\k<W.heap.size) (h2:∀ k,J4 k->B<=k/\k<W'.heap.size) (h3:∀ k,Ti k->J4 k) (h4:∀ k,J4 k->Ti k\/W.heap.size<=k) (h5:Move true Ti W W'):yR Jx W1 pre Ds (fun k=>T k\/J4 k) W':=by
 have hs:=h5.size;have hr:∀ k,(T k\/J4 k)->W1.heap.size<=k/\k<W'.heap.size:=fun k hk=>by
  rcases hk with hk | hk
  ·have:=h.iV k (.inl hk);exact⟨this.1,by omega⟩
  ·have:=h2 k hk;exact⟨by omega,this.2⟩
 refine⟨hr,fun D hD=>⟨(h.ds D hD).1.imp id (h3 _),?_⟩,hJ _ _ _ _ _ h.j h.iV hr (fun k hk=>hk.imp id (h3 k)) (fun k hk=>hk.elim (fun h=>.inl (.inl h)) fun h=>(h4 k h).imp .inr id) (h5.mono fun k hk=>.inr hk)⟩;exact(h5.keeps.keep D ⟨(h.iV D (h.ds D hD).1).2,fun e=>by have:=(h1 _ e).1;have:=hDB D hD;omega⟩).trans (h.ds D hD).2
theorem qF (n0:Nat) (t:RX):t.size<=10000000->∀ (v:Value) (w:World),aG (· <n0) w v t->n0<=w.heap.size->∃ xs:List je,xs.map (·.2)=t.pre/\(∀ x∈xs,aG (· <n0) w x.1 x.2)/\ ∀ (W:World) (B:Nat) (c:Array Value),v=.agg c->aa (· <n0) w W->ak W B c 86->Seq true Tryz.prog 136 #[.pointer (some ⟨B,0,none⟩)] Ch (fun k=>k<n0\/k=B) xs W:=by
 induction t using RX.ind with
 | h k s mn mx l ih=>
  intro hsz v w hv cN;obtain⟨p,cp,rfl⟩:=hv.form;obtain⟨n,hn⟩:∃ n,n=l.length:=⟨_,rfl⟩;have HV:=hid hv;simp only[RX.kind,RX.set,RX.mn,RX.mx,RX.subs]at HV ⊢;rw[<-hn]at HV ⊢
  have hch:∀ i,∃ xs:List je,∀ t,l[i]? =some t->xs.map (·.2)=t.pre/\(∀ x∈xs,aG (· <n0) w x.1 x.2)/\∀ (p':Option Addr) (c':Nat),aG (· <n0) w (.agg (aj t.kind t.set t.mn t.mx (.slice p' t.subs.length c'))) t->∀ b off,p=some ⟨b,off,none⟩->w.cell? ⟨b,off+i*8+7,none⟩=some (.slice p' t.subs.length c')->
    ∀ (W:World) (B:Nat),aa (· <n0) w W->ak W B (aj t.kind t.set t.mn t.mx (.slice p' t.subs.length c')) 86->Seq true Tryz.prog 136 #[.pointer (some ⟨B,0,none⟩)] Ch (fun k=>k<n0\/k=B) xs W:=fun i=>by
   cases hi:l[i]? with
   | none=>exact⟨[],fun t h=>by cases h⟩
   | some t=>
    obtain⟨b,off,p',c',ep,_,_,_,UD,hr⟩:=HV.out.elem hi;obtain⟨xs,h1,h2,h3⟩:=ih t (List.mem_of_getElem? hi) (Nat.le_trans (uq (List.mem_of_getElem? hi)) (by rw[RX.size]at hsz;omega)) _ w hr cN;refine⟨xs,fun t' e=>?_⟩;cases e;refine⟨h1,h2,fun p2 c2 _ b2 kf e2 hc2 W B hW hB=>?_⟩;rw[ep]at e2;cases e2;have e3:=UD.2.2.2.2.2.2.2;rw[hc2]at e3;cases e3;exact h3 W B _ rfl hW hB
  obtain⟨f,hf⟩:=Classical.axiomOfChoice hch;clear hch ih;obtain⟨cv,hcv⟩:∃ c,c=aj k s mn mx (.slice p n cp):=⟨_,rfl⟩;obtain⟨x0,hx0⟩:∃ x:je,x=(.agg cv,.nd k s mn mx l):=⟨_,rfl⟩;refine⟨x0::(List.range n).flatMap f,?_,fun x hx=>?_,?_⟩
  ·rw[List.map_cons,xu f (fun i t h=>(hf i t h).1) n (by omega),hn,List.take_length,RX.pre,hx0]
  ·rcases List.mem_cons.1 hx with rfl | hx
   ·rw[hx0,hcv];exact HV.out
   ·obtain⟨i,hi,hxi⟩:=List.mem_flatMap.1 hx
    have fU:i<l.length:=by have:=List.mem_range.1 hi;omega
    exact(hf i _ (List.getElem?_eq_getElem fU)).2.1 x hxi
  intro WS B c ec hKS hB;cases ec;rw[<-hcv]at hB;have HF:=hid hf;have JT:=hid hx0;clear hf hv hx0;intro ly J Jx W1 hK hJ Tx hY h0;have HY:=hid hY;have HJ:=hid hJ;have HJX:=hid Tx;clear hY hJ Tx;have B1:=hB.keeps hK hB.lt;have KW:aa (· <n0) w W1:=hKS.tr (hK.mono fun k hk=>Nat.lt_of_lt_of_le hk (by have:=hKS.size;omega));have TS:n0<=W1.heap.size:=by have:=KW.size;omega
  have UE:∀ k,(k<n0\/k=B)->k<W1.heap.size:=fun k hk=>by rcases hk with hk | rfl;omega;exact B1.lt
  have aj1:n<=10000000:=by rw[hn];exact Nat.le_trans (mJ l) (by rw[RX.size]at hsz;omega)
  refine callsIn_wide (n:=0).1 ?_;refine callsIn_of_wp_marks Tryz.func136 rfl trivial ?_ rfl;simp only[Tryz.ntmps136,List.size_toArray,List.length_cons,List.length_nil,Nat.reduceAdd,Nat.reduceSub,Array.replicate_succ,Array.replicate_zero,List.push_toArray,List.append_toArray,List.nil_append,List.cons_append];have I2:eT (fun k=>k<n0\/k=B) J W1 W1.heap.size (.func (.yield ly) #[] #[]) [] [] (fun k=>k=W1.heap.size) (W1.alloc (.cells #[.func (.yield ly) #[] #[]] 122 (0,0))):=
   ⟨fun k hk=>by rw[hk];simp,rfl,ak.new _ _ _,List.nodup_nil,fun D h=>by(cases h),((Ext.refl _).alloc _).mono fun k hk=>UE k hk,HJ.out _ _ _ _ _ h0 (fun k h=>h.elim) (fun k hk=>by rw[hk];simp) (fun k h=>h.elim) (fun k hk=>.inr (by rw[hk];exact Nat.le_refl _)) (.ext ((Ext.refl _).alloc _))⟩
  obtain⟨fn,tm,zV,bd,hy,Ap⟩:=HY.out [] x0 _ _ ⟨_,rfl⟩ I2.iV I2.keep I2.j;have JV:=hid Ap;have I2H:=hid I2;have B2:=hid (B1.alloc (.cells #[.func (.yield ly) #[] #[]] 122 (0,0)));clear Ap I2 h0;rw[Ch,JT.out]at hy;obtain⟨UF,Qu⟩:∃ x,x=(⟨W1.heap.size,0,none⟩:Addr):=⟨_,rfl⟩;have q0:(W1.alloc (.cells #[.func (.yield ly) #[] #[]] 122 (0,0))).cell? ⟨W1.heap.size,0,none⟩=some (.func (.yield ly) #[] #[]):=(ak.new _ _ _).cell 0;rw[hcv]at B2 hy;obtain⟨b0,b1,b2,b3,b4,b5,b6,b7⟩:=(show _/\_/\_/\_/\_/\_/\_/\_ from⟨B2.out.cell 0,B2.out.cell 1,B2.out.cell 2,B2.out.cell 3,B2.out.cell 4,B2.out.cell 5,B2.out.cell 6,B2.out.cell 7⟩);simp only[aj,List.getElem?_toArray,List.getElem?_cons_zero,List.getElem?_cons_succ]at b0 b1 b2 b3 b4 b5 b6 b7;dsimp only[aj]at hy;clear Qu UF;have HN:=hid hn;clear hn
  gi_wp2
  refine JV.out.mono ?_;rintro e W2 (⟨rfl,iz,hk2⟩ | ⟨rfl,hjx,hk2⟩)
  rotate_left
  ·have Qv:=I2H.out.iV
   have h5:=hk2.size;clear hy
   gi_wp2
   exact vB rfl (results_none rfl _ _ _) ⟨⟨_,rfl⟩,_,fun k hk=>⟨(Qv k hk).1,Nat.lt_of_lt_of_le (Qv k hk).2 h5⟩,.inr ⟨[x0],⟨_,rfl⟩,hjx⟩⟩
  have I3:=hid (I2H.out.round hk2 iz);have KB:Hid (ak W2 B (aj k s mn mx (.slice p n cp)) 86):=hid (B2.out.keeps hk2 (.inl (.inr rfl)));have g7:W2.cell? ⟨B,7,none⟩=some (.slice p n cp):=KB.out.cell 7;clear hy iz hk2 q0 b0 b1 b2 b3 b4 b5 b6 b7 B2 I2H JV
  gi_wp2
  have HR:=hid UE;have zQ:=hid KW;clear g7 KB UE KW hB hKS hK;refine wpIn_loop (fun a W=>∃ (i:Nat) (Ds:List Nat) (T:Nat->Prop) (u4 u14 u15 u16 u17 u18 u24:Value),i<=n/\a= {tmps:= #[.func (.yield ly) #[] #[],.pointer (some ⟨B,0,none⟩),.pointer (some ⟨W1.heap.size,0,none⟩),undef,u4,undef,.func (.yield ly) #[] #[],.agg (aj k s mn mx (.slice p n cp)),.bool true,.bool false,.pointer (some ⟨B,7,none⟩),.slice p n cp,.int .i64 n,.int .i64 i,u14,u15,u16,u17,u18,undef,undef,undef,undef,undef,u24],defers:=Ds.map Sx} /\eT (fun k=>k<n0\/k=B) J W1 W1.heap.size (.func (.yield ly) #[] #[]) (x0::(List.range i).flatMap f) Ds T W)
   (fun a _=>n-(intOf (a.tmps.getD 13 undef)).toNat) ⟨0,[],_,undef,undef,undef,undef,undef,undef,undef,by omega,rfl,I3.out⟩ ?_
  rintro a w4 ⟨i,Ds,T,u4,u14,u15,u16,u17,u18,u24,hi,rfl,hI⟩;have HI:=hid hI;clear I3;by_cases hlt:i<n
  rotate_left
  ·obtain rfl:i=n:=by omega
   have ed:¬ ((i:Int)<i):=by omega
   clear hI
   gi_wp2
   refine kL (.inl rfl) HI.out.nodup (fun D hD=>(HI.out.ds D hD).2) (fun W=>results_none rfl _ _ _) ⟨⟨_,rfl⟩,T,fun k hk=>by rw[iQ];exact HI.out.iV k hk,.inl ?_⟩;exact HJ.out _ _ _ _ _ HI.out.j HI.out.iV (fun k hk=>by rw[iQ];exact HI.out.iV k hk) (fun _ h=>h) (fun _ h=>.inl h) (nY Ds w4 fun D hD=>(HI.out.ds D hD).1)
  have ed:(i:Int)<n:=by omega
  obtain⟨t,ht⟩:∃ t,l[i]? =some t:=⟨_,List.getElem?_eq_getElem (by have:=HN.out;omega)⟩;have KW4:Hid (aa (· <n0) w w4):=hid (zQ.out.tr (hI.keep.mono fun k hk=>.inl hk));obtain⟨b,off,p',c',ep,hbF,hb,aj2,⟨q0,q1,q2,q3,q4,q5,q6,q7⟩,hrt⟩:=HV.out.elem ht;have hf9:=(HF.out i t ht).2.2 p' c' hrt b off ep q7;have HFM:=hid ((HF.out i t ht).2.1);have hcell:∀ j,w4.cell? ⟨b,j,none⟩=w.cell? ⟨b,j,none⟩:=fun j=>KW4.out.cell (p:=⟨b,j,none⟩) hbF
  replace q0:=(hcell _).trans q0;replace q1:=(hcell _).trans q1;replace q2:=(hcell _).trans q2;replace q3:=(hcell _).trans q3;replace q4:=(hcell _).trans q4;replace q5:=(hcell _).trans q5;replace q6:=(hcell _).trans q6;replace q7:=(hcell _).trans q7;replace hb:b<w4.heap.size:=Nat.lt_of_lt_of_le hb KW4.out.size;subst ep;have HF9:=hid hf9;have HT:=hid ht;clear hf9 hI ht hcell hrt
  gi_wp2_with (gi_at_call 110;refine(callsIn_wide.2 (kq _ _)).mono ?_;rintro e w5 ⟨rfl,rfl⟩)
  refine D9 ?_;intro w5 YW;have aj4:w5.heap.size=w4.heap.size+2:=by rw[YW];simp
  have x45:Ext w4 w5:=by rw[YW];exact((Ext.refl _).alloc _).alloc _
  have BN:ak w5 (w4.heap.size+1) (aj t.kind t.set t.mn t.mx (.slice p' t.subs.length c')) 86:=by rw[YW];exact(ak.new _ _ _).at (by simp)
  have aj5:W1.heap.size<=w4.heap.size:=HI.out.keep.size;obtain⟨T2,Qv⟩:∃ T2:Nat->Prop,T2=fun k=>T k\/k=w4.heap.size\/k=w4.heap.size+1:=⟨_,rfl⟩
  have i5:eT (fun k=>k<n0\/k=B) J W1 W1.heap.size (.func (.yield ly) #[] #[]) (x0::(List.range i).flatMap f) Ds T2 w5:=HI.out.more HJ.out HR.out x45 (fun k hk=>by rw[Qv];exact .inl hk) (fun k hk=>by
   rw[Qv]at hk;rcases hk with hk | hk | hk
   ·exact⟨.inl hk,by have:=(HI.out.iV k hk).2;omega⟩
   ·exact⟨.inr (by omega),by omega⟩
   ·exact⟨.inr (by omega),by omega⟩)
  have hDs:∀ D∈Ds,D<w5.heap.size:=fun D hD=>(i5.iV D (i5.ds D hD).1).2
  have adP:T2 (w4.heap.size+1):=by rw[Qv];exact .inr (.inr rfl)
  have hseq:=HF9.out w5 (w4.heap.size+1) (KW4.out.tr (x45.mono fun k hk=>by have:k<n0:=hk;omega)) BN;have hY5:W1.heap.size<w5.heap.size:=by omega
  have i5':eT (fun k=>k<n0\/k=B) J W1 W1.heap.size (.func (.yield ly) #[] #[]) ((x0::(List.range i).flatMap f)++ []) Ds (fun k=>T2 k\/False) w5:=by
   rw[List.append_nil];exact i5.more HJ.out HR.out (Ext.refl _) (fun k h=>.inl h) fun k h=>by
    rcases h with h | h
    ·exact⟨.inl h,(i5.iV k h).2⟩
    ·exact h.elim
  have HPF:Hid (∀ pre (x:je),pre++ [x]<+:f i->((x0::(List.range i).flatMap f)++pre)++ [x]<+:x0::(List.range n).flatMap f):=hid fun pre x h=>by
   refine List.IsPrefix.trans ?_ (xw f x0 (show i+1<=n by omega));rw[yQ,List.append_assoc];exact List.prefix_append_right_inj _ |>.2 h
  have Pk:∀ k,(k<n0\/k=w4.heap.size+1)->k<w5.heap.size:=fun k hk=>by
   rcases hk with hk | hk
   ·have:=HR.out k (.inl hk);omega
   ·omega
  have HI5:=hid i5';have I5K:=hid i5;have HT2:=hid Qv;have XW5:=hid x45;have YY:=hid hDs;obtain⟨done,hdone⟩:∃ d,d=x0::(List.range i).flatMap f:=⟨_,rfl⟩;rw[<-hdone]at HI5 HPF I5K;have HDN:=hid hdone;clear i5 i5' Qv x45 BN YW hDs q0 q1 q2 q3 q4 q5 q6 q7 ed hdone
  refine wpIn_wide.2 (sL (d:=true) hseq (by rfl) mI (by intro _;rfl) Pk
   (fun pre Ti W=>eT (fun k=>k<n0\/k=B) J W1 W1.heap.size (.func (.yield ly) #[] #[]) (done++pre) Ds (fun k=>T2 k\/Ti k) W)
   (fun c pre Ti W=>c=.ret/\yR Jx W1 (done++pre) Ds (fun k=>T2 k\/Ti k) W)
   (fun s T T' W W' h h1 h2 h3 h4 h5=>h.move HJ.out HR.out (by omega) hY5 YY.out h1 h2 h3 h4 h5)
   (fun c s T T' W W' h h1 h2 h3 h4 h5=>⟨h.1,h.2.move HJX.out (by omega) YY.out h1 h2 h3 h4 h5⟩)
   HI5.out
   (fun z Ti W=>∃ b9:Nat,z.2.2= {tmps:= #[.func (.yield ly) #[] #[],.pointer (some ⟨B,0,none⟩),.pointer (some ⟨W1.heap.size,0,none⟩),undef,.pointer (some ⟨w4.heap.size,0,none⟩),.pointer (some ⟨b9,0,none⟩),.func (.yield ly) #[] #[],.agg (aj k s mn mx (.slice (some ⟨b,off,none⟩) n cp)),.bool true,.bool false,.pointer (some ⟨B,7,none⟩),.slice (some ⟨b,off,none⟩) n cp,.int .i64 n,.int .i64 i,.bool true,.pointer (some ⟨b,off+i*8,none⟩),.agg (aj t.kind t.set t.mn t.mx (.slice p' t.subs.length c')),.agg (aj t.kind t.set t.mn t.mx (.slice p' t.subs.length c')),.func (.func 136) #[] #[.pointer (some ⟨w4.heap.size+1,0,none⟩)],z.2.1.1,undef,undef,undef,undef,u24],defers:=[]} /\w5.heap.size<=b9/\b9<W.heap.size/\¬Ti b9/\(∃ c,z.2.1.1=.agg c/\ak W b9 c 86)/\eT (fun k=>k<n0\/k=B) J W1 W1.heap.size (.func (.yield ly) #[] #[]) (done++z.1) Ds (fun k=>T2 k\/Ti k) W)
   ?hIa ?assign ?body ?done ?stop)
  case hIa=>
   rintro⟨pre,x,a1⟩ Ti J4 W W' ⟨b9,e1,e2,e3,e4,⟨c,e5,e6⟩,e7⟩ h1 h2 h3 h4 h5;have hs:=h5.size;refine⟨b9,e1,e2,by omega,fun h=>?_,⟨c,e5,e6.keeps h5.keeps ⟨e3,e4⟩⟩,e7.move HJ.out HR.out (by omega) hY5 YY.out h1 h2 h3 h4 h5⟩;rcases h4 b9 h with h | h
   ·exact e4 h
   ·omega
  case assign=>
   rintro lr pre ⟨xv,xt⟩ Ti W hp UG hk hI;have hx:=HFM.out (xv,xt) (hp.subset (by simp));obtain⟨p9,c9,e9⟩:=hx.form;dsimp only at e9;subst e9;have HI9:=hid hI;have HTI:=hid UG;clear hI UG hx hp hseq;dsimp only[aj,Ch]
   gi_wp2
   have vU:w5.heap.size<=W.heap.size:=hk.size;refine⟨((aa.refl _ _).alloc (fun j hj=>?_) _),W.heap.size,rfl,vU,by simp,fun h=>by have:=(HTI.out _ h).2;omega,⟨_,rfl,ak.new _ _ _⟩,HI9.out.more HJ.out HR.out ((Ext.refl _).alloc _) (fun _ h=>h) fun j hj=>⟨.inl hj,by have:=(HI9.out.iV j hj).2;simp;omega⟩⟩;rcases hj with hj | hj
   ·have:=Pk j hj;omega
   ·exact(HTI.out j hj).2
  case body=>
   rintro lr pre ⟨xv,xt⟩ Ti a1 W hp UG hk vA pY ⟨b9,e1,e2,e3,e4,⟨c9,e5,e6⟩,e7⟩;have hx:=HFM.out (xv,xt) (hp.subset (by simp));obtain⟨p9,cp9,e9⟩:=hx.form;dsimp only at e1 e5 e7 e9;rw[e5]at e9;injection e9 with e9
   subst e1 e5 e9;obtain⟨fn,tm,zV,bd,hy,Ap⟩:=HY.out _ _ _ _ (HPF.out pre _ hp) e7.iV e7.keep e7.j;have JV:Hid (RoundIn (Fence.wide.inRound lr) 0 Tryz.prog ly fn tm zV bd W _):=hid Ap;have q0:W.cell? ⟨W1.heap.size,0,none⟩=some (.func (.yield ly) #[] #[]):=e7.yb.cell 0;have E7:=hid e7;obtain⟨b0,b1,b2,b3,b4,b5,b6,b7⟩:=(show _/\_/\_/\_/\_/\_/\_/\_ from⟨e6.cell 0,e6.cell 1,e6.cell 2,e6.cell 3,e6.cell 4,e6.cell 5,e6.cell 6,e6.cell 7⟩);simp only[aj,List.getElem?_toArray,List.getElem?_cons_zero,List.getElem?_cons_succ]at b0 b1 b2 b3 b4 b5 b6 b7;dsimp only[aj,Ch]at hy;have HTI:=hid UG;clear Ap e7 e6 hx hp pY hseq vA UG
   gi_wp2
   refine JV.out.mono ?_;rintro e W2 (⟨rfl,iz,hk2⟩ | ⟨rfl,hjx,hk2⟩)
   ·clear hy q0 b0 b1 b2 b3 b4 b5 b6 b7
    gi_wp2
    refine⟨hk2.mono fun j hj=>?_,?_⟩
    ·rcases hj with(hj | hj) | hj
     ·exact .inl (.inl hj)
     ·exact .inr (.inl (by rw[hj];exact adP))
     ·exact .inr (.inr hj)
    ·dsimp only
     rw[<-List.append_assoc];exact E7.out.round hk2 iz
   ·clear hy q0 b0 b1 b2 b3 b4 b5 b6 b7
    gi_wp2
    refine⟨hk2.mono fun j hj=>.inr hj,rfl,?_⟩;rw[<-List.append_assoc];exact⟨fun j hj=>⟨(E7.out.iV j hj).1,Nat.lt_of_lt_of_le (E7.out.iV j hj).2 hk2.size⟩,fun D hD=>⟨(E7.out.ds D hD).1,(hk2.keep D (E7.out.ds D hD).1).trans (E7.out.ds D hD).2⟩,hjx⟩
  case done=>
   rintro D Ti W hD vD UG hI kO;have HI9:=hid hI;have vt:=hid kO;clear hI kO hseq;dsimp only
   gi_wp2
   refine⟨⟨i+1,D::Ds,fun k=>T2 k\/Ti k,_,_,_,_,_,_,_,by omega,rfl,?_⟩,?_⟩
   ·have e5:=HI9.out
    rw[HDN.out, <-yQ]at e5;refine⟨e5.iV,e5.y,e5.yb,List.nodup_cons.2 ⟨fun h=>by have:=YY.out D h;omega,e5.nodup⟩,fun E hE=>?_,e5.keep,e5.j⟩;rcases List.mem_cons.1 hE with rfl | hE
    ·exact⟨.inr vD,vt.out⟩
    ·exact e5.ds E hE
   ·simp[intOf];omega
  case stop=>
   rintro D c pre Ti W hD vD UG hp ⟨rfl,ho⟩ kO;have HO:=hid ho;clear ho hseq;dsimp only;go_wp2;refine kL (Ds:=D::Ds) (.inr rfl) (List.nodup_cons.2 ⟨fun h=>by have:=YY.out D h;omega,HI.out.nodup⟩) (fun E hE=>?_) (fun W=>results_none rfl _ _ _) ⟨⟨_,rfl⟩,fun k=>T2 k\/Ti k,fun k hk=>by rw[iQ];exact HO.out.iV k hk,.inr ⟨done++pre,?_,?_⟩⟩
   ·rcases List.mem_cons.1 hE with rfl | hE
    ·exact kO
    ·exact(HO.out.ds E hE).2
   ·refine List.IsPrefix.trans ?_ (xw f x0 (show i+1<=n by omega))
    rw[yQ, <-HDN.out];exact List.prefix_append_right_inj _ |>.2 hp
   ·exact HJX.out _ _ _ _ _ HO.out.j HO.out.iV (fun k hk=>by rw[iQ];exact HO.out.iV k hk) (fun _ h=>h) (fun _ h=>.inl h) (nY (D::Ds) W fun E hE=>by
     rcases List.mem_cons.1 hE with rfl | hE
     ·exact .inr vD
     ·exact(HO.out.ds E hE).1)
end Go.Proofs.YtbiboekhakbnpaaGreatDoor
