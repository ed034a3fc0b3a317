/- rx.right at nodes that are right. Printed by wip/gen/rxright.py. -/
import Derived.Test.YtbiboekhakbnpaaGreatDoorOF23
set_option maxRecDepth 100000
set_option maxHeartbeats 16000000
open Go.Lib (hid)
namespace Go.Proofs.YtbiboekhakbnpaaGreatDoor
open Go Go.RowKit Go.Shelf Go.Maps
attribute [local go_sem] Oper.semAt_some fk cG
theorem GX (t:RX):t.pre.length=t.size:=by
 induction t using RX.ind with
 | h k s a b l ih=>
  rw[RX.pre,RX.size,List.length_cons];have:∀ l':List RX,(∀ t∈l',t∈l)->(RX.jL l').length=RX.sizes l':=by
   intro l';induction l' with
   | nil=>intro _;rfl
   | cons x l' Uj=>
    intro hs;rw[RX.jL,RX.sizes,List.length_append,ih x (hs x (List.mem_cons_self ..)),Uj fun t ht=>hs t (List.mem_cons_of_mem _ ht)]
  rw[this l fun _ h=>h];omega
theorem qG (v:Value) (t:RX) (hs:t.size<=10000) (w:World) (h:aG (· <w.heap.size) w v t): Calls Tryz.prog 108 #[v] w fun e w'=>e=.returned (.bool true)/\Below w.heap.size w w':=by
 obtain⟨xs,hmap,sZ,hseq⟩:=qF w.heap.size t (by omega) v w h (Nat.le_refl _);obtain⟨p,c,rfl⟩:=h.form;have hlen:xs.length<=10000:=by
  have e:xs.length=t.pre.length:=by rw[<-hmap,List.length_map]
  rw[e,GX];exact hs
 have MQ:=hid fun W B=>hseq W B _ rfl
 have UH:=hid sZ;clear hseq sZ hmap h hs;refine bD Tryz.func108 rfl ?_;simp only[Tryz.ntmps108,List.size_toArray,List.length_cons,List.length_nil,Nat.reduceAdd,Nat.reduceSub,Array.replicate_succ,Array.replicate_zero,List.push_toArray,List.append_toArray,List.nil_append,List.cons_append,aj];go_wp2;refine wp_scope_straight ?_;go_wp2;go_step3;go_wp2_with (go_at_call 110;refine(kq _ _).mono ?_;rintro e w1 ⟨rfl,rfl⟩);refine au ?_;intro W0 hW0;have h1:ak W0 (w.heap.size+1) #[.int .i64 0] 3:=by rw[hW0];exact((ak.new _ _ _).at (by simp)).alloc _
 have h3:ak W0 (w.heap.size+1+1) (aj t.kind t.set t.mn t.mx (.slice p t.subs.length c)) 86:=by rw[hW0];exact(ak.new _ _ _).at (by simp)
 have hx:Ext w W0:=by rw[hW0];exact(((Ext.refl w).alloc _).alloc _).alloc _
 have hsz:W0.heap.size=w.heap.size+1+1+1:=by rw[hW0];simp
 clear hW0;refine fT (w:=W0) (d:=true) (MQ.out W0 _ (hx.mono fun _ h=>h) h3) (by rfl) mI (by intro _;rfl) (by intro k hk;rcases hk with hk | hk<;>omega)
  (fun ys _ W=>ak W (w.heap.size+1) #[.int .i64 ys.length] 3/\Below w.heap.size w W)
  (fun _ _ _ _=>False)
  (fun ys T T' W W' ⟨h1,h3⟩ hT Ld hs hn hk=>⟨h1.kX hT hk (by omega),fS h3 hT hk (Nat.le_refl _) (by omega)⟩)
  (fun c ys T T' W W' h=>h.elim)
  ⟨h1,hx.below⟩
  (fun x=>⟨#[.agg (aj t.kind t.set t.mn t.mx (.slice p t.subs.length c)),.pointer (some ⟨w.heap.size,0,none⟩),.bool false,.pointer (some ⟨w.heap.size+1,0,none⟩),.agg (aj t.kind t.set t.mn t.mx (.slice p t.subs.length c)),.func (.func 136) #[] #[.pointer (some ⟨w.heap.size+1+1,0,none⟩)],x.1,undef,undef,undef,undef,undef,undef],[]⟩) ?assign ?body ?done ?stop
 case assign=>
  intro l x W K hK
  gi_wp2
  simpa[Ch,aj]using hK
 case body=>
  rintro l pre x T W bp hT hR vA hl ⟨h1,hx⟩;have hle:pre.length+1<=10000:=by
   have hle:=bp.length_le;rw[List.length_append]at hle;simp only[List.length_cons,List.length_nil]at hle;omega
  have c1:W.cell? ⟨w.heap.size+1,0,none⟩=some (.int .i64 pre.length):=h1.cell 0;have f1:=h1.frozen 0;have e1:IntKind.i64.wrap ((pre.length:Int)+1)=(pre.length:Int)+1:=IntWalk.i64_in _ (by omega);have e2:¬ ((10000:Int)<(pre.length:Int)+1):=by omega
  have e3:decide ((10000:Int)<(pre.length:Int)+1)=false:=decide_eq_false e2;have e4:((pre++ [x]).length:Int)=(pre.length:Int)+1:=by rw[List.length_append];rfl
  have H1:=hid h1;have HX:=hid hx;have HS:=hid hsz;have HT:=hid hT;have YZ:=hid e4;clear h1 hx hR hl vA hsz hT h3 bp e4;obtain⟨m,hm⟩:∃ m,m=pre.length:=⟨_,rfl⟩;rw[<-hm]at c1 e1 e2 e3 H1 YZ hle;clear hm
  gi_wp2
  refine⟨((aa.refl _ _).setCell (fun h=>?_) _),(by rw[YZ.out];exact H1.out.set 0 _),HX.out.setCell (by simp) _⟩;have h2:=HS.out;rcases h with(h | h) | h
  ·dsimp only at h;omega
  ·dsimp only at h;omega
  ·have h1:=(HT.out _ h).1;dsimp only at h1;omega
 case done=>
  rintro D T W hD vD hT ⟨h1,hx⟩ kO;have c1:W.cell? ⟨w.heap.size+1,0,none⟩=some (.int .i64 xs.length):=h1.cell 0;have e2:((xs.length:Int)<=10000):=by omega
  have e3:decide ((xs.length:Int)<=10000)=true:=decide_eq_true e2;have HX:=hid hx;have HS:=hid hsz;have HD:=hid hD;have vt:=hid kO;clear h1 hx vD hsz hT kO hD;obtain⟨m,hm⟩:∃ m,m=xs.length:=⟨_,rfl⟩;rw[<-hm]at c1 e2 e3;clear hm;dsimp only;go_wp2;rw[Exit.noGoto_ret];refine cm rfl vt.out (results_tmp rfl _ _ _) ⟨rfl,((aa.ah HX.out fun _ h=>h).putObj (by have h1:=HD.out;have h2:=HS.out;omega) _).below⟩
 case stop=>rintro D c pre T W _ _ _ _ h _;exact h.elim
end Go.Proofs.YtbiboekhakbnpaaGreatDoor
namespace Go.Proofs.YtbiboekhakbnpaaGreatDoor
open Go Go.RowKit Go.Shelf Go.Maps
theorem eV (t:RX) (h:t.ct=true):(t.kind≠2->t.set=0)/\(t.kind≠5->t.mn=0/\t.mx=0)/\(t.kind=3->t.has 1=false/\t.has 3=false)/\(t.kind=4->t.has 4=false)/\(t.kind=5->t.has 1=false):=by
 unfold RX.ct at h;generalize t.kind=k at*;generalize t.set=s at*;generalize t.mn=a at*;generalize t.mx=b at*;generalize t.has 1=i1 at*;generalize t.has 3=i3 at*;generalize t.has 4=i4 at*;generalize t.subs=l at*;split at h
 ·cases h
 rename_i h0;refine⟨fun hk=>Classical.byContradiction fun hs=>h0 (.inl ⟨hk,hs⟩),fun hk=>?_,fun hk=>?_,fun hk=>?_,fun hk=>?_⟩
 ·have h1:¬ (a≠0\/b≠0):=fun e=>h0 (.inr (.inl ⟨hk,e⟩))
  omega
 ·subst hk;simp at h;exact⟨h.1.2,h.2⟩
 ·subst hk;simp at h;exact h.2
 ·subst hk;simp at h;exact h.2
theorem Fs (a b:Int) (h:gI a b=true) (w:World): Calls Tryz.prog 138 #[.int .i64 a,.int .i64 b] w fun e w'=>e=.returned (.bool true)/\w'=w:=by
 unfold gI at h;split at h
 ·cases h
 rename_i h0;simp only[Bool.or_eq_true,Bool.and_eq_true,decide_eq_true_eq]at h;have e1:decide (a<0)=false:=decide_eq_false (by omega);have e2:decide (16<a)=false:=decide_eq_false (by omega);by_cases ha:a=1
 ·subst ha
  have hb1:b≠1:=fun e=>h0 (.inr (.inr ⟨rfl,e⟩))
  have e4:(b==1)=false:=beq_false_of_ne hb1;by_cases hb:b= -1
  ·subst hb
   clear h h0;go_enter Tryz.func138,Tryz.ntmps138;go_wp2;go_ret;exact⟨rfl,rfl⟩
  ·have e5:(b== -1)=false:=beq_false_of_ne hb
   have e6:decide (1<=b)=true:=decide_eq_true (by omega);have e7:decide (b<=16)=true:=decide_eq_true (by omega);have e8:(1:Int)<=b:=by omega
   have e9:b<=16:=by omega
   clear h h0;go_enter Tryz.func138,Tryz.ntmps138;go_wp2;go_ret;exact⟨rfl,rfl⟩
 ·have e3:(a==1)=false:=beq_false_of_ne ha
  by_cases hb:b= -1
  ·subst hb
   clear h h0;go_enter Tryz.func138,Tryz.ntmps138;go_wp2;go_ret;exact⟨rfl,rfl⟩
  ·have e5:(b== -1)=false:=beq_false_of_ne hb
   have e6:decide (1<=b)=true:=decide_eq_true (by omega);have e7:decide (b<=16)=true:=decide_eq_true (by omega);have e8:(1:Int)<=b:=by omega
   have e9:b<=16:=by omega
   have ea:decide (a<=b)=true:=decide_eq_true (by omega);have eb:a<=b:=by omega
   clear h h0;go_enter Tryz.func138,Tryz.ntmps138;go_wp2;go_ret;exact⟨rfl,rfl⟩
theorem MT (x:RX) (a:Value) (k:Nat) (B:Nat) (W:World) (hB:ak W B #[.int .u8 k] 5): Calls Tryz.prog 172 #[.agg (aj x.kind x.set x.mn x.mx a),.pointer (some ⟨B,0,none⟩)] W fun e w'=>e=.returned (.bool (x.kind==k))/\Below W.heap.size W w':=by
 have hB':∀ o,(W.alloc o).cell? ⟨B,0,none⟩=some (.int .u8 k):=fun o=>(hB.alloc o).cell 0
 unfold aj;obtain⟨r,hr⟩:∃ r,r=(x.kind==k):=⟨_,rfl⟩;have e1:((x.kind:Int)==(k:Int))=r:=by
  rw[hr,Bool.eq_iff_iff,beq_iff_eq,beq_iff_eq];omega
 rw[<-hr];clear hr hB;generalize (x.kind:Int)=xk at*;generalize (k:Int)=kk at*;go_enter Tryz.func172,Tryz.ntmps172;go_wp2;go_ret;exact⟨rfl,((Ext.refl _).alloc _).below⟩
theorem Qw:∀ args w,(callFunc 172 args).run Tryz.prog w=.ok (.enter 172 args) w:=enters_of Tryz.func172 (by kernel_rfl) rfl
theorem yS (n0:Nat) (k':Nat) (s:BS) (mn mx:Int) (p:Option Addr) (n c:Nat) (l:List RX) (hn:n=l.length) (hn7:n<=10000000) (k B:Nat) (w:World) (h:aG (· <n0) w (.agg (aj k' s mn mx (.slice p n c))) (.nd k' s mn mx l)) (cN:n0<=w.heap.size) (hB:ak w B #[.int .u8 k] 5): Calls Tryz.prog 180 #[.slice p n c,.func (.func 172) #[] #[.pointer (some ⟨B,0,none⟩)]] w fun e w'=>e=.returned (.int .i64 (eO (fun x:RX=>x.kind==k) l))/\Below w.heap.size w w':=by
 have H:=hid h;have HN:=hid hn;have HB:=hid hB;have eg:=Qw;obtain⟨r,hr⟩:∃ r,r=eO (fun x:RX=>x.kind==k) l:=⟨_,rfl⟩;rw[<-hr];have HR:=hid hr;clear h hn hB hr;go_enter Tryz.func180,Tryz.ntmps180;go_wp2;go_loopw [8] (fun iv wr=>∃ i:Nat,i<=n/\iv=.int .i64 i/\(∀ x∈l.take i,(x.kind==k)=false)/\Below w.heap.size w wr) (fun iv _=>n-(intOf iv).toNat);case atStart=>exact⟨0,by omega,rfl,fun x hx=>by simp at hx,Below.refl _ _⟩
 case round=>
  obtain⟨i,hi,rfl,ha,hx⟩:=hrel;obtain⟨wo,rfl⟩:∃ wo:World,wo=wr:=⟨_,rfl⟩;have HX:=hid hx;have HA:=hid ha;clear hx ha;by_cases hlt:i<n
  ·have ed:(i:Int)<n:=by omega
   obtain⟨t,ht⟩:∃ t,l[i]? =some t:=⟨_,List.getElem?_eq_getElem (by have:=HN.out;omega)⟩;obtain⟨b,off,p',c',ep,hbF,hb,_,⟨q0,q1,q2,q3,q4,q5,q6,q7⟩,_⟩:=(H.out.mV (HX.out.mono cN)).elem ht;subst ep;have C1:=hid (MT t (.slice p' t.subs.length c') k B wo (HB.out.below HX.out HB.out.lt));have HT:=hid ht;unfold aj at C1;obtain⟨g,hg⟩:∃ g,g=(t.kind==k):=⟨_,rfl⟩;rw[<-hg]at C1;have HG:=hid hg;clear ht hg;cases g with
   | true=>
    have fK:=hid (HR.out.trans (lH HT.out HG.out.symm HA.out));go_wp2_with fail
    refine C1.out.mono ?_;rintro e w2 ⟨rfl,hx⟩;have X2:=hid (HX.out.trans (hx.mono HX.out.size));clear hx;go_wp2;go_ret;exact⟨by rw[fK.out];rfl,X2.out⟩
   | false=>
    go_wp2_with fail
    refine C1.out.mono ?_;rintro e w2 ⟨rfl,hx⟩;have X2:=hid (HX.out.trans (hx.mono HX.out.size));clear hx;go_wp2;go_roundw;case rel=>exact⟨i+1,by omega,by go_num,qj HT.out HG.out.symm HA.out,X2.out⟩
    case measure=>simp[intOf];omega
  ·obtain rfl:i=n:=by omega
   have ed:¬ ((i:Int)<i):=by omega
   have fK:=hid (HR.out.trans (lI fun y hy=>HA.out y (by rw[HN.out,List.take_length];exact hy)));go_wp2;go_ret;exact⟨by rw[fK.out];rfl,HX.out⟩
theorem pL (n0:Nat) (v:Value) (t:RX) (k:Nat) (w:World) (h:aG (· <n0) w v t) (cN:n0<=w.heap.size) (hs:t.size<=10000000): Calls Tryz.prog 137 #[v,.int .u8 k] w fun e w'=>e=.returned (.bool (t.has k))/\Below w.heap.size w w':=by
 cases t with
 | nd k' s mn mx l=>
  obtain⟨p,c,rfl⟩:=h.form;obtain⟨n,hn⟩:∃ n,n=l.length:=⟨_,rfl⟩;have hn7:n<=10000000:=by rw[hn];exact Nat.le_trans (mJ l) (by rw[RX.size]at hs;omega)
  simp only[RX.kind,RX.set,RX.mn,RX.mx,RX.subs]at h ⊢;rw[<-hn]at h ⊢;have CF:Hid (∀ W B,Below w.heap.size w W->ak W B #[.int .u8 k] 5->Calls Tryz.prog 171 #[.slice p n c,.func (.func 172) #[] #[.pointer (some ⟨B,0,none⟩)]] W fun e w'=>e=.returned (.bool (l.any fun x=>x.kind==k))/\Below W.heap.size W w'):=hid fun W B hW hB=>by
   have CI:=hid (yS n0 k' s mn mx p n c l hn hn7 k B W (h.mV (hW.mono cN)) (Nat.le_trans cN hW.size) hB);rw[<-nJ];clear h hn hB;generalize eO (fun x:RX=>x.kind==k) l=z at CI ⊢;go_enter Tryz.func171,Tryz.ntmps171;go_wp2_with fail
   refine CI.out.mono ?_;rintro e w2 ⟨rfl,hx⟩;have X2:=hid hx;clear hx;go_wp2;go_ret;exact⟨rfl,X2.out⟩
  have hr:(RX.nd k' s mn mx l).has k=l.any fun x=>x.kind==k:=rfl
  rw[hr];generalize (l.any fun x=>x.kind==k)=r at CF ⊢;clear h hn hr hs;unfold aj;go_enter Tryz.func137,Tryz.ntmps137;go_wp2_with fail
  refine aw ?_;intro V hV;have B1:ak V (w.heap.size+1) #[.int .u8 k] 5:=by rw[hV];exact(ak.new _ _ _).at (by simp)
  have X1:Below w.heap.size w V:=by rw[hV];exact(((Ext.refl w).alloc _).alloc _).below
  clear hV;refine(CF.out V _ X1 B1).mono ?_;rintro e w2 ⟨rfl,hx⟩;have X2:=hid (X1.trans (hx.mono X1.size));clear hx X1 B1 CF;go_wp2;go_ret;exact⟨rfl,X2.out⟩
theorem mK (s:BS) (W:World):(Op.equalIn 10000 70 (.agg #[.int .u64 (wd s 0).toNat,.int .u64 (wd s 1).toNat,.int .u64 (wd s 2).toNat,.int .u64 (wd s 3).toNat]) (.agg #[.int .u64 0,.int .u64 0,.int .u64 0,.int .u64 0])).run Tryz.prog W=.ok (s==0) W:=by have h:=iq s 0 W;rw[ej]at h;exact h
theorem yT (n0:Nat) (v:Value) (t:RX) (hk:t.kind=1) (hr:t.ct=true) (w:World) (h:aG (· <n0) w v t) (cN:n0<=w.heap.size) (hs:t.size<=10000000): Calls Tryz.prog 111 #[v] w fun e w'=>e=.returned (.bool true)/\Below w.heap.size w w':=by
 have lV:n0<=w.heap.size/\t.size<=10000000:=⟨cN,hs⟩;clear lV;obtain⟨r2,rl,r0,r6,Jh,r5,Ji⟩:=bS t hr;obtain⟨m2,m5,m3,m4,J5⟩:=eV t hr;obtain⟨p,c,rfl⟩:=h.form;have heq:=mK t.set;rw[show(t.set==0)=true from by rw[m2 (by omega)];rfl]at heq;obtain⟨e1,e2⟩:=m5 (by omega);obtain⟨n,hn⟩:∃ n,n=t.subs.length:=⟨_,rfl⟩;have fL:n=0:=by rw[hn,rl (by omega)];rfl
 rw[<-hn]at*;rw[hk]at*;rw[e1,e2]at*;subst fL;generalize t.set=s at*;generalize t.mn=mn at*;generalize t.mx=mx at*;generalize t.subs=l at*;clear hk hr h hs r2 rl r0 r6 Jh r5 Ji m2 m5 m3 m4 J5 hn e1 e2;unfold aj at*;go_enter Tryz.func111,Tryz.ntmps111;go_wp2;go_ret;exact⟨rfl,((Ext.refl _).alloc _).below⟩
theorem yU (n0:Nat) (v:Value) (t:RX) (hk:t.kind=2) (hr:t.ct=true) (w:World) (h:aG (· <n0) w v t) (cN:n0<=w.heap.size) (hs:t.size<=10000000): Calls Tryz.prog 111 #[v] w fun e w'=>e=.returned (.bool true)/\Below w.heap.size w w':=by
 have lV:n0<=w.heap.size/\t.size<=10000000:=⟨cN,hs⟩;clear lV;obtain⟨r2,rl,r0,r6,Jh,r5,Ji⟩:=bS t hr;obtain⟨m2,m5,m3,m4,J5⟩:=eV t hr;obtain⟨p,c,rfl⟩:=h.form;have heq:=mK t.set;rw[show(t.set==0)=false from beq_false_of_ne (r2 hk)]at heq;obtain⟨e1,e2⟩:=m5 (by omega);obtain⟨n,hn⟩:∃ n,n=t.subs.length:=⟨_,rfl⟩;have fL:n=0:=by rw[hn,rl (by omega)];rfl
 rw[<-hn]at*;rw[hk]at*;rw[e1,e2]at*;subst fL;generalize t.set=s at*;generalize t.mn=mn at*;generalize t.mx=mx at*;generalize t.subs=l at*;clear hk hr h hs r2 rl r0 r6 Jh r5 Ji m2 m5 m3 m4 J5 hn e1 e2;unfold aj at*;go_enter Tryz.func111,Tryz.ntmps111;go_wp2;go_ret;exact⟨rfl,((Ext.refl _).alloc _).below⟩
theorem yV (n0:Nat) (v:Value) (t:RX) (hk:t.kind=3) (hr:t.ct=true) (w:World) (h:aG (· <n0) w v t) (cN:n0<=w.heap.size) (hs:t.size<=10000000): Calls Tryz.prog 111 #[v] w fun e w'=>e=.returned (.bool true)/\Below w.heap.size w w':=by
 have lV:n0<=w.heap.size/\t.size<=10000000:=⟨cN,hs⟩;clear lV;obtain⟨r2,rl,r0,r6,Jh,r5,Ji⟩:=bS t hr;obtain⟨m2,m5,m3,m4,J5⟩:=eV t hr;have Qx:Hid (∀ W,Below w.heap.size w W->Calls Tryz.prog 137 #[v,.int .u8 1] W fun e w'=>e=.returned (.bool false)/\Below W.heap.size W w'):=hid fun W hW=>by
  have:=pL n0 v t 1 W (h.mV (hW.mono cN)) (Nat.le_trans cN hW.size) hs;rwa[show t.has 1=false from(m3 hk).1]at this
 have CH3:Hid (∀ W,Below w.heap.size w W->Calls Tryz.prog 137 #[v,.int .u8 3] W fun e w'=>e=.returned (.bool false)/\Below W.heap.size W w'):=hid fun W hW=>by
  have:=pL n0 v t 3 W (h.mV (hW.mono cN)) (Nat.le_trans cN hW.size) hs;rwa[show t.has 3=false from(m3 hk).2]at this
 obtain⟨p,c,rfl⟩:=h.form;have heq:=mK t.set;rw[show(t.set==0)=true from by rw[m2 (by omega)];rfl]at heq;obtain⟨e1,e2⟩:=m5 (by omega);obtain⟨n,hn⟩:∃ n,n=t.subs.length:=⟨_,rfl⟩;have fL:(1:Int)<n:=by have:=Ji (by omega);omega
 have jc:decide ((1:Int)<n)=true:=decide_eq_true fL;have Qy:=Qx.out;clear Qx;rw[<-hn,hk]at Qy;rw[e1,e2]at Qy;have ch3:=CH3.out;clear CH3;rw[<-hn,hk]at ch3;rw[e1,e2]at ch3;rw[<-hn]at*;rw[hk]at*;rw[e1,e2]at*;generalize t.set=s at*;generalize t.mn=mn at*;generalize t.mx=mx at*;generalize t.subs=l at*;clear hk hr h hs r2 rl r0 r6 Jh r5 Ji m2 m5 m3 m4 J5 hn e1 e2;have Qx:=hid Qy;clear Qy;have CH3:=hid ch3;clear ch3;unfold aj at*;go_enter Tryz.func111,Tryz.ntmps111;go_wp2_with fail
 refine aw ?_;intro V hV;have B1:Hid (ak V w.heap.size #[.int .u8 3,.int .u64 (wd s 0).toNat,.int .u64 (wd s 1).toNat,.int .u64 (wd s 2).toNat,.int .u64 (wd s 3).toNat,.int .i64 0,.int .i64 0,.slice p n c] 86):=by rw[hV];exact hid (ak.new _ _ _)
 have X1:Hid (Below w.heap.size w V):=by rw[hV];exact hid ((Ext.refl _).alloc _).below
 clear hV;refine(Qx.out V X1.out).mono ?_;rintro e w2 ⟨rfl,hx⟩;have X2:=hid (X1.out.trans (hx.mono X1.out.size));have B2:=hid (B1.out.below hx B1.out.lt);clear hx B1 X1;obtain⟨b0,b1,b2,b3,b4,b5,b6,b7⟩:=(show _/\_/\_/\_/\_/\_/\_/\_ from⟨B2.out.cell 0,B2.out.cell 1,B2.out.cell 2,B2.out.cell 3,B2.out.cell 4,B2.out.cell 5,B2.out.cell 6,B2.out.cell 7⟩);simp only[List.getElem?_toArray,List.getElem?_cons_zero,List.getElem?_cons_succ]at b0 b1 b2 b3 b4 b5 b6 b7;go_wp2_with fail
 refine(CH3.out _ X2.out).mono ?_;rintro e w3 ⟨rfl,hx⟩;have X3:=hid (X2.out.trans (hx.mono X2.out.size));clear hx b0 b1 b2 b3 b4 b5 b6 b7;go_wp2;go_ret;exact⟨rfl,X3.out⟩
theorem yX (n0:Nat) (v:Value) (t:RX) (hk:t.kind=4) (hr:t.ct=true) (w:World) (h:aG (· <n0) w v t) (cN:n0<=w.heap.size) (hs:t.size<=10000000): Calls Tryz.prog 111 #[v] w fun e w'=>e=.returned (.bool true)/\Below w.heap.size w w':=by
 have lV:n0<=w.heap.size/\t.size<=10000000:=⟨cN,hs⟩;clear lV;obtain⟨r2,rl,r0,r6,Jh,r5,Ji⟩:=bS t hr;obtain⟨m2,m5,m3,m4,J5⟩:=eV t hr;have CH4:Hid (∀ W,Below w.heap.size w W->Calls Tryz.prog 137 #[v,.int .u8 4] W fun e w'=>e=.returned (.bool false)/\Below W.heap.size W w'):=hid fun W hW=>by
  have:=pL n0 v t 4 W (h.mV (hW.mono cN)) (Nat.le_trans cN hW.size) hs;rwa[show t.has 4=false from m4 hk]at this
 obtain⟨p,c,rfl⟩:=h.form;have heq:=mK t.set;rw[show(t.set==0)=true from by rw[m2 (by omega)];rfl]at heq;obtain⟨e1,e2⟩:=m5 (by omega);obtain⟨n,hn⟩:∃ n,n=t.subs.length:=⟨_,rfl⟩;have fL:(1:Int)<n:=by have:=Ji (by omega);omega
 have jc:decide ((1:Int)<n)=true:=decide_eq_true fL;have ch4:=CH4.out;clear CH4;rw[<-hn,hk]at ch4;rw[e1,e2]at ch4;rw[<-hn]at*;rw[hk]at*;rw[e1,e2]at*;generalize t.set=s at*;generalize t.mn=mn at*;generalize t.mx=mx at*;generalize t.subs=l at*;clear hk hr h hs r2 rl r0 r6 Jh r5 Ji m2 m5 m3 m4 J5 hn e1 e2;have CH4:=hid ch4;clear ch4;unfold aj at*;go_enter Tryz.func111,Tryz.ntmps111;go_wp2_with fail
 refine aw ?_;intro V hV;have B1:Hid (ak V w.heap.size #[.int .u8 4,.int .u64 (wd s 0).toNat,.int .u64 (wd s 1).toNat,.int .u64 (wd s 2).toNat,.int .u64 (wd s 3).toNat,.int .i64 0,.int .i64 0,.slice p n c] 86):=by rw[hV];exact hid (ak.new _ _ _)
 have X1:Hid (Below w.heap.size w V):=by rw[hV];exact hid ((Ext.refl _).alloc _).below
 clear hV;refine(CH4.out V X1.out).mono ?_;rintro e w2 ⟨rfl,hx⟩;have X2:=hid (X1.out.trans (hx.mono X1.out.size));clear hx B1 X1;go_wp2;go_ret;exact⟨rfl,X2.out⟩
theorem yY (n0:Nat) (v:Value) (t:RX) (hk:t.kind=5) (hr:t.ct=true) (w:World) (h:aG (· <n0) w v t) (cN:n0<=w.heap.size) (hs:t.size<=10000000): Calls Tryz.prog 111 #[v] w fun e w'=>e=.returned (.bool true)/\Below w.heap.size w w':=by
 have lV:n0<=w.heap.size/\t.size<=10000000:=⟨cN,hs⟩;clear lV;obtain⟨r2,rl,r0,r6,Jh,r5,Ji⟩:=bS t hr;obtain⟨m2,m5,m3,m4,J5⟩:=eV t hr;have Qx:Hid (∀ W,Below w.heap.size w W->Calls Tryz.prog 137 #[v,.int .u8 1] W fun e w'=>e=.returned (.bool false)/\Below W.heap.size W w'):=hid fun W hW=>by
  have:=pL n0 v t 1 W (h.mV (hW.mono cN)) (Nat.le_trans cN hW.size) hs;rwa[show t.has 1=false from J5 hk]at this
 obtain⟨p,c,rfl⟩:=h.form;have heq:=mK t.set;rw[show(t.set==0)=true from by rw[m2 (by omega)];rfl]at heq;obtain⟨n,hn⟩:∃ n,n=t.subs.length:=⟨_,rfl⟩;have fL:n=1:=by rw[hn];exact Jh (by omega)
 have Qy:=Qx.out;clear Qx;rw[<-hn,hk]at Qy;rw[fL]at Qy;rw[<-hn]at*;have CB:=hid fun W=>Fs t.mn t.mx (r5 hk) W
 rw[hk]at*;subst fL;have d1:(t.mn != 0)=(t.mn != 0):=rfl;obtain⟨g1,hg1⟩:∃ g,g=(t.mn != 0):=⟨_,rfl⟩;generalize t.set=s at*;generalize t.mn=mn at*;generalize t.mx=mx at*;generalize t.subs=l at*;clear hg1 d1 g1;clear hk hr h hs r2 rl r0 r6 Jh r5 Ji m2 m5 m3 m4 J5 hn;have Qx:=hid Qy;clear Qy;unfold aj at*;go_enter Tryz.func111,Tryz.ntmps111;go_wp2_with fail
 refine CB.out _ |>.mono ?_;rintro e w1 ⟨rfl,hw⟩;replace hw:=hw.symm;subst hw;go_wp2_with fail
 refine aw ?_;intro V hV;have B1:Hid (ak V w.heap.size #[.int .u8 5,.int .u64 (wd s 0).toNat,.int .u64 (wd s 1).toNat,.int .u64 (wd s 2).toNat,.int .u64 (wd s 3).toNat,.int .i64 mn,.int .i64 mx,.slice p 1 c] 86):=by rw[hV];exact hid (ak.new _ _ _)
 have X1:Hid (Below w.heap.size w V):=by rw[hV];exact hid ((Ext.refl _).alloc _).below
 clear hV;refine(Qx.out V X1.out).mono ?_;rintro e w2 ⟨rfl,hx⟩;have X2:=hid (X1.out.trans (hx.mono X1.out.size));clear hx B1 X1;go_wp2;go_ret;exact⟨rfl,X2.out⟩
theorem yZ (n0:Nat) (v:Value) (t:RX) (hk:t.kind=6) (hr:t.ct=true) (w:World) (h:aG (· <n0) w v t) (cN:n0<=w.heap.size) (hs:t.size<=10000000): Calls Tryz.prog 111 #[v] w fun e w'=>e=.returned (.bool true)/\Below w.heap.size w w':=by
 have lV:n0<=w.heap.size/\t.size<=10000000:=⟨cN,hs⟩;clear lV;obtain⟨r2,rl,r0,r6,Jh,r5,Ji⟩:=bS t hr;obtain⟨m2,m5,m3,m4,J5⟩:=eV t hr;obtain⟨p,c,rfl⟩:=h.form;have heq:=mK t.set;rw[show(t.set==0)=true from by rw[m2 (by omega)];rfl]at heq;obtain⟨e1,e2⟩:=m5 (by omega);obtain⟨n,hn⟩:∃ n,n=t.subs.length:=⟨_,rfl⟩;have fL:n=1:=by rw[hn];exact Jh (by omega)
 rw[<-hn]at*;rw[hk]at*;rw[e1,e2]at*;subst fL;generalize t.set=s at*;generalize t.mn=mn at*;generalize t.mx=mx at*;generalize t.subs=l at*;clear hk hr h hs r2 rl r0 r6 Jh r5 Ji m2 m5 m3 m4 J5 hn e1 e2;unfold aj at*;go_enter Tryz.func111,Tryz.ntmps111;go_wp2;go_ret;exact⟨rfl,((Ext.refl _).alloc _).below⟩
theorem Ci (n0:Nat) (v:Value) (t:RX) (hr:t.ct=true) (w:World) (h:aG (· <n0) w v t) (cN:n0<=w.heap.size) (hs:t.size<=10000000): Calls Tryz.prog 111 #[v] w fun e w'=>e=.returned (.bool true)/\Below w.heap.size w w':=by
 have h1:=(bS t hr).2.2.1;have h2:=(bS t hr).2.2.2.1;obtain hk | hk | hk | hk | hk | hk:t.kind=1\/t.kind=2\/t.kind=3\/t.kind=4\/t.kind=5\/t.kind=6:=by omega
 ·exact yT n0 v t hk hr w h cN hs
 ·exact yU n0 v t hk hr w h cN hs
 ·exact yV n0 v t hk hr w h cN hs
 ·exact yX n0 v t hk hr w h cN hs
 ·exact yY n0 v t hk hr w h cN hs
 ·exact yZ n0 v t hk hr w h cN hs
end Go.Proofs.YtbiboekhakbnpaaGreatDoor
