/- The law's small trees: letters. -/
import Derived.Test.YtpcmhjbehdgdbaaGreatDoorOI09
import Derived.Deep.CutRange
set_option maxRecDepth 100000
set_option maxHeartbeats 16000000
open Go.Lib (hid)
namespace Go.Proofs.YtpcmhjbehdgdbaaGreatDoor
section
open Go Go.RowKit Go.Shelf Go.Maps
attribute [local go_sem] Oper.semAt_some eU cJ
theorem AQ (t:RX):t.pre.length=t.size:=by
 induction t using RX.ind with
 | h k s a b l ih=>
  rw[RX.pre,RX.size,List.length_cons];have:∀ l':List RX,(∀ t∈l',t∈l)->(RX.ja l').length=RX.sizes l':=by
   intro l';induction l' with
   | nil=>intro _;rfl
   | cons x l' Lb=>
    intro hs;rw[RX.ja,RX.sizes,aQ,ih x (hs x (bL ..)),Lb fun t ht=>hs t (cd _ ht)]
  rw[this l fun _ h=>h];omega
theorem kX (v:Value) (t:RX) (hs:t.size<=10000) (w:World) (h:aH (· <w.heap.size) w v t): ag 86 #[v] w fun e w'=>e=.returned (.bool true)/\aa w w':=by
 obtain⟨xs,hmap,ik,hseq⟩:=kW w.heap.size t (by omega) v w h (aD _);obtain⟨p,c,rfl⟩:=h.form;have hlen:xs.length<=10000:=by
  have e:xs.length=t.pre.length:=by rw[<-hmap,bp]
  rw[e,AQ];exact hs
 have wC:=hid fun W B=>hseq W B _ rfl
 have ue:=hid ik;clear hseq ik hmap h hs;refine bG Tryz.func86 rfl ?_;simp only[Tryz.ntmps86,List.size_toArray,List.length_cons,List.length_nil,Nat.reduceAdd,Nat.reduceSub,Array.replicate_succ,Array.replicate_zero,List.push_toArray,List.append_toArray,List.nil_append,List.cons_append,aj];go_wp2;refine wp_scope_straight ?_;go_wp2;go_step3;go_wp2_with (go_at_call 87;refine(iu _ _).mono ?_;rintro e w1 ⟨rfl,rfl⟩);refine ax ?_;intro W0 hW0;have h1:aq W0 (w.heap.size+1) #[.int .i64 0] 3:=by rw[hW0];exact((aq.new _ _ _).at (by simp)).alloc _
 have h3:aq W0 (w.heap.size+1+1) (aj t.kind t.set t.mn t.mx (.slice p t.subs.length c)) 40:=by rw[hW0];exact(aq.new _ _ _).at (by simp)
 have hx:Ext w W0:=by rw[hW0];exact(((Ext.refl w).alloc _).alloc _).alloc _
 have hsz:W0.heap.size=w.heap.size+1+1+1:=by rw[hW0];simp
 clear hW0;refine ig (w:=W0) (d:=true) (wC W0 _ (hx.mono fun _ h=>h) h3) (by rfl) jn (by intro _;rfl) (by intro k hk;rcases hk with hk | hk<;>omega)
  (fun ys _ W=>aq W (w.heap.size+1) #[.int .i64 ys.length] 3/\aa w W)
  (fun _ _ _ _=>False)
  (fun ys T T' W W' ⟨h1,h3⟩ hT Iy hs hn hk=>⟨h1.gT hT hk (by omega),dc h3 hT hk (aD _) (by omega)⟩)
  (fun c ys T T' W W' h=>h.elim)
  ⟨h1,hx.below⟩
  (fun x=>⟨#[.agg (aj t.kind t.set t.mn t.mx (.slice p t.subs.length c)),.pointer (some ⟨w.heap.size,0,none⟩),.bool false,.pointer (some ⟨w.heap.size+1,0,none⟩),.agg (aj t.kind t.set t.mn t.mx (.slice p t.subs.length c)),.func (.func 115) #[] #[.pointer (some ⟨w.heap.size+1+1,0,none⟩)],x.1,undef,undef,undef,undef,undef,undef],[]⟩) ?assign ?body ?done ?stop
 case assign=>
  intro l x W K hK
  gi_wp2
  simpa[xX,aj]using hK
 case body=>
  rintro l pre x T W bF hT hR rE hl ⟨h1,hx⟩;have hle:pre.length+1<=10000:=by
   have hle:=bF.length_le;rw[aQ]at hle;simp only[List.length_cons,List.length_nil]at hle;omega
  have c1:W.cell? ⟨w.heap.size+1,0,none⟩=some (.int .i64 pre.length):=h1.cell 0;have f1:=h1.frozen 0;have e1:IntKind.i64.wrap ((pre.length:Int)+1)=(pre.length:Int)+1:=IntWalk.i64_in _ (by omega);have e2:¬ ((10000:Int)<(pre.length:Int)+1):=by omega
  have e3:decide ((10000:Int)<(pre.length:Int)+1)=false:=decide_eq_false e2;have e4:((pre++ [x]).length:Int)=(pre.length:Int)+1:=by rw[aQ];rfl
  have H1:=hid h1;have HX:=hid hx;have HS:=hid hsz;have HT:=hid hT;have HE4:=hid e4;clear h1 hx hR hl rE hsz hT h3 bF e4;obtain⟨m,hm⟩:=ah pre.length;rw[<-hm]at c1 e1 e2 e3 H1 HE4 hle;clear hm
  gi_wp2
  refine⟨((ae.refl _ _).setCell (fun h=>?_) _),(by rw[HE4.out];exact H1.set 0 _),HX.setCell (by simp) _⟩;have h2:=HS.out;rcases h with(h | h) | h
  ·dsimp only at h;omega
  ·dsimp only at h;omega
  ·have h1:=(HT.out _ h).1;dsimp only at h1;omega
 case done=>
  rintro D T W hD rJ hT ⟨h1,hx⟩ jN;have c1:W.cell? ⟨w.heap.size+1,0,none⟩=some (.int .i64 xs.length):=h1.cell 0;have e2:((xs.length:Int)<=10000):=by omega
  have e3:decide ((xs.length:Int)<=10000)=true:=decide_eq_true e2;have HX:=hid hx;have HS:=hid hsz;have HD:=hid hD;have oD:=hid jN;clear h1 hx rJ hsz hT jN hD;obtain⟨m,hm⟩:=ah xs.length;rw[<-hm]at c1 e2 e3;clear hm;dsimp only;go_wp2;rw[Exit.noGoto_ret];refine cB rfl oD (results_tmp rfl _ _ _) ⟨rfl,((ae.ai HX fun _ h=>h).putObj (by have h1:=HD.out;have h2:=HS.out;omega) _).below⟩
 case stop=>rintro D c pre T W _ _ _ _ h _;exact h.elim
end
section
open Go Go.RowKit Go.Shelf Go.Maps
theorem gu (t:RX) (h:t.cX=true):(t.kind≠2->t.set=0)/\(t.kind≠5->t.mn=0/\t.mx=0)/\(t.kind=3->t.has 1=false/\t.has 3=false)/\(t.kind=4->t.has 4=false)/\(t.kind=5->t.has 1=false):=by
 unfold RX.cX at h;generalize t.kind=k at*;generalize t.set=s at*;generalize t.mn=a at*;generalize t.mx=b at*;generalize t.has 1=i1 at*;generalize t.has 3=i3 at*;generalize t.has 4=i4 at*;generalize t.subs=l at*;split at h
 ·cases h
 rename_i h0;refine⟨fun hk=>Classical.byContradiction fun hs=>h0 (.inl ⟨hk,hs⟩),fun hk=>?_,fun hk=>?_,fun hk=>?_,fun hk=>?_⟩
 ·have h1:¬ (a≠0\/b≠0):=fun e=>h0 (.inr (.inl ⟨hk,e⟩))
  omega
 ·subst hk;simp at h;exact⟨h.1.2,h.2⟩
 ·subst hk;simp at h;exact h.2
 ·subst hk;simp at h;exact h.2
theorem Ha (a b:Int) (h:iA a b=true) (w:World): ag 117 #[.int .i64 a,.int .i64 b] w fun e w'=>e=.returned (.bool true)/\w'=w:=by
 unfold iA at h;split at h
 ·cases h
 rename_i h0;simp only[Bool.or_eq_true,Bool.and_eq_true,decide_eq_true_eq]at h;have e1:decide (a<0)=false:=decide_eq_false (by omega);have e2:decide (16<a)=false:=decide_eq_false (by omega);by_cases ha:a=1
 ·subst ha
  have hb1:b≠1:=fun e=>h0 (.inr (.inr ⟨rfl,e⟩))
  have e4:(b==1)=false:=beq_false_of_ne hb1;by_cases hb:b= -1
  ·subst hb
   clear h h0;go_enter Tryz.func117,Tryz.ntmps117;go_wp2;go_ret;exact⟨rfl,rfl⟩
  ·have e5:(b== -1)=false:=beq_false_of_ne hb
   have e6:decide (1<=b)=true:=decide_eq_true (by omega);have e7:decide (b<=16)=true:=decide_eq_true (by omega);have e8:(1:Int)<=b:=by omega
   have e9:b<=16:=by omega
   clear h h0;go_enter Tryz.func117,Tryz.ntmps117;go_wp2;go_ret;exact⟨rfl,rfl⟩
 ·have e3:(a==1)=false:=beq_false_of_ne ha
  by_cases hb:b= -1
  ·subst hb
   clear h h0;go_enter Tryz.func117,Tryz.ntmps117;go_wp2;go_ret;exact⟨rfl,rfl⟩
  ·have e5:(b== -1)=false:=beq_false_of_ne hb
   have e6:decide (1<=b)=true:=decide_eq_true (by omega);have e7:decide (b<=16)=true:=decide_eq_true (by omega);have e8:(1:Int)<=b:=by omega
   have e9:b<=16:=by omega
   have ea:decide (a<=b)=true:=decide_eq_true (by omega);have eb:a<=b:=by omega
   clear h h0;go_enter Tryz.func117,Tryz.ntmps117;go_wp2;go_ret;exact⟨rfl,rfl⟩
theorem P2 (x:RX) (a:Value) (k:Nat) (B:Nat) (W:World) (hB:aq W B #[.int .u8 k] 5): ag 147 #[.agg (aj x.kind x.set x.mn x.mx a),.pointer (some ⟨B,0,none⟩)] W fun e w'=>e=.returned (.bool (x.kind==k))/\aa W w':=by
 have hB':∀ o,(W.alloc o).cell? ⟨B,0,none⟩=some (.int .u8 k):=fun o=>(hB.alloc o).cell 0
 unfold aj;obtain⟨r,hr⟩:=ah ((x.kind==k));have e1:((x.kind:Int)==(k:Int))=r:=by
  rw[hr,Bool.eq_iff_iff,beq_iff_eq,beq_iff_eq];omega
 rw[<-hr];clear hr hB;generalize (x.kind:Int)=xk at*;generalize (k:Int)=kk at*;go_enter Tryz.func147,Tryz.ntmps147;go_wp2;go_ret;exact⟨rfl,((Ext.refl _).alloc _).below⟩
theorem Tu:∀ args w,(callFunc 147 args).run Tryz.prog w=.ok (.enter 147 args) w:=enters_of Tryz.func147 (by kernel_rfl) rfl
theorem AR (n0:Nat) (k':Nat) (s:BS) (mn mx:Int) (p:Option Addr) (n c:Nat) (l:List RX) (hn:n=l.length) (hn7:n<=10000000) (k B:Nat) (w:World) (h:aH (· <n0) w (.agg (aj k' s mn mx (.slice p n c))) (.nd k' s mn mx l)) (eZ:n0<=w.heap.size) (hB:aq w B #[.int .u8 k] 5): ag 170 #[.slice p n c,.func (.func 147) #[] #[.pointer (some ⟨B,0,none⟩)]] w fun e w'=>e=.returned (.int .i64 (dW (fun x:RX=>x.kind==k) l))/\aa w w':=by
 have H:=hid h;have HN:=hid hn;have HB:=hid hB;have eg:=Tu;obtain⟨r,hr⟩:=ah (dW (fun x:RX=>x.kind==k) l);rw[<-hr];have HR:=hid hr;clear h hn hB hr;go_enter Tryz.func170,Tryz.ntmps170;go_wp2;go_loopw [8] (fun iv wr=>∃ i:Nat,i<=n/\iv=.int .i64 i/\(∀ x∈l.take i,(x.kind==k)=false)/\aa w wr) (fun iv _=>n-(intOf iv).toNat);case atStart=>exact⟨0,by omega,rfl,fun x hx=>by simp at hx,Below.refl _ _⟩
 case round=>
  obtain⟨i,hi,rfl,ha,hx⟩:=hrel;obtain⟨wo,rfl⟩:=ah (wr:World);have HX:=hid hx;have HA:=hid ha;clear hx ha;by_cases hlt:i<n
  ·have eT:(i:Int)<n:=by omega
   obtain⟨t,ht⟩:∃ t,l[i]? =some t:=⟨_,aC (by have:=HN.out;omega)⟩;obtain⟨b,off,p',c',ep,Tt,hb,_,⟨q0,q1,q2,q3,q4,q5,q6,q7⟩,_⟩:=(H.eK (HX.mono eZ)).elem ht;subst ep;have C1:=hid (P2 t (.slice p' t.subs.length c') k B wo (HB.below HX HB.lt));have HT:=hid ht;unfold aj at C1;obtain⟨g,hg⟩:=ah ((t.kind==k));rw[<-hg]at C1;have HG:=hid hg;clear ht hg;cases g with
   | true=>
    have gN:=hid (HR.trans (j4 HT HG.symm HA));go_wp2_with fail
    refine C1.mono ?_;rintro e w2 ⟨rfl,hx⟩;have X2:=hid (HX.trans (hx.mono HX.size));clear hx;go_wp2;go_ret;exact⟨by rw[gN.out];rfl,X2⟩
   | false=>
    go_wp2_with fail
    refine C1.mono ?_;rintro e w2 ⟨rfl,hx⟩;have X2:=hid (HX.trans (hx.mono HX.size));clear hx;go_wp2;go_roundw;case rel=>exact⟨i+1,by omega,by go_num,nM HT HG.symm HA,X2⟩
    case measure=>simp[intOf];omega
  ·obtain rfl:i=n:=by omega
   have eT:¬ ((i:Int)<i):=by omega
   have gN:=hid (HR.trans (j5 fun y hy=>HA y (by rw[HN.out,List.take_length];exact hy)));go_wp2;go_ret;exact⟨by rw[gN.out];rfl,HX⟩
theorem qT (n0:Nat) (v:Value) (t:RX) (k:Nat) (w:World) (h:aH (· <n0) w v t) (eZ:n0<=w.heap.size) (hs:t.size<=10000000): ag 116 #[v,.int .u8 k] w fun e w'=>e=.returned (.bool (t.has k))/\aa w w':=by
 cases t with
 | nd k' s mn mx l=>
  obtain⟨p,c,rfl⟩:=h.form;obtain⟨n,hn⟩:=ah l.length;have hn7:n<=10000000:=by rw[hn];exact Nat.le_trans (od l) (by rw[RX.size]at hs;omega)
  simp only[RX.kind,RX.set,RX.mn,RX.mx,RX.subs]at h ⊢;rw[<-hn]at h ⊢;have CF:Hid (∀ W B,aa w W->aq W B #[.int .u8 k] 5->ag 146 #[.slice p n c,.func (.func 147) #[] #[.pointer (some ⟨B,0,none⟩)]] W fun e w'=>e=.returned (.bool (l.any fun x=>x.kind==k))/\aa W w'):=hid fun W B hW hB=>by
   have CI:=hid (AR n0 k' s mn mx p n c l hn hn7 k B W (h.eK (hW.mono eZ)) (Nat.le_trans eZ hW.size) hB);rw[<-lD];clear h hn hB;generalize dW (fun x:RX=>x.kind==k) l=z at CI ⊢;go_enter Tryz.func146,Tryz.ntmps146;go_wp2_with fail
   refine CI.mono ?_;rintro e w2 ⟨rfl,hx⟩;have X2:=hid hx;clear hx;go_wp2;go_ret;exact⟨rfl,X2⟩
  have hr:(RX.nd k' s mn mx l).has k=l.any fun x=>x.kind==k:=rfl
  rw[hr];generalize (l.any fun x=>x.kind==k)=r at CF ⊢;clear h hn hr hs;unfold aj;go_enter Tryz.func116,Tryz.ntmps116;go_wp2_with fail
  refine aK ?_;intro V hV;have B1:aq V (w.heap.size+1) #[.int .u8 k] 5:=by rw[hV];exact(aq.new _ _ _).at (by simp)
  have X1:aa w V:=by rw[hV];exact(((Ext.refl w).alloc _).alloc _).below
  clear hV;refine(CF V _ X1 B1).mono ?_;rintro e w2 ⟨rfl,hx⟩;have X2:=hid (X1.trans (hx.mono X1.size));clear hx X1 B1 CF;go_wp2;go_ret;exact⟨rfl,X2⟩
theorem lN (s:BS) (W:World):(Op.equalIn 10000 37 (.agg #[.int .u64 (wd s 0).toNat,.int .u64 (wd s 1).toNat,.int .u64 (wd s 2).toNat,.int .u64 (wd s 3).toNat]) (.agg #[.int .u64 0,.int .u64 0,.int .u64 0,.int .u64 0])).run Tryz.prog W=.ok (s==0) W:=by have h:=jf s 0 W;rw[gi]at h;exact h
theorem AU (n0:Nat) (v:Value) (t:RX) (hk:t.kind=1) (hr:t.cX=true) (w:World) (h:aH (· <n0) w v t) (eZ:n0<=w.heap.size) (hs:t.size<=10000000): ag 88 #[v] w fun e w'=>e=.returned (.bool true)/\aa w w':=by
 have nz:n0<=w.heap.size/\t.size<=10000000:=⟨eZ,hs⟩;clear nz;obtain⟨r2,rl,r0,r6,Ls,r5,Lt⟩:=cL t hr;obtain⟨m2,m5,m3,m4,MN⟩:=gu t hr;obtain⟨p,c,rfl⟩:=h.form;have heq:=lN t.set;rw[show(t.set==0)=true from by rw[m2 (by omega)];rfl]at heq;obtain⟨e1,e2⟩:=m5 (by omega);obtain⟨n,hn⟩:=ah t.subs.length;have pW:n=0:=by rw[hn,rl (by omega)];rfl
 rw[<-hn]at*;rw[hk]at*;rw[e1,e2]at*;subst pW;generalize t.set=s at*;generalize t.mn=mn at*;generalize t.mx=mx at*;generalize t.subs=l at*;clear hk hr h hs r2 rl r0 r6 Ls r5 Lt m2 m5 m3 m4 MN hn e1 e2;unfold aj at*;go_enter Tryz.func88,Tryz.ntmps88;go_wp2;go_ret;exact⟨rfl,((Ext.refl _).alloc _).below⟩
theorem AW (n0:Nat) (v:Value) (t:RX) (hk:t.kind=2) (hr:t.cX=true) (w:World) (h:aH (· <n0) w v t) (eZ:n0<=w.heap.size) (hs:t.size<=10000000): ag 88 #[v] w fun e w'=>e=.returned (.bool true)/\aa w w':=by
 have nz:n0<=w.heap.size/\t.size<=10000000:=⟨eZ,hs⟩;clear nz;obtain⟨r2,rl,r0,r6,Ls,r5,Lt⟩:=cL t hr;obtain⟨m2,m5,m3,m4,MN⟩:=gu t hr;obtain⟨p,c,rfl⟩:=h.form;have heq:=lN t.set;rw[show(t.set==0)=false from beq_false_of_ne (r2 hk)]at heq;obtain⟨e1,e2⟩:=m5 (by omega);obtain⟨n,hn⟩:=ah t.subs.length;have pW:n=0:=by rw[hn,rl (by omega)];rfl
 rw[<-hn]at*;rw[hk]at*;rw[e1,e2]at*;subst pW;generalize t.set=s at*;generalize t.mn=mn at*;generalize t.mx=mx at*;generalize t.subs=l at*;clear hk hr h hs r2 rl r0 r6 Ls r5 Lt m2 m5 m3 m4 MN hn e1 e2;unfold aj at*;go_enter Tryz.func88,Tryz.ntmps88;go_wp2;go_ret;exact⟨rfl,((Ext.refl _).alloc _).below⟩
theorem AZ (n0:Nat) (v:Value) (t:RX) (hk:t.kind=3) (hr:t.cX=true) (w:World) (h:aH (· <n0) w v t) (eZ:n0<=w.heap.size) (hs:t.size<=10000000): ag 88 #[v] w fun e w'=>e=.returned (.bool true)/\aa w w':=by
 have nz:n0<=w.heap.size/\t.size<=10000000:=⟨eZ,hs⟩;clear nz;obtain⟨r2,rl,r0,r6,Ls,r5,Lt⟩:=cL t hr;obtain⟨m2,m5,m3,m4,MN⟩:=gu t hr;have Tv:Hid (∀ W,aa w W->ag 116 #[v,.int .u8 1] W fun e w'=>e=.returned (.bool false)/\aa W w'):=hid fun W hW=>by
  have:=qT n0 v t 1 W (h.eK (hW.mono eZ)) (Nat.le_trans eZ hW.size) hs;rwa[show t.has 1=false from(m3 hk).1]at this
 have CH3:Hid (∀ W,aa w W->ag 116 #[v,.int .u8 3] W fun e w'=>e=.returned (.bool false)/\aa W w'):=hid fun W hW=>by
  have:=qT n0 v t 3 W (h.eK (hW.mono eZ)) (Nat.le_trans eZ hW.size) hs;rwa[show t.has 3=false from(m3 hk).2]at this
 obtain⟨p,c,rfl⟩:=h.form;have heq:=lN t.set;rw[show(t.set==0)=true from by rw[m2 (by omega)];rfl]at heq;obtain⟨e1,e2⟩:=m5 (by omega);obtain⟨n,hn⟩:=ah t.subs.length;have pW:(1:Int)<n:=by have:=Lt (by omega);omega
 have sX:decide ((1:Int)<n)=true:=decide_eq_true pW;have Tw:=Tv.out;clear Tv;rw[<-hn,hk]at Tw;rw[e1,e2]at Tw;have ch3:=CH3.out;clear CH3;rw[<-hn,hk]at ch3;rw[e1,e2]at ch3;rw[<-hn]at*;rw[hk]at*;rw[e1,e2]at*;generalize t.set=s at*;generalize t.mn=mn at*;generalize t.mx=mx at*;generalize t.subs=l at*;clear hk hr h hs r2 rl r0 r6 Ls r5 Lt m2 m5 m3 m4 MN hn e1 e2;have Tv:=hid Tw;clear Tw;have CH3:=hid ch3;clear ch3;unfold aj at*;go_enter Tryz.func88,Tryz.ntmps88;go_wp2_with fail
 refine aK ?_;intro V hV;have B1:Hid (aq V w.heap.size #[.int .u8 3,.int .u64 (wd s 0).toNat,.int .u64 (wd s 1).toNat,.int .u64 (wd s 2).toNat,.int .u64 (wd s 3).toNat,.int .i64 0,.int .i64 0,.slice p n c] 40):=by rw[hV];exact hid (aq.new _ _ _)
 have X1:Hid (aa w V):=by rw[hV];exact hid ((Ext.refl _).alloc _).below
 clear hV;refine(Tv V X1).mono ?_;rintro e w2 ⟨rfl,hx⟩;have X2:=hid (X1.trans (hx.mono X1.size));have B2:=hid (B1.below hx B1.lt);clear hx B1 X1;obtain⟨b0,b1,b2,b3,b4,b5,b6,b7⟩:=(show _/\_/\_/\_/\_/\_/\_/\_ from⟨B2.cell 0,B2.cell 1,B2.cell 2,B2.cell 3,B2.cell 4,B2.cell 5,B2.cell 6,B2.cell 7⟩);simp only[List.getElem?_toArray,List.getElem?_cons_zero,List.getElem?_cons_succ]at b0 b1 b2 b3 b4 b5 b6 b7;go_wp2_with fail
 refine(CH3 _ X2).mono ?_;rintro e w3 ⟨rfl,hx⟩;have X3:=hid (X2.trans (hx.mono X2.size));clear hx b0 b1 b2 b3 b4 b5 b6 b7;go_wp2;go_ret;exact⟨rfl,X3⟩
theorem A0 (n0:Nat) (v:Value) (t:RX) (hk:t.kind=4) (hr:t.cX=true) (w:World) (h:aH (· <n0) w v t) (eZ:n0<=w.heap.size) (hs:t.size<=10000000): ag 88 #[v] w fun e w'=>e=.returned (.bool true)/\aa w w':=by
 have nz:n0<=w.heap.size/\t.size<=10000000:=⟨eZ,hs⟩;clear nz;obtain⟨r2,rl,r0,r6,Ls,r5,Lt⟩:=cL t hr;obtain⟨m2,m5,m3,m4,MN⟩:=gu t hr;have CH4:Hid (∀ W,aa w W->ag 116 #[v,.int .u8 4] W fun e w'=>e=.returned (.bool false)/\aa W w'):=hid fun W hW=>by
  have:=qT n0 v t 4 W (h.eK (hW.mono eZ)) (Nat.le_trans eZ hW.size) hs;rwa[show t.has 4=false from m4 hk]at this
 obtain⟨p,c,rfl⟩:=h.form;have heq:=lN t.set;rw[show(t.set==0)=true from by rw[m2 (by omega)];rfl]at heq;obtain⟨e1,e2⟩:=m5 (by omega);obtain⟨n,hn⟩:=ah t.subs.length;have pW:(1:Int)<n:=by have:=Lt (by omega);omega
 have sX:decide ((1:Int)<n)=true:=decide_eq_true pW;have ch4:=CH4.out;clear CH4;rw[<-hn,hk]at ch4;rw[e1,e2]at ch4;rw[<-hn]at*;rw[hk]at*;rw[e1,e2]at*;generalize t.set=s at*;generalize t.mn=mn at*;generalize t.mx=mx at*;generalize t.subs=l at*;clear hk hr h hs r2 rl r0 r6 Ls r5 Lt m2 m5 m3 m4 MN hn e1 e2;have CH4:=hid ch4;clear ch4;unfold aj at*;go_enter Tryz.func88,Tryz.ntmps88;go_wp2_with fail
 refine aK ?_;intro V hV;have B1:Hid (aq V w.heap.size #[.int .u8 4,.int .u64 (wd s 0).toNat,.int .u64 (wd s 1).toNat,.int .u64 (wd s 2).toNat,.int .u64 (wd s 3).toNat,.int .i64 0,.int .i64 0,.slice p n c] 40):=by rw[hV];exact hid (aq.new _ _ _)
 have X1:Hid (aa w V):=by rw[hV];exact hid ((Ext.refl _).alloc _).below
 clear hV;refine(CH4 V X1).mono ?_;rintro e w2 ⟨rfl,hx⟩;have X2:=hid (X1.trans (hx.mono X1.size));clear hx B1 X1;go_wp2;go_ret;exact⟨rfl,X2⟩
theorem A6 (n0:Nat) (v:Value) (t:RX) (hk:t.kind=5) (hr:t.cX=true) (w:World) (h:aH (· <n0) w v t) (eZ:n0<=w.heap.size) (hs:t.size<=10000000): ag 88 #[v] w fun e w'=>e=.returned (.bool true)/\aa w w':=by
 have nz:n0<=w.heap.size/\t.size<=10000000:=⟨eZ,hs⟩;clear nz;obtain⟨r2,rl,r0,r6,Ls,r5,Lt⟩:=cL t hr;obtain⟨m2,m5,m3,m4,MN⟩:=gu t hr;have Tv:Hid (∀ W,aa w W->ag 116 #[v,.int .u8 1] W fun e w'=>e=.returned (.bool false)/\aa W w'):=hid fun W hW=>by
  have:=qT n0 v t 1 W (h.eK (hW.mono eZ)) (Nat.le_trans eZ hW.size) hs;rwa[show t.has 1=false from MN hk]at this
 obtain⟨p,c,rfl⟩:=h.form;have heq:=lN t.set;rw[show(t.set==0)=true from by rw[m2 (by omega)];rfl]at heq;obtain⟨n,hn⟩:=ah t.subs.length;have pW:n=1:=by rw[hn];exact Ls (by omega)
 have Tw:=Tv.out;clear Tv;rw[<-hn,hk]at Tw;rw[pW]at Tw;rw[<-hn]at*;have CB:=hid fun W=>Ha t.mn t.mx (r5 hk) W
 rw[hk]at*;subst pW;have d1:(t.mn != 0)=(t.mn != 0):=rfl;obtain⟨g1,hg1⟩:=ah ((t.mn != 0));generalize t.set=s at*;generalize t.mn=mn at*;generalize t.mx=mx at*;generalize t.subs=l at*;clear hg1 d1 g1;clear hk hr h hs r2 rl r0 r6 Ls r5 Lt m2 m5 m3 m4 MN hn;have Tv:=hid Tw;clear Tw;unfold aj at*;go_enter Tryz.func88,Tryz.ntmps88;go_wp2_with fail
 refine CB _ |>.mono ?_;rintro e w1 ⟨rfl,hw⟩;replace hw:=hw.symm;subst hw;go_wp2_with fail
 refine aK ?_;intro V hV;have B1:Hid (aq V w.heap.size #[.int .u8 5,.int .u64 (wd s 0).toNat,.int .u64 (wd s 1).toNat,.int .u64 (wd s 2).toNat,.int .u64 (wd s 3).toNat,.int .i64 mn,.int .i64 mx,.slice p 1 c] 40):=by rw[hV];exact hid (aq.new _ _ _)
 have X1:Hid (aa w V):=by rw[hV];exact hid ((Ext.refl _).alloc _).below
 clear hV;refine(Tv V X1).mono ?_;rintro e w2 ⟨rfl,hx⟩;have X2:=hid (X1.trans (hx.mono X1.size));clear hx B1 X1;go_wp2;go_ret;exact⟨rfl,X2⟩
theorem A7 (n0:Nat) (v:Value) (t:RX) (hk:t.kind=6) (hr:t.cX=true) (w:World) (h:aH (· <n0) w v t) (eZ:n0<=w.heap.size) (hs:t.size<=10000000): ag 88 #[v] w fun e w'=>e=.returned (.bool true)/\aa w w':=by
 have nz:n0<=w.heap.size/\t.size<=10000000:=⟨eZ,hs⟩;clear nz;obtain⟨r2,rl,r0,r6,Ls,r5,Lt⟩:=cL t hr;obtain⟨m2,m5,m3,m4,MN⟩:=gu t hr;obtain⟨p,c,rfl⟩:=h.form;have heq:=lN t.set;rw[show(t.set==0)=true from by rw[m2 (by omega)];rfl]at heq;obtain⟨e1,e2⟩:=m5 (by omega);obtain⟨n,hn⟩:=ah t.subs.length;have pW:n=1:=by rw[hn];exact Ls (by omega)
 rw[<-hn]at*;rw[hk]at*;rw[e1,e2]at*;subst pW;generalize t.set=s at*;generalize t.mn=mn at*;generalize t.mx=mx at*;generalize t.subs=l at*;clear hk hr h hs r2 rl r0 r6 Ls r5 Lt m2 m5 m3 m4 MN hn e1 e2;unfold aj at*;go_enter Tryz.func88,Tryz.ntmps88;go_wp2;go_ret;exact⟨rfl,((Ext.refl _).alloc _).below⟩
theorem Ej (n0:Nat) (v:Value) (t:RX) (hr:t.cX=true) (w:World) (h:aH (· <n0) w v t) (eZ:n0<=w.heap.size) (hs:t.size<=10000000): ag 88 #[v] w fun e w'=>e=.returned (.bool true)/\aa w w':=by
 have h1:=(cL t hr).2.2.1;have h2:=(cL t hr).2.2.2.1;obtain hk | hk | hk | hk | hk | hk:t.kind=1\/t.kind=2\/t.kind=3\/t.kind=4\/t.kind=5\/t.kind=6:=by omega
 ·exact AU n0 v t hk hr w h eZ hs
 ·exact AW n0 v t hk hr w h eZ hs
 ·exact AZ n0 v t hk hr w h eZ hs
 ·exact A0 n0 v t hk hr w h eZ hs
 ·exact A6 n0 v t hk hr w h eZ hs
 ·exact A7 n0 v t hk hr w h eZ hs
attribute [local go_sem] Oper.semAt_some eU cJ
theorem P8 (t:RX):∀ x∈t.pre,x.size<=t.size:=by
 induction t using RX.ind with
 | h k s a b l ih=>
  intro x hx;rw[RX.pre]at hx;rcases List.mem_cons.1 hx with rfl | hx
  ·exact aD _
  ·have:∀ l':List RX,(∀ t∈l',t∈l)->x∈RX.ja l'->x.size<=RX.sizes l':=by
    intro l';induction l' with
    | nil=>intro _ h;rw[RX.ja]at h;cases h
    | cons y l' Lb=>
     intro hs h;rw[RX.ja]at h;rw[RX.sizes];rcases List.mem_append.1 h with h | h
     ·have:=ih y (hs y (bL ..)) x h;omega
     ·have:=Lb (fun t ht=>hs t (cd _ ht)) h;omega
   have h5:=this l (fun _ h=>h) hx;rw[RX.size];omega
theorem wD (v:Value) (t:RX) (hs:t.size<=10000) (w:World) (h:aH (· <w.heap.size) w v t): ag 58 #[v] w fun e w'=>e=.returned (.int .i64 t.size)/\aa w w':=by
 have CL:Hid (∀ W,aa w W->ag 86 #[v] W fun e w'=>e=.returned (.bool true)/\aa W w'):=hid fun W hW=>kX v t hs W ((h.eK hW).mono fun b hb=>aw hb hW.size)
 obtain⟨xs,hmap,ik,hseq⟩:=kW w.heap.size t (by omega) v w h (aD _);obtain⟨p,c,rfl⟩:=h.form;have hlen:xs.length=t.size:=by
  have e:xs.length=t.pre.length:=by rw[<-hmap,bp]
  rw[e,AQ]
 rw[<-hlen]at hs ⊢;have wC:=hid fun W B=>hseq W B _ rfl
 clear hseq ik hmap h hlen;refine bG Tryz.func58 rfl ?_;simp only[Tryz.ntmps58,List.size_toArray,List.length_cons,List.length_nil,Nat.reduceAdd,Nat.reduceSub,Array.replicate_succ,Array.replicate_zero,List.push_toArray,List.append_toArray,List.nil_append,List.cons_append,aj]at CL ⊢;go_wp2_with fail
 refine aK ?_;intro V hV;have B1:Hid (aq V w.heap.size (aj t.kind t.set t.mn t.mx (.slice p t.subs.length c)) 40):=by rw[hV];exact hid (aq.new _ _ _)
 have X1:Hid (aa w V):=by rw[hV];exact hid ((Ext.refl _).alloc _).below
 clear hV;refine(CL V X1).mono ?_;rintro e w1 ⟨rfl,hx⟩;have B2:=hid (B1.below hx B1.lt);have X2:=hid (X1.trans (hx.mono X1.size));have Lr:w.heap.size<w1.heap.size:=B2.lt;clear hx B1 X1 CL;obtain⟨b0,b1,b2,b3,b4,b5,b6,b7⟩:=(show _/\_/\_/\_/\_/\_/\_/\_ from⟨(B2.alloc (.cells #[.int .i64 0] 3 (0,0))).cell 0,(B2.alloc (.cells #[.int .i64 0] 3 (0,0))).cell 1,(B2.alloc (.cells #[.int .i64 0] 3 (0,0))).cell 2,(B2.alloc (.cells #[.int .i64 0] 3 (0,0))).cell 3,(B2.alloc (.cells #[.int .i64 0] 3 (0,0))).cell 4,(B2.alloc (.cells #[.int .i64 0] 3 (0,0))).cell 5,(B2.alloc (.cells #[.int .i64 0] 3 (0,0))).cell 6,(B2.alloc (.cells #[.int .i64 0] 3 (0,0))).cell 7⟩);simp only[aj,List.getElem?_toArray,List.getElem?_cons_zero,List.getElem?_cons_succ]at b0 b1 b2 b3 b4 b5 b6 b7;go_wp2_with (go_at_call 87;refine(iu _ _).mono ?_;rintro e w9 ⟨rfl,rfl⟩);refine ax ?_;intro W0 hW0;have h1:aq W0 w1.heap.size #[.int .i64 0] 3:=by rw[hW0];exact(aq.new _ _ _).alloc _
 have h3:aq W0 (w1.heap.size+1) (aj t.kind t.set t.mn t.mx (.slice p t.subs.length c)) 40:=by rw[hW0];exact(aq.new _ _ _).at (by simp)
 have hx:aa w W0:=by rw[hW0];exact X2.trans (((Ext.refl w1).alloc _).alloc _ |>.below.mono X2.size)
 have hsz:W0.heap.size=w1.heap.size+1+1:=by rw[hW0];simp
 clear hW0 b0 b1 b2 b3 b4 b5 b6 b7;refine ig (w:=W0) (d:=true) (wC W0 _ (ae.ai hx fun _ h=>h) h3) (by rfl) jn (by intro _;rfl) (by intro k hk;rcases hk with hk | hk<;>omega)
  (fun ys _ W=>aq W w1.heap.size #[.int .i64 ys.length] 3/\aa w W)
  (fun _ _ _ _=>False)
  (fun ys T T' W W' ⟨h1,h3⟩ hT Iy hs hn hk=>⟨h1.gT hT hk (by omega),dc h3 hT hk (aD _) (by omega)⟩)
  (fun c ys T T' W W' h=>h.elim)
  ⟨h1,hx⟩
  (fun x=>⟨#[.agg (aj t.kind t.set t.mn t.mx (.slice p t.subs.length c)),.pointer (some ⟨w.heap.size,0,none⟩),.int .i64 0,.pointer (some ⟨w1.heap.size,0,none⟩),.agg (aj t.kind t.set t.mn t.mx (.slice p t.subs.length c)),.bool true,.bool false,.agg (aj t.kind t.set t.mn t.mx (.slice p t.subs.length c)),.func (.func 115) #[] #[.pointer (some ⟨w1.heap.size+1,0,none⟩)],x.1,undef,undef,undef],[]⟩) ?assign ?body ?done ?stop
 case assign=>
  intro l x W K hK
  gi_wp2
  simpa[xX,aj]using hK
 case body=>
  rintro l pre x T W bF hT hR rE hl ⟨h1,hx⟩;have hle:pre.length+1<=10000:=by
   have hle:=bF.length_le;rw[aQ]at hle;simp only[List.length_cons,List.length_nil]at hle;omega
  have c1:W.cell? ⟨w1.heap.size,0,none⟩=some (.int .i64 pre.length):=h1.cell 0;have f1:=h1.frozen 0;have e1:IntKind.i64.wrap ((pre.length:Int)+1)=(pre.length:Int)+1:=IntWalk.i64_in _ (by omega);have e4:((pre++ [x]).length:Int)=(pre.length:Int)+1:=by rw[aQ];rfl
  have H1:=hid h1;have HX:=hid hx;have HS:=hid hsz;have HT:=hid hT;have HE4:=hid e4;clear h1 hx hR hl rE hsz hT h3 bF e4;obtain⟨m,hm⟩:=ah pre.length;rw[<-hm]at c1 e1 H1 HE4 hle;clear hm
  gi_wp2
  refine⟨((ae.refl _ _).setCell (fun h=>?_) _),(by rw[HE4.out];exact H1.set 0 _),HX.setCell (by simp;omega) _⟩;have h2:=HS.out;rcases h with(h | h) | h
  ·dsimp only at h;omega
  ·dsimp only at h;omega
  ·have h1:=(HT.out _ h).1;dsimp only at h1;omega
 case done=>
  rintro D T W hD rJ hT ⟨h1,hx⟩ jN;have c1:W.cell? ⟨w1.heap.size,0,none⟩=some (.int .i64 xs.length):=h1.cell 0;have HX:=hid hx;have HS:=hid hsz;have HD:=hid hD;have oD:=hid jN;clear h1 hx rJ hsz hT jN hD;dsimp only;go_wp2;refine cB rfl oD (results_tmp rfl _ _ _) ⟨rfl,((ae.ai HX fun _ h=>h).putObj (by have h1:=HD.out;have h2:=HS.out;omega) _).below⟩
 case stop=>rintro D c pre T W _ _ _ _ h _;exact h.elim
end
section
open Go Go.RowKit Go.Shelf Go.Maps
attribute [local go_sem] Oper.semAt_some eU cJ
theorem tG (v:Value) (t:RX) (hf:t.fine) (hs:t.size<=10000) (w:World) (h:aH (· <w.heap.size) w v t): ag 57 #[v] w fun e w'=>e=.returned (.bool true)/\aa w w':=by
 have CL:Hid (∀ W,aa w W->ag 86 #[v] W fun e w'=>e=.returned (.bool true)/\aa W w'):=hid fun W hW=>kX v t hs W ((h.eK hW).mono fun b hb=>aw hb hW.size)
 obtain⟨xs,hmap,ik,hseq⟩:=kW w.heap.size t (by omega) v w h (aD _);obtain⟨p,c,rfl⟩:=h.form;have CR:Hid (∀ x∈xs,∀ W,ae (· <w.heap.size) w W->ag 88 #[x.1] W fun e w'=>e=.returned (.bool true)/\aa W w'):=hid fun x hx W hW=>by
  have hp:x.2∈t.pre:=by rw[<-hmap];exact List.mem_map_of_mem hx
  exact Ej w.heap.size x.1 x.2 (hf x.2 hp) W ((ik x hx).kept hW) hW.size (by have:=P8 t x.2 hp;omega)
 have wC:=hid fun W B=>hseq W B _ rfl
 have ue:=hid ik;clear hseq ik hmap h hs hf;refine bG Tryz.func57 rfl ?_;simp only[Tryz.ntmps57,List.size_toArray,List.length_cons,List.length_nil,Nat.reduceAdd,Nat.reduceSub,Array.replicate_succ,Array.replicate_zero,List.push_toArray,List.append_toArray,List.nil_append,List.cons_append,aj]at CL ⊢;go_wp2_with fail
 refine aK ?_;intro V hV;have B1:Hid (aq V w.heap.size (aj t.kind t.set t.mn t.mx (.slice p t.subs.length c)) 40):=by rw[hV];exact hid ((aq.new _ _ _).alloc _)
 have R1:Hid (aq V (w.heap.size+1) #[.bool false] 4):=by rw[hV];exact hid ((aq.new (w.alloc _) _ _).at (by simp))
 have X1:Hid (aa w V):=by rw[hV];exact hid (((Ext.refl _).alloc _).alloc _).below
 clear hV;refine(CL V X1).mono ?_;rintro e w1 ⟨rfl,hx⟩;have B2:=hid (B1.below hx B1.lt);have R2:=hid (R1.below hx R1.lt);have X2:=hid (X1.trans (hx.mono X1.size));have Lr:w.heap.size+1<w1.heap.size:=R2.lt;clear hx B1 X1 R1 CL;obtain⟨b0,b1,b2,b3,b4,b5,b6,b7⟩:=(show _/\_/\_/\_/\_/\_/\_/\_ from⟨B2.cell 0,B2.cell 1,B2.cell 2,B2.cell 3,B2.cell 4,B2.cell 5,B2.cell 6,B2.cell 7⟩);simp only[aj,List.getElem?_toArray,List.getElem?_cons_zero,List.getElem?_cons_succ]at b0 b1 b2 b3 b4 b5 b6 b7;go_wp2_with (go_at_call 87;refine(iu _ _).mono ?_;rintro e w9 ⟨rfl,rfl⟩);refine ax ?_;intro W0 hW0;have h1:aq W0 (w.heap.size+1) #[.bool false] 4:=by rw[hW0];exact R2.alloc _
 have h3:aq W0 w1.heap.size (aj t.kind t.set t.mn t.mx (.slice p t.subs.length c)) 40:=by rw[hW0];exact aq.new _ _ _
 have hx:aa w W0:=by rw[hW0];exact X2.trans (((Ext.refl w1).alloc _).below.mono X2.size)
 have hsz:W0.heap.size=w1.heap.size+1:=by rw[hW0];simp
 clear hW0 b0 b1 b2 b3 b4 b5 b6 b7;have MP:∀ k,(k<w.heap.size\/k=w1.heap.size)->k<W0.heap.size:=fun k hk=>by rcases hk with hk | hk<;>omega
 refine kB (w:=W0) (d:=true) (wC W0 _ (ae.ai hx fun _ h=>h) h3) (by rfl) jn (by intro _;rfl) MP
  (fun ys _ W=>aq W (w.heap.size+1) #[.bool false] 4/\aa w W)
  (fun _ _ _ _=>False)
  (fun ys T T' W W' ⟨h1,h3⟩ hT Iy hs hn hk=>⟨h1.gT hT hk (by omega),dc h3 hT hk (aD _) (by omega)⟩)
  (fun c ys T T' W W' h=>h.elim)
  ⟨h1,hx⟩
  (fun z T W=>∃ b9:Nat,z.2.2= {tmps:= #[.agg (aj t.kind t.set t.mn t.mx (.slice p t.subs.length c)),.pointer (some ⟨w.heap.size,0,none⟩),.pointer (some ⟨w.heap.size+1,0,none⟩),.pointer (some ⟨b9,0,none⟩),.agg (aj t.kind t.set t.mn t.mx (.slice p t.subs.length c)),.bool true,.bool false,.agg (aj t.kind t.set t.mn t.mx (.slice p t.subs.length c)),.func (.func 115) #[] #[.pointer (some ⟨w1.heap.size,0,none⟩)],z.2.1.1,undef,undef,undef],defers:=[]} /\W0.heap.size<=b9/\b9<W.heap.size/\¬T b9/\(∃ c,z.2.1.1=.agg c/\aq W b9 c 40)/\aq W (w.heap.size+1) #[.bool false] 4/\aa w W)
  ?hIa ?assign ?body ?done ?stop
 case hIa=>
  rintro⟨pre,x,a1⟩ T T' W W' ⟨b9,e1,e2,e3,e4,⟨c,e5,e6⟩,e7,e8⟩ h1 h2 h3 h4 h5;have hs:=h5.size;refine⟨b9,e1,e2,by omega,fun h=>?_,⟨c,e5,e6.keeps h5.keeps ⟨e3,e4⟩⟩,e7.gT h1 h5 (by omega),dc e8 h1 h5 (aD _) (by omega)⟩;rcases h4 b9 h with h | h
  ·exact e4 h
  ·omega
 case assign=>
  rintro lr pre ⟨xv,xt⟩ T W hp hT hk ⟨i1,i2⟩;have hx:=ue.out (xv,xt) (hp.subset (by simp));obtain⟨p9,c9,e9⟩:=hx.form;dsimp only at e9;subst e9;have I1:=hid i1;have I2:=hid i2;have HT:=hid hT;have HK:=hid hk;clear i1 i2 hT hx hp hk h3 h1;dsimp only[aj,xX]
  gi_wp2
  have xo:W0.heap.size<=W.heap.size:=HK.size;refine⟨((ae.refl _ _).alloc (fun j hj=>?_) _),W.heap.size,rfl,xo,by simp,fun h=>by have:=(HT.out _ h).2;omega,⟨_,rfl,aq.new _ _ _⟩,I1.alloc _,I2.alloc I2.size _⟩;rcases hj with hj | hj
  ·have:=MP j hj;omega
  ·exact(HT j hj).2
 case body=>
  rintro lr pre ⟨xv,xt⟩ T a1 W hp hT hk rE lh ⟨b9,e1,e2,e3,e4,⟨c9,e5,e6⟩,e7,e8⟩;have Jh:=hp.subset (show(xv,xt)∈pre++ [(xv,xt)] by simp);have hx:=ue.out (xv,xt) Jh;obtain⟨p9,cp9,e9⟩:=hx.form;dsimp only at e1 e5 e9;rw[e5]at e9;injection e9 with e9
  subst e1 e5 e9;have C1:=hid (CR.out _ Jh W (ae.ai e8 fun _ h=>h));have E7:=hid e7;have E8:=hid e8;have HT:=hid hT;obtain⟨b0,b1,b2,b3,b4,b5,b6,b7⟩:=(show _/\_/\_/\_/\_/\_/\_/\_ from⟨e6.cell 0,e6.cell 1,e6.cell 2,e6.cell 3,e6.cell 4,e6.cell 5,e6.cell 6,e6.cell 7⟩);simp only[aj,List.getElem?_toArray,List.getElem?_cons_zero,List.getElem?_cons_succ]at b0 b1 b2 b3 b4 b5 b6 b7;dsimp only[aj]at C1;clear e7 e6 e8 hx hp lh rE hT h3 h1 Jh hk
  gi_wp2_with (gi_at_call 88;refine(CallsIn.inRound lr (callsIn_wide.2 C1)).mono ?_;rintro e w2 ⟨rfl,hx⟩;have eW:=hid hx;clear hx)
  have hs2:=E8.size;refine⟨ae.ai eW fun j hj=>?_,E7.below eW E7.lt,E8.trans (eW.mono hs2)⟩;rcases hj with hj | hj
  ·have:=MP j hj;omega
  ·exact(HT j hj).2
 case done=>
  rintro D T W hD rJ hT ⟨i1,hx⟩ jN;have HX:=hid hx;have I1:=hid i1;have f1:=i1.frozen 0;have c1:W.cell? ⟨w.heap.size+1,0,none⟩=some (.bool false):=i1.cell 0;have HD:=hid hD;have oD:=hid jN;clear hx rJ hT jN hD i1;dsimp only;go_wp2;have hne:w.heap.size+1≠D:=by have:=HD.out;omega
  have WE:(W.setCell ⟨w.heap.size+1,0,none⟩ (.bool true)).heap[D]? =some (.deferred (some [])):=(Below.heap_setCell _ _ _ _ (by simpa using hne.symm)).trans oD;have bt:=(I1.set 0 (.bool true));have m0:((W.setCell ⟨w.heap.size+1,0,none⟩ (.bool true)).putObj D (.deferred none)).cell? ⟨w.heap.size+1,0,none⟩=some (.bool true):=(sJ WE rfl rfl _).trans (bt.cell 0);refine cB rfl WE (v:=.bool true) (by simp[results,Tryz.results57,go_sem,m0]) ⟨rfl,?_⟩;have k1:ae (· <w.heap.size) w (W.setCell ⟨w.heap.size+1,0,none⟩ (.bool true)):=(ae.ai HX fun _ h=>h).setCell (by simp) _;exact(k1.putObj (by have h1:=HD.out;omega) _).below
 case stop=>rintro D c pre T W _ _ _ _ h _;exact h.elim
end
section
open Go Go.RowKit Go.Shelf Go.Maps
theorem Ek (l:List RX):RX.bE l<=10001*l.length:=by
 induction l with
 | nil=>simp[RX.bE]
 | cons x l ih=>
  rw[RX.bE,List.length_cons];have:=AE x;omega
theorem Hb {l:List RX} {i:Nat} {t:RX} (h:l[i]? =some t):RX.bE (l.take (i+1))=RX.bE (l.take i)+t.bZ:=by rw[List.take_add_one,h,eE];simp[RX.bE]
theorem Lu (t:RX):t.size<=10000000->∀ (n0:Nat) (v:Value) (w:World),aH (· <n0) w v t->n0<=w.heap.size-> ag 89 #[v] w fun e w'=>e=.returned (.int .i64 t.bZ)/\aa w w':=by
 induction t using RX.ind with
 | h k s mn mx l ih=>
  intro hsz n0 v w hv eZ;obtain⟨p,c,rfl⟩:=hv.form;obtain⟨n,hn⟩:=ah l.length;simp only[RX.kind,RX.set,RX.mn,RX.mx,RX.subs]at hv ⊢;rw[<-hn]at hv ⊢;have hn7:n<=10000000:=by rw[hn];exact Nat.le_trans (od l) (by rw[RX.size]at hsz;omega)
  have IH:Hid (∀ (i:Nat) (t:RX),l[i]? =some t->∀ (v:Value) (w:World),aH (· <n0) w v t->n0<=w.heap.size->ag 89 #[v] w fun e w'=>e=.returned (.int .i64 t.bZ)/\aa w w'):=hid fun i t hi v w h h0=>ih t (aA hi) (Nat.le_trans (wB (aA hi)) (by rw[RX.size]at hsz;omega)) n0 v w h h0
  obtain⟨s0,hs0⟩:=ah (if k=2 then 1 else 0:Nat);have ams:s0<=1:=by rw[hs0];split<;>omega
  obtain⟨S,hS⟩:=ah (s0+RX.bE l);have abz:S<=200000000000:=by have:=Ek l;rw[<-hn]at this;omega
  obtain⟨R,hR⟩:=ah ((RX.nd k s mn mx l).bZ);have hRS:R=min (S*(if k=5 then min (RX.times mn mx) 10001 else 1)) 10001:=by rw[hR,RX.bZ,hS,hs0]
  rw[<-hR];have HV:=hid hv;have HN:=hid hn;have HS0:=hid hs0;have UK:=hid hS;have HRS:=hid hRS;clear hv hn hs0 hS hRS hR ih hsz;unfold aj;go_enter Tryz.func89,Tryz.ntmps89;go_upto_region 2 with fail
  refine ax ?_;intro V hV;have B1:Hid (aq V w.heap.size #[.int .u8 k,.int .u64 (wd s 0).toNat,.int .u64 (wd s 1).toNat,.int .u64 (wd s 2).toNat,.int .u64 (wd s 3).toNat,.int .i64 mn,.int .i64 mx,.slice p n c] 40):=by rw[hV];exact hid (aq.new _ _ _)
  have X1:Hid (aa w V):=by rw[hV];exact hid ((Ext.refl _).alloc _).below
  clear hV;have b0:V.cell? ⟨w.heap.size,0,none⟩=some (.int .u8 k):=B1.cell 0;have b7:V.cell? ⟨w.heap.size,7,none⟩=some (.slice p n c):=B1.cell 7
  go_upto_if 10 with fail
  go_cut [3] from 8 to 10 (fun x wx=>x=.int .i64 s0/\wx=V)
  case first=>
   by_cases hk:k=2
   ·have e0:s0=1:=by rw[HS0.out,if_pos hk]
    have d1:((k:Int)==2)=true:=by rw[hk];rfl
    go_wp2_with fail
    go_meet
    exact⟨by rw[e0];rfl,rfl⟩
   ·have e0:s0=0:=by rw[HS0.out,if_neg hk]
    have d1:((k:Int)==2)=false:=by rw[beq_eq_false_iff_ne];omega
    go_wp2_with fail
    go_meet
    exact⟨by rw[e0];rfl,rfl⟩
  case rest=>
  obtain⟨rfl,hwc⟩:=hcut;replace hwc:=hwc.symm;subst hwc;go_wp2;clear b0 b7;go_loopw [14,3] (fun iv sv wr=>∃ i:Nat,i<=n/\iv=.int .i64 i/\sv=.int .i64 ((s0+RX.bE (l.take i):Nat):Int)/\aa V wr) (fun iv _ _=>n-(intOf iv).toNat);case atStart=>exact⟨0,by omega,rfl,by simp[RX.bE],Below.refl _ _⟩
  case round=>
   obtain⟨i,hi,rfl,rfl,hx⟩:=hrel;obtain⟨wo,rfl⟩:=ah (wr:World);have HX:=hid hx;have XO:=hid (X1.trans (hx.mono X1.size));clear hx;by_cases hlt:i<n
   ·have eT:(i:Int)<n:=by omega
    obtain⟨t,ht⟩:∃ t,l[i]? =some t:=⟨_,aC (by have:=HN.out;omega)⟩;obtain⟨b,off,p',c',ep,Tt,hb,_,⟨q0,q1,q2,q3,q4,q5,q6,q7⟩,hrt⟩:=(HV.eK (XO.mono eZ)).elem ht;subst ep;have hpt:=Hb ht;obtain⟨m,hm⟩:=ah (RX.bE (l.take i));have amt:m<=100010000000:=by have:=Ek (l.take i);rw[List.length_take]at this;rw[hm];omega
    have htp:=AE t;obtain⟨tp,Xi⟩:=ah t.bZ;rw[<-hm]at hpt ⊢;rw[<-Xi]at hpt htp;have e1:IntKind.i64.wrap (((s0+m:Nat):Int)+(tp:Int))=((s0+m+tp:Nat):Int):=by rw[IntWalk.i64_in _ (by omega)];omega
    obtain⟨sm,hsm⟩:=ah (s0+m);rw[<-hsm]at e1 ⊢;have U4:s0+RX.bE (l.take (i+1))=sm+tp:=by rw[hpt,hsm];omega
    have C1:=hid (fun W (hW:aa wo W)=>IH i t ht _ W (hrt.eK (hW.mono (Nat.le_trans eZ XO.size))) (Nat.le_trans (Nat.le_trans eZ XO.size) hW.size));unfold aj at C1;rw[<-Xi]at C1;have Wj:=hid U4;clear hrt hpt hm U4 hsm Xi ht;go_wp2_with fail
    refine aK ?_;intro V2 hV2;have X2:Hid (aa wo V2):=by rw[hV2];exact hid ((Ext.refl _).alloc _).below
    clear hV2;refine(C1 V2 X2).mono ?_;rintro e w3 ⟨rfl,hx⟩;have X3:=hid (HX.trans ((X2.trans (hx.mono X2.size)).mono HX.size));clear hx C1 X2;go_wp2;go_roundw;case rel=>exact⟨i+1,by omega,by go_num,by rw[Wj.out,Int.natCast_add],X3⟩
    case measure=>simp[intOf];omega
   ·obtain rfl:i=n:=by omega
    have eT:¬ ((i:Int)<i):=by omega
    have dT:s0+RX.bE (l.take i)=S:=by rw[UK.out,HN.out,List.take_length]
    rw[dT];obtain⟨b0,b5,b6⟩:=(show _/\_/\_ from⟨(B1.below HX B1.lt).cell 0,(B1.below HX B1.lt).cell 5,(B1.below HX B1.lt).cell 6⟩);simp only[List.getElem?_toArray,List.getElem?_cons_zero,List.getElem?_cons_succ]at b0 b5 b6;clear dT;by_cases hk:k=5
    ·have d1:((k:Int)==5)=true:=by rw[hk];rfl
     have Lv:=HRS.out;rw[if_pos hk]at Lv;obtain⟨L,hL⟩:∃ L:Int,max mn 0=L:=⟨_,rfl⟩;by_cases hx1:mx= -1
     ·have d2:(mx== -1)=true:=by rw[hx1];rfl
      obtain⟨T0,Mn⟩:∃ T0:Int,max L mx=T0:=⟨_,rfl⟩;obtain⟨T1,Xj⟩:∃ T1:Int,max L 1=T1:=⟨_,rfl⟩;obtain⟨F,hF⟩:=ah (min (RX.times mn mx) 10001:Nat);have Ed:min T1 10001=(F:Int):=by rw[hF, <-Xj, <-hL];unfold RX.times;rw[if_pos hx1];omega
      have Xk:F<=10001:=by rw[hF];omega
      rw[<-hF]at Lv;have U5:S*F<=200000000000*10001:=Nat.mul_le_mul abz Xk;obtain⟨M,hM⟩:=ah (S*F);have e1:IntKind.i64.wrap ((S:Int)*(F:Int))=(M:Int):=by rw[show(S:Int)*(F:Int)=(M:Int) by rw[hM];push_cast;rfl];exact IntWalk.i64_in _ (by omega)
      rw[<-hM]at Lv;have e2:min (M:Int) 10001=(R:Int):=by omega
      have HRX:=hid Lv;clear Lv hM hF U5;subst hx1;go_wp2;go_ret;exact⟨rfl,XO⟩
     ·have d2:(mx== -1)=false:=beq_false_of_ne hx1
      obtain⟨T0,Mn⟩:∃ T0:Int,max L mx=T0:=⟨_,rfl⟩;obtain⟨F,hF⟩:=ah (min (RX.times mn mx) 10001:Nat);have Ed:min T0 10001=(F:Int):=by rw[hF, <-Mn, <-hL];unfold RX.times;rw[if_neg hx1];omega
      have Xk:F<=10001:=by rw[hF];omega
      rw[<-hF]at Lv;have U5:S*F<=200000000000*10001:=Nat.mul_le_mul abz Xk;obtain⟨M,hM⟩:=ah (S*F);have e1:IntKind.i64.wrap ((S:Int)*(F:Int))=(M:Int):=by rw[show(S:Int)*(F:Int)=(M:Int) by rw[hM];push_cast;rfl];exact IntWalk.i64_in _ (by omega)
      rw[<-hM]at Lv;have e2:min (M:Int) 10001=(R:Int):=by omega
      have HRX:=hid Lv;clear Lv hM hF U5;go_wp2;go_ret;exact⟨rfl,XO⟩
    ·have d1:((k:Int)==5)=false:=by rw[beq_eq_false_iff_ne];omega
     have e2:min (S:Int) 10001=(R:Int):=by have:=HRS.out;rw[if_neg hk,Nat.mul_one]at this;omega
     go_wp2;go_ret;exact⟨rfl,XO⟩
theorem mh (v:Value) (t:RX) (hs:t.size<=10000) (w:World) (h:aH (· <w.heap.size) w v t): ag 59 #[v] w fun e w'=>e=.returned (.int .i64 t.bZ)/\aa w w':=by
 have CL:Hid (∀ W,aa w W->ag 86 #[v] W fun e w'=>e=.returned (.bool true)/\aa W w'):=hid fun W hW=>kX v t hs W ((h.eK hW).mono fun b hb=>aw hb hW.size)
 have CP:Hid (∀ W,aa w W->ag 89 #[v] W fun e w'=>e=.returned (.int .i64 t.bZ)/\aa W w'):=hid fun W hW=>Lu t (by omega) w.heap.size v W (h.eK hW) hW.size
 obtain⟨p,c,rfl⟩:=h.form;generalize t.bZ=r at*;clear h hs;unfold aj at*;go_enter Tryz.func59,Tryz.ntmps59;go_wp2_with fail
 refine aK ?_;intro V hV;have B1:Hid (aq V w.heap.size (aj t.kind t.set t.mn t.mx (.slice p t.subs.length c)) 40):=by rw[hV];exact hid (aq.new _ _ _)
 have X1:Hid (aa w V):=by rw[hV];exact hid ((Ext.refl _).alloc _).below
 clear hV;refine(CL V X1).mono ?_;rintro e w1 ⟨rfl,hx⟩;have B2:=hid (B1.below hx B1.lt);have X2:=hid (X1.trans (hx.mono X1.size));clear hx B1 X1 CL;obtain⟨b0,b1,b2,b3,b4,b5,b6,b7⟩:=(show _/\_/\_/\_/\_/\_/\_/\_ from⟨B2.cell 0,B2.cell 1,B2.cell 2,B2.cell 3,B2.cell 4,B2.cell 5,B2.cell 6,B2.cell 7⟩);simp only[aj,List.getElem?_toArray,List.getElem?_cons_zero,List.getElem?_cons_succ]at b0 b1 b2 b3 b4 b5 b6 b7;go_wp2_with fail
 refine(CP w1 X2).mono ?_;rintro e w2 ⟨rfl,hx⟩;have X3:=hid (X2.trans (hx.mono X2.size));clear hx b0 b1 b2 b3 b4 b5 b6 b7;go_wp2;go_ret;exact⟨rfl,X3⟩
attribute [local go_sem] cE
theorem El (x:PB):(dN (bW x) 448).length=(eh x).length/\(dN (bW x) 448).map vJ=(eh x).map aV:=by rw[<-Le];refine⟨by simp,?_⟩;rw[List.map_map];rfl
theorem sw (x:PB) (b off:Nat) (w:World) (hb:fW w b off (bW x)):ag 64 #[.pointer (some ⟨b,off,none⟩)] w fun e w'=>∃ v,e=.returned v/\w'.ownsRow w.heap.size 3 1 v (eh x).length ((eh x).map aV)/\aa w w':=by have h:=GU (bW x) b off w hb;rw[(El x).1,(El x).2]at h;exact h
theorem GM.ok0:(⟨[],[]⟩:GM).ok:=⟨rfl,fun f h=>(by cases h),fun s h=>(by cases h)⟩
theorem fO.new {base M:Nat} {w:World} (h:aq w M #[.slice none 0 0,.slice none 0 0] 138) (hb:base<=M):fO base M (· =M) w ⟨[],[]⟩:=
 ⟨rfl,(fun x hx=>by subst hx;exact⟨hb,h.lt⟩),_,_,h,World.ownsRow_nil _ _ _ _,(fun x e=>by cases e),World.ownsRow_nil _ _ _ _,(fun x e=>by cases e)⟩
theorem zq (v:Value) (t:RX) (w:World) (h:aH (· <w.heap.size) w v t) (hf:t.fine) (hs:t.size<=120) (hp:t.bZ<=400): ag 43 #[v] w fun e w'=>∃ u,e=.returned (.tuple #[u,.int .i64 0])/\fM w.heap.size w' u t.nf/\aa w w':=by
 obtain⟨iL,Ki,rQ,rR,rS⟩:=info_parts Tryz.yD;obtain⟨p,c,rfl⟩:=h.form;have wz:=pE t hf;have abu:=DX t hf hp;have mW:=nt t wz ⟨[],[]⟩ GM.ok0;obtain⟨v,hv⟩:=ah (Value.agg (aj t.kind t.set t.mn t.mx (.slice p t.subs.length c)));rw[<-hv]at h;have CC:Hid (∀ W,aa w W->ag 57 #[v] W fun e w'=>e=.returned (.bool true)/\aa W w'):=hid fun W hW=>tG v t hf (by omega) W ((h.eK hW).mono fun b hb=>aw hb hW.size)
 have CS:Hid (∀ W,aa w W->ag 58 #[v] W fun e w'=>e=.returned (.int .i64 t.size)/\aa W w'):=hid fun W hW=>wD v t (by omega) W ((h.eK hW).mono fun b hb=>aw hb hW.size)
 have CP:Hid (∀ W,aa w W->ag 59 #[v] W fun e w'=>e=.returned (.int .i64 t.bZ)/\aa W w'):=hid fun W hW=>mh v t (by omega) W ((h.eK hW).mono fun b hb=>aw hb hW.size)
 obtain⟨m2,p2,tV⟩:∃ m2 p2,t.dB ⟨[],[]⟩=(m2,p2):=⟨_,_,rfl⟩;have CM:Hid (∀ W M,aa w W->w.heap.size<=M->aq W M #[.slice none 0 0,.slice none 0 0] 138->ag 63 #[.pointer (some ⟨M,0,none⟩),v] W (jI w.heap.size M (· =M) W m2 p2)):=hid fun W M hW hM hB=>by
  have:=P0 w.heap.size t hf (by omega) w.heap.size M (· =M) ⟨[],[]⟩ W v (aD _) (fO.new hB hM) (h.eK hW) GM.ok0 rfl (by show 0+t.cnt<=448;omega);rw[tV]at this;exact this
 rw[hv]at CC CS CP CM;rw[tV]at mW;have pU:=mW.len;have Ef:=mW.ok.len;dsimp only at pU Ef;have pU:m2.aL.length=0+t.cnt:=pU;have enf:t.nf=⟨m2.aL,m2.cG.map eh,eh p2.fst,eh p2.cS,p2.emp⟩:=by unfold RX.nf;rw[tV]
 have BH:t.kind≠0:=nU hf;obtain⟨k,hk⟩:=ah t.kind;obtain⟨sz,hsz⟩:=ah t.size;obtain⟨ps,JG⟩:=ah t.bZ;obtain⟨nl,gW⟩:=ah t.subs.length;rw[enf];rw[<-hk, <-gW]at CC CS CP CM ⊢;rw[<-hk]at BH;rw[<-hsz]at CS hs;rw[<-JG]at CP hp;obtain⟨n,hn⟩:=ah m2.aL.length;rw[<-hn]at Ef pU;have hn4:n<=400:=by omega
 obtain⟨st,hst⟩:=ah t.set;obtain⟨tn,jP⟩:=ah t.mn;obtain⟨tx,lO⟩:=ah t.mx;rw[<-hst, <-jP, <-lO]at CC CS CP CM ⊢;have HN:=hid hn;have HL3:=hid Ef;have HS:=hid hs;have HP:=hid hp;clear mW h hv hf wz abu tV pU Ef enf hk hsz JG gW hn hst jP lO v;unfold aj at CC CS CP CM ⊢;have hs9:¬ ((120:Int)<sz):=by have:=HS.out;omega
 have hp9:¬ ((400:Int)<ps):=by have:=HP.out;omega
 go_enter Tryz.func43,Tryz.ntmps43
 go_upto_region 1 with fail
 refine ax ?_;intro V hV;have B1:Hid (aq V w.heap.size #[.int .u8 k,.int .u64 (wd st 0).toNat,.int .u64 (wd st 1).toNat,.int .u64 (wd st 2).toNat,.int .u64 (wd st 3).toNat,.int .i64 tn,.int .i64 tx,.slice p nl c] 40):=by rw[hV];exact hid ((aq.new w _ _).alloc _)
 have B2:Hid (aq V (w.heap.size+1) #[.slice none 0 0,.slice none 0 0,.slice none 0 0,.slice none 0 0,.bool false] 99):=by rw[hV];exact hid ((aq.new (w.alloc _) _ _).at (by simp))
 have HX:Hid (aa w V):=by rw[hV];exact hid (((Ext.refl w).alloc _).alloc _).below
 have uH:V.heap.size=w.heap.size+1+1:=by rw[hV];simp
 have rA:=hid uH;clear hV uH;have e0:V.cell? ⟨w.heap.size,0,none⟩=some (.int .u8 k):=B1.cell 0;have e1:V.cell? ⟨w.heap.size,1,none⟩=some (.int .u64 (wd st 0).toNat):=B1.cell 1;have e2:V.cell? ⟨w.heap.size,2,none⟩=some (.int .u64 (wd st 1).toNat):=B1.cell 2;have e3:V.cell? ⟨w.heap.size,3,none⟩=some (.int .u64 (wd st 2).toNat):=B1.cell 3;have e4:V.cell? ⟨w.heap.size,4,none⟩=some (.int .u64 (wd st 3).toNat):=B1.cell 4;have e5:V.cell? ⟨w.heap.size,5,none⟩=some (.int .i64 tn):=B1.cell 5;have e6:V.cell? ⟨w.heap.size,6,none⟩=some (.int .i64 tx):=B1.cell 6;have e7:V.cell? ⟨w.heap.size,7,none⟩=some (.slice p nl c):=B1.cell 7;have sP:¬ ((k:Int)=0):=by omega
 go_wp2_with fail
 refine(CC V HX).mono ?_;rintro e V2 ⟨rfl,hx⟩;have B1:=hid (B1.below hx B1.lt);have B2:=hid (B2.below hx B2.lt);have HX:=hid (HX.trans (hx.mono HX.size));have Lx:Hid (w.heap.size+1+1<=V2.heap.size):=hid (by have:=hx.size;have:=rA.out;omega);clear hx e0 e1 e2 e3 e4 e5 e6 e7 rA CC;have e0:V2.cell? ⟨w.heap.size,0,none⟩=some (.int .u8 k):=B1.cell 0;have e1:V2.cell? ⟨w.heap.size,1,none⟩=some (.int .u64 (wd st 0).toNat):=B1.cell 1;have e2:V2.cell? ⟨w.heap.size,2,none⟩=some (.int .u64 (wd st 1).toNat):=B1.cell 2;have e3:V2.cell? ⟨w.heap.size,3,none⟩=some (.int .u64 (wd st 2).toNat):=B1.cell 3;have e4:V2.cell? ⟨w.heap.size,4,none⟩=some (.int .u64 (wd st 3).toNat):=B1.cell 4;have e5:V2.cell? ⟨w.heap.size,5,none⟩=some (.int .i64 tn):=B1.cell 5;have e6:V2.cell? ⟨w.heap.size,6,none⟩=some (.int .i64 tx):=B1.cell 6;have e7:V2.cell? ⟨w.heap.size,7,none⟩=some (.slice p nl c):=B1.cell 7;go_wp2_with fail
 refine(CS V2 HX).mono ?_;rintro e V3 ⟨rfl,hx⟩;have B1:=hid (B1.below hx B1.lt);have B2:=hid (B2.below hx B2.lt);have HX:=hid (HX.trans (hx.mono HX.size));have Lx:Hid (w.heap.size+1+1<=V3.heap.size):=hid (by have:=hx.size;have:=Lx.out;omega);clear hx e0 e1 e2 e3 e4 e5 e6 e7 CS;have e0:V3.cell? ⟨w.heap.size,0,none⟩=some (.int .u8 k):=B1.cell 0;have e1:V3.cell? ⟨w.heap.size,1,none⟩=some (.int .u64 (wd st 0).toNat):=B1.cell 1;have e2:V3.cell? ⟨w.heap.size,2,none⟩=some (.int .u64 (wd st 1).toNat):=B1.cell 2;have e3:V3.cell? ⟨w.heap.size,3,none⟩=some (.int .u64 (wd st 2).toNat):=B1.cell 3;have e4:V3.cell? ⟨w.heap.size,4,none⟩=some (.int .u64 (wd st 3).toNat):=B1.cell 4;have e5:V3.cell? ⟨w.heap.size,5,none⟩=some (.int .i64 tn):=B1.cell 5;have e6:V3.cell? ⟨w.heap.size,6,none⟩=some (.int .i64 tx):=B1.cell 6;have e7:V3.cell? ⟨w.heap.size,7,none⟩=some (.slice p nl c):=B1.cell 7;go_wp2_with fail
 refine(CP V3 HX).mono ?_;rintro e V4 ⟨rfl,hx⟩;have B1:=hid (B1.below hx B1.lt);have B2:=hid (B2.below hx B2.lt);have HX:=hid (HX.trans (hx.mono HX.size));have Lx:Hid (w.heap.size+1+1<=V4.heap.size):=hid (by have:=hx.size;have:=Lx.out;omega);clear hx e0 e1 e2 e3 e4 e5 e6 e7 CP;go_upto_region 6 with fail
 refine ax ?_;intro V5 hV5;have BM:Hid (aq V5 V4.heap.size #[.slice none 0 0,.slice none 0 0] 138):=by rw[hV5];exact hid (aq.new _ _ _)
 have E5:Hid (Ext V4 V5):=by rw[hV5];exact hid ((Ext.refl _).alloc _)
 clear hV5;obtain⟨M,hMe⟩:=ah V4.heap.size;rw[<-hMe]at BM ⊢;have B1:=hid (B1.ext E5);have B2:=hid (B2.ext E5);have HX:=hid (HX.trans (E5.below.mono HX.size));have hM2:w.heap.size+1+1<=M:=by have:=Lx.out;omega
 have hMl:M<V5.heap.size:=BM.lt;have CM:=hid (CM.out V5 M HX (by omega) BM);clear E5 Lx BM hMe;have e0:V5.cell? ⟨w.heap.size,0,none⟩=some (.int .u8 k):=B1.cell 0;have e1:V5.cell? ⟨w.heap.size,1,none⟩=some (.int .u64 (wd st 0).toNat):=B1.cell 1;have e2:V5.cell? ⟨w.heap.size,2,none⟩=some (.int .u64 (wd st 1).toNat):=B1.cell 2;have e3:V5.cell? ⟨w.heap.size,3,none⟩=some (.int .u64 (wd st 2).toNat):=B1.cell 3;have e4:V5.cell? ⟨w.heap.size,4,none⟩=some (.int .u64 (wd st 3).toNat):=B1.cell 4;have e5:V5.cell? ⟨w.heap.size,5,none⟩=some (.int .i64 tn):=B1.cell 5;have e6:V5.cell? ⟨w.heap.size,6,none⟩=some (.int .i64 tx):=B1.cell 6;have e7:V5.cell? ⟨w.heap.size,7,none⟩=some (.slice p nl c):=B1.cell 7;go_wp2_with fail
 refine CM.mono ?_;rintro e V6 ⟨rfl,⟨F,hF,hFM,hFo⟩,hx,hsz⟩;have B2:=hid (B2.keeps hx ⟨B2.lt,by omega⟩);have HX:=hid (HX.trans (hx.mono fun x (hx:x<w.heap.size)=>⟨by omega,by omega⟩:ae (· <w.heap.size) V5 V6).below);have MF:=hid hF;have FO:=hid hFo;have hV6:M<V6.heap.size:=(hF.lt M hF.fm).2;clear hx hF hFM hFo hsz CM B1 e0 e1 e2 e3 e4 e5 e6 e7;unfold az;go_upto_region 7 with fail
 refine ax ?_;intro V7 hV7;have X7:Hid (aq V7 V6.heap.size (az p2) 142):=by rw[hV7];exact hid (aq.new _ _ _)
 have E7:Hid (Ext V6 V7):=by rw[hV7];exact hid ((Ext.refl _).alloc _)
 clear hV7;obtain⟨sv,fv,hM,r1,r1F,r2,r2F⟩:=MF.row;obtain⟨bq,hbq⟩:=ah V6.heap.size;rw[<-hbq]at X7 ⊢;have amz:M<bq:=by omega
 have BM:=hid (hM.ext E7);have HX:=hid (HX.trans (E7.below.mono HX.size));have B2:=hid (B2.ext E7);rw[HL3.out]at r2;rw[<-HN.out]at r1;obtain⟨sa,sc,rfl⟩:=ownsRow_form r1;obtain⟨fa,fc,rfl⟩:=ownsRow_form r2;have R1:=hid (ay r1 E7.below);have R2:=hid (ay r2 E7.below);have agb:bq<V7.heap.size:=X7.lt;clear MF FO hM r1 r2 r1F r2F E7 hbq hV6;obtain⟨n2,sX⟩:=ah ((eh p2.fst).length);obtain⟨n3,KC⟩:=ah ((eh p2.cS).length);obtain⟨X2s,hX2⟩:=ah ((eh p2.fst).map aV);obtain⟨X3s,hX3⟩:=ah ((eh p2.cS).map aV);obtain⟨em,Zn⟩:=ah p2.emp;have L2:Hid (∀ W,aa V7 W->ag 64 #[.pointer (some ⟨bq,0,none⟩)] W fun e w'=>∃ v,e=.returned v/\w'.ownsRow W.heap.size 3 1 v n2 X2s/\aa W w'):=hid fun W hW=>by rw[sX,hX2];exact sw p2.fst bq 0 W (fW.fst (X7.below hW X7.lt))
 have L3:Hid (∀ W,aa V7 W->ag 64 #[.pointer (some ⟨bq,7,none⟩)] W fun e w'=>∃ v,e=.returned v/\w'.ownsRow W.heap.size 3 1 v n3 X3s/\aa W w'):=hid fun W hW=>by rw[KC,hX3];exact sw p2.cS bq 7 W (fW.cS (X7.below hW X7.lt))
 have b0:V7.cell? ⟨M,0,none⟩=some (.slice sa n sc):=BM.cell 0;have nW:V7.cell? ⟨bq,14,none⟩=some (.bool em):=by rw[Zn];exact X7.cell 14
 have tS:=hid sX;have Zf:=hid KC;have eW:=hid hX2;have oZ:=hid hX3;have HEM:=hid Zn;clear sX KC hX2 hX3 Zn X7;have agd:M<V7.heap.size:=by omega
 refine aM false (fun _=>False) (by kernel_rfl) 12 [0,1,3,7,0,16,0,112,0,256,1023,0,4095] (fun i=>i==5 || i==7 || i==11 || i==12) (by kernel_rfl) (fun i=>if i=5 then aR.S7 V7.heap.size n2 X2s else if i=7 then aR.S7 V7.heap.size n3 X3s else if i=11 then aR.WB V7.heap.size #[.slice none 0 0,.slice none 0 0,.slice none 0 0,.slice none 0 0,.bool false] 99 else aR.any _) ?_;intro C hC hne;have HC:=hid hC;have f1:=aF hC (p:=⟨M,0,none⟩) agd (fun h=>h) b0;have f2:=aF hC (p:=⟨bq,14,none⟩) agb (fun h=>h) nW;clear hC b0 nW
 repeat (refine ak (fun K hK=>?_);first | (refine cQ rfl ?_;try go_simp;refine hK _ _ ?_;clear hK K) | (refine bV rfl rfl ?_;unfold aB;go_simp;refine hK _ _ ?_;clear hK K))
 refine ak (fun K hK=>?_);refine bS rfl rfl (aR.S7 V7.heap.size n2 X2s) rfl (fun W hW hN=>?_) (fun v hv=>?_)
 ·have hM:=(HC.out W).1 hW
  clear hW;go_simp;refine bu ((L2 W hM.below).mono ?_);rintro e w2 ⟨u,rfl,ho,hx⟩;exact⟨_,rfl,Move.ai hx,ownsRow_form ho,aG ho hM.size⟩
 obtain⟨a5,c5,rfl⟩:=hv;go_simp;refine hK _ _ ?_;clear hK K
 repeat (refine ak (fun K hK=>?_);first | (refine cQ rfl ?_;try go_simp;refine hK _ _ ?_;clear hK K) | (refine bV rfl rfl ?_;unfold aB;go_simp;refine hK _ _ ?_;clear hK K))
 refine ak (fun K hK=>?_);refine bS rfl rfl (aR.S7 V7.heap.size n3 X3s) rfl (fun W hW hN=>?_) (fun v hv=>?_)
 ·have hM:=(HC.out W).1 hW
  clear hW;go_simp;refine bu ((L3 W hM.below).mono ?_);rintro e w2 ⟨u,rfl,ho,hx⟩;exact⟨_,rfl,Move.ai hx,ownsRow_form ho,aG ho hM.size⟩
 obtain⟨a6,c6,rfl⟩:=hv;go_simp;refine hK _ _ ?_;clear hK K
 repeat (refine ak (fun K hK=>?_);first | (refine cQ rfl ?_;try go_simp;refine hK _ _ ?_;clear hK K) | (refine bV rfl rfl ?_;unfold aB;go_simp;refine hK _ _ ?_;clear hK K))
 refine ak (fun K0 hK=>?_);refine bS rfl rfl (aR.WB V7.heap.size #[.slice none 0 0,.slice none 0 0,.slice none 0 0,.slice none 0 0,.bool false] 99) rfl (fun W hW hN=>?_) (fun v hv=>?_)
 ·have hM:=(HC.out W).1 hW
  have xo:=hM.size;clear hW hN hK K0;go_simp;exact⟨Move.ai ((Ext.refl _).alloc _).below,⟨_,rfl⟩,fun b hb=>by cases hb;exact⟨aq.new _ _ _,xo⟩⟩
 obtain⟨bx,rfl⟩:=hv;go_simp;refine hK _ _ ?_;clear hK K0;refine cg (fun W hW hH=>?_);have hM:=(HC.out W).1 hW;have hb8:(aR.WB V7.heap.size #[.slice none 0 0,.slice none 0 0,.slice none 0 0,.slice none 0 0,.bool false] 99).H (.pointer (some ⟨bx,0,none⟩)) W:=hH _ (aA (show _=some _ from rfl:_[0]? =some _));have L6:Hid (W.ownsRow V7.heap.size 3 1 (.slice a6 n3 c6) n3 X3s):=hid (hH _ (aA (show _=some _ from rfl:_[1]? =some _)));have L5:Hid (W.ownsRow V7.heap.size 3 1 (.slice a5 n2 c5) n2 X2s):=hid (hH _ (aA (show _=some _ from rfl:_[2]? =some _)));have BX:=hid (hb8 bx rfl);have XW:=hid hM.below;have aa1:V7.heap.size<=W.heap.size:=hM.size;have L4:=hid (ay R1 hM.below);have LF:=hid (ay R2 hM.below);have DM:=hid (BM.below hM.below BM.lt);clear hM hW hH HC hne f1 f2 hb8 L2 L3 R1 R2 BM;obtain⟨x0,x1,x2,x3,x4⟩:=BX.1.five;have z0:=BX.1.frozen 0;have z1:=BX.1.frozen 1;have z2:=BX.1.frozen 2;have z3:=BX.1.frozen 3;have z4:=BX.1.frozen 4;have xF:bx≠M:=by have:=BX.2;omega
 have D2:=(((((DM.other (p:=⟨bx,0,none⟩) xF (.slice sa n sc)).other (p:=⟨bx,1,none⟩) xF (.slice none 0 0)).other (p:=⟨bx,2,none⟩) xF (.slice a5 n2 c5)).other (p:=⟨bx,3,none⟩) xF (.slice a6 n3 c6)).other (p:=⟨bx,4,none⟩) xF (.bool em));have k0:=D2.cell 1;simp only[List.getElem?_toArray,List.getElem?_cons_zero,List.getElem?_cons_succ]at k0;clear D2;go_wp2;clear k0;refine ax ?_;intro W2 hW2;have BD:Hid (aq W2 bx #[.slice sa n sc,.slice none 0 0,.slice a5 n2 c5,.slice a6 n3 c6,.bool em] 99):=by rw[hW2];exact hid BX.1.aaR
 have K2:ae (· ≠bx) W W2:=by rw[hW2];exact vG _ _ _ _ _ _ _
 clear hW2 x0 x1 x2 x3 x4 z0 z1 z2 z3 z4;have hbl:∀ {base:Nat} {e:TypeId} {size n:Nat} {u:Value} {xs:List Value},W.ownsRow base e size u n xs->99≠e->W2.ownsRow base e size u n xs:=fun h he=>au h K2 fun x hx=>dp BX.1 h he x hx
 have M4:=hid (hbl L4 (by decide));have M5:=hid (hbl L5 (by decide));have M6:=hid (hbl L6 (by decide));have MF:=hid (hbl LF (by decide));have hVb:V7.heap.size<=bx:=BX.2;have E2:=hid ((B2.below XW B2.lt).keeps K2 (by have:=B2.lt;show w.heap.size+1≠bx;omega));have X2:Hid (aa w W2):=hid ((HX.trans (XW.mono HX.size)).trans (K2.mono fun x (hx:x<w.heap.size)=>by have:=B2.lt;omega:ae (· <w.heap.size) W W2).below);have ajh:W.heap.size<=W2.heap.size:=K2.size;have amB:=B2.lt;have hb3:bx<W2.heap.size:=BD.lt;clear K2 hbl L4 L5 L6 LF BX XW DM B2 HX;go_loopw [53] (fun i wr=>∃ (kk:Nat) (u:Value),kk<=n/\i=.int .i64 kk/\aq wr bx #[.slice sa n sc,u,.slice a5 n2 c5,.slice a6 n3 c6,.bool em] 99/\bI W2.heap.size wr u ((m2.cG.map eh).take kk)/\ae (fun x=>x<W2.heap.size/\x≠bx) W2 wr) (fun i _=>n-(intOf i).toNat);case atStart=>exact⟨0,_,by omega,rfl,BD,bI.nil _ _,ae.refl _ _⟩
 case round=>
  obtain⟨kk,u,hk,rfl,hb,ho,hx⟩:=hrel;obtain⟨w5,rfl⟩:=ah (wr:World);have Lk:aa w w5:=X2.trans (hx.mono fun x (mX:x<w.heap.size)=>⟨aw mX X2.size,by omega⟩:ae (· <w.heap.size) W2 w5).below;by_cases hlt:kk<n
  ·obtain⟨f,hl⟩:∃ l,m2.cG[kk]? =some l:=⟨_,aC (by have:=HL3.out;omega)⟩
   have dT:(m2.cG.map eh).take (kk+1)=(m2.cG.map eh).take kk++ [eh f]:=by rw[List.take_add_one,bH,hl];rfl
   have hlen:((m2.cG.map eh).take kk).length<=1000000:=by rw[List.length_take];omega
   have eT:(kk:Int)<n:=by omega
   have hrow:=au MF hx fun x mX=>⟨(MF.lt x mX).2,dp BD MF (by decide) x mX⟩
   obtain⟨g,cap,efv⟩:∃ g cap,Value.slice fa n fc=.slice (some ⟨g,0,none⟩) n cap:=by
    rcases hrow.2 with⟨_,e2⟩ | ⟨g,cap,cur,e2,_⟩
    ·exfalso;omega
    ·exact⟨g,cap,e2⟩
   injection efv with e1 e2 e3
   subst e1 e3;have Fs:g<w5.heap.size:=(hrow.lt g rfl).2;have jW:n<=fc:=by
    rcases hrow.2 with⟨e,_⟩ | ⟨g',c',cur,e4,_,_,h9,_⟩
    ·cases e
    ·cases e4;omega
   have ce:∀ i,i<7->w5.cell? ⟨g,kk*7+i,none⟩=some (.int .u64 (bW f i).toNat):=fun i hi=>by
    have:=hrow.cells (g:=g) rfl _ _ (vV hl hi);rw[Addr.add_mid]at this;simpa using this
   have e0:=ce 0 (by decide);have e1:=ce 1 (by decide);have e2:=ce 2 (by decide);have e3:=ce 3 (by decide);have e4:=ce 4 (by decide);have e5:=ce 5 (by decide);have e6:=ce 6 (by decide);simp only[Nat.add_zero]at e0;obtain⟨us,u1,u2,u3⟩:=ho;obtain⟨ml,uq⟩:=ah us.length;have NY:ml<=1000000:=by omega
   obtain⟨j,hj⟩:=ah ((eh f).length);rw[<-uq]at u1 u2;have xR:=hid uq;have HJ:=hid hj;obtain⟨ua5,uc5,rfl⟩:=ownsRow_form u2;have U2:=hid u2;have U3:=hid u3;have U1:=hid u1;have HB:=hid hb;have HK:=hid hx;have HT:=hid dT;have hgz:g<w5.heap.size:=Fs;clear hl hb hx dT Lk u1 u2 u3 uq hj hlen hrow ce;go_upto_region 11 with fail
   refine ax ?_;intro W6 uu;have Z6:Hid (aq W6 w5.heap.size (cE (bW f)) 140):=by rw[uu];exact hid (aq.new _ _ _)
   have E6:Hid (Ext w5 W6):=by rw[uu];exact hid ((Ext.refl _).alloc _)
   clear uu e0 e1 e2 e3 e4 e5 e6;have U2:=hid (ay U2 E6.below);have U3:=hid fun i u l hu hl=>ay (U3 i u l hu hl) E6.below
   have HB:=hid (HB.ext E6);have HK:=hid (HK.tr (E6.keeps.mono fun x hx=>aw hx.1 HK.size));have CL:Hid (∀ W,aa W6 W->ag 64 #[.pointer (some ⟨w5.heap.size,0,none⟩)] W fun e w'=>∃ v,e=.returned v/\w'.ownsRow W.heap.size 3 1 v j ((eh f).map aV)/\aa W w'):=hid fun W hW=>by rw[HJ.out];exact sw f _ 0 W (fW.Ph (Z6.below hW Z6.lt))
   clear E6 Z6;refine aM false (fun _=>False) (by kernel_rfl) 4 [0,1,0,4,15,31,63] (fun i=>i==2 || i==3 || i==4 || i==6) (by kernel_rfl) (fun i=>if i=2 then aR.row W2.heap.size 3 1 j ((eh f).map aV)else if i=3 then aR.IL W2.heap.size j ((eh f).map aV)else aR.any _) ?_;intro C hC hne;have HC:=hid hC;have f0:=aF hC (p:=⟨bx,1,none⟩) (by have:=HB.lt;exact this) (fun h=>h) (HB.cell 1);clear hC
   repeat (refine ak (fun K hK=>?_);first | (refine cQ rfl ?_;try go_simp;refine hK _ _ ?_;clear hK K) | (refine bV rfl rfl ?_;unfold aB;go_simp;refine hK _ _ ?_;clear hK K))
   refine ak (fun K hK=>?_);refine bS rfl rfl (aR.row W2.heap.size 3 1 j ((eh f).map aV)) rfl (fun W hW hN=>?_) (fun v hv=>?_)
   ·have hM:=(HC.out W).1 hW
    clear hW;go_simp;refine bu ((CL W hM.below).mono ?_);rintro e w2 ⟨vp,rfl,ho,hx⟩;exact⟨_,rfl,Move.ai hx,ownsRow_form ho,aG ho (Nat.le_trans HK.size hM.size)⟩
   obtain⟨a7,c7,rfl⟩:=hv;go_simp;refine hK _ _ ?_;clear hK K;refine ak (fun K hK=>?_);refine bS rfl rfl (aR.IL W2.heap.size j ((eh f).map aV)) rfl (fun W hW hN=>?_) (fun v hv=>?_)
   ·have hro:W.ownsRow W2.heap.size 3 1 (.slice a7 j c7) j ((eh f).map aV):=hN.at 0 rfl (by kernel_rfl)
    have HRO:=hid hro;clear hW hN hK K hro;go_simp;exact⟨Move.ext ((Ext.refl _).alloc _),⟨_,rfl⟩,fun b hb=>by cases hb;exact⟨_,aq.new _ _ _,HRO.alloc _⟩⟩
   obtain⟨bz,rfl⟩:=hv;go_simp;refine hK _ _ ?_;clear hK K;refine cg (fun W hW hH=>?_);have hM:=(HC.out W).1 hW;obtain⟨ux,Xl,hux⟩:∃ ux,aq W bz #[ux] 51/\W.ownsRow W2.heap.size 3 1 ux j ((eh f).map aV):=hH _ (bL ..) bz rfl;obtain⟨a8,c8,rfl⟩:=ownsRow_form hux;have HBX:=hid Xl;have HUX:=hid hux;have YB:=hid (HB.below hM.below HB.lt);have YO:=hid (ay U2 hM.below);have Y3:=hid fun i u l hu hl=>ay (U3 i u l hu hl) hM.below
   have YK:=hid (HK.tr (ae.ai hM.below fun x hx=>aw hx.1 HK.size));have uH:W2.heap.size<=W.heap.size:=Nat.le_trans HK.size hM.size;clear hM hW hH f0 HC HB HK Xl hux U2 U3;go_wp2_with (at_builtin;refine Hid.out ?_);refine hid ?_;refine wpList_append_own_at _ rfl (.tmp 58) (.tmp 60) 71 rfl W2.heap.size 51 iL (.slice none 0 0) 1 24 Tryz.underlying71 Ki rQ rR rS rfl (by decide) _ _ _ rfl YO ⟨bz,0,none⟩ 1 1 [.slice a8 j c8] rfl rfl HBX.Uy (by simp[Value.oneCell']) (by unfold maxLen;omega) (by omega) uH ?_;intro v' w3 hown' hgrow hh hat;have Zo:=hid hown';have HG:=hid hgrow;obtain⟨ua3,uc3,rfl⟩:=ownsRow_form hown';have Xm:∀ x,(Value.slice ua5 ml uc5).ownBlock=some x->W2.heap.size<=x:=(fun x e=>(YO.lt x e).1);have ZB:=hid (YB.grown hgrow (fun e=>by have:=Xm _ e.symm;omega));have ZK:=hid (YK.tr (ae.bA hgrow fun x hx=>⟨aw hx.1 uH,fun e=>by have:=Xm x e.symm;omega⟩));have WR:W.heap.size<=w3.heap.size:=hgrow.size;have p1:=ZB.cell 1;have q1:=ZB.frozen 1;clear hown' hgrow hh hat Xm;go_wp2;go_roundw;case rel=>
    refine⟨kk+1,_,by omega,by go_num,ZB.set 1 _,?_,ZK.setCell (p:=⟨bx,1,none⟩) (fun h=>h.2 rfl) _⟩;have hs:bI W2.heap.size w3 (.slice ua3 (ml+1) uc3) ((m2.cG.map eh).take kk++ [eh f]):=bI.snoc (w:=W) (v:=.slice ua5 ml uc5) (us:=us) (u:=.slice a8 j c8) (by rw[<-xR.out];exact U1) (by rw[<-xR.out];exact YO) (fun i u l hu hl=>Y3 i u l hu hl) (by rw[<-HJ.out];exact HUX) HG (by rw[<-xR.out];exact Zo);rw[HT.out];exact hs.keeps ((ae.refl (· ≠bx) _).setCell (p:=⟨bx,1,none⟩) (fun h=>h rfl) _) (fun x h1 _ e=>by omega)
   case measure=>simp[intOf];omega
  ·obtain rfl:kk=n:=by omega
   clear hlt hk;have eT:¬ ((kk:Int)<kk):=by omega
   have dT:(m2.cG.map eh).take kk=m2.cG.map eh:=by rw[show kk=(m2.cG.map eh).length by rw[bp,HL3.out]];exact List.take_length
   rw[dT]at ho;obtain⟨ua,uc,abA⟩:=ho.form;rw[bp,HL3.out]at abA;subst abA;have R0:=hid ho;have XA:=hid Lk;have CB:=hid hb;have HK:=hid hx;have C2:=hid (E2.keeps hx ⟨E2.lt,by omega⟩);clear ho hb hx dT Lk;obtain⟨p0,p1,p2,p3,p4⟩:=CB.five;obtain⟨y0,y1,y2,y3,y4⟩:=C2.five;have z0:=C2.frozen 0;have z1:=C2.frozen 1;have z2:=C2.frozen 2;have z3:=C2.frozen 3;have z4:=C2.frozen 4;go_wp2;refine aT ?_;intro W9 eO;have E9:Hid (aq W9 (w.heap.size+1) #[.slice sa kk sc,.slice ua kk uc,.slice a5 n2 c5,.slice a6 n3 c6,.bool em] 99/\ae (· ≠w.heap.size+1) w5 W9):=by rw[eO];exact hid ⟨C2.aaR,vG _ _ _ _ _ _ _⟩
   clear eO z0 z1 z2 z3 z4 y0 y1 y2 y3 y4 p0 p1 p2 p3 p4;obtain⟨m0,m1,m2',m3,m4⟩:=E9.1.five;have key:∀ {base:Nat} {e:TypeId} {size n:Nat} {u:Value} {xs:List Value},w.heap.size<=base->W2.ownsRow base e size u n xs->99≠e->W9.ownsRow w.heap.size e size u n xs:=fun hb h he=>aG (au (au h HK fun x hx=>⟨(h.lt x hx).2,dp BD h he x hx⟩) E9.2 fun x hx=>dp E2 h he x hx) hb
   refine bodyPost_ret (v:=.tuple #[.agg #[.slice sa kk sc,.slice ua kk uc,.slice a5 n2 c5,.slice a6 n3 c6,.bool em],.int .i64 0]) (by simp[results,Tryz.results43,go_sem,m0,m1,m2',m3,m4]) rfl ⟨_,rfl,⟨_,_,_,_,by rw[HEM.out],?_,?_,?_,?_⟩,XA.trans (E9.2.mono fun x (hx:x<w.heap.size)=>by show x≠w.heap.size+1;omega:ae (· <w.heap.size) w5 W9).below⟩
   ·show W9.ownsRow _ _ _ _ m2.aL.length _;rw[<-HN.out];exact key (aD _) M4 (by decide)
   ·exact(R0.keeps E9.2 fun x h1 _=>by show x≠w.heap.size+1;omega).base (by omega)
   ·show W9.ownsRow _ _ _ _ (eh p2.fst).length ((eh p2.fst).map aV);rw[<-tS.out, <-eW.out];exact key (by omega) M5 (by decide)
   ·show W9.ownsRow _ _ _ _ (eh p2.cS).length ((eh p2.cS).map aV);rw[<-Zf.out, <-oZ.out];exact key (by omega) M6 (by decide)
end
section
open Go Go.RowKit Go.Shelf Go.Maps
attribute [local go_sem] encS
theorem aq.eight {w:World} {b:Nat} {x0 x1 x2 x3 x4 x5 x6 x7:Value} {t:TypeId} (h:aq w b #[x0,x1,x2,x3,x4,x5,x6,x7] t):w.cell? ⟨b,0,none⟩=some x0/\w.cell? ⟨b,1,none⟩=some x1/\w.cell? ⟨b,2,none⟩=some x2/\w.cell? ⟨b,3,none⟩=some x3/\w.cell? ⟨b,4,none⟩=some x4/\w.cell? ⟨b,5,none⟩=some x5/\w.cell? ⟨b,6,none⟩=some x6/\w.cell? ⟨b,7,none⟩=some x7:=
 ⟨h.cell 0,h.cell 1,h.cell 2,h.cell 3,h.cell 4,h.cell 5,h.cell 6,h.cell 7⟩
theorem cO (k:Nat) (s:BS) (mn mx:Int) (a:Value):(Tryz.prog.info? 40).map (·.size)=some (aj k s mn mx a).size:=by show _=some 8;kernel_rfl
theorem j9 (k:Nat) (s:BS) (mn mx:Int) (p:Option Addr) (n c:Nat):(aj k s mn mx (.slice p n c)).all (·.oneCell')=true:=by unfold aj;simp[Value.oneCell']
def eL:Array Value:= #[.int .u8 0,.int .u64 0,.int .u64 0,.int .u64 0,.int .u64 0,.int .i64 0,.int .i64 0,.slice none 0 0]
theorem eG (k:Nat) (mn mx:Int) (a:Value):aj k 0 mn mx a= #[.int .u8 k,.int .u64 0,.int .u64 0,.int .u64 0,.int .u64 0,.int .i64 mn,.int .i64 mx,a]:=by unfold aj;simp only[RQ];rfl
theorem aH.one {F:Nat->Prop} {w V:World} {k n c b:Nat} {s:BS} {mn mx:Int} {p:Option Addr} {t:RX} (hF:∀ x,F x->x<w.heap.size) (h:aH F w (.agg (aj k s mn mx (.slice p n c))) t) (hk:aa w V) (hB:aq V b (aj k s mn mx (.slice p n c)) 40) (hb:w.heap.size<=b) (k':Nat) (s':BS) (mn' mx':Int): aH (fun x=>x<V.heap.size/\(F x\/w.heap.size<=x)) V (.agg (aj k' s' mn' mx' (.slice (some ⟨b,0,none⟩) 1 1))) (.nd k' s' mn' mx' [t]):=by
 have h2:aH (fun x=>x<V.heap.size/\(F x\/w.heap.size<=x)) V (.agg (aj k s mn mx (.slice p n c))) t:=(h.keeps (ae.ai hk fun _ h=>h:ae (· <w.heap.size) w V) hF).mono fun x hx=>⟨aw (hF x hx) hk.size,.inl hx⟩
 refine .mk k' s' mn' mx' [t] _ b 0 1 (fun _=>.agg (aj k s mn mx (.slice p n c))) (fun e=>by cases e) (fun _=>⟨rfl,⟨hB.lt,.inr hb⟩,hB.lt,by simp⟩) (fun i x hi=>?_) (fun i x hi=>?_)
 ·have hl:=(List.getElem?_eq_some_iff.1 hi).1
  obtain rfl:i=0:=by simpa using hl
  refine⟨_,rfl,fun j u hj=>?_⟩;simpa using(hB.cell j).trans hj
 ·have hl:=(List.getElem?_eq_some_iff.1 hi).1
  obtain rfl:i=0:=by simpa using hl
  cases hi
  exact h2
theorem Em (v:Value) (t:RX) (F:Nat->Prop) (w:World) (hF:∀ x,F x->x<w.heap.size) (h:aH F w v t): ag 36 #[v] w fun e w'=>∃ u,e=.returned u/\aH (fun x=>x<w'.heap.size/\(F x\/w.heap.size<=x)) w' u (.nd 6 0 0 0 [t])/\aa w w':=by
 obtain⟨p,c,rfl⟩:=h.form;have H:=hid h;obtain⟨k,hk⟩:=ah t.kind;obtain⟨nl,gW⟩:=ah t.subs.length;obtain⟨st,hst⟩:=ah t.set;obtain⟨tn,jP⟩:=ah t.mn;obtain⟨tx,lO⟩:=ah t.mx;rw[<-hk, <-gW, <-hst, <-jP, <-lO]at H ⊢;clear h hk gW hst jP lO;unfold aj;go_enter Tryz.func36,Tryz.ntmps36;go_wp2;refine aT ?_;intro V hV;have B2:Hid (aq V (w.heap.size+1+1) (aj k st tn tx (.slice p nl c)) 40):=by rw[hV];exact hid ((aq.new _ _ _).at (by simp))
 have R1:Hid (aq V (w.heap.size+1) #[.int .u8 6,.int .u64 0,.int .u64 0,.int .u64 0,.int .u64 0,.int .i64 0,.int .i64 0,.slice (some ⟨w.heap.size+1+1,0,none⟩) 1 1] 40):=by rw[hV];exact hid (((aq.new _ _ _).at (by simp)).alloc _)
 have X1:Hid (aa w V):=by rw[hV];exact hid ((((Ext.refl w).alloc _).alloc _).alloc _).below
 clear hV;obtain⟨m0,m1,m2,m3,m4,m5,m6,m7⟩:=R1.eight;refine bodyPost_ret (v:=.agg #[.int .u8 6,.int .u64 0,.int .u64 0,.int .u64 0,.int .u64 0,.int .i64 0,.int .i64 0,.slice (some ⟨w.heap.size+1+1,0,none⟩) 1 1]) (by simp[results,Tryz.results36,go_sem,m0,m1,m2,m3,m4,m5,m6,m7]) rfl ⟨_,rfl,?_,X1⟩;have e:=aH.one hF H X1 B2 (by omega) 6 0 0 0;rw[eG]at e;exact e
theorem LC (v:Value) (t:RX) (mn mx:Int) (F:Nat->Prop) (w:World) (hF:∀ x,F x->x<w.heap.size) (h:aH F w v t): ag 37 #[v,.int .i64 mn,.int .i64 mx] w fun e w'=>∃ u,e=.returned u/\aH (fun x=>x<w'.heap.size/\(F x\/w.heap.size<=x)) w' u (.nd 5 0 mn mx [t])/\aa w w':=by
 obtain⟨p,c,rfl⟩:=h.form;have H:=hid h;obtain⟨k,hk⟩:=ah t.kind;obtain⟨nl,gW⟩:=ah t.subs.length;obtain⟨st,hst⟩:=ah t.set;obtain⟨tn,jP⟩:=ah t.mn;obtain⟨tx,lO⟩:=ah t.mx;rw[<-hk, <-gW, <-hst, <-jP, <-lO]at H ⊢;clear h hk gW hst jP lO;unfold aj;go_enter Tryz.func37,Tryz.ntmps37;go_wp2;refine aT ?_;intro V hV;have B2:Hid (aq V (w.heap.size+1+1) (aj k st tn tx (.slice p nl c)) 40):=by rw[hV];exact hid ((aq.new _ _ _).at (by simp))
 have R1:Hid (aq V (w.heap.size+1) #[.int .u8 5,.int .u64 0,.int .u64 0,.int .u64 0,.int .u64 0,.int .i64 mn,.int .i64 mx,.slice (some ⟨w.heap.size+1+1,0,none⟩) 1 1] 40):=by rw[hV];exact hid (((aq.new _ _ _).at (by simp)).alloc _)
 have X1:Hid (aa w V):=by rw[hV];exact hid ((((Ext.refl w).alloc _).alloc _).alloc _).below
 clear hV;obtain⟨m0,m1,m2,m3,m4,m5,m6,m7⟩:=R1.eight;refine bodyPost_ret (v:=.agg #[.int .u8 5,.int .u64 0,.int .u64 0,.int .u64 0,.int .u64 0,.int .i64 mn,.int .i64 mx,.slice (some ⟨w.heap.size+1+1,0,none⟩) 1 1]) (by simp[results,Tryz.results37,go_sem,m0,m1,m2,m3,m4,m5,m6,m7]) rfl ⟨_,rfl,?_,X1⟩;have e:=aH.one hF H X1 B2 (by omega) 5 0 mn mx;rw[eG]at e;exact e
end
section
open Go Go.RowKit Go.Shelf Go.Maps
attribute [local go_sem] encS
theorem nA (s:ByteArray) (l:List Nat) (l8:s.data.toList.map (·.toNat)=l) (hn:l.length<=1000000) (w:World): ag 33 #[.string s] w fun e w'=>e=.returned (.agg (aj 2 (oo fun c=>l.contains c) 0 0 (.slice none 0 0)))/\aa w w':=by
 obtain⟨u,hu⟩:=ah (oo fun c=>l.contains c);rw[<-hu];have HU:=hid hu;have hsz:s.size=l.length:=by rw[<-l8];simp
 have HCE:Hid (∀ i x:Nat,l[i]? =some x->∃ h:i<s.size,(s[i]'h).toNat=x):=hid fun i x h=>by
  have hi:i<s.size:=by rw[hsz];exact(List.getElem?_eq_some_iff.1 h).1
  refine⟨hi,?_⟩;have VC:i<s.data.toList.length:=by simpa using hi
  rw[<-l8,bH,aC VC]at h;have:=Option.some.inj h;rw[<-this,Array.getElem_toList];rfl
 have HL:Hid (∀ c∈l,c<256):=hid fun c hc=>by
  rw[<-l8]at hc;obtain⟨b,_,rfl⟩:=List.mem_map.1 hc;exact b.toNat_lt
 have jV:=hid hsz;have amJ:((s.size:Nat):Int)=l.length:=by omega
 clear hu l8 hsz;go_enter Tryz.func33,Tryz.ntmps33;go_wp2;refine ax ?_;intro V hV;have R0:Hid (aq V w.heap.size eL 40):=by rw[hV];exact hid ((aq.new _ _ _).alloc _)
 have B0:Hid (aq V (w.heap.size+1) (encS 0) 37):=by rw[hV,gi];exact hid ((aq.new _ _ _).at (by simp))
 have X0:Hid (aa w V):=by rw[hV];exact hid (((Ext.refl w).alloc _).alloc _).below
 clear hV;go_loopw [7] (fun i wr=>∃ (k:Nat) (s':BS),k<=l.length/\i=.int .i64 k/\(∀ c,c<256->s'.getLsbD c=(l.take k).contains c)/\aq wr (w.heap.size+1) (encS s') 37/\aq wr w.heap.size eL 40/\aa w wr) (fun i _=>l.length-(intOf i).toNat);case atStart=>exact⟨0,0,by omega,rfl,fun c hc=>by simp,B0,R0,X0⟩
 case round=>
  obtain⟨k,s',hk,rfl,hs,hB,hR,hx⟩:=hrel;obtain⟨wo,rfl⟩:=ah (wr:World);have HS:=hid hs;clear hs;by_cases hlt:k<l.length
  ·obtain⟨c,oG⟩:∃ c,l[k]? =some c:=⟨l[k],aC hlt⟩
   have l5:c<256:=HL.out c (aA oG);obtain⟨JI,hsc⟩:=HCE.out k c oG;have hw:(encS s')[c/64]? =some (.int .u64 (wd s' (c/64)).toNat):=gK s' (by omega);have hc1:wo.cell? ⟨w.heap.size+1,c/64,none⟩=some (.int .u64 (wd s' (c/64)).toNat):=(hB.cell _).trans hw;have hf:=hB.frozen (c/64);have dT:l.take (k+1)=l.take k++ [c]:=by rw[List.take_add_one,oG];rfl
   have HT:=hid dT;have HB:=hid hB;have HR:=hid hR;have HX:=hid hx;have eT:(k:Int)<l.length:=by omega
   have hkz:(k:Int)<s.size:=by omega
   clear hB hR hx hw dT oG;obtain⟨z,hz⟩:=ah (c/64:Nat);obtain⟨y,hy⟩:=ah (c%64:Nat);have hz4:z<4:=by omega
   have hy4:y<64:=by omega
   have hzi:IntKind.u8.wrap ((c:Int)/64)=(z:Int):=by rw[IntWalk.u8_in _ (by omega)];omega
   have hyi:Int.tmod (c:Int) 64=(y:Int):=by rw[Int.tmod_eq_emod_of_nonneg (by omega)];omega
   have hzI:(z:Int)<4:=by omega
   have hyI:(y:Int)<64:=by omega
   rw[<-hz]at hc1 hf;have HZ:=hid hz;have HY:=hid hy;clear hz hy;go_upto_region 5 with fail
   refine aM false (fun _=>False) (by kernel_rfl) 11 [0,0,3,7,15,31,0,0,192,448,960,2047,4095,8191] (fun i=>i==13) (by kernel_rfl) (fun _=>aR.any _) ?_;intro C hC hne;have HC:=hid hC;have MG:=HB.lt;have f1:=aF hC (p:=⟨w.heap.size+1,z,none⟩) MG (fun h=>h) hc1;clear hC
   repeat (refine ak (fun K hK=>?_);first | (refine cQ rfl ?_;try go_simp;refine hK _ _ ?_;clear hK K) | (refine bV rfl rfl ?_;unfold aB;go_simp;refine hK _ _ ?_;clear hK K))
   refine cg (fun W hW hH=>?_);have jT:=(HC.out W).1 hW;have BW:=hid (HB.below jT.below HB.lt);have RW:=hid (HR.below jT.below HR.lt);have XW:Hid (aa w W):=hid (HX.trans (jT.below.mono HX.size));have hw:(encS s')[z]? =some (.int .u64 (wd s' z).toNat):=gK s' hz4;have g1:W.cell? ⟨w.heap.size+1,z,none⟩=some (.int .u64 (wd s' z).toNat):=(BW.cell _).trans hw;have gf:=BW.frozen z;clear jT hW hH HC hne f1 hc1 hf HB HR HX hw;go_wp2;go_roundw;case rel=>
    refine⟨k+1,mJ s' c,by omega,by go_num,fun d hd=>?_,?_,?_,?_⟩
    ·rw[kD s' l5,HS.out d hd,HT.out,List.contains_eq_any_beq,List.contains_eq_any_beq,List.any_append]
     simp
    ·rw[<-uR s' l5, <-HZ.out, <-HY.out];exact BW.set _ _
    ·exact RW.other (by simp) _
    ·exact XW.trans (((ae.refl (· <w.heap.size) _).setCell (p:=⟨w.heap.size+1,z,none⟩) (fun h=>by have h':w.heap.size+1<w.heap.size:=h;omega) _).below)
   case measure=>simp[intOf];omega
  ·have Wo:s'=u:=by rw[HU.out];exact BS.Ir fun c hc=>by rw[HS.out c hc,List.take_of_length_le (by omega)]
   subst Wo;obtain rfl:k=l.length:=by omega
   obtain⟨c0,c1,c2,c3⟩:=hB.xD;have HR:=hid hR;have HX:=hid hx;have eT:¬ ((l.length:Int)<l.length):=by omega
   have HB:=hid hB;clear hB hR hx;go_wp2_with (refine wpList_store_row rfl 40 (.tmp 2) (.tmp 25) rfl w.heap.size (aj 2 s' 0 0 (.slice none 0 0)) rfl rfl 40 eL HR (cO _ _ _ _ _) rfl (j9 _ _ _ _ _ _ _) ?_;refine Hid.out ?_);refine hid ?_;obtain⟨V3,cD⟩:=ah (wo.setRow w.heap.size (aj 2 s' 0 0 (.slice none 0 0)));rw[<-cD];have R9:Hid (aq V3 w.heap.size (aj 2 s' 0 0 (.slice none 0 0)) 40):=by rw[cD];exact hid HR.setRow
   have X9:aa w V3:=by rw[cD];exact HX.trans ((bn wo w.heap.size _).mono fun x (hx:x<w.heap.size)=>by show x≠_;omega:ae (· <w.heap.size) wo _).below
   clear cD;go_wp2;obtain⟨m0,m1,m2,m3,m4,m5,m6,m7⟩:=R9.eight;exact bodyPost_ret (v:=.agg (aj 2 s' 0 0 (.slice none 0 0))) (by simp[results,Tryz.results33,aj,go_sem,m0,m1,m2,m3,m4,m5,m6,m7]) rfl ⟨rfl,X9⟩
end
section
open Go Go.RowKit Go.Shelf Go.Maps
attribute [local go_sem] encS
theorem xY (n:Nat) (hn:n<256) (w:World): ag 34 #[.int .u8 n] w fun e w'=>∃ s:ByteArray,e=.returned (.string s)/\s.data.toList.map (·.toNat)=ei n/\aa w w':=by
 obtain⟨r,hr⟩:=ah (n%12);have h12:r<12:=by omega
 have hrn:((n:Int)%12)=r:=by omega
 have hq:ei n=[[97],[98],[97,98],[97],[98],[99],[97,98,99],[98,99],[10],[0,255],[97],[98]].getD r []:=by unfold ei;rw[<-hr]
 rw[hq];clear hr hq;have hc:r=0\/r=1\/r=2\/r=3\/r=4\/r=5\/r=6\/r=7\/r=8\/r=9\/r=10\/r=11:=by omega
 rcases hc with rfl | rfl | rfl | rfl | rfl | rfl | rfl | rfl | rfl | rfl | rfl | rfl
 all_goals
  go_enter Tryz.func34,Tryz.ntmps34
  go_wp2;go_ret;exact⟨_,rfl,rfl,((Ext.refl w).alloc _).below⟩
end
end Go.Proofs.YtpcmhjbehdgdbaaGreatDoor
