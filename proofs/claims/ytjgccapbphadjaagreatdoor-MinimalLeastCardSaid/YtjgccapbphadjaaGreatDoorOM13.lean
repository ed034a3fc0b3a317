/- The law's small trees: letters. -/
import Derived.Test.YtjgccapbphadjaaGreatDoorOM12
import Derived.Deep.CutRange
set_option maxRecDepth 100000
set_option maxHeartbeats 16000000
open Go.Lib (hid)
namespace Go.Proofs.YtjgccapbphadjaaGreatDoor
section
open Go Go.RowKit Go.Shelf Go.Maps
attribute [local go_sem] Oper.semAt_some gJ dB
theorem Kw (t:RX):t.pre.length=t.size:=by
 induction t using RX.ind with
 | h k s a b l ih=>
  rw[RX.pre,RX.size,List.length_cons];have:∀ l':List RX,(∀ t∈l',t∈l)->(RX.lq l').length=RX.sizes l':=by
   intro l';induction l' with
   | nil=>intro _;rfl
   | cons x l' Yg=>
    intro hs;rw[RX.lq,RX.sizes,aG,ih x (hs x (aW ..)),Yg fun t ht=>hs t (bF _ ht)]
  rw[this l fun _ h=>h];omega
theorem s5 (v:Value) (t:RX) (hs:t.size<=10000) (w:World) (h:aJ (· <w.heap.size) w v t): ah 158 #[v] w fun e w'=>e=.returned (.bool true)/\aa w w':=by
 obtain⟨xs,hmap,pP,hseq⟩:=s4 w.heap.size t (by omega) v w h (aD _);obtain⟨p,c,rfl⟩:=h.form;have hlen:xs.length<=10000:=by
  have e:xs.length=t.pre.length:=by rw[<-hmap,aQ]
  rw[e,Kw];exact hs
 have Rb:=hid fun W B=>hseq W B _ rfl
 have YA:=hid pP;clear hseq pP hmap h hs;refine cq Tryz.func158 rfl ?_;simp only[Tryz.ntmps158,List.size_toArray,List.length_cons,List.length_nil,Nat.reduceAdd,Nat.reduceSub,Array.replicate_succ,Array.replicate_zero,List.push_toArray,List.append_toArray,List.nil_append,List.cons_append,aq];go_wp2;refine wp_scope_straight ?_;go_wp2;go_step3;go_wp2_with (go_at_call 160;refine(lY _ _).mono ?_;rintro e w1 ⟨rfl,rfl⟩);refine ax ?_;intro W0 hW0;have h1:ar W0 (w.heap.size+1) #[.int .i64 0] 3:=by rw[hW0];exact((ar.new _ _ _).at (by simp)).alloc _
 have h3:ar W0 (w.heap.size+1+1) (aq t.kind t.set t.mn t.mx (.slice p t.subs.length c)) 97:=by rw[hW0];exact(ar.new _ _ _).at (by simp)
 have hx:Ext w W0:=by rw[hW0];exact(((Ext.refl w).alloc _).alloc _).alloc _
 have hsz:W0.heap.size=w.heap.size+1+1+1:=by rw[hW0];simp
 clear hW0;refine iw (w:=W0) (d:=true) (Rb.out W0 _ (hx.mono fun _ h=>h) h3) (by rfl) oF (by intro _;rfl) (by intro k hk;rcases hk with hk | hk<;>omega)
  (fun ys _ W=>ar W (w.heap.size+1) #[.int .i64 ys.length] 3/\aa w W)
  (fun _ _ _ _=>False)
  (fun ys T T' W W' ⟨h1,h3⟩ hT Pk hs hn hk=>⟨h1.mS hT hk (by omega),iu h3 hT hk (aD _) (by omega)⟩)
  (fun c ys T T' W W' h=>h.elim)
  ⟨h1,hx.below⟩
  (fun x=>⟨#[.agg (aq t.kind t.set t.mn t.mx (.slice p t.subs.length c)),.pointer (some ⟨w.heap.size,0,none⟩),.bool false,.pointer (some ⟨w.heap.size+1,0,none⟩),.agg (aq t.kind t.set t.mn t.mx (.slice p t.subs.length c)),.func (.func 195) #[] #[.pointer (some ⟨w.heap.size+1+1,0,none⟩)],x.1,undef,undef,undef,undef,undef,undef],[]⟩) ?assign ?body ?done ?stop
 case assign=>
  intro l x W K hK
  gi_wp2
  simpa[Fh,aq]using hK
 case body=>
  rintro l pre x T W bO hT hR yF hl ⟨h1,hx⟩;have hle:pre.length+1<=10000:=by
   have hle:=bO.length_le;rw[aG]at hle;simp only[List.length_cons,List.length_nil]at hle;omega
  have c1:W.cell? ⟨w.heap.size+1,0,none⟩=some (.int .i64 pre.length):=h1.cell 0;have f1:=h1.frozen 0;have e1:IntKind.i64.wrap ((pre.length:Int)+1)=(pre.length:Int)+1:=IntWalk.i64_in _ (by omega);have e2:¬ ((10000:Int)<(pre.length:Int)+1):=by omega
  have e3:decide ((10000:Int)<(pre.length:Int)+1)=false:=decide_eq_false e2;have e4:((pre++ [x]).length:Int)=(pre.length:Int)+1:=by rw[aG];rfl
  have H1:=hid h1;have HX:=hid hx;have HS:=hid hsz;have HT:=hid hT;have HE4:=hid e4;clear h1 hx hR hl yF hsz hT h3 bO e4;obtain⟨m,hm⟩:=ag pre.length;rw[<-hm]at c1 e1 e2 e3 H1 HE4 hle;clear hm
  gi_wp2
  refine⟨((ae.refl _ _).setCell (fun h=>?_) _),(by rw[HE4.out];exact H1.out.set 0 _),HX.out.setCell (by simp) _⟩;have h2:=HS.out;rcases h with(h | h) | h
  ·dsimp only at h;omega
  ·dsimp only at h;omega
  ·have h1:=(HT.out _ h).1;dsimp only at h1;omega
 case done=>
  rintro D T W hD yI hT ⟨h1,hx⟩ mI;have c1:W.cell? ⟨w.heap.size+1,0,none⟩=some (.int .i64 xs.length):=h1.cell 0;have e2:((xs.length:Int)<=10000):=by omega
  have e3:decide ((xs.length:Int)<=10000)=true:=decide_eq_true e2;have HX:=hid hx;have HS:=hid hsz;have HD:=hid hD;have yx:=hid mI;clear h1 hx yI hsz hT mI hD;obtain⟨m,hm⟩:=ag xs.length;rw[<-hm]at c1 e2 e3;clear hm;dsimp only;go_wp2;rw[Exit.noGoto_ret];refine dn rfl yx.out (results_tmp rfl _ _ _) ⟨rfl,((ae.ak HX.out fun _ h=>h).putObj (by have h1:=HD.out;have h2:=HS.out;omega) _).below⟩
 case stop=>rintro D c pre T W _ _ _ _ h _;exact h.elim
end
section
open Go Go.RowKit Go.Shelf Go.Maps
theorem gu (t:RX) (h:t.di=true):(t.kind≠2->t.set=0)/\(t.kind≠5->t.mn=0/\t.mx=0)/\(t.kind=3->t.has 1=false/\t.has 3=false)/\(t.kind=4->t.has 4=false)/\(t.kind=5->t.has 1=false):=by
 unfold RX.di at h;generalize t.kind=k at*;generalize t.set=s at*;generalize t.mn=a at*;generalize t.mx=b at*;generalize t.has 1=i1 at*;generalize t.has 3=i3 at*;generalize t.has 4=i4 at*;generalize t.subs=l at*;split at h
 ·cases h
 rename_i h0;refine⟨fun hk=>Classical.byContradiction fun hs=>h0 (.inl ⟨hk,hs⟩),fun hk=>?_,fun hk=>?_,fun hk=>?_,fun hk=>?_⟩
 ·have h1:¬ (a≠0\/b≠0):=fun e=>h0 (.inr (.inl ⟨hk,e⟩))
  omega
 ·subst hk;simp at h;exact⟨h.1.2,h.2⟩
 ·subst hk;simp at h;exact h.2
 ·subst hk;simp at h;exact h.2
theorem IV (a b:Int) (h:iQ a b=true) (w:World): ah 197 #[.int .i64 a,.int .i64 b] w fun e w'=>e=.returned (.bool true)/\w'=w:=by
 unfold iQ at h;split at h
 ·cases h
 rename_i h0;simp only[Bool.or_eq_true,Bool.and_eq_true,decide_eq_true_eq]at h;have e1:decide (a<0)=false:=decide_eq_false (by omega);have e2:decide (16<a)=false:=decide_eq_false (by omega);by_cases ha:a=1
 ·subst ha
  have hb1:b≠1:=fun e=>h0 (.inr (.inr ⟨rfl,e⟩))
  have e4:(b==1)=false:=beq_false_of_ne hb1;by_cases hb:b= -1
  ·subst hb
   clear h h0;go_enter Tryz.func197,Tryz.ntmps197;go_wp2;go_ret;exact⟨rfl,rfl⟩
  ·have e5:(b== -1)=false:=beq_false_of_ne hb
   have e6:decide (1<=b)=true:=decide_eq_true (by omega);have e7:decide (b<=16)=true:=decide_eq_true (by omega);have e8:(1:Int)<=b:=by omega
   have e9:b<=16:=by omega
   clear h h0;go_enter Tryz.func197,Tryz.ntmps197;go_wp2;go_ret;exact⟨rfl,rfl⟩
 ·have e3:(a==1)=false:=beq_false_of_ne ha
  by_cases hb:b= -1
  ·subst hb
   clear h h0;go_enter Tryz.func197,Tryz.ntmps197;go_wp2;go_ret;exact⟨rfl,rfl⟩
  ·have e5:(b== -1)=false:=beq_false_of_ne hb
   have e6:decide (1<=b)=true:=decide_eq_true (by omega);have e7:decide (b<=16)=true:=decide_eq_true (by omega);have e8:(1:Int)<=b:=by omega
   have e9:b<=16:=by omega
   have ea:decide (a<=b)=true:=decide_eq_true (by omega);have eb:a<=b:=by omega
   clear h h0;go_enter Tryz.func197,Tryz.ntmps197;go_wp2;go_ret;exact⟨rfl,rfl⟩
theorem Rc (x:RX) (a:Value) (k:Nat) (B:Nat) (W:World) (hB:ar W B #[.int .u8 k] 5): ah 233 #[.agg (aq x.kind x.set x.mn x.mx a),.pointer (some ⟨B,0,none⟩)] W fun e w'=>e=.returned (.bool (x.kind==k))/\aa W w':=by
 have hB':∀ o,(W.alloc o).cell? ⟨B,0,none⟩=some (.int .u8 k):=fun o=>(hB.alloc o).cell 0
 unfold aq;obtain⟨r,hr⟩:=ag ((x.kind==k));have e1:((x.kind:Int)==(k:Int))=r:=by
  rw[hr,Bool.eq_iff_iff,beq_iff_eq,beq_iff_eq];omega
 rw[<-hr];clear hr hB;generalize (x.kind:Int)=xk at*;generalize (k:Int)=kk at*;go_enter Tryz.func233,Tryz.ntmps233;go_wp2;go_ret;exact⟨rfl,((Ext.refl _).alloc _).below⟩
theorem UL:∀ args w,(callFunc 233 args).run Tryz.prog w=.ok (.enter 233 args) w:=enters_of Tryz.func233 (by kernel_rfl) rfl
theorem Cp (n0:Nat) (k':Nat) (s:BS) (mn mx:Int) (p:Option Addr) (n c:Nat) (l:List RX) (hn:n=l.length) (hn7:n<=10000000) (k B:Nat) (w:World) (h:aJ (· <n0) w (.agg (aq k' s mn mx (.slice p n c))) (.nd k' s mn mx l)) (dh:n0<=w.heap.size) (hB:ar w B #[.int .u8 k] 5): ah 246 #[.slice p n c,.func (.func 233) #[] #[.pointer (some ⟨B,0,none⟩)]] w fun e w'=>e=.returned (.int .i64 (eI (fun x:RX=>x.kind==k) l))/\aa w w':=by
 have H:=hid h;have HN:=hid hn;have HB:=hid hB;have eg:=UL;obtain⟨r,hr⟩:=ag (eI (fun x:RX=>x.kind==k) l);rw[<-hr];have HR:=hid hr;clear h hn hB hr;go_enter Tryz.func246,Tryz.ntmps246;go_wp2;go_loopw [8] (fun iv wr=>∃ i:Nat,i<=n/\iv=.int .i64 i/\(∀ x∈l.take i,(x.kind==k)=false)/\aa w wr) (fun iv _=>n-(intOf iv).toNat);case atStart=>exact⟨0,by omega,rfl,fun x hx=>by simp at hx,Below.refl _ _⟩
 case round=>
  obtain⟨i,hi,rfl,ha,hx⟩:=hrel;obtain⟨wo,rfl⟩:=ag (wr:World);have HX:=hid hx;have HA:=hid ha;clear hx ha;by_cases hlt:i<n
  ·have eG:(i:Int)<n:=by omega
   obtain⟨t,ht⟩:∃ t,l[i]? =some t:=⟨_,az (by have:=HN.out;omega)⟩;obtain⟨b,off,p',c',ep,hbF,hb,_,⟨q0,q1,q2,q3,q4,q5,q6,q7⟩,_⟩:=(H.out.mN (HX.out.mono dh)).elem ht;subst ep;have C1:=hid (Rc t (.slice p' t.subs.length c') k B wo (HB.out.below HX.out HB.out.lt));have HT:=hid ht;unfold aq at C1;obtain⟨g,hg⟩:=ag ((t.kind==k));rw[<-hg]at C1;have HG:=hid hg;clear ht hg;cases g with
   | true=>
    have ig:=hid (HR.out.trans (km HT.out HG.out.symm HA.out));go_wp2_with fail
    refine C1.out.mono ?_;rintro e w2 ⟨rfl,hx⟩;have X2:=hid (HX.out.trans (hx.mono HX.out.size));clear hx;go_wp2;go_ret;exact⟨by rw[ig.out];rfl,X2.out⟩
   | false=>
    go_wp2_with fail
    refine C1.out.mono ?_;rintro e w2 ⟨rfl,hx⟩;have X2:=hid (HX.out.trans (hx.mono HX.out.size));clear hx;go_wp2;go_roundw;case rel=>exact⟨i+1,by omega,by go_num,oq HT.out HG.out.symm HA.out,X2.out⟩
    case measure=>simp[intOf];omega
  ·obtain rfl:i=n:=by omega
   have eG:¬ ((i:Int)<i):=by omega
   have ig:=hid (HR.out.trans (kp fun y hy=>HA.out y (by rw[HN.out,List.take_length];exact hy)));go_wp2;go_ret;exact⟨by rw[ig.out];rfl,HX.out⟩
theorem rJ (n0:Nat) (v:Value) (t:RX) (k:Nat) (w:World) (h:aJ (· <n0) w v t) (dh:n0<=w.heap.size) (hs:t.size<=10000000): ah 196 #[v,.int .u8 k] w fun e w'=>e=.returned (.bool (t.has k))/\aa w w':=by
 cases t with
 | nd k' s mn mx l=>
  obtain⟨p,c,rfl⟩:=h.form;obtain⟨n,hn⟩:=ag l.length;have hn7:n<=10000000:=by rw[hn];exact Nat.le_trans (oG l) (by rw[RX.size]at hs;omega)
  simp only[RX.kind,RX.set,RX.mn,RX.mx,RX.subs]at h ⊢;rw[<-hn]at h ⊢;have CF:Hid (∀ W B,aa w W->ar W B #[.int .u8 k] 5->ah 232 #[.slice p n c,.func (.func 233) #[] #[.pointer (some ⟨B,0,none⟩)]] W fun e w'=>e=.returned (.bool (l.any fun x=>x.kind==k))/\aa W w'):=hid fun W B hW hB=>by
   have CI:=hid (Cp n0 k' s mn mx p n c l hn hn7 k B W (h.mN (hW.mono dh)) (Nat.le_trans dh hW.size) hB);rw[<-lM];clear h hn hB;generalize eI (fun x:RX=>x.kind==k) l=z at CI ⊢;go_enter Tryz.func232,Tryz.ntmps232;go_wp2_with fail
   refine CI.out.mono ?_;rintro e w2 ⟨rfl,hx⟩;have X2:=hid hx;clear hx;go_wp2;go_ret;exact⟨rfl,X2.out⟩
  have hr:(RX.nd k' s mn mx l).has k=l.any fun x=>x.kind==k:=rfl
  rw[hr];generalize (l.any fun x=>x.kind==k)=r at CF ⊢;clear h hn hr hs;unfold aq;go_enter Tryz.func196,Tryz.ntmps196;go_wp2_with fail
  refine aH ?_;intro V hV;have B1:ar V (w.heap.size+1) #[.int .u8 k] 5:=by rw[hV];exact(ar.new _ _ _).at (by simp)
  have X1:aa w V:=by rw[hV];exact(((Ext.refl w).alloc _).alloc _).below
  clear hV;refine(CF.out V _ X1 B1).mono ?_;rintro e w2 ⟨rfl,hx⟩;have X2:=hid (X1.trans (hx.mono X1.size));clear hx X1 B1 CF;go_wp2;go_ret;exact⟨rfl,X2.out⟩
theorem oH (s:BS) (W:World):(Op.equalIn 10000 56 (.agg #[.int .u64 (wd s 0).toNat,.int .u64 (wd s 1).toNat,.int .u64 (wd s 2).toNat,.int .u64 (wd s 3).toNat]) (.agg #[.int .u64 0,.int .u64 0,.int .u64 0,.int .u64 0])).run Tryz.prog W=.ok (s==0) W:=by have h:=iy s 0 W;rw[gi]at h;exact h
theorem Cq (n0:Nat) (v:Value) (t:RX) (hk:t.kind=1) (hr:t.di=true) (w:World) (h:aJ (· <n0) w v t) (dh:n0<=w.heap.size) (hs:t.size<=10000000): ah 161 #[v] w fun e w'=>e=.returned (.bool true)/\aa w w':=by
 have nN:n0<=w.heap.size/\t.size<=10000000:=⟨dh,hs⟩;clear nN;obtain⟨r2,rl,r0,r6,MR,r5,MT⟩:=cN t hr;obtain⟨m2,m5,m3,m4,Oo⟩:=gu t hr;obtain⟨p,c,rfl⟩:=h.form;have heq:=oH t.set;rw[show(t.set==0)=true from by rw[m2 (by omega)];rfl]at heq;obtain⟨e1,e2⟩:=m5 (by omega);obtain⟨n,hn⟩:=ag t.subs.length;have fE:n=0:=by rw[hn,rl (by omega)];rfl
 rw[<-hn]at*;rw[hk]at*;rw[e1,e2]at*;subst fE;generalize t.set=s at*;generalize t.mn=mn at*;generalize t.mx=mx at*;generalize t.subs=l at*;clear hk hr h hs r2 rl r0 r6 MR r5 MT m2 m5 m3 m4 Oo hn e1 e2;unfold aq at*;go_enter Tryz.func161,Tryz.ntmps161;go_wp2;go_ret;exact⟨rfl,((Ext.refl _).alloc _).below⟩
theorem Cr (n0:Nat) (v:Value) (t:RX) (hk:t.kind=2) (hr:t.di=true) (w:World) (h:aJ (· <n0) w v t) (dh:n0<=w.heap.size) (hs:t.size<=10000000): ah 161 #[v] w fun e w'=>e=.returned (.bool true)/\aa w w':=by
 have nN:n0<=w.heap.size/\t.size<=10000000:=⟨dh,hs⟩;clear nN;obtain⟨r2,rl,r0,r6,MR,r5,MT⟩:=cN t hr;obtain⟨m2,m5,m3,m4,Oo⟩:=gu t hr;obtain⟨p,c,rfl⟩:=h.form;have heq:=oH t.set;rw[show(t.set==0)=false from beq_false_of_ne (r2 hk)]at heq;obtain⟨e1,e2⟩:=m5 (by omega);obtain⟨n,hn⟩:=ag t.subs.length;have fE:n=0:=by rw[hn,rl (by omega)];rfl
 rw[<-hn]at*;rw[hk]at*;rw[e1,e2]at*;subst fE;generalize t.set=s at*;generalize t.mn=mn at*;generalize t.mx=mx at*;generalize t.subs=l at*;clear hk hr h hs r2 rl r0 r6 MR r5 MT m2 m5 m3 m4 Oo hn e1 e2;unfold aq at*;go_enter Tryz.func161,Tryz.ntmps161;go_wp2;go_ret;exact⟨rfl,((Ext.refl _).alloc _).below⟩
theorem Cs (n0:Nat) (v:Value) (t:RX) (hk:t.kind=3) (hr:t.di=true) (w:World) (h:aJ (· <n0) w v t) (dh:n0<=w.heap.size) (hs:t.size<=10000000): ah 161 #[v] w fun e w'=>e=.returned (.bool true)/\aa w w':=by
 have nN:n0<=w.heap.size/\t.size<=10000000:=⟨dh,hs⟩;clear nN;obtain⟨r2,rl,r0,r6,MR,r5,MT⟩:=cN t hr;obtain⟨m2,m5,m3,m4,Oo⟩:=gu t hr;have UM:Hid (∀ W,aa w W->ah 196 #[v,.int .u8 1] W fun e w'=>e=.returned (.bool false)/\aa W w'):=hid fun W hW=>by
  have:=rJ n0 v t 1 W (h.mN (hW.mono dh)) (Nat.le_trans dh hW.size) hs;rwa[show t.has 1=false from(m3 hk).1]at this
 have CH3:Hid (∀ W,aa w W->ah 196 #[v,.int .u8 3] W fun e w'=>e=.returned (.bool false)/\aa W w'):=hid fun W hW=>by
  have:=rJ n0 v t 3 W (h.mN (hW.mono dh)) (Nat.le_trans dh hW.size) hs;rwa[show t.has 3=false from(m3 hk).2]at this
 obtain⟨p,c,rfl⟩:=h.form;have heq:=oH t.set;rw[show(t.set==0)=true from by rw[m2 (by omega)];rfl]at heq;obtain⟨e1,e2⟩:=m5 (by omega);obtain⟨n,hn⟩:=ag t.subs.length;have fE:(1:Int)<n:=by have:=MT (by omega);omega
 have jk:decide ((1:Int)<n)=true:=decide_eq_true fE;have UN:=UM.out;clear UM;rw[<-hn,hk]at UN;rw[e1,e2]at UN;have ch3:=CH3.out;clear CH3;rw[<-hn,hk]at ch3;rw[e1,e2]at ch3;rw[<-hn]at*;rw[hk]at*;rw[e1,e2]at*;generalize t.set=s at*;generalize t.mn=mn at*;generalize t.mx=mx at*;generalize t.subs=l at*;clear hk hr h hs r2 rl r0 r6 MR r5 MT m2 m5 m3 m4 Oo hn e1 e2;have UM:=hid UN;clear UN;have CH3:=hid ch3;clear ch3;unfold aq at*;go_enter Tryz.func161,Tryz.ntmps161;go_wp2_with fail
 refine aH ?_;intro V hV;have B1:Hid (ar V w.heap.size #[.int .u8 3,.int .u64 (wd s 0).toNat,.int .u64 (wd s 1).toNat,.int .u64 (wd s 2).toNat,.int .u64 (wd s 3).toNat,.int .i64 0,.int .i64 0,.slice p n c] 97):=by rw[hV];exact hid (ar.new _ _ _)
 have X1:Hid (aa w V):=by rw[hV];exact hid ((Ext.refl _).alloc _).below
 clear hV;refine(UM.out V X1.out).mono ?_;rintro e w2 ⟨rfl,hx⟩;have X2:=hid (X1.out.trans (hx.mono X1.out.size));have B2:=hid (B1.out.below hx B1.out.lt);clear hx B1 X1;obtain⟨b0,b1,b2,b3,b4,b5,b6,b7⟩:=(show _/\_/\_/\_/\_/\_/\_/\_ from⟨B2.out.cell 0,B2.out.cell 1,B2.out.cell 2,B2.out.cell 3,B2.out.cell 4,B2.out.cell 5,B2.out.cell 6,B2.out.cell 7⟩);simp only[List.getElem?_toArray,List.getElem?_cons_zero,List.getElem?_cons_succ]at b0 b1 b2 b3 b4 b5 b6 b7;go_wp2_with fail
 refine(CH3.out _ X2.out).mono ?_;rintro e w3 ⟨rfl,hx⟩;have X3:=hid (X2.out.trans (hx.mono X2.out.size));clear hx b0 b1 b2 b3 b4 b5 b6 b7;go_wp2;go_ret;exact⟨rfl,X3.out⟩
theorem Ct (n0:Nat) (v:Value) (t:RX) (hk:t.kind=4) (hr:t.di=true) (w:World) (h:aJ (· <n0) w v t) (dh:n0<=w.heap.size) (hs:t.size<=10000000): ah 161 #[v] w fun e w'=>e=.returned (.bool true)/\aa w w':=by
 have nN:n0<=w.heap.size/\t.size<=10000000:=⟨dh,hs⟩;clear nN;obtain⟨r2,rl,r0,r6,MR,r5,MT⟩:=cN t hr;obtain⟨m2,m5,m3,m4,Oo⟩:=gu t hr;have CH4:Hid (∀ W,aa w W->ah 196 #[v,.int .u8 4] W fun e w'=>e=.returned (.bool false)/\aa W w'):=hid fun W hW=>by
  have:=rJ n0 v t 4 W (h.mN (hW.mono dh)) (Nat.le_trans dh hW.size) hs;rwa[show t.has 4=false from m4 hk]at this
 obtain⟨p,c,rfl⟩:=h.form;have heq:=oH t.set;rw[show(t.set==0)=true from by rw[m2 (by omega)];rfl]at heq;obtain⟨e1,e2⟩:=m5 (by omega);obtain⟨n,hn⟩:=ag t.subs.length;have fE:(1:Int)<n:=by have:=MT (by omega);omega
 have jk:decide ((1:Int)<n)=true:=decide_eq_true fE;have ch4:=CH4.out;clear CH4;rw[<-hn,hk]at ch4;rw[e1,e2]at ch4;rw[<-hn]at*;rw[hk]at*;rw[e1,e2]at*;generalize t.set=s at*;generalize t.mn=mn at*;generalize t.mx=mx at*;generalize t.subs=l at*;clear hk hr h hs r2 rl r0 r6 MR r5 MT m2 m5 m3 m4 Oo hn e1 e2;have CH4:=hid ch4;clear ch4;unfold aq at*;go_enter Tryz.func161,Tryz.ntmps161;go_wp2_with fail
 refine aH ?_;intro V hV;have B1:Hid (ar V w.heap.size #[.int .u8 4,.int .u64 (wd s 0).toNat,.int .u64 (wd s 1).toNat,.int .u64 (wd s 2).toNat,.int .u64 (wd s 3).toNat,.int .i64 0,.int .i64 0,.slice p n c] 97):=by rw[hV];exact hid (ar.new _ _ _)
 have X1:Hid (aa w V):=by rw[hV];exact hid ((Ext.refl _).alloc _).below
 clear hV;refine(CH4.out V X1.out).mono ?_;rintro e w2 ⟨rfl,hx⟩;have X2:=hid (X1.out.trans (hx.mono X1.out.size));clear hx B1 X1;go_wp2;go_ret;exact⟨rfl,X2.out⟩
theorem Cu (n0:Nat) (v:Value) (t:RX) (hk:t.kind=5) (hr:t.di=true) (w:World) (h:aJ (· <n0) w v t) (dh:n0<=w.heap.size) (hs:t.size<=10000000): ah 161 #[v] w fun e w'=>e=.returned (.bool true)/\aa w w':=by
 have nN:n0<=w.heap.size/\t.size<=10000000:=⟨dh,hs⟩;clear nN;obtain⟨r2,rl,r0,r6,MR,r5,MT⟩:=cN t hr;obtain⟨m2,m5,m3,m4,Oo⟩:=gu t hr;have UM:Hid (∀ W,aa w W->ah 196 #[v,.int .u8 1] W fun e w'=>e=.returned (.bool false)/\aa W w'):=hid fun W hW=>by
  have:=rJ n0 v t 1 W (h.mN (hW.mono dh)) (Nat.le_trans dh hW.size) hs;rwa[show t.has 1=false from Oo hk]at this
 obtain⟨p,c,rfl⟩:=h.form;have heq:=oH t.set;rw[show(t.set==0)=true from by rw[m2 (by omega)];rfl]at heq;obtain⟨n,hn⟩:=ag t.subs.length;have fE:n=1:=by rw[hn];exact MR (by omega)
 have UN:=UM.out;clear UM;rw[<-hn,hk]at UN;rw[fE]at UN;rw[<-hn]at*;have CB:=hid fun W=>IV t.mn t.mx (r5 hk) W
 rw[hk]at*;subst fE;have d1:(t.mn != 0)=(t.mn != 0):=rfl;obtain⟨g1,hg1⟩:=ag ((t.mn != 0));generalize t.set=s at*;generalize t.mn=mn at*;generalize t.mx=mx at*;generalize t.subs=l at*;clear hg1 d1 g1;clear hk hr h hs r2 rl r0 r6 MR r5 MT m2 m5 m3 m4 Oo hn;have UM:=hid UN;clear UN;unfold aq at*;go_enter Tryz.func161,Tryz.ntmps161;go_wp2_with fail
 refine CB.out _ |>.mono ?_;rintro e w1 ⟨rfl,hw⟩;replace hw:=hw.symm;subst hw;go_wp2_with fail
 refine aH ?_;intro V hV;have B1:Hid (ar V w.heap.size #[.int .u8 5,.int .u64 (wd s 0).toNat,.int .u64 (wd s 1).toNat,.int .u64 (wd s 2).toNat,.int .u64 (wd s 3).toNat,.int .i64 mn,.int .i64 mx,.slice p 1 c] 97):=by rw[hV];exact hid (ar.new _ _ _)
 have X1:Hid (aa w V):=by rw[hV];exact hid ((Ext.refl _).alloc _).below
 clear hV;refine(UM.out V X1.out).mono ?_;rintro e w2 ⟨rfl,hx⟩;have X2:=hid (X1.out.trans (hx.mono X1.out.size));clear hx B1 X1;go_wp2;go_ret;exact⟨rfl,X2.out⟩
theorem Cv (n0:Nat) (v:Value) (t:RX) (hk:t.kind=6) (hr:t.di=true) (w:World) (h:aJ (· <n0) w v t) (dh:n0<=w.heap.size) (hs:t.size<=10000000): ah 161 #[v] w fun e w'=>e=.returned (.bool true)/\aa w w':=by
 have nN:n0<=w.heap.size/\t.size<=10000000:=⟨dh,hs⟩;clear nN;obtain⟨r2,rl,r0,r6,MR,r5,MT⟩:=cN t hr;obtain⟨m2,m5,m3,m4,Oo⟩:=gu t hr;obtain⟨p,c,rfl⟩:=h.form;have heq:=oH t.set;rw[show(t.set==0)=true from by rw[m2 (by omega)];rfl]at heq;obtain⟨e1,e2⟩:=m5 (by omega);obtain⟨n,hn⟩:=ag t.subs.length;have fE:n=1:=by rw[hn];exact MR (by omega)
 rw[<-hn]at*;rw[hk]at*;rw[e1,e2]at*;subst fE;generalize t.set=s at*;generalize t.mn=mn at*;generalize t.mx=mx at*;generalize t.subs=l at*;clear hk hr h hs r2 rl r0 r6 MR r5 MT m2 m5 m3 m4 Oo hn e1 e2;unfold aq at*;go_enter Tryz.func161,Tryz.ntmps161;go_wp2;go_ret;exact⟨rfl,((Ext.refl _).alloc _).below⟩
theorem Fi (n0:Nat) (v:Value) (t:RX) (hr:t.di=true) (w:World) (h:aJ (· <n0) w v t) (dh:n0<=w.heap.size) (hs:t.size<=10000000): ah 161 #[v] w fun e w'=>e=.returned (.bool true)/\aa w w':=by
 have h1:=(cN t hr).2.2.1;have h2:=(cN t hr).2.2.2.1;obtain hk | hk | hk | hk | hk | hk:t.kind=1\/t.kind=2\/t.kind=3\/t.kind=4\/t.kind=5\/t.kind=6:=by omega
 ·exact Cq n0 v t hk hr w h dh hs
 ·exact Cr n0 v t hk hr w h dh hs
 ·exact Cs n0 v t hk hr w h dh hs
 ·exact Ct n0 v t hk hr w h dh hs
 ·exact Cu n0 v t hk hr w h dh hs
 ·exact Cv n0 v t hk hr w h dh hs
attribute [local go_sem] Oper.semAt_some gJ dB
theorem Re (t:RX):∀ x∈t.pre,x.size<=t.size:=by
 induction t using RX.ind with
 | h k s a b l ih=>
  intro x hx;rw[RX.pre]at hx;rcases List.mem_cons.1 hx with rfl | hx
  ·exact aD _
  ·have:∀ l':List RX,(∀ t∈l',t∈l)->x∈RX.lq l'->x.size<=RX.sizes l':=by
    intro l';induction l' with
    | nil=>intro _ h;rw[RX.lq]at h;cases h
    | cons y l' Yg=>
     intro hs h;rw[RX.lq]at h;rw[RX.sizes];rcases List.mem_append.1 h with h | h
     ·have:=ih y (hs y (aW ..)) x h;omega
     ·have:=Yg (fun t ht=>hs t (bF _ ht)) h;omega
   have h5:=this l (fun _ h=>h) hx;rw[RX.size];omega
theorem IY (v:Value) (t:RX) (hs:t.size<=10000) (w:World) (h:aJ (· <w.heap.size) w v t): ah 100 #[v] w fun e w'=>e=.returned (.int .i64 t.size)/\aa w w':=by
 have CL:Hid (∀ W,aa w W->ah 158 #[v] W fun e w'=>e=.returned (.bool true)/\aa W w'):=hid fun W hW=>s5 v t hs W ((h.mN hW).mono fun b hb=>aA hb hW.size)
 obtain⟨xs,hmap,pP,hseq⟩:=s4 w.heap.size t (by omega) v w h (aD _);obtain⟨p,c,rfl⟩:=h.form;have hlen:xs.length=t.size:=by
  have e:xs.length=t.pre.length:=by rw[<-hmap,aQ]
  rw[e,Kw]
 rw[<-hlen]at hs ⊢;have Rb:=hid fun W B=>hseq W B _ rfl
 clear hseq pP hmap h hlen;refine cq Tryz.func100 rfl ?_;simp only[Tryz.ntmps100,List.size_toArray,List.length_cons,List.length_nil,Nat.reduceAdd,Nat.reduceSub,Array.replicate_succ,Array.replicate_zero,List.push_toArray,List.append_toArray,List.nil_append,List.cons_append,aq]at CL ⊢;go_wp2_with fail
 refine aH ?_;intro V hV;have B1:Hid (ar V w.heap.size (aq t.kind t.set t.mn t.mx (.slice p t.subs.length c)) 97):=by rw[hV];exact hid (ar.new _ _ _)
 have X1:Hid (aa w V):=by rw[hV];exact hid ((Ext.refl _).alloc _).below
 clear hV;refine(CL.out V X1.out).mono ?_;rintro e w1 ⟨rfl,hx⟩;have B2:=hid (B1.out.below hx B1.out.lt);have X2:=hid (X1.out.trans (hx.mono X1.out.size));have ach:w.heap.size<w1.heap.size:=B2.out.lt;clear hx B1 X1 CL;obtain⟨b0,b1,b2,b3,b4,b5,b6,b7⟩:=(show _/\_/\_/\_/\_/\_/\_/\_ from⟨(B2.out.alloc (.cells #[.int .i64 0] 3 (0,0))).cell 0,(B2.out.alloc (.cells #[.int .i64 0] 3 (0,0))).cell 1,(B2.out.alloc (.cells #[.int .i64 0] 3 (0,0))).cell 2,(B2.out.alloc (.cells #[.int .i64 0] 3 (0,0))).cell 3,(B2.out.alloc (.cells #[.int .i64 0] 3 (0,0))).cell 4,(B2.out.alloc (.cells #[.int .i64 0] 3 (0,0))).cell 5,(B2.out.alloc (.cells #[.int .i64 0] 3 (0,0))).cell 6,(B2.out.alloc (.cells #[.int .i64 0] 3 (0,0))).cell 7⟩);simp only[aq,List.getElem?_toArray,List.getElem?_cons_zero,List.getElem?_cons_succ]at b0 b1 b2 b3 b4 b5 b6 b7;go_wp2_with (go_at_call 160;refine(lY _ _).mono ?_;rintro e w9 ⟨rfl,rfl⟩);refine ax ?_;intro W0 hW0;have h1:ar W0 w1.heap.size #[.int .i64 0] 3:=by rw[hW0];exact(ar.new _ _ _).alloc _
 have h3:ar W0 (w1.heap.size+1) (aq t.kind t.set t.mn t.mx (.slice p t.subs.length c)) 97:=by rw[hW0];exact(ar.new _ _ _).at (by simp)
 have hx:aa w W0:=by rw[hW0];exact X2.out.trans (((Ext.refl w1).alloc _).alloc _ |>.below.mono X2.out.size)
 have hsz:W0.heap.size=w1.heap.size+1+1:=by rw[hW0];simp
 clear hW0 b0 b1 b2 b3 b4 b5 b6 b7;refine iw (w:=W0) (d:=true) (Rb.out W0 _ (ae.ak hx fun _ h=>h) h3) (by rfl) oF (by intro _;rfl) (by intro k hk;rcases hk with hk | hk<;>omega)
  (fun ys _ W=>ar W w1.heap.size #[.int .i64 ys.length] 3/\aa w W)
  (fun _ _ _ _=>False)
  (fun ys T T' W W' ⟨h1,h3⟩ hT Pk hs hn hk=>⟨h1.mS hT hk (by omega),iu h3 hT hk (aD _) (by omega)⟩)
  (fun c ys T T' W W' h=>h.elim)
  ⟨h1,hx⟩
  (fun x=>⟨#[.agg (aq t.kind t.set t.mn t.mx (.slice p t.subs.length c)),.pointer (some ⟨w.heap.size,0,none⟩),.int .i64 0,.pointer (some ⟨w1.heap.size,0,none⟩),.agg (aq t.kind t.set t.mn t.mx (.slice p t.subs.length c)),.bool true,.bool false,.agg (aq t.kind t.set t.mn t.mx (.slice p t.subs.length c)),.func (.func 195) #[] #[.pointer (some ⟨w1.heap.size+1,0,none⟩)],x.1,undef,undef,undef],[]⟩) ?assign ?body ?done ?stop
 case assign=>
  intro l x W K hK
  gi_wp2
  simpa[Fh,aq]using hK
 case body=>
  rintro l pre x T W bO hT hR yF hl ⟨h1,hx⟩;have hle:pre.length+1<=10000:=by
   have hle:=bO.length_le;rw[aG]at hle;simp only[List.length_cons,List.length_nil]at hle;omega
  have c1:W.cell? ⟨w1.heap.size,0,none⟩=some (.int .i64 pre.length):=h1.cell 0;have f1:=h1.frozen 0;have e1:IntKind.i64.wrap ((pre.length:Int)+1)=(pre.length:Int)+1:=IntWalk.i64_in _ (by omega);have e4:((pre++ [x]).length:Int)=(pre.length:Int)+1:=by rw[aG];rfl
  have H1:=hid h1;have HX:=hid hx;have HS:=hid hsz;have HT:=hid hT;have HE4:=hid e4;clear h1 hx hR hl yF hsz hT h3 bO e4;obtain⟨m,hm⟩:=ag pre.length;rw[<-hm]at c1 e1 H1 HE4 hle;clear hm
  gi_wp2
  refine⟨((ae.refl _ _).setCell (fun h=>?_) _),(by rw[HE4.out];exact H1.out.set 0 _),HX.out.setCell (by simp;omega) _⟩;have h2:=HS.out;rcases h with(h | h) | h
  ·dsimp only at h;omega
  ·dsimp only at h;omega
  ·have h1:=(HT.out _ h).1;dsimp only at h1;omega
 case done=>
  rintro D T W hD yI hT ⟨h1,hx⟩ mI;have c1:W.cell? ⟨w1.heap.size,0,none⟩=some (.int .i64 xs.length):=h1.cell 0;have HX:=hid hx;have HS:=hid hsz;have HD:=hid hD;have yx:=hid mI;clear h1 hx yI hsz hT mI hD;dsimp only;go_wp2;refine dn rfl yx.out (results_tmp rfl _ _ _) ⟨rfl,((ae.ak HX.out fun _ h=>h).putObj (by have h1:=HD.out;have h2:=HS.out;omega) _).below⟩
 case stop=>rintro D c pre T W _ _ _ _ h _;exact h.elim
end
section
open Go Go.RowKit Go.Shelf Go.Maps
attribute [local go_sem] Oper.semAt_some gJ dB
theorem Fj (v:Value) (t:RX) (hf:t.fine) (hs:t.size<=10000) (w:World) (h:aJ (· <w.heap.size) w v t): ah 99 #[v] w fun e w'=>e=.returned (.bool true)/\aa w w':=by
 have CL:Hid (∀ W,aa w W->ah 158 #[v] W fun e w'=>e=.returned (.bool true)/\aa W w'):=hid fun W hW=>s5 v t hs W ((h.mN hW).mono fun b hb=>aA hb hW.size)
 obtain⟨xs,hmap,pP,hseq⟩:=s4 w.heap.size t (by omega) v w h (aD _);obtain⟨p,c,rfl⟩:=h.form;have CR:Hid (∀ x∈xs,∀ W,ae (· <w.heap.size) w W->ah 161 #[x.1] W fun e w'=>e=.returned (.bool true)/\aa W w'):=hid fun x hx W hW=>by
  have hp:x.2∈t.pre:=by rw[<-hmap];exact List.mem_map_of_mem hx
  exact Fi w.heap.size x.1 x.2 (hf x.2 hp) W ((pP x hx).kept hW) hW.size (by have:=Re t x.2 hp;omega)
 have Rb:=hid fun W B=>hseq W B _ rfl
 have YA:=hid pP;clear hseq pP hmap h hs hf;refine cq Tryz.func99 rfl ?_;simp only[Tryz.ntmps99,List.size_toArray,List.length_cons,List.length_nil,Nat.reduceAdd,Nat.reduceSub,Array.replicate_succ,Array.replicate_zero,List.push_toArray,List.append_toArray,List.nil_append,List.cons_append,aq]at CL ⊢;go_wp2_with fail
 refine aH ?_;intro V hV;have B1:Hid (ar V w.heap.size (aq t.kind t.set t.mn t.mx (.slice p t.subs.length c)) 97):=by rw[hV];exact hid ((ar.new _ _ _).alloc _)
 have R1:Hid (ar V (w.heap.size+1) #[.bool false] 4):=by rw[hV];exact hid ((ar.new (w.alloc _) _ _).at (by simp))
 have X1:Hid (aa w V):=by rw[hV];exact hid (((Ext.refl _).alloc _).alloc _).below
 clear hV;refine(CL.out V X1.out).mono ?_;rintro e w1 ⟨rfl,hx⟩;have B2:=hid (B1.out.below hx B1.out.lt);have R2:=hid (R1.out.below hx R1.out.lt);have X2:=hid (X1.out.trans (hx.mono X1.out.size));have ach:w.heap.size+1<w1.heap.size:=R2.out.lt;clear hx B1 X1 R1 CL;obtain⟨b0,b1,b2,b3,b4,b5,b6,b7⟩:=(show _/\_/\_/\_/\_/\_/\_/\_ from⟨B2.out.cell 0,B2.out.cell 1,B2.out.cell 2,B2.out.cell 3,B2.out.cell 4,B2.out.cell 5,B2.out.cell 6,B2.out.cell 7⟩);simp only[aq,List.getElem?_toArray,List.getElem?_cons_zero,List.getElem?_cons_succ]at b0 b1 b2 b3 b4 b5 b6 b7;go_wp2_with (go_at_call 160;refine(lY _ _).mono ?_;rintro e w9 ⟨rfl,rfl⟩);refine ax ?_;intro W0 hW0;have h1:ar W0 (w.heap.size+1) #[.bool false] 4:=by rw[hW0];exact R2.out.alloc _
 have h3:ar W0 w1.heap.size (aq t.kind t.set t.mn t.mx (.slice p t.subs.length c)) 97:=by rw[hW0];exact ar.new _ _ _
 have hx:aa w W0:=by rw[hW0];exact X2.out.trans (((Ext.refl w1).alloc _).below.mono X2.out.size)
 have hsz:W0.heap.size=w1.heap.size+1:=by rw[hW0];simp
 clear hW0 b0 b1 b2 b3 b4 b5 b6 b7;have hR9:∀ k,(k<w.heap.size\/k=w1.heap.size)->k<W0.heap.size:=fun k hk=>by rcases hk with hk | hk<;>omega
 refine vB (w:=W0) (d:=true) (Rb.out W0 _ (ae.ak hx fun _ h=>h) h3) (by rfl) oF (by intro _;rfl) hR9
  (fun ys _ W=>ar W (w.heap.size+1) #[.bool false] 4/\aa w W)
  (fun _ _ _ _=>False)
  (fun ys T T' W W' ⟨h1,h3⟩ hT Pk hs hn hk=>⟨h1.mS hT hk (by omega),iu h3 hT hk (aD _) (by omega)⟩)
  (fun c ys T T' W W' h=>h.elim)
  ⟨h1,hx⟩
  (fun z T W=>∃ b9:Nat,z.2.2= {tmps:= #[.agg (aq t.kind t.set t.mn t.mx (.slice p t.subs.length c)),.pointer (some ⟨w.heap.size,0,none⟩),.pointer (some ⟨w.heap.size+1,0,none⟩),.pointer (some ⟨b9,0,none⟩),.agg (aq t.kind t.set t.mn t.mx (.slice p t.subs.length c)),.bool true,.bool false,.agg (aq t.kind t.set t.mn t.mx (.slice p t.subs.length c)),.func (.func 195) #[] #[.pointer (some ⟨w1.heap.size,0,none⟩)],z.2.1.1,undef,undef,undef],defers:=[]} /\W0.heap.size<=b9/\b9<W.heap.size/\¬T b9/\(∃ c,z.2.1.1=.agg c/\ar W b9 c 97)/\ar W (w.heap.size+1) #[.bool false] 4/\aa w W)
  ?hIa ?assign ?body ?done ?stop
 case hIa=>
  rintro⟨pre,x,a1⟩ T T' W W' ⟨b9,e1,e2,e3,e4,⟨c,e5,e6⟩,e7,e8⟩ h1 h2 h3 h4 h5;have hs:=h5.size;refine⟨b9,e1,e2,by omega,fun h=>?_,⟨c,e5,e6.keeps h5.keeps ⟨e3,e4⟩⟩,e7.mS h1 h5 (by omega),iu e8 h1 h5 (aD _) (by omega)⟩;rcases h4 b9 h with h | h
  ·exact e4 h
  ·omega
 case assign=>
  rintro lr pre ⟨xv,xt⟩ T W hp hT hk ⟨i1,i2⟩;have hx:=YA.out (xv,xt) (hp.subset (by simp));obtain⟨p9,c9,e9⟩:=hx.form;dsimp only at e9;subst e9;have I1:=hid i1;have I2:=hid i2;have HT:=hid hT;have HK:=hid hk;clear i1 i2 hT hx hp hk h3 h1;dsimp only[aq,Fh]
  gi_wp2
  have sX:W0.heap.size<=W.heap.size:=HK.out.size;refine⟨((ae.refl _ _).alloc (fun j hj=>?_) _),W.heap.size,rfl,sX,by simp,fun h=>by have:=(HT.out _ h).2;omega,⟨_,rfl,ar.new _ _ _⟩,I1.out.alloc _,I2.out.alloc I2.out.size _⟩;rcases hj with hj | hj
  ·have:=hR9 j hj;omega
  ·exact(HT.out j hj).2
 case body=>
  rintro lr pre ⟨xv,xt⟩ T a1 W hp hT hk yF sD ⟨b9,e1,e2,e3,e4,⟨c9,e5,e6⟩,e7,e8⟩;have hxm:=hp.subset (show(xv,xt)∈pre++ [(xv,xt)] by simp);have hx:=YA.out (xv,xt) hxm;obtain⟨p9,cp9,e9⟩:=hx.form;dsimp only at e1 e5 e9;rw[e5]at e9;injection e9 with e9
  subst e1 e5 e9;have C1:=hid (CR.out _ hxm W (ae.ak e8 fun _ h=>h));have E7:=hid e7;have E8:=hid e8;have HT:=hid hT;obtain⟨b0,b1,b2,b3,b4,b5,b6,b7⟩:=(show _/\_/\_/\_/\_/\_/\_/\_ from⟨e6.cell 0,e6.cell 1,e6.cell 2,e6.cell 3,e6.cell 4,e6.cell 5,e6.cell 6,e6.cell 7⟩);simp only[aq,List.getElem?_toArray,List.getElem?_cons_zero,List.getElem?_cons_succ]at b0 b1 b2 b3 b4 b5 b6 b7;dsimp only[aq]at C1;clear e7 e6 e8 hx hp sD yF hT h3 h1 hxm hk
  gi_wp2_with (gi_at_call 161;refine(CallsIn.inRound lr (callsIn_wide.2 C1.out)).mono ?_;rintro e w2 ⟨rfl,hx⟩;have fK:=hid hx;clear hx)
  have hs2:=E8.out.size;refine⟨ae.ak fK.out fun j hj=>?_,E7.out.below fK.out E7.out.lt,E8.out.trans (fK.out.mono hs2)⟩;rcases hj with hj | hj
  ·have:=hR9 j hj;omega
  ·exact(HT.out j hj).2
 case done=>
  rintro D T W hD yI hT ⟨i1,hx⟩ mI;have HX:=hid hx;have I1:=hid i1;have f1:=i1.frozen 0;have c1:W.cell? ⟨w.heap.size+1,0,none⟩=some (.bool false):=i1.cell 0;have HD:=hid hD;have yx:=hid mI;clear hx yI hT mI hD i1;dsimp only;go_wp2;have hne:w.heap.size+1≠D:=by have:=HD.out;omega
  have XS:(W.setCell ⟨w.heap.size+1,0,none⟩ (.bool true)).heap[D]? =some (.deferred (some [])):=(Below.heap_setCell _ _ _ _ (by simpa using hne.symm)).trans yx.out;have bt:=(I1.out.set 0 (.bool true));have m0:((W.setCell ⟨w.heap.size+1,0,none⟩ (.bool true)).putObj D (.deferred none)).cell? ⟨w.heap.size+1,0,none⟩=some (.bool true):=(DK XS rfl rfl _).trans (bt.cell 0);refine dn rfl XS (v:=.bool true) (by simp[results,Tryz.results99,go_sem,m0]) ⟨rfl,?_⟩;have k1:ae (· <w.heap.size) w (W.setCell ⟨w.heap.size+1,0,none⟩ (.bool true)):=(ae.ak HX.out fun _ h=>h).setCell (by simp) _;exact(k1.putObj (by have h1:=HD.out;omega) _).below
 case stop=>rintro D c pre T W _ _ _ _ h _;exact h.elim
end
section
open Go Go.RowKit Go.Shelf Go.Maps
theorem Fk (l:List RX):RX.bH l<=10001*l.length:=by
 induction l with
 | nil=>simp[RX.bH]
 | cons x l ih=>
  rw[RX.bH,List.length_cons];have:=Cg x;omega
theorem IZ {l:List RX} {i:Nat} {t:RX} (h:l[i]? =some t):RX.bH (l.take (i+1))=RX.bH (l.take i)+t.cD:=by rw[List.take_add_one,h,ey];simp[RX.bH]
theorem MU (t:RX):t.size<=10000000->∀ (n0:Nat) (v:Value) (w:World),aJ (· <n0) w v t->n0<=w.heap.size-> ah 162 #[v] w fun e w'=>e=.returned (.int .i64 t.cD)/\aa w w':=by
 induction t using RX.ind with
 | h k s mn mx l ih=>
  intro hsz n0 v w hv dh;obtain⟨p,c,rfl⟩:=hv.form;obtain⟨n,hn⟩:=ag l.length;simp only[RX.kind,RX.set,RX.mn,RX.mx,RX.subs]at hv ⊢;rw[<-hn]at hv ⊢;have hn7:n<=10000000:=by rw[hn];exact Nat.le_trans (oG l) (by rw[RX.size]at hsz;omega)
  have IH:Hid (∀ (i:Nat) (t:RX),l[i]? =some t->∀ (v:Value) (w:World),aJ (· <n0) w v t->n0<=w.heap.size->ah 162 #[v] w fun e w'=>e=.returned (.int .i64 t.cD)/\aa w w'):=hid fun i t hi v w h h0=>ih t (aw hi) (Nat.le_trans (wZ (aw hi)) (by rw[RX.size]at hsz;omega)) n0 v w h h0
  obtain⟨s0,hs0⟩:=ag (if k=2 then 1 else 0:Nat);have amS:s0<=1:=by rw[hs0];split<;>omega
  obtain⟨S,hS⟩:=ag (s0+RX.bH l);have acm:S<=200000000000:=by have:=Fk l;rw[<-hn]at this;omega
  obtain⟨R,hR⟩:=ag ((RX.nd k s mn mx l).cD);have hRS:R=min (S*(if k=5 then min (RX.times mn mx) 10001 else 1)) 10001:=by rw[hR,RX.cD,hS,hs0]
  rw[<-hR];have HV:=hid hv;have HN:=hid hn;have HS0:=hid hs0;have HSS:=hid hS;have Wq:=hid hRS;clear hv hn hs0 hS hRS hR ih hsz;unfold aq;go_enter Tryz.func162,Tryz.ntmps162;go_upto_region 2 with fail
  refine ax ?_;intro V hV;have B1:Hid (ar V w.heap.size #[.int .u8 k,.int .u64 (wd s 0).toNat,.int .u64 (wd s 1).toNat,.int .u64 (wd s 2).toNat,.int .u64 (wd s 3).toNat,.int .i64 mn,.int .i64 mx,.slice p n c] 97):=by rw[hV];exact hid (ar.new _ _ _)
  have X1:Hid (aa w V):=by rw[hV];exact hid ((Ext.refl _).alloc _).below
  clear hV;have b0:V.cell? ⟨w.heap.size,0,none⟩=some (.int .u8 k):=B1.out.cell 0;have b7:V.cell? ⟨w.heap.size,7,none⟩=some (.slice p n c):=B1.out.cell 7
  go_upto_if 10 with fail
  go_cut [3] from 8 to 10 (fun x wx=>x=.int .i64 s0/\wx=V)
  case first=>
   by_cases hk:k=2
   ·have e0:s0=1:=by rw[HS0.out,if_pos hk]
    have d1:((k:Int)==2)=true:=by rw[hk];rfl
    go_wp2_with fail
    go_meet
    exact⟨by rw[e0];rfl,rfl⟩
   ·have e0:s0=0:=by rw[HS0.out,if_neg hk]
    have d1:((k:Int)==2)=false:=by rw[beq_eq_false_iff_ne];omega
    go_wp2_with fail
    go_meet
    exact⟨by rw[e0];rfl,rfl⟩
  case rest=>
  obtain⟨rfl,hwc⟩:=hcut;replace hwc:=hwc.symm;subst hwc;go_wp2;clear b0 b7;go_loopw [14,3] (fun iv sv wr=>∃ i:Nat,i<=n/\iv=.int .i64 i/\sv=.int .i64 ((s0+RX.bH (l.take i):Nat):Int)/\aa V wr) (fun iv _ _=>n-(intOf iv).toNat);case atStart=>exact⟨0,by omega,rfl,by simp[RX.bH],Below.refl _ _⟩
  case round=>
   obtain⟨i,hi,rfl,rfl,hx⟩:=hrel;obtain⟨wo,rfl⟩:=ag (wr:World);have HX:=hid hx;have XO:=hid (X1.out.trans (hx.mono X1.out.size));clear hx;by_cases hlt:i<n
   ·have eG:(i:Int)<n:=by omega
    obtain⟨t,ht⟩:∃ t,l[i]? =some t:=⟨_,az (by have:=HN.out;omega)⟩;obtain⟨b,off,p',c',ep,hbF,hb,_,⟨q0,q1,q2,q3,q4,q5,q6,q7⟩,hrt⟩:=(HV.out.mN (XO.out.mono dh)).elem ht;subst ep;have YC:=IZ ht;obtain⟨m,hm⟩:=ag (RX.bH (l.take i));have amU:m<=100010000000:=by have:=Fk (l.take i);rw[List.length_take]at this;rw[hm];omega
    have htp:=Cg t;obtain⟨tp,YD⟩:=ag t.cD;rw[<-hm]at YC ⊢;rw[<-YD]at YC htp;have e1:IntKind.i64.wrap (((s0+m:Nat):Int)+(tp:Int))=((s0+m+tp:Nat):Int):=by rw[IntWalk.i64_in _ (by omega)];omega
    obtain⟨sm,hsm⟩:=ag (s0+m);rw[<-hsm]at e1 ⊢;have Ws:s0+RX.bH (l.take (i+1))=sm+tp:=by rw[YC,hsm];omega
    have C1:=hid (fun W (hW:aa wo W)=>IH.out i t ht _ W (hrt.mN (hW.mono (Nat.le_trans dh XO.out.size))) (Nat.le_trans (Nat.le_trans dh XO.out.size) hW.size));unfold aq at C1;rw[<-YD]at C1;have GV:=hid Ws;clear hrt YC hm Ws hsm YD ht;go_wp2_with fail
    refine aH ?_;intro V2 hV2;have X2:Hid (aa wo V2):=by rw[hV2];exact hid ((Ext.refl _).alloc _).below
    clear hV2;refine(C1.out V2 X2.out).mono ?_;rintro e w3 ⟨rfl,hx⟩;have X3:=hid (HX.out.trans ((X2.out.trans (hx.mono X2.out.size)).mono HX.out.size));clear hx C1 X2;go_wp2;go_roundw;case rel=>exact⟨i+1,by omega,by go_num,by rw[GV.out,Int.natCast_add],X3.out⟩
    case measure=>simp[intOf];omega
   ·obtain rfl:i=n:=by omega
    have eG:¬ ((i:Int)<i):=by omega
    have fD:s0+RX.bH (l.take i)=S:=by rw[HSS.out,HN.out,List.take_length]
    rw[fD];obtain⟨b0,b5,b6⟩:=(show _/\_/\_ from⟨(B1.out.below HX.out B1.out.lt).cell 0,(B1.out.below HX.out B1.out.lt).cell 5,(B1.out.below HX.out B1.out.lt).cell 6⟩);simp only[List.getElem?_toArray,List.getElem?_cons_zero,List.getElem?_cons_succ]at b0 b5 b6;clear fD;by_cases hk:k=5
    ·have d1:((k:Int)==5)=true:=by rw[hk];rfl
     have MX:=Wq.out;rw[if_pos hk]at MX;obtain⟨L,hL⟩:∃ L:Int,max mn 0=L:=⟨_,rfl⟩;by_cases hx1:mx= -1
     ·have d2:(mx== -1)=true:=by rw[hx1];rfl
      obtain⟨T0,N9⟩:∃ T0:Int,max L mx=T0:=⟨_,rfl⟩;obtain⟨T1,hT1⟩:∃ T1:Int,max L 1=T1:=⟨_,rfl⟩;obtain⟨F,hF⟩:=ag (min (RX.times mn mx) 10001:Nat);have MN:min T1 10001=(F:Int):=by rw[hF, <-hT1, <-hL];unfold RX.times;rw[if_pos hx1];omega
      have YE:F<=10001:=by rw[hF];omega
      rw[<-hF]at MX;have rK:S*F<=200000000000*10001:=Nat.mul_le_mul acm YE;obtain⟨M,hM⟩:=ag (S*F);have e1:IntKind.i64.wrap ((S:Int)*(F:Int))=(M:Int):=by rw[show(S:Int)*(F:Int)=(M:Int) by rw[hM];push_cast;rfl];exact IntWalk.i64_in _ (by omega)
      rw[<-hM]at MX;have e2:min (M:Int) 10001=(R:Int):=by omega
      have HRX:=hid MX;clear MX hM hF rK;subst hx1;go_wp2;go_ret;exact⟨rfl,XO.out⟩
     ·have d2:(mx== -1)=false:=beq_false_of_ne hx1
      obtain⟨T0,N9⟩:∃ T0:Int,max L mx=T0:=⟨_,rfl⟩;obtain⟨F,hF⟩:=ag (min (RX.times mn mx) 10001:Nat);have MN:min T0 10001=(F:Int):=by rw[hF, <-N9, <-hL];unfold RX.times;rw[if_neg hx1];omega
      have YE:F<=10001:=by rw[hF];omega
      rw[<-hF]at MX;have rK:S*F<=200000000000*10001:=Nat.mul_le_mul acm YE;obtain⟨M,hM⟩:=ag (S*F);have e1:IntKind.i64.wrap ((S:Int)*(F:Int))=(M:Int):=by rw[show(S:Int)*(F:Int)=(M:Int) by rw[hM];push_cast;rfl];exact IntWalk.i64_in _ (by omega)
      rw[<-hM]at MX;have e2:min (M:Int) 10001=(R:Int):=by omega
      have HRX:=hid MX;clear MX hM hF rK;go_wp2;go_ret;exact⟨rfl,XO.out⟩
    ·have d1:((k:Int)==5)=false:=by rw[beq_eq_false_iff_ne];omega
     have e2:min (S:Int) 10001=(R:Int):=by have:=Wq.out;rw[if_neg hk,Nat.mul_one]at this;omega
     go_wp2;go_ret;exact⟨rfl,XO.out⟩
theorem uT (v:Value) (t:RX) (hs:t.size<=10000) (w:World) (h:aJ (· <w.heap.size) w v t): ah 101 #[v] w fun e w'=>e=.returned (.int .i64 t.cD)/\aa w w':=by
 have CL:Hid (∀ W,aa w W->ah 158 #[v] W fun e w'=>e=.returned (.bool true)/\aa W w'):=hid fun W hW=>s5 v t hs W ((h.mN hW).mono fun b hb=>aA hb hW.size)
 have CP:Hid (∀ W,aa w W->ah 162 #[v] W fun e w'=>e=.returned (.int .i64 t.cD)/\aa W w'):=hid fun W hW=>MU t (by omega) w.heap.size v W (h.mN hW) hW.size
 obtain⟨p,c,rfl⟩:=h.form;generalize t.cD=r at*;clear h hs;unfold aq at*;go_enter Tryz.func101,Tryz.ntmps101;go_wp2_with fail
 refine aH ?_;intro V hV;have B1:Hid (ar V w.heap.size (aq t.kind t.set t.mn t.mx (.slice p t.subs.length c)) 97):=by rw[hV];exact hid (ar.new _ _ _)
 have X1:Hid (aa w V):=by rw[hV];exact hid ((Ext.refl _).alloc _).below
 clear hV;refine(CL.out V X1.out).mono ?_;rintro e w1 ⟨rfl,hx⟩;have B2:=hid (B1.out.below hx B1.out.lt);have X2:=hid (X1.out.trans (hx.mono X1.out.size));clear hx B1 X1 CL;obtain⟨b0,b1,b2,b3,b4,b5,b6,b7⟩:=(show _/\_/\_/\_/\_/\_/\_/\_ from⟨B2.out.cell 0,B2.out.cell 1,B2.out.cell 2,B2.out.cell 3,B2.out.cell 4,B2.out.cell 5,B2.out.cell 6,B2.out.cell 7⟩);simp only[aq,List.getElem?_toArray,List.getElem?_cons_zero,List.getElem?_cons_succ]at b0 b1 b2 b3 b4 b5 b6 b7;go_wp2_with fail
 refine(CP.out w1 X2.out).mono ?_;rintro e w2 ⟨rfl,hx⟩;have X3:=hid (X2.out.trans (hx.mono X2.out.size));clear hx b0 b1 b2 b3 b4 b5 b6 b7;go_wp2;go_ret;exact⟨rfl,X3.out⟩
attribute [local go_sem] cE
theorem Fl (x:PB):(dJ (bW x) 448).length=(dW x).length/\(dJ (bW x) 448).map wD=(dW x).map aN:=by rw[<-Mx];refine⟨by simp,?_⟩;rw[List.map_map];rfl
theorem s6 (x:PB) (b off:Nat) (w:World) (hb:fZ w b off (bW x)):ah 103 #[.pointer (some ⟨b,off,none⟩)] w fun e w'=>∃ v,e=.returned v/\w'.ownsRow w.heap.size 3 1 v (dW x).length ((dW x).map aN)/\aa w w':=by have h:=Iz (bW x) b off w hb;rw[(Fl x).1,(Fl x).2]at h;exact h
theorem GM.ok0:(⟨[],[]⟩:GM).ok:=⟨rfl,fun f h=>(by cases h),fun s h=>(by cases h)⟩
theorem fM.new {base M:Nat} {w:World} (h:ar w M #[.slice none 0 0,.slice none 0 0] 177) (hb:base<=M):fM base M (· =M) w ⟨[],[]⟩:=
 ⟨rfl,(fun x hx=>by subst hx;exact⟨hb,h.lt⟩),_,_,h,World.ownsRow_nil _ _ _ _,(fun x e=>by cases e),World.ownsRow_nil _ _ _ _,(fun x e=>by cases e)⟩
theorem Ak (v:Value) (t:RX) (w:World) (h:aJ (· <w.heap.size) w v t) (hf:t.fine) (hs:t.size<=120) (hp:t.cD<=400): ah 59 #[v] w fun e w'=>∃ u,e=.returned (.tuple #[u,.int .i64 0])/\im w.heap.size w' u t.nf/\aa w w':=by
 obtain⟨iL,zX,mK,mL,mM⟩:=info_parts Tryz.tR;obtain⟨p,c,rfl⟩:=h.form;have wY:=pU t hf;have ace:=ES t hf hp;have lC:=nH t wY ⟨[],[]⟩ GM.ok0;obtain⟨v,hv⟩:=ag (Value.agg (aq t.kind t.set t.mn t.mx (.slice p t.subs.length c)));rw[<-hv]at h;have CC:Hid (∀ W,aa w W->ah 99 #[v] W fun e w'=>e=.returned (.bool true)/\aa W w'):=hid fun W hW=>Fj v t hf (by omega) W ((h.mN hW).mono fun b hb=>aA hb hW.size)
 have CS:Hid (∀ W,aa w W->ah 100 #[v] W fun e w'=>e=.returned (.int .i64 t.size)/\aa W w'):=hid fun W hW=>IY v t (by omega) W ((h.mN hW).mono fun b hb=>aA hb hW.size)
 have CP:Hid (∀ W,aa w W->ah 101 #[v] W fun e w'=>e=.returned (.int .i64 t.cD)/\aa W w'):=hid fun W hW=>uT v t (by omega) W ((h.mN hW).mono fun b hb=>aA hb hW.size)
 obtain⟨m2,p2,wU⟩:∃ m2 p2,t.dy ⟨[],[]⟩=(m2,p2):=⟨_,_,rfl⟩;have CM:Hid (∀ W M,aa w W->w.heap.size<=M->ar W M #[.slice none 0 0,.slice none 0 0] 177->ah 102 #[.pointer (some ⟨M,0,none⟩),v] W (jR w.heap.size M (· =M) W m2 p2)):=hid fun W M hW hM hB=>by
  have:=Ra w.heap.size t hf (by omega) w.heap.size M (· =M) ⟨[],[]⟩ W v (aD _) (fM.new hB hM) (h.mN hW) GM.ok0 rfl (by show 0+t.cnt<=448;omega);rw[wU]at this;exact this
 rw[hv]at CC CS CP CM;rw[wU]at lC;have zu:=lC.len;have Fc:=lC.ok.len;dsimp only at zu Fc;have zu:m2.aL.length=0+t.cnt:=zu;have enf:t.nf=⟨m2.aL,m2.cF.map dW,dW p2.fst,dW p2.cR,p2.emp⟩:=by unfold RX.nf;rw[wU]
 have lH:t.kind≠0:=oz hf;obtain⟨k,hk⟩:=ag t.kind;obtain⟨sz,hsz⟩:=ag t.size;obtain⟨ps,Td⟩:=ag t.cD;obtain⟨nl,uK⟩:=ag t.subs.length;rw[enf];rw[<-hk, <-uK]at CC CS CP CM ⊢;rw[<-hk]at lH;rw[<-hsz]at CS hs;rw[<-Td]at CP hp;obtain⟨n,hn⟩:=ag m2.aL.length;rw[<-hn]at Fc zu;have Tu:n<=400:=by omega
 obtain⟨st,hst⟩:=ag t.set;obtain⟨tn,s7⟩:=ag t.mn;obtain⟨tx,Ky⟩:=ag t.mx;rw[<-hst, <-s7, <-Ky]at CC CS CP CM ⊢;have HN:=hid hn;have HL3:=hid Fc;have HS:=hid hs;have HP:=hid hp;clear lC h hv hf wY ace wU zu Fc enf hk hsz Td uK hn hst s7 Ky v;unfold aq at CC CS CP CM ⊢;have hs9:¬ ((120:Int)<sz):=by have:=HS.out;omega
 have hp9:¬ ((400:Int)<ps):=by have:=HP.out;omega
 go_enter Tryz.func59,Tryz.ntmps59
 go_upto_region 1 with fail
 refine ax ?_;intro V hV;have B1:Hid (ar V w.heap.size #[.int .u8 k,.int .u64 (wd st 0).toNat,.int .u64 (wd st 1).toNat,.int .u64 (wd st 2).toNat,.int .u64 (wd st 3).toNat,.int .i64 tn,.int .i64 tx,.slice p nl c] 97):=by rw[hV];exact hid ((ar.new w _ _).alloc _)
 have B2:Hid (ar V (w.heap.size+1) #[.slice none 0 0,.slice none 0 0,.slice none 0 0,.slice none 0 0,.bool false] 118):=by rw[hV];exact hid ((ar.new (w.alloc _) _ _).at (by simp))
 have HX:Hid (aa w V):=by rw[hV];exact hid (((Ext.refl w).alloc _).alloc _).below
 have yX:V.heap.size=w.heap.size+1+1:=by rw[hV];simp
 have qE:=hid yX;clear hV yX;have e0:V.cell? ⟨w.heap.size,0,none⟩=some (.int .u8 k):=B1.out.cell 0;have e1:V.cell? ⟨w.heap.size,1,none⟩=some (.int .u64 (wd st 0).toNat):=B1.out.cell 1;have e2:V.cell? ⟨w.heap.size,2,none⟩=some (.int .u64 (wd st 1).toNat):=B1.out.cell 2;have e3:V.cell? ⟨w.heap.size,3,none⟩=some (.int .u64 (wd st 2).toNat):=B1.out.cell 3;have e4:V.cell? ⟨w.heap.size,4,none⟩=some (.int .u64 (wd st 3).toNat):=B1.out.cell 4;have e5:V.cell? ⟨w.heap.size,5,none⟩=some (.int .i64 tn):=B1.out.cell 5;have e6:V.cell? ⟨w.heap.size,6,none⟩=some (.int .i64 tx):=B1.out.cell 6;have e7:V.cell? ⟨w.heap.size,7,none⟩=some (.slice p nl c):=B1.out.cell 7;have iK:¬ ((k:Int)=0):=by omega
 go_wp2_with fail
 refine(CC.out V HX.out).mono ?_;rintro e V2 ⟨rfl,hx⟩;have B1:=hid (B1.out.below hx B1.out.lt);have B2:=hid (B2.out.below hx B2.out.lt);have HX:=hid (HX.out.trans (hx.mono HX.out.size));have MZ:Hid (w.heap.size+1+1<=V2.heap.size):=hid (by have:=hx.size;have:=qE.out;omega);clear hx e0 e1 e2 e3 e4 e5 e6 e7 qE CC;have e0:V2.cell? ⟨w.heap.size,0,none⟩=some (.int .u8 k):=B1.out.cell 0;have e1:V2.cell? ⟨w.heap.size,1,none⟩=some (.int .u64 (wd st 0).toNat):=B1.out.cell 1;have e2:V2.cell? ⟨w.heap.size,2,none⟩=some (.int .u64 (wd st 1).toNat):=B1.out.cell 2;have e3:V2.cell? ⟨w.heap.size,3,none⟩=some (.int .u64 (wd st 2).toNat):=B1.out.cell 3;have e4:V2.cell? ⟨w.heap.size,4,none⟩=some (.int .u64 (wd st 3).toNat):=B1.out.cell 4;have e5:V2.cell? ⟨w.heap.size,5,none⟩=some (.int .i64 tn):=B1.out.cell 5;have e6:V2.cell? ⟨w.heap.size,6,none⟩=some (.int .i64 tx):=B1.out.cell 6;have e7:V2.cell? ⟨w.heap.size,7,none⟩=some (.slice p nl c):=B1.out.cell 7;go_wp2_with fail
 refine(CS.out V2 HX.out).mono ?_;rintro e V3 ⟨rfl,hx⟩;have B1:=hid (B1.out.below hx B1.out.lt);have B2:=hid (B2.out.below hx B2.out.lt);have HX:=hid (HX.out.trans (hx.mono HX.out.size));have MZ:Hid (w.heap.size+1+1<=V3.heap.size):=hid (by have:=hx.size;have:=MZ.out;omega);clear hx e0 e1 e2 e3 e4 e5 e6 e7 CS;have e0:V3.cell? ⟨w.heap.size,0,none⟩=some (.int .u8 k):=B1.out.cell 0;have e1:V3.cell? ⟨w.heap.size,1,none⟩=some (.int .u64 (wd st 0).toNat):=B1.out.cell 1;have e2:V3.cell? ⟨w.heap.size,2,none⟩=some (.int .u64 (wd st 1).toNat):=B1.out.cell 2;have e3:V3.cell? ⟨w.heap.size,3,none⟩=some (.int .u64 (wd st 2).toNat):=B1.out.cell 3;have e4:V3.cell? ⟨w.heap.size,4,none⟩=some (.int .u64 (wd st 3).toNat):=B1.out.cell 4;have e5:V3.cell? ⟨w.heap.size,5,none⟩=some (.int .i64 tn):=B1.out.cell 5;have e6:V3.cell? ⟨w.heap.size,6,none⟩=some (.int .i64 tx):=B1.out.cell 6;have e7:V3.cell? ⟨w.heap.size,7,none⟩=some (.slice p nl c):=B1.out.cell 7;go_wp2_with fail
 refine(CP.out V3 HX.out).mono ?_;rintro e V4 ⟨rfl,hx⟩;have B1:=hid (B1.out.below hx B1.out.lt);have B2:=hid (B2.out.below hx B2.out.lt);have HX:=hid (HX.out.trans (hx.mono HX.out.size));have MZ:Hid (w.heap.size+1+1<=V4.heap.size):=hid (by have:=hx.size;have:=MZ.out;omega);clear hx e0 e1 e2 e3 e4 e5 e6 e7 CP;go_upto_region 6 with fail
 refine ax ?_;intro V5 hV5;have BM:Hid (ar V5 V4.heap.size #[.slice none 0 0,.slice none 0 0] 177):=by rw[hV5];exact hid (ar.new _ _ _)
 have E5:Hid (Ext V4 V5):=by rw[hV5];exact hid ((Ext.refl _).alloc _)
 clear hV5;obtain⟨M,hMe⟩:=ag V4.heap.size;rw[<-hMe]at BM ⊢;have B1:=hid (B1.out.ext E5.out);have B2:=hid (B2.out.ext E5.out);have HX:=hid (HX.out.trans (E5.out.below.mono HX.out.size));have Tv:w.heap.size+1+1<=M:=by have:=MZ.out;omega
 have hMl:M<V5.heap.size:=BM.out.lt;have CM:=hid (CM.out V5 M HX.out (by omega) BM.out);clear E5 MZ BM hMe;have e0:V5.cell? ⟨w.heap.size,0,none⟩=some (.int .u8 k):=B1.out.cell 0;have e1:V5.cell? ⟨w.heap.size,1,none⟩=some (.int .u64 (wd st 0).toNat):=B1.out.cell 1;have e2:V5.cell? ⟨w.heap.size,2,none⟩=some (.int .u64 (wd st 1).toNat):=B1.out.cell 2;have e3:V5.cell? ⟨w.heap.size,3,none⟩=some (.int .u64 (wd st 2).toNat):=B1.out.cell 3;have e4:V5.cell? ⟨w.heap.size,4,none⟩=some (.int .u64 (wd st 3).toNat):=B1.out.cell 4;have e5:V5.cell? ⟨w.heap.size,5,none⟩=some (.int .i64 tn):=B1.out.cell 5;have e6:V5.cell? ⟨w.heap.size,6,none⟩=some (.int .i64 tx):=B1.out.cell 6;have e7:V5.cell? ⟨w.heap.size,7,none⟩=some (.slice p nl c):=B1.out.cell 7;go_wp2_with fail
 refine CM.out.mono ?_;rintro e V6 ⟨rfl,⟨F,hF,hFM,hFo⟩,hx,hsz⟩;have B2:=hid (B2.out.keeps hx ⟨B2.out.lt,by omega⟩);have HX:=hid (HX.out.trans (hx.mono fun x (hx:x<w.heap.size)=>⟨by omega,by omega⟩:ae (· <w.heap.size) V5 V6).below);have MF:=hid hF;have FO:=hid hFo;have UO:M<V6.heap.size:=(hF.lt M hF.fm).2;clear hx hF hFM hFo hsz CM B1 e0 e1 e2 e3 e4 e5 e6 e7;unfold ay;go_upto_region 7 with fail
 refine ax ?_;intro V7 hV7;have X7:Hid (ar V7 V6.heap.size (ay p2) 181):=by rw[hV7];exact hid (ar.new _ _ _)
 have E7:Hid (Ext V6 V7):=by rw[hV7];exact hid ((Ext.refl _).alloc _)
 clear hV7;obtain⟨sv,fv,hM,r1,r1F,r2,r2F⟩:=MF.out.row;obtain⟨bq,hbq⟩:=ag V6.heap.size;rw[<-hbq]at X7 ⊢;have am1:M<bq:=by omega
 have BM:=hid (hM.ext E7.out);have HX:=hid (HX.out.trans (E7.out.below.mono HX.out.size));have B2:=hid (B2.out.ext E7.out);rw[HL3.out]at r2;rw[<-HN.out]at r1;obtain⟨sa,sc,rfl⟩:=ownsRow_form r1;obtain⟨fa,fc,rfl⟩:=ownsRow_form r2;have R1:=hid (aj r1 E7.out.below);have R2:=hid (aj r2 E7.out.below);have agw:bq<V7.heap.size:=X7.out.lt;clear MF FO hM r1 r2 r1F r2F E7 hbq UO;obtain⟨n2,jk⟩:=ag ((dW p2.fst).length);obtain⟨n3,GU⟩:=ag ((dW p2.cR).length);obtain⟨X2s,hX2⟩:=ag ((dW p2.fst).map aN);obtain⟨X3s,hX3⟩:=ag ((dW p2.cR).map aN);obtain⟨em,hem⟩:=ag p2.emp;have L2:Hid (∀ W,aa V7 W->ah 103 #[.pointer (some ⟨bq,0,none⟩)] W fun e w'=>∃ v,e=.returned v/\w'.ownsRow W.heap.size 3 1 v n2 X2s/\aa W w'):=hid fun W hW=>by rw[jk,hX2];exact s6 p2.fst bq 0 W (fZ.fst (X7.out.below hW X7.out.lt))
 have L3:Hid (∀ W,aa V7 W->ah 103 #[.pointer (some ⟨bq,7,none⟩)] W fun e w'=>∃ v,e=.returned v/\w'.ownsRow W.heap.size 3 1 v n3 X3s/\aa W w'):=hid fun W hW=>by rw[GU,hX3];exact s6 p2.cR bq 7 W (fZ.cR (X7.out.below hW X7.out.lt))
 have b0:V7.cell? ⟨M,0,none⟩=some (.slice sa n sc):=BM.out.cell 0;have oB:V7.cell? ⟨bq,14,none⟩=some (.bool em):=by rw[hem];exact X7.out.cell 14
 have uM:=hid jk;have HN3:=hid GU;have fK:=hid hX2;have od:=hid hX3;have HEM:=hid hem;clear jk GU hX2 hX3 hem X7;have agz:M<V7.heap.size:=by omega
 refine aK false (fun _=>False) (by kernel_rfl) 12 [0,1,3,7,0,16,0,112,0,256,1023,0,4095] (fun i=>i==5 || i==7 || i==11 || i==12) (by kernel_rfl) (fun i=>if i=5 then aZ.Uo V7.heap.size n2 X2s else if i=7 then aZ.Uo V7.heap.size n3 X3s else if i=11 then aZ.uP V7.heap.size #[.slice none 0 0,.slice none 0 0,.slice none 0 0,.slice none 0 0,.bool false] 118 else aZ.any _) ?_;intro C hC hne;have HC:=hid hC;have f1:=aC hC (p:=⟨M,0,none⟩) agz (fun h=>h) b0;have f2:=aC hC (p:=⟨bq,14,none⟩) agw (fun h=>h) oB;clear hC b0 oB
 repeat (refine au (fun K hK=>?_);first | (refine bX rfl ?_;try go_simp;refine hK _ _ ?_;clear hK K) | (refine bR rfl rfl ?_;unfold aB;go_simp;refine hK _ _ ?_;clear hK K))
 refine au (fun K hK=>?_);refine ck rfl rfl (aZ.Uo V7.heap.size n2 X2s) rfl (fun W hW hN=>?_) (fun v hv=>?_)
 ·have hM:=(HC.out W).1 hW
  clear hW;go_simp;refine bM ((L2.out W hM.below).mono ?_);rintro e w2 ⟨u,rfl,ho,hx⟩;exact⟨_,rfl,Move.ak hx,ownsRow_form ho,aF ho hM.size⟩
 obtain⟨a5,c5,rfl⟩:=hv;go_simp;refine hK _ _ ?_;clear hK K
 repeat (refine au (fun K hK=>?_);first | (refine bX rfl ?_;try go_simp;refine hK _ _ ?_;clear hK K) | (refine bR rfl rfl ?_;unfold aB;go_simp;refine hK _ _ ?_;clear hK K))
 refine au (fun K hK=>?_);refine ck rfl rfl (aZ.Uo V7.heap.size n3 X3s) rfl (fun W hW hN=>?_) (fun v hv=>?_)
 ·have hM:=(HC.out W).1 hW
  clear hW;go_simp;refine bM ((L3.out W hM.below).mono ?_);rintro e w2 ⟨u,rfl,ho,hx⟩;exact⟨_,rfl,Move.ak hx,ownsRow_form ho,aF ho hM.size⟩
 obtain⟨a6,c6,rfl⟩:=hv;go_simp;refine hK _ _ ?_;clear hK K
 repeat (refine au (fun K hK=>?_);first | (refine bX rfl ?_;try go_simp;refine hK _ _ ?_;clear hK K) | (refine bR rfl rfl ?_;unfold aB;go_simp;refine hK _ _ ?_;clear hK K))
 refine au (fun K0 hK=>?_);refine ck rfl rfl (aZ.uP V7.heap.size #[.slice none 0 0,.slice none 0 0,.slice none 0 0,.slice none 0 0,.bool false] 118) rfl (fun W hW hN=>?_) (fun v hv=>?_)
 ·have hM:=(HC.out W).1 hW
  have sX:=hM.size;clear hW hN hK K0;go_simp;exact⟨Move.ak ((Ext.refl _).alloc _).below,⟨_,rfl⟩,fun b hb=>by cases hb;exact⟨ar.new _ _ _,sX⟩⟩
 obtain⟨bx,rfl⟩:=hv;go_simp;refine hK _ _ ?_;clear hK K0;refine bG (fun W hW hH=>?_);have hM:=(HC.out W).1 hW;have hb8:(aZ.uP V7.heap.size #[.slice none 0 0,.slice none 0 0,.slice none 0 0,.slice none 0 0,.bool false] 118).H (.pointer (some ⟨bx,0,none⟩)) W:=hH _ (aw (show _=some _ from rfl:_[0]? =some _));have L6:Hid (W.ownsRow V7.heap.size 3 1 (.slice a6 n3 c6) n3 X3s):=hid (hH _ (aw (show _=some _ from rfl:_[1]? =some _)));have L5:Hid (W.ownsRow V7.heap.size 3 1 (.slice a5 n2 c5) n2 X2s):=hid (hH _ (aw (show _=some _ from rfl:_[2]? =some _)));have BX:=hid (hb8 bx rfl);have XW:=hid hM.below;have UA:V7.heap.size<=W.heap.size:=hM.size;have L4:=hid (aj R1.out hM.below);have LF:=hid (aj R2.out hM.below);have DM:=hid (BM.out.below hM.below BM.out.lt);clear hM hW hH HC hne f1 f2 hb8 L2 L3 R1 R2 BM;obtain⟨x0,x1,x2,x3,x4⟩:=BX.out.1.five;have z0:=BX.out.1.frozen 0;have z1:=BX.out.1.frozen 1;have z2:=BX.out.1.frozen 2;have z3:=BX.out.1.frozen 3;have z4:=BX.out.1.frozen 4;have zD:bx≠M:=by have:=BX.out.2;omega
 have D2:=(((((DM.out.other (p:=⟨bx,0,none⟩) zD (.slice sa n sc)).other (p:=⟨bx,1,none⟩) zD (.slice none 0 0)).other (p:=⟨bx,2,none⟩) zD (.slice a5 n2 c5)).other (p:=⟨bx,3,none⟩) zD (.slice a6 n3 c6)).other (p:=⟨bx,4,none⟩) zD (.bool em));have k0:=D2.cell 1;simp only[List.getElem?_toArray,List.getElem?_cons_zero,List.getElem?_cons_succ]at k0;clear D2;go_wp2;clear k0;refine ax ?_;intro W2 hW2;have BD:Hid (ar W2 bx #[.slice sa n sc,.slice none 0 0,.slice a5 n2 c5,.slice a6 n3 c6,.bool em] 118):=by rw[hW2];exact hid BX.out.1.abD
 have K2:ae (· ≠bx) W W2:=by rw[hW2];exact wy _ _ _ _ _ _ _
 clear hW2 x0 x1 x2 x3 x4 z0 z1 z2 z3 z4;have hbl:∀ {base:Nat} {e:TypeId} {size n:Nat} {u:Value} {xs:List Value},W.ownsRow base e size u n xs->118≠e->W2.ownsRow base e size u n xs:=fun h he=>ai h K2 fun x hx=>cm BX.out.1 h he x hx
 have M4:=hid (hbl L4.out (by decide));have M5:=hid (hbl L5.out (by decide));have M6:=hid (hbl L6.out (by decide));have MF:=hid (hbl LF.out (by decide));have hVb:V7.heap.size<=bx:=BX.out.2;have E2:=hid ((B2.out.below XW.out B2.out.lt).keeps K2 (by have:=B2.out.lt;show w.heap.size+1≠bx;omega));have X2:Hid (aa w W2):=hid ((HX.out.trans (XW.out.mono HX.out.size)).trans (K2.mono fun x (hx:x<w.heap.size)=>by have:=B2.out.lt;omega:ae (· <w.heap.size) W W2).below);have ajx:W.heap.size<=W2.heap.size:=K2.size;have am3:=B2.out.lt;have hb3:bx<W2.heap.size:=BD.out.lt;clear K2 hbl L4 L5 L6 LF BX XW DM B2 HX;go_loopw [53] (fun i wr=>∃ (kk:Nat) (u:Value),kk<=n/\i=.int .i64 kk/\ar wr bx #[.slice sa n sc,u,.slice a5 n2 c5,.slice a6 n3 c6,.bool em] 118/\br W2.heap.size wr u ((m2.cF.map dW).take kk)/\ae (fun x=>x<W2.heap.size/\x≠bx) W2 wr) (fun i _=>n-(intOf i).toNat);case atStart=>exact⟨0,_,by omega,rfl,BD.out,br.nil _ _,ae.refl _ _⟩
 case round=>
  obtain⟨kk,u,hk,rfl,hb,ho,hx⟩:=hrel;obtain⟨w5,rfl⟩:=ag (wr:World);have MK:aa w w5:=X2.out.trans (hx.mono fun x (yV:x<w.heap.size)=>⟨aA yV X2.out.size,by omega⟩:ae (· <w.heap.size) W2 w5).below;by_cases hlt:kk<n
  ·obtain⟨f,hl⟩:∃ l,m2.cF[kk]? =some l:=⟨_,az (by have:=HL3.out;omega)⟩
   have fD:(m2.cF.map dW).take (kk+1)=(m2.cF.map dW).take kk++ [dW f]:=by rw[List.take_add_one,aO,hl];rfl
   have hlen:((m2.cF.map dW).take kk).length<=1000000:=by rw[List.length_take];omega
   have eG:(kk:Int)<n:=by omega
   have hrow:=ai MF.out hx fun x yV=>⟨(MF.out.lt x yV).2,cm BD.out MF.out (by decide) x yV⟩
   obtain⟨g,cap,efv⟩:∃ g cap,Value.slice fa n fc=.slice (some ⟨g,0,none⟩) n cap:=by
    rcases hrow.2 with⟨_,e2⟩ | ⟨g,cap,cur,e2,_⟩
    ·exfalso;omega
    ·exact⟨g,cap,e2⟩
   injection efv with e1 e2 e3
   subst e1 e3;have Al:g<w5.heap.size:=(hrow.lt g rfl).2;have lL:n<=fc:=by
    rcases hrow.2 with⟨e,_⟩ | ⟨g',c',cur,e4,_,_,h9,_⟩
    ·cases e
    ·cases e4;omega
   have ce:∀ i,i<7->w5.cell? ⟨g,kk*7+i,none⟩=some (.int .u64 (bW f i).toNat):=fun i hi=>by
    have:=hrow.cells (g:=g) rfl _ _ (wN hl hi);rw[Addr.add_mid]at this;simpa using this
   have e0:=ce 0 (by decide);have e1:=ce 1 (by decide);have e2:=ce 2 (by decide);have e3:=ce 3 (by decide);have e4:=ce 4 (by decide);have e5:=ce 5 (by decide);have e6:=ce 6 (by decide);simp only[Nat.add_zero]at e0;obtain⟨us,u1,u2,u3⟩:=ho;obtain⟨ml,sr⟩:=ag us.length;have sw:ml<=1000000:=by omega
   obtain⟨j,hj⟩:=ag ((dW f).length);rw[<-sr]at u1 u2;have za:=hid sr;have HJ:=hid hj;obtain⟨ua5,uc5,rfl⟩:=ownsRow_form u2;have U2:=hid u2;have U3:=hid u3;have U1:=hid u1;have HB:=hid hb;have HK:=hid hx;have HT:=hid fD;have hgz:g<w5.heap.size:=Al;clear hl hb hx fD MK u1 u2 u3 sr hj hlen hrow ce;go_upto_region 11 with fail
   refine ax ?_;intro W6 uL;have Z6:Hid (ar W6 w5.heap.size (cE (bW f)) 179):=by rw[uL];exact hid (ar.new _ _ _)
   have E6:Hid (Ext w5 W6):=by rw[uL];exact hid ((Ext.refl _).alloc _)
   clear uL e0 e1 e2 e3 e4 e5 e6;have U2:=hid (aj U2.out E6.out.below);have U3:=hid fun i u l hu hl=>aj (U3.out i u l hu hl) E6.out.below
   have HB:=hid (HB.out.ext E6.out);have HK:=hid (HK.out.tr (E6.out.keeps.mono fun x hx=>aA hx.1 HK.out.size));have CL:Hid (∀ W,aa W6 W->ah 103 #[.pointer (some ⟨w5.heap.size,0,none⟩)] W fun e w'=>∃ v,e=.returned v/\w'.ownsRow W.heap.size 3 1 v j ((dW f).map aN)/\aa W w'):=hid fun W hW=>by rw[HJ.out];exact s6 f _ 0 W (fZ.Qq (Z6.out.below hW Z6.out.lt))
   clear E6 Z6;refine aK false (fun _=>False) (by kernel_rfl) 4 [0,1,0,4,15,31,63] (fun i=>i==2 || i==3 || i==4 || i==6) (by kernel_rfl) (fun i=>if i=2 then aZ.row W2.heap.size 3 1 j ((dW f).map aN)else if i=3 then aZ.Kg W2.heap.size j ((dW f).map aN)else aZ.any _) ?_;intro C hC hne;have HC:=hid hC;have f0:=aC hC (p:=⟨bx,1,none⟩) (by have:=HB.out.lt;exact this) (fun h=>h) (HB.out.cell 1);clear hC
   repeat (refine au (fun K hK=>?_);first | (refine bX rfl ?_;try go_simp;refine hK _ _ ?_;clear hK K) | (refine bR rfl rfl ?_;unfold aB;go_simp;refine hK _ _ ?_;clear hK K))
   refine au (fun K hK=>?_);refine ck rfl rfl (aZ.row W2.heap.size 3 1 j ((dW f).map aN)) rfl (fun W hW hN=>?_) (fun v hv=>?_)
   ·have hM:=(HC.out W).1 hW
    clear hW;go_simp;refine bM ((CL.out W hM.below).mono ?_);rintro e w2 ⟨vp,rfl,ho,hx⟩;exact⟨_,rfl,Move.ak hx,ownsRow_form ho,aF ho (Nat.le_trans HK.out.size hM.size)⟩
   obtain⟨a7,c7,rfl⟩:=hv;go_simp;refine hK _ _ ?_;clear hK K;refine au (fun K hK=>?_);refine ck rfl rfl (aZ.Kg W2.heap.size j ((dW f).map aN)) rfl (fun W hW hN=>?_) (fun v hv=>?_)
   ·have hro:W.ownsRow W2.heap.size 3 1 (.slice a7 j c7) j ((dW f).map aN):=hN.at 0 rfl (by kernel_rfl)
    have HRO:=hid hro;clear hW hN hK K hro;go_simp;exact⟨Move.ext ((Ext.refl _).alloc _),⟨_,rfl⟩,fun b hb=>by cases hb;exact⟨_,ar.new _ _ _,HRO.out.alloc _⟩⟩
   obtain⟨bz,rfl⟩:=hv;go_simp;refine hK _ _ ?_;clear hK K;refine bG (fun W hW hH=>?_);have hM:=(HC.out W).1 hW;obtain⟨ux,YF,hux⟩:∃ ux,ar W bz #[ux] 39/\W.ownsRow W2.heap.size 3 1 ux j ((dW f).map aN):=hH _ (aW ..) bz rfl;obtain⟨a8,c8,rfl⟩:=ownsRow_form hux;have HBX:=hid YF;have HUX:=hid hux;have YB:=hid (HB.out.below hM.below HB.out.lt);have YO:=hid (aj U2.out hM.below);have Y3:=hid fun i u l hu hl=>aj (U3.out i u l hu hl) hM.below
   have YK:=hid (HK.out.tr (ae.ak hM.below fun x hx=>aA hx.1 HK.out.size));have yX:W2.heap.size<=W.heap.size:=Nat.le_trans HK.out.size hM.size;clear hM hW hH f0 HC HB HK YF hux U2 U3;go_wp2_with (at_builtin;refine Hid.out ?_);refine hid ?_;refine wpList_append_own_at _ rfl (.tmp 58) (.tmp 60) 27 rfl W2.heap.size 39 iL (.slice none 0 0) 1 24 Tryz.underlying27 zX mK mL mM rfl (by decide) _ _ _ rfl YO.out ⟨bz,0,none⟩ 1 1 [.slice a8 j c8] rfl rfl HBX.out.VW (by simp[Value.oneCell']) (by unfold maxLen;omega) (by omega) yX ?_;intro v' w3 hown' hgrow hh hat;have Wt:=hid hown';have HG:=hid hgrow;obtain⟨ua3,uc3,rfl⟩:=ownsRow_form hown';have YG:∀ x,(Value.slice ua5 ml uc5).ownBlock=some x->W2.heap.size<=x:=(fun x e=>(YO.out.lt x e).1);have ZB:=hid (YB.out.grown hgrow (fun e=>by have:=YG _ e.symm;omega));have ZK:=hid (YK.out.tr (ae.bw hgrow fun x hx=>⟨aA hx.1 yX,fun e=>by have:=YG x e.symm;omega⟩));have Yi:W.heap.size<=w3.heap.size:=hgrow.size;have p1:=ZB.out.cell 1;have q1:=ZB.out.frozen 1;clear hown' hgrow hh hat YG;go_wp2;go_roundw;case rel=>
    refine⟨kk+1,_,by omega,by go_num,ZB.out.set 1 _,?_,ZK.out.setCell (p:=⟨bx,1,none⟩) (fun h=>h.2 rfl) _⟩;have hs:br W2.heap.size w3 (.slice ua3 (ml+1) uc3) ((m2.cF.map dW).take kk++ [dW f]):=br.snoc (w:=W) (v:=.slice ua5 ml uc5) (us:=us) (u:=.slice a8 j c8) (by rw[<-za.out];exact U1.out) (by rw[<-za.out];exact YO.out) (fun i u l hu hl=>Y3.out i u l hu hl) (by rw[<-HJ.out];exact HUX.out) HG.out (by rw[<-za.out];exact Wt.out);rw[HT.out];exact hs.keeps ((ae.refl (· ≠bx) _).setCell (p:=⟨bx,1,none⟩) (fun h=>h rfl) _) (fun x h1 _ e=>by omega)
   case measure=>simp[intOf];omega
  ·obtain rfl:kk=n:=by omega
   clear hlt hk;have eG:¬ ((kk:Int)<kk):=by omega
   have fD:(m2.cF.map dW).take kk=m2.cF.map dW:=by rw[show kk=(m2.cF.map dW).length by rw[aQ,HL3.out]];exact List.take_length
   rw[fD]at ho;obtain⟨ua,uc,aco⟩:=ho.form;rw[aQ,HL3.out]at aco;subst aco;have R0:=hid ho;have XA:=hid MK;have CB:=hid hb;have HK:=hid hx;have C2:=hid (E2.out.keeps hx ⟨E2.out.lt,by omega⟩);clear ho hb hx fD MK;obtain⟨p0,p1,p2,p3,p4⟩:=CB.out.five;obtain⟨y0,y1,y2,y3,y4⟩:=C2.out.five;have z0:=C2.out.frozen 0;have z1:=C2.out.frozen 1;have z2:=C2.out.frozen 2;have z3:=C2.out.frozen 3;have z4:=C2.out.frozen 4;go_wp2;refine bu ?_;intro W9 gq;have E9:Hid (ar W9 (w.heap.size+1) #[.slice sa kk sc,.slice ua kk uc,.slice a5 n2 c5,.slice a6 n3 c6,.bool em] 118/\ae (· ≠w.heap.size+1) w5 W9):=by rw[gq];exact hid ⟨C2.out.abD,wy _ _ _ _ _ _ _⟩
   clear gq z0 z1 z2 z3 z4 y0 y1 y2 y3 y4 p0 p1 p2 p3 p4;obtain⟨m0,m1,m2',m3,m4⟩:=E9.out.1.five;have key:∀ {base:Nat} {e:TypeId} {size n:Nat} {u:Value} {xs:List Value},w.heap.size<=base->W2.ownsRow base e size u n xs->118≠e->W9.ownsRow w.heap.size e size u n xs:=fun hb h he=>aF (ai (ai h HK.out fun x hx=>⟨(h.lt x hx).2,cm BD.out h he x hx⟩) E9.out.2 fun x hx=>cm E2.out h he x hx) hb
   refine bodyPost_ret (v:=.tuple #[.agg #[.slice sa kk sc,.slice ua kk uc,.slice a5 n2 c5,.slice a6 n3 c6,.bool em],.int .i64 0]) (by simp[results,Tryz.results59,go_sem,m0,m1,m2',m3,m4]) rfl ⟨_,rfl,⟨_,_,_,_,by rw[HEM.out],?_,?_,?_,?_⟩,XA.out.trans (E9.out.2.mono fun x (hx:x<w.heap.size)=>by show x≠w.heap.size+1;omega:ae (· <w.heap.size) w5 W9).below⟩
   ·show W9.ownsRow _ _ _ _ m2.aL.length _;rw[<-HN.out];exact key (aD _) M4.out (by decide)
   ·exact(R0.out.keeps E9.out.2 fun x h1 _=>by show x≠w.heap.size+1;omega).base (by omega)
   ·show W9.ownsRow _ _ _ _ (dW p2.fst).length ((dW p2.fst).map aN);rw[<-uM.out, <-fK.out];exact key (by omega) M5.out (by decide)
   ·show W9.ownsRow _ _ _ _ (dW p2.cR).length ((dW p2.cR).map aN);rw[<-HN3.out, <-od.out];exact key (by omega) M6.out (by decide)
end
section
open Go Go.RowKit Go.Shelf Go.Maps
attribute [local go_sem] encS
theorem ar.eight {w:World} {b:Nat} {x0 x1 x2 x3 x4 x5 x6 x7:Value} {t:TypeId} (h:ar w b #[x0,x1,x2,x3,x4,x5,x6,x7] t):w.cell? ⟨b,0,none⟩=some x0/\w.cell? ⟨b,1,none⟩=some x1/\w.cell? ⟨b,2,none⟩=some x2/\w.cell? ⟨b,3,none⟩=some x3/\w.cell? ⟨b,4,none⟩=some x4/\w.cell? ⟨b,5,none⟩=some x5/\w.cell? ⟨b,6,none⟩=some x6/\w.cell? ⟨b,7,none⟩=some x7:=
 ⟨h.cell 0,h.cell 1,h.cell 2,h.cell 3,h.cell 4,h.cell 5,h.cell 6,h.cell 7⟩
theorem cX (k:Nat) (s:BS) (mn mx:Int) (a:Value):(Tryz.prog.info? 97).map (·.size)=some (aq k s mn mx a).size:=by show _=some 8;kernel_rfl
theorem kr (k:Nat) (s:BS) (mn mx:Int) (p:Option Addr) (n c:Nat):(aq k s mn mx (.slice p n c)).all (·.oneCell')=true:=by unfold aq;simp[Value.oneCell']
def eM:Array Value:= #[.int .u8 0,.int .u64 0,.int .u64 0,.int .u64 0,.int .u64 0,.int .i64 0,.int .i64 0,.slice none 0 0]
theorem bP (k:Nat) (mn mx:Int) (a:Value):aq k 0 mn mx a= #[.int .u8 k,.int .u64 0,.int .u64 0,.int .u64 0,.int .u64 0,.int .i64 mn,.int .i64 mx,a]:=by unfold aq;simp only[TP];rfl
theorem aJ.one {F:Nat->Prop} {w V:World} {k n c b:Nat} {s:BS} {mn mx:Int} {p:Option Addr} {t:RX} (hF:∀ x,F x->x<w.heap.size) (h:aJ F w (.agg (aq k s mn mx (.slice p n c))) t) (hk:aa w V) (hB:ar V b (aq k s mn mx (.slice p n c)) 97) (hb:w.heap.size<=b) (k':Nat) (s':BS) (mn' mx':Int): aJ (fun x=>x<V.heap.size/\(F x\/w.heap.size<=x)) V (.agg (aq k' s' mn' mx' (.slice (some ⟨b,0,none⟩) 1 1))) (.nd k' s' mn' mx' [t]):=by
 have h2:aJ (fun x=>x<V.heap.size/\(F x\/w.heap.size<=x)) V (.agg (aq k s mn mx (.slice p n c))) t:=(h.keeps (ae.ak hk fun _ h=>h:ae (· <w.heap.size) w V) hF).mono fun x hx=>⟨aA (hF x hx) hk.size,.inl hx⟩
 refine .mk k' s' mn' mx' [t] _ b 0 1 (fun _=>.agg (aq k s mn mx (.slice p n c))) (fun e=>by cases e) (fun _=>⟨rfl,⟨hB.lt,.inr hb⟩,hB.lt,by simp⟩) (fun i x hi=>?_) (fun i x hi=>?_)
 ·have hl:=(List.getElem?_eq_some_iff.1 hi).1
  obtain rfl:i=0:=by simpa using hl
  refine⟨_,rfl,fun j u hj=>?_⟩;simpa using(hB.cell j).trans hj
 ·have hl:=(List.getElem?_eq_some_iff.1 hi).1
  obtain rfl:i=0:=by simpa using hl
  cases hi
  exact h2
theorem Fm (v:Value) (t:RX) (F:Nat->Prop) (w:World) (hF:∀ x,F x->x<w.heap.size) (h:aJ F w v t): ah 107 #[v] w fun e w'=>∃ u,e=.returned u/\aJ (fun x=>x<w'.heap.size/\(F x\/w.heap.size<=x)) w' u (.nd 6 0 0 0 [t])/\aa w w':=by
 obtain⟨p,c,rfl⟩:=h.form;have H:=hid h;obtain⟨k,hk⟩:=ag t.kind;obtain⟨nl,uK⟩:=ag t.subs.length;obtain⟨st,hst⟩:=ag t.set;obtain⟨tn,s7⟩:=ag t.mn;obtain⟨tx,Ky⟩:=ag t.mx;rw[<-hk, <-uK, <-hst, <-s7, <-Ky]at H ⊢;clear h hk uK hst s7 Ky;unfold aq;go_enter Tryz.func107,Tryz.ntmps107;go_wp2;refine bu ?_;intro V hV;have B2:Hid (ar V (w.heap.size+1+1) (aq k st tn tx (.slice p nl c)) 97):=by rw[hV];exact hid ((ar.new _ _ _).at (by simp))
 have R1:Hid (ar V (w.heap.size+1) #[.int .u8 6,.int .u64 0,.int .u64 0,.int .u64 0,.int .u64 0,.int .i64 0,.int .i64 0,.slice (some ⟨w.heap.size+1+1,0,none⟩) 1 1] 97):=by rw[hV];exact hid (((ar.new _ _ _).at (by simp)).alloc _)
 have X1:Hid (aa w V):=by rw[hV];exact hid ((((Ext.refl w).alloc _).alloc _).alloc _).below
 clear hV;obtain⟨m0,m1,m2,m3,m4,m5,m6,m7⟩:=R1.out.eight;refine bodyPost_ret (v:=.agg #[.int .u8 6,.int .u64 0,.int .u64 0,.int .u64 0,.int .u64 0,.int .i64 0,.int .i64 0,.slice (some ⟨w.heap.size+1+1,0,none⟩) 1 1]) (by simp[results,Tryz.results107,go_sem,m0,m1,m2,m3,m4,m5,m6,m7]) rfl ⟨_,rfl,?_,X1.out⟩;have e:=aJ.one hF H.out X1.out B2.out (by omega) 6 0 0 0;rw[bP]at e;exact e
theorem M7 (v:Value) (t:RX) (mn mx:Int) (F:Nat->Prop) (w:World) (hF:∀ x,F x->x<w.heap.size) (h:aJ F w v t): ah 108 #[v,.int .i64 mn,.int .i64 mx] w fun e w'=>∃ u,e=.returned u/\aJ (fun x=>x<w'.heap.size/\(F x\/w.heap.size<=x)) w' u (.nd 5 0 mn mx [t])/\aa w w':=by
 obtain⟨p,c,rfl⟩:=h.form;have H:=hid h;obtain⟨k,hk⟩:=ag t.kind;obtain⟨nl,uK⟩:=ag t.subs.length;obtain⟨st,hst⟩:=ag t.set;obtain⟨tn,s7⟩:=ag t.mn;obtain⟨tx,Ky⟩:=ag t.mx;rw[<-hk, <-uK, <-hst, <-s7, <-Ky]at H ⊢;clear h hk uK hst s7 Ky;unfold aq;go_enter Tryz.func108,Tryz.ntmps108;go_wp2;refine bu ?_;intro V hV;have B2:Hid (ar V (w.heap.size+1+1) (aq k st tn tx (.slice p nl c)) 97):=by rw[hV];exact hid ((ar.new _ _ _).at (by simp))
 have R1:Hid (ar V (w.heap.size+1) #[.int .u8 5,.int .u64 0,.int .u64 0,.int .u64 0,.int .u64 0,.int .i64 mn,.int .i64 mx,.slice (some ⟨w.heap.size+1+1,0,none⟩) 1 1] 97):=by rw[hV];exact hid (((ar.new _ _ _).at (by simp)).alloc _)
 have X1:Hid (aa w V):=by rw[hV];exact hid ((((Ext.refl w).alloc _).alloc _).alloc _).below
 clear hV;obtain⟨m0,m1,m2,m3,m4,m5,m6,m7⟩:=R1.out.eight;refine bodyPost_ret (v:=.agg #[.int .u8 5,.int .u64 0,.int .u64 0,.int .u64 0,.int .u64 0,.int .i64 mn,.int .i64 mx,.slice (some ⟨w.heap.size+1+1,0,none⟩) 1 1]) (by simp[results,Tryz.results108,go_sem,m0,m1,m2,m3,m4,m5,m6,m7]) rfl ⟨_,rfl,?_,X1.out⟩;have e:=aJ.one hF H.out X1.out B2.out (by omega) 5 0 mn mx;rw[bP]at e;exact e
end
section
open Go Go.RowKit Go.Shelf Go.Maps
attribute [local go_sem] encS
theorem nO (s:ByteArray) (l:List Nat) (lQ:s.data.toList.map (·.toNat)=l) (hn:l.length<=1000000) (w:World): ah 104 #[.string s] w fun e w'=>e=.returned (.agg (aq 2 (pM fun c=>l.contains c) 0 0 (.slice none 0 0)))/\aa w w':=by
 obtain⟨u,hu⟩:=ag (pM fun c=>l.contains c);rw[<-hu];have HU:=hid hu;have hsz:s.size=l.length:=by rw[<-lQ];simp
 have HCE:Hid (∀ i x:Nat,l[i]? =some x->∃ h:i<s.size,(s[i]'h).toNat=x):=hid fun i x h=>by
  have hi:i<s.size:=by rw[hsz];exact(List.getElem?_eq_some_iff.1 h).1
  refine⟨hi,?_⟩;have Z9:i<s.data.toList.length:=by simpa using hi
  rw[<-lQ,aO,az Z9]at h;have:=Option.some.inj h;rw[<-this,Array.getElem_toList];rfl
 have HL:Hid (∀ c∈l,c<256):=hid fun c hc=>by
  rw[<-lQ]at hc;obtain⟨b,_,rfl⟩:=List.mem_map.1 hc;exact b.toNat_lt
 have lI:=hid hsz;have anb:((s.size:Nat):Int)=l.length:=by omega
 clear hu lQ hsz;go_enter Tryz.func104,Tryz.ntmps104;go_wp2;refine ax ?_;intro V hV;have R0:Hid (ar V w.heap.size eM 97):=by rw[hV];exact hid ((ar.new _ _ _).alloc _)
 have B0:Hid (ar V (w.heap.size+1) (encS 0) 56):=by rw[hV,gi];exact hid ((ar.new _ _ _).at (by simp))
 have X0:Hid (aa w V):=by rw[hV];exact hid (((Ext.refl w).alloc _).alloc _).below
 clear hV;go_loopw [7] (fun i wr=>∃ (k:Nat) (s':BS),k<=l.length/\i=.int .i64 k/\(∀ c,c<256->s'.getLsbD c=(l.take k).contains c)/\ar wr (w.heap.size+1) (encS s') 56/\ar wr w.heap.size eM 97/\aa w wr) (fun i _=>l.length-(intOf i).toNat);case atStart=>exact⟨0,0,by omega,rfl,fun c hc=>by simp,B0.out,R0.out,X0.out⟩
 case round=>
  obtain⟨k,s',hk,rfl,hs,hB,hR,hx⟩:=hrel;obtain⟨wo,rfl⟩:=ag (wr:World);have HS:=hid hs;clear hs;by_cases hlt:k<l.length
  ·obtain⟨c,mA⟩:∃ c,l[k]? =some c:=⟨l[k],az hlt⟩
   have kT:c<256:=HL.out c (aw mA);obtain⟨Tf,hsc⟩:=HCE.out k c mA;have hw:(encS s')[c/64]? =some (.int .u64 (wd s' (c/64)).toNat):=gM s' (by omega);have hc1:wo.cell? ⟨w.heap.size+1,c/64,none⟩=some (.int .u64 (wd s' (c/64)).toNat):=(hB.cell _).trans hw;have hf:=hB.frozen (c/64);have fD:l.take (k+1)=l.take k++ [c]:=by rw[List.take_add_one,mA];rfl
   have HT:=hid fD;have HB:=hid hB;have HR:=hid hR;have HX:=hid hx;have eG:(k:Int)<l.length:=by omega
   have hkz:(k:Int)<s.size:=by omega
   clear hB hR hx hw fD mA;obtain⟨z,hz⟩:=ag (c/64:Nat);obtain⟨y,hy⟩:=ag (c%64:Nat);have hz4:z<4:=by omega
   have hy4:y<64:=by omega
   have hzi:IntKind.u8.wrap ((c:Int)/64)=(z:Int):=by rw[IntWalk.u8_in _ (by omega)];omega
   have hyi:Int.tmod (c:Int) 64=(y:Int):=by rw[Int.tmod_eq_emod_of_nonneg (by omega)];omega
   have hzI:(z:Int)<4:=by omega
   have hyI:(y:Int)<64:=by omega
   rw[<-hz]at hc1 hf;have HZ:=hid hz;have HY:=hid hy;clear hz hy;go_upto_region 5 with fail
   refine aK false (fun _=>False) (by kernel_rfl) 11 [0,0,3,7,15,31,0,0,192,448,960,2047,4095,8191] (fun i=>i==13) (by kernel_rfl) (fun _=>aZ.any _) ?_;intro C hC hne;have HC:=hid hC;have hb9:=HB.out.lt;have f1:=aC hC (p:=⟨w.heap.size+1,z,none⟩) hb9 (fun h=>h) hc1;clear hC
   repeat (refine au (fun K hK=>?_);first | (refine bX rfl ?_;try go_simp;refine hK _ _ ?_;clear hK K) | (refine bR rfl rfl ?_;unfold aB;go_simp;refine hK _ _ ?_;clear hK K))
   refine bG (fun W hW hH=>?_);have j5:=(HC.out W).1 hW;have BW:=hid (HB.out.below j5.below HB.out.lt);have RW:=hid (HR.out.below j5.below HR.out.lt);have XW:Hid (aa w W):=hid (HX.out.trans (j5.below.mono HX.out.size));have hw:(encS s')[z]? =some (.int .u64 (wd s' z).toNat):=gM s' hz4;have g1:W.cell? ⟨w.heap.size+1,z,none⟩=some (.int .u64 (wd s' z).toNat):=(BW.out.cell _).trans hw;have gf:=BW.out.frozen z;clear j5 hW hH HC hne f1 hc1 hf HB HR HX hw;go_wp2;go_roundw;case rel=>
    refine⟨k+1,mX s' c,by omega,by go_num,fun d hd=>?_,?_,?_,?_⟩
    ·rw[kS s' kT,HS.out d hd,HT.out,List.contains_eq_any_beq,List.contains_eq_any_beq,List.any_append]
     simp
    ·rw[<-vG s' kT, <-HZ.out, <-HY.out];exact BW.out.set _ _
    ·exact RW.out.other (by simp) _
    ·exact XW.out.trans (((ae.refl (· <w.heap.size) _).setCell (p:=⟨w.heap.size+1,z,none⟩) (fun h=>by have h':w.heap.size+1<w.heap.size:=h;omega) _).below)
   case measure=>simp[intOf];omega
  ·have Rf:s'=u:=by rw[HU.out];exact BS.JZ fun c hc=>by rw[HS.out c hc,List.take_of_length_le (by omega)]
   subst Rf;obtain rfl:k=l.length:=by omega
   obtain⟨c0,c1,c2,c3⟩:=hB.LH;have HR:=hid hR;have HX:=hid hx;have eG:¬ ((l.length:Int)<l.length):=by omega
   have HB:=hid hB;clear hB hR hx;go_wp2_with (refine wpList_store_row rfl 97 (.tmp 2) (.tmp 25) rfl w.heap.size (aq 2 s' 0 0 (.slice none 0 0)) rfl rfl 97 eM HR.out (cX _ _ _ _ _) rfl (kr _ _ _ _ _ _ _) ?_;refine Hid.out ?_);refine hid ?_;obtain⟨V3,cT⟩:=ag (wo.setRow w.heap.size (aq 2 s' 0 0 (.slice none 0 0)));rw[<-cT];have R9:Hid (ar V3 w.heap.size (aq 2 s' 0 0 (.slice none 0 0)) 97):=by rw[cT];exact hid HR.out.setRow
   have X9:aa w V3:=by rw[cT];exact HX.out.trans ((bI wo w.heap.size _).mono fun x (hx:x<w.heap.size)=>by show x≠_;omega:ae (· <w.heap.size) wo _).below
   clear cT;go_wp2;obtain⟨m0,m1,m2,m3,m4,m5,m6,m7⟩:=R9.out.eight;exact bodyPost_ret (v:=.agg (aq 2 s' 0 0 (.slice none 0 0))) (by simp[results,Tryz.results104,aq,go_sem,m0,m1,m2,m3,m4,m5,m6,m7]) rfl ⟨rfl,X9⟩
end
section
open Go Go.RowKit Go.Shelf Go.Maps
attribute [local go_sem] encS
theorem zb (n:Nat) (hn:n<256) (w:World): ah 105 #[.int .u8 n] w fun e w'=>∃ s:ByteArray,e=.returned (.string s)/\s.data.toList.map (·.toNat)=dX n/\aa w w':=by
 obtain⟨r,hr⟩:=ag (n%12);have h12:r<12:=by omega
 have hrn:((n:Int)%12)=r:=by omega
 have hq:dX n=[[97],[98],[97,98],[97],[98],[99],[97,98,99],[98,99],[10],[0,255],[97],[98]].getD r []:=by unfold dX;rw[<-hr]
 rw[hq];clear hr hq;have hc:r=0\/r=1\/r=2\/r=3\/r=4\/r=5\/r=6\/r=7\/r=8\/r=9\/r=10\/r=11:=by omega
 rcases hc with rfl | rfl | rfl | rfl | rfl | rfl | rfl | rfl | rfl | rfl | rfl | rfl
 all_goals
  go_enter Tryz.func105,Tryz.ntmps105
  go_wp2;go_ret;exact⟨_,rfl,rfl,((Ext.refl w).alloc _).below⟩
end
end Go.Proofs.YtjgccapbphadjaaGreatDoor
