/- The law's Made of small steps. Printed by wip/gen/made08.py. -/
import Derived.Test.YtjgccapbphadjaaGreatDoorOB07
import Derived.Deep.CutRange
set_option maxRecDepth 100000
set_option maxHeartbeats 16000000
open Go.Lib (hid)
namespace Go.Proofs.YtjgccapbphadjaaGreatDoor
section
open Go Go.RowKit Go.Shelf Go.Maps
attribute [local go_sem] Oper.semAt_some gK dI
theorem KP (t:RX):t.pre.length=t.size:=by
 induction t using RX.ind with
 | h k s a b l ih=>
  rw[RX.pre,RX.size,List.length_cons];have:∀ l':List RX,(∀ t∈l',t∈l)->(RX.lC l').length=RX.sizes l':=by
   intro l';induction l' with
   | nil=>intro _;rfl
   | cons x l' YP=>
    intro hs;rw[RX.lC,RX.sizes,aJ,ih x (hs x (aY ..)),YP fun t ht=>hs t (bC _ ht)]
  rw[this l fun _ h=>h];omega
theorem tj (v:Value) (t:RX) (hs:t.size<=10000) (w:World) (h:aK (· <w.heap.size) w v t): ah 158 #[v] w fun e w'=>e=.returned (.bool true)/\aa w w':=by
 obtain⟨xs,hmap,qd,hseq⟩:=th w.heap.size t (by omega) v w h (aG _);obtain⟨p,c,rfl⟩:=h.form;have hlen:xs.length<=10000:=by
  have e:xs.length=t.pre.length:=by rw[<-hmap,aQ]
  rw[e,KP];exact hs
 have Rx:=hid fun W B=>hseq W B _ rfl
 have Zh:=hid qd;clear hseq qd hmap h hs;refine cC Tryz.func158 rfl ?_;simp only[Tryz.ntmps158,List.size_toArray,List.length_cons,List.length_nil,Nat.reduceAdd,Nat.reduceSub,Array.replicate_succ,Array.replicate_zero,List.push_toArray,List.append_toArray,List.nil_append,List.cons_append,aq];go_wp2;refine wp_scope_straight ?_;go_wp2;go_step3;go_wp2_with (go_at_call 160;refine(l6 _ _).mono ?_;rintro e w1 ⟨rfl,rfl⟩);refine aA ?_;intro W0 hW0;have h1:ar W0 (w.heap.size+1) #[.int .i64 0] 3:=by rw[hW0];exact((ar.new _ _ _).at (by simp)).alloc _
 have h3:ar W0 (w.heap.size+1+1) (aq t.kind t.set t.mn t.mx (.slice p t.subs.length c)) 97:=by rw[hW0];exact(ar.new _ _ _).at (by simp)
 have hx:Ext w W0:=by rw[hW0];exact(((Ext.refl w).alloc _).alloc _).alloc _
 have hsz:W0.heap.size=w.heap.size+1+1+1:=by rw[hW0];simp
 clear hW0;refine ir (w:=W0) (d:=true) (Rx W0 _ (hx.mono fun _ h=>h) h3) (by rfl) oO (by intro _;rfl) (by intro k hk;rcases hk with hk | hk<;>omega)
  (fun ys _ W=>ar W (w.heap.size+1) #[.int .i64 ys.length] 3/\aa w W)
  (fun _ _ _ _=>False)
  (fun ys T T' W W' ⟨h1,h3⟩ hT PN hs hn hk=>⟨h1.mY hT hk (by omega),iq h3 hT hk (aG _) (by omega)⟩)
  (fun c ys T T' W W' h=>h.elim)
  ⟨h1,hx.below⟩
  (fun x=>⟨#[.agg (aq t.kind t.set t.mn t.mx (.slice p t.subs.length c)),.pointer (some ⟨w.heap.size,0,none⟩),.bool false,.pointer (some ⟨w.heap.size+1,0,none⟩),.agg (aq t.kind t.set t.mn t.mx (.slice p t.subs.length c)),.func (.func 195) #[] #[.pointer (some ⟨w.heap.size+1+1,0,none⟩)],x.1,undef,undef,undef,undef,undef,undef],[]⟩) ?assign ?body ?done ?stop
 case assign=>
  intro l x W K hK
  gi_wp2
  simpa[Ff,aq]using hK
 case body=>
  rintro l pre x T W bS hT hR yG hl ⟨h1,hx⟩;have hle:pre.length+1<=10000:=by
   have hle:=bS.length_le;rw[aJ]at hle;simp only[List.length_cons,List.length_nil]at hle;omega
  have c1:W.cell? ⟨w.heap.size+1,0,none⟩=some (.int .i64 pre.length):=h1.cell 0;have f1:=h1.frozen 0;have e1:IntKind.i64.wrap ((pre.length:Int)+1)=(pre.length:Int)+1:=IntWalk.i64_in _ (by omega);have e2:¬ ((10000:Int)<(pre.length:Int)+1):=by omega
  have e3:decide ((10000:Int)<(pre.length:Int)+1)=false:=decide_eq_false e2;have e4:((pre++ [x]).length:Int)=(pre.length:Int)+1:=by rw[aJ];rfl
  have H1:=hid h1;have HX:=hid hx;have HS:=hid hsz;have HT:=hid hT;have HE4:=hid e4;clear h1 hx hR hl yG hsz hT h3 bS e4;obtain⟨m,hm⟩:=ag pre.length;rw[<-hm]at c1 e1 e2 e3 H1 HE4 hle;clear hm
  gi_wp2
  refine⟨((ae.refl _ _).setCell (fun h=>?_) _),(by rw[HE4.out];exact H1.set 0 _),HX.setCell (by simp) _⟩;have h2:=HS.out;rcases h with(h | h) | h
  ·dsimp only at h;omega
  ·dsimp only at h;omega
  ·have h1:=(HT.out _ h).1;dsimp only at h1;omega
 case done=>
  rintro D T W hD yJ hT ⟨h1,hx⟩ mO;have c1:W.cell? ⟨w.heap.size+1,0,none⟩=some (.int .i64 xs.length):=h1.cell 0;have e2:((xs.length:Int)<=10000):=by omega
  have e3:decide ((xs.length:Int)<=10000)=true:=decide_eq_true e2;have HX:=hid hx;have HS:=hid hsz;have HD:=hid hD;have yx:=hid mO;clear h1 hx yJ hsz hT mO hD;obtain⟨m,hm⟩:=ag xs.length;rw[<-hm]at c1 e2 e3;clear hm;dsimp only;go_wp2;rw[Exit.noGoto_ret];refine dz rfl yx (results_tmp rfl _ _ _) ⟨rfl,((ae.ai HX fun _ h=>h).putObj (by have h1:=HD.out;have h2:=HS.out;omega) _).below⟩
 case stop=>rintro D c pre T W _ _ _ _ h _;exact h.elim
end
section
open Go Go.RowKit Go.Shelf Go.Maps
theorem gq (t:RX) (h:t.dt=true):(t.kind≠2->t.set=0)/\(t.kind≠5->t.mn=0/\t.mx=0)/\(t.kind=3->t.has 1=false/\t.has 3=false)/\(t.kind=4->t.has 4=false)/\(t.kind=5->t.has 1=false):=by
 unfold RX.dt at h;generalize t.kind=k at*;generalize t.set=s at*;generalize t.mn=a at*;generalize t.mx=b at*;generalize t.has 1=i1 at*;generalize t.has 3=i3 at*;generalize t.has 4=i4 at*;generalize t.subs=l at*;split at h
 ·cases h
 rename_i h0;refine⟨fun hk=>Classical.byContradiction fun hs=>h0 (.inl ⟨hk,hs⟩),fun hk=>?_,fun hk=>?_,fun hk=>?_,fun hk=>?_⟩
 ·have h1:¬ (a≠0\/b≠0):=fun e=>h0 (.inr (.inl ⟨hk,e⟩))
  omega
 ·subst hk;simp at h;exact⟨h.1.2,h.2⟩
 ·subst hk;simp at h;exact h.2
 ·subst hk;simp at h;exact h.2
theorem I5 (a b:Int) (h:iK a b=true) (w:World): ah 197 #[.int .i64 a,.int .i64 b] w fun e w'=>e=.returned (.bool true)/\w'=w:=by
 unfold iK at h;split at h
 ·cases h
 rename_i h0;simp only[Bool.or_eq_true,Bool.and_eq_true,decide_eq_true_eq]at h;have e1:decide (a<0)=false:=decide_eq_false (by omega);have e2:decide (16<a)=false:=decide_eq_false (by omega);by_cases ha:a=1
 ·subst ha
  have hb1:b≠1:=fun e=>h0 (.inr (.inr ⟨rfl,e⟩))
  have e4:(b==1)=false:=beq_false_of_ne hb1;by_cases hb:b= -1
  ·subst hb
   clear h h0;go_enter Tryz.func197,Tryz.ntmps197;go_wp2;go_ret;exact⟨rfl,rfl⟩
  ·have e5:(b== -1)=false:=beq_false_of_ne hb
   have e6:decide (1<=b)=true:=decide_eq_true (by omega);have e7:decide (b<=16)=true:=decide_eq_true (by omega);have e8:(1:Int)<=b:=by omega
   have e9:b<=16:=by omega
   clear h h0;go_enter Tryz.func197,Tryz.ntmps197;go_wp2;go_ret;exact⟨rfl,rfl⟩
 ·have e3:(a==1)=false:=beq_false_of_ne ha
  by_cases hb:b= -1
  ·subst hb
   clear h h0;go_enter Tryz.func197,Tryz.ntmps197;go_wp2;go_ret;exact⟨rfl,rfl⟩
  ·have e5:(b== -1)=false:=beq_false_of_ne hb
   have e6:decide (1<=b)=true:=decide_eq_true (by omega);have e7:decide (b<=16)=true:=decide_eq_true (by omega);have e8:(1:Int)<=b:=by omega
   have e9:b<=16:=by omega
   have ea:decide (a<=b)=true:=decide_eq_true (by omega);have eb:a<=b:=by omega
   clear h h0;go_enter Tryz.func197,Tryz.ntmps197;go_wp2;go_ret;exact⟨rfl,rfl⟩
theorem Ry (x:RX) (a:Value) (k:Nat) (B:Nat) (W:World) (hB:ar W B #[.int .u8 k] 5): ah 233 #[.agg (aq x.kind x.set x.mn x.mx a),.pointer (some ⟨B,0,none⟩)] W fun e w'=>e=.returned (.bool (x.kind==k))/\aa W w':=by
 have hB':∀ o,(W.alloc o).cell? ⟨B,0,none⟩=some (.int .u8 k):=fun o=>(hB.alloc o).cell 0
 unfold aq;obtain⟨r,hr⟩:=ag ((x.kind==k));have e1:((x.kind:Int)==(k:Int))=r:=by
  rw[hr,Bool.eq_iff_iff,beq_iff_eq,beq_iff_eq];omega
 rw[<-hr];clear hr hB;generalize (x.kind:Int)=xk at*;generalize (k:Int)=kk at*;go_enter Tryz.func233,Tryz.ntmps233;go_wp2;go_ret;exact⟨rfl,((Ext.refl _).alloc _).below⟩
theorem Vj:∀ args w,(callFunc 233 args).run Tryz.prog w=.ok (.enter 233 args) w:=enters_of Tryz.func233 (by kernel_rfl) rfl
theorem Cp (n0:Nat) (k':Nat) (s:BS) (mn mx:Int) (p:Option Addr) (n c:Nat) (l:List RX) (hn:n=l.length) (hn7:n<=10000000) (k B:Nat) (w:World) (h:aK (· <n0) w (.agg (aq k' s mn mx (.slice p n c))) (.nd k' s mn mx l)) (dw:n0<=w.heap.size) (hB:ar w B #[.int .u8 k] 5): ah 246 #[.slice p n c,.func (.func 233) #[] #[.pointer (some ⟨B,0,none⟩)]] w fun e w'=>e=.returned (.int .i64 (fU (fun x:RX=>x.kind==k) l))/\aa w w':=by
 have H:=hid h;have HN:=hid hn;have HB:=hid hB;have eg:=Vj;obtain⟨r,hr⟩:=ag (fU (fun x:RX=>x.kind==k) l);rw[<-hr];have HR:=hid hr;clear h hn hB hr;go_enter Tryz.func246,Tryz.ntmps246;go_wp2;go_loopw [8] (fun iv wr=>∃ i:Nat,i<=n/\iv=.int .i64 i/\(∀ x∈l.take i,(x.kind==k)=false)/\aa w wr) (fun iv _=>n-(intOf iv).toNat);case atStart=>exact⟨0,by omega,rfl,fun x hx=>by simp at hx,Below.refl _ _⟩
 case round=>
  obtain⟨i,hi,rfl,ha,hx⟩:=hrel;obtain⟨wo,rfl⟩:=ag (wr:World);have HX:=hid hx;have HA:=hid ha;clear hx ha;by_cases hlt:i<n
  ·have eE:(i:Int)<n:=by omega
   obtain⟨t,ht⟩:∃ t,l[i]? =some t:=⟨_,az (by have:=HN.out;omega)⟩;obtain⟨b,off,p',c',ep,hbF,hb,_,⟨q0,q1,q2,q3,q4,q5,q6,q7⟩,_⟩:=(H.mV (HX.mono dw)).elem ht;subst ep;have C1:=hid (Ry t (.slice p' t.subs.length c') k B wo (HB.below HX HB.lt));have HT:=hid ht;unfold aq at C1;obtain⟨g,hg⟩:=ag ((t.kind==k));rw[<-hg]at C1;have HG:=hid hg;clear ht hg;cases g with
   | true=>
    have iH:=hid (HR.trans (nH HT HG.symm HA));go_wp2_with fail
    refine C1.mono ?_;rintro e w2 ⟨rfl,hx⟩;have X2:=hid (HX.trans (hx.mono HX.size));clear hx;go_wp2;go_ret;exact⟨by rw[iH.out];rfl,X2⟩
   | false=>
    go_wp2_with fail
    refine C1.mono ?_;rintro e w2 ⟨rfl,hx⟩;have X2:=hid (HX.trans (hx.mono HX.size));clear hx;go_wp2;go_roundw;case rel=>exact⟨i+1,by omega,by go_num,sR HT HG.symm HA,X2⟩
    case measure=>simp[intOf];omega
  ·obtain rfl:i=n:=by omega
   have eE:¬ ((i:Int)<i):=by omega
   have iH:=hid (HR.trans (nI fun y hy=>HA y (by rw[HN.out,List.take_length];exact hy)));go_wp2;go_ret;exact⟨by rw[iH.out];rfl,HX⟩
theorem rX (n0:Nat) (v:Value) (t:RX) (k:Nat) (w:World) (h:aK (· <n0) w v t) (dw:n0<=w.heap.size) (hs:t.size<=10000000): ah 196 #[v,.int .u8 k] w fun e w'=>e=.returned (.bool (t.has k))/\aa w w':=by
 cases t with
 | nd k' s mn mx l=>
  obtain⟨p,c,rfl⟩:=h.form;obtain⟨n,hn⟩:=ag l.length;have hn7:n<=10000000:=by rw[hn];exact Nat.le_trans (oP l) (by rw[RX.size]at hs;omega)
  simp only[RX.kind,RX.set,RX.mn,RX.mx,RX.subs]at h ⊢;rw[<-hn]at h ⊢;have CF:Hid (∀ W B,aa w W->ar W B #[.int .u8 k] 5->ah 232 #[.slice p n c,.func (.func 233) #[] #[.pointer (some ⟨B,0,none⟩)]] W fun e w'=>e=.returned (.bool (l.any fun x=>x.kind==k))/\aa W w'):=hid fun W B hW hB=>by
   have CI:=hid (Cp n0 k' s mn mx p n c l hn hn7 k B W (h.mV (hW.mono dw)) (Nat.le_trans dw hW.size) hB);rw[<-qh];clear h hn hB;generalize fU (fun x:RX=>x.kind==k) l=z at CI ⊢;go_enter Tryz.func232,Tryz.ntmps232;go_wp2_with fail
   refine CI.mono ?_;rintro e w2 ⟨rfl,hx⟩;have X2:=hid hx;clear hx;go_wp2;go_ret;exact⟨rfl,X2⟩
  have hr:(RX.nd k' s mn mx l).has k=l.any fun x=>x.kind==k:=rfl
  rw[hr];generalize (l.any fun x=>x.kind==k)=r at CF ⊢;clear h hn hr hs;unfold aq;go_enter Tryz.func196,Tryz.ntmps196;go_wp2_with fail
  refine aI ?_;intro V hV;have B1:ar V (w.heap.size+1) #[.int .u8 k] 5:=by rw[hV];exact(ar.new _ _ _).at (by simp)
  have X1:aa w V:=by rw[hV];exact(((Ext.refl w).alloc _).alloc _).below
  clear hV;refine(CF V _ X1 B1).mono ?_;rintro e w2 ⟨rfl,hx⟩;have X2:=hid (X1.trans (hx.mono X1.size));clear hx X1 B1 CF;go_wp2;go_ret;exact⟨rfl,X2⟩
theorem oQ (s:BS) (W:World):(Op.equalIn 10000 56 (.agg #[.int .u64 (wd s 0).toNat,.int .u64 (wd s 1).toNat,.int .u64 (wd s 2).toNat,.int .u64 (wd s 3).toNat]) (.agg #[.int .u64 0,.int .u64 0,.int .u64 0,.int .u64 0])).run Tryz.prog W=.ok (s==0) W:=by have h:=iu s 0 W;rw[gh]at h;exact h
theorem Cq (n0:Nat) (v:Value) (t:RX) (hk:t.kind=1) (hr:t.dt=true) (w:World) (h:aK (· <n0) w v t) (dw:n0<=w.heap.size) (hs:t.size<=10000000): ah 161 #[v] w fun e w'=>e=.returned (.bool true)/\aa w w':=by
 have nU:n0<=w.heap.size/\t.size<=10000000:=⟨dw,hs⟩;clear nU;obtain⟨r2,rl,r0,r6,Ni,r5,Nj⟩:=cS t hr;obtain⟨m2,m5,m3,m4,OO⟩:=gq t hr;obtain⟨p,c,rfl⟩:=h.form;have heq:=oQ t.set;rw[show(t.set==0)=true from by rw[m2 (by omega)];rfl]at heq;obtain⟨e1,e2⟩:=m5 (by omega);obtain⟨n,hn⟩:=ag t.subs.length;have fH:n=0:=by rw[hn,rl (by omega)];rfl
 rw[<-hn]at*;rw[hk]at*;rw[e1,e2]at*;subst fH;generalize t.set=s at*;generalize t.mn=mn at*;generalize t.mx=mx at*;generalize t.subs=l at*;clear hk hr h hs r2 rl r0 r6 Ni r5 Nj m2 m5 m3 m4 OO hn e1 e2;unfold aq at*;go_enter Tryz.func161,Tryz.ntmps161;go_wp2;go_ret;exact⟨rfl,((Ext.refl _).alloc _).below⟩
theorem Cr (n0:Nat) (v:Value) (t:RX) (hk:t.kind=2) (hr:t.dt=true) (w:World) (h:aK (· <n0) w v t) (dw:n0<=w.heap.size) (hs:t.size<=10000000): ah 161 #[v] w fun e w'=>e=.returned (.bool true)/\aa w w':=by
 have nU:n0<=w.heap.size/\t.size<=10000000:=⟨dw,hs⟩;clear nU;obtain⟨r2,rl,r0,r6,Ni,r5,Nj⟩:=cS t hr;obtain⟨m2,m5,m3,m4,OO⟩:=gq t hr;obtain⟨p,c,rfl⟩:=h.form;have heq:=oQ t.set;rw[show(t.set==0)=false from beq_false_of_ne (r2 hk)]at heq;obtain⟨e1,e2⟩:=m5 (by omega);obtain⟨n,hn⟩:=ag t.subs.length;have fH:n=0:=by rw[hn,rl (by omega)];rfl
 rw[<-hn]at*;rw[hk]at*;rw[e1,e2]at*;subst fH;generalize t.set=s at*;generalize t.mn=mn at*;generalize t.mx=mx at*;generalize t.subs=l at*;clear hk hr h hs r2 rl r0 r6 Ni r5 Nj m2 m5 m3 m4 OO hn e1 e2;unfold aq at*;go_enter Tryz.func161,Tryz.ntmps161;go_wp2;go_ret;exact⟨rfl,((Ext.refl _).alloc _).below⟩
theorem Cs (n0:Nat) (v:Value) (t:RX) (hk:t.kind=3) (hr:t.dt=true) (w:World) (h:aK (· <n0) w v t) (dw:n0<=w.heap.size) (hs:t.size<=10000000): ah 161 #[v] w fun e w'=>e=.returned (.bool true)/\aa w w':=by
 have nU:n0<=w.heap.size/\t.size<=10000000:=⟨dw,hs⟩;clear nU;obtain⟨r2,rl,r0,r6,Ni,r5,Nj⟩:=cS t hr;obtain⟨m2,m5,m3,m4,OO⟩:=gq t hr;have Vk:Hid (∀ W,aa w W->ah 196 #[v,.int .u8 1] W fun e w'=>e=.returned (.bool false)/\aa W w'):=hid fun W hW=>by
  have:=rX n0 v t 1 W (h.mV (hW.mono dw)) (Nat.le_trans dw hW.size) hs;rwa[show t.has 1=false from(m3 hk).1]at this
 have CH3:Hid (∀ W,aa w W->ah 196 #[v,.int .u8 3] W fun e w'=>e=.returned (.bool false)/\aa W w'):=hid fun W hW=>by
  have:=rX n0 v t 3 W (h.mV (hW.mono dw)) (Nat.le_trans dw hW.size) hs;rwa[show t.has 3=false from(m3 hk).2]at this
 obtain⟨p,c,rfl⟩:=h.form;have heq:=oQ t.set;rw[show(t.set==0)=true from by rw[m2 (by omega)];rfl]at heq;obtain⟨e1,e2⟩:=m5 (by omega);obtain⟨n,hn⟩:=ag t.subs.length;have fH:(1:Int)<n:=by have:=Nj (by omega);omega
 have jg:decide ((1:Int)<n)=true:=decide_eq_true fH;have Vl:=Vk.out;clear Vk;rw[<-hn,hk]at Vl;rw[e1,e2]at Vl;have ch3:=CH3.out;clear CH3;rw[<-hn,hk]at ch3;rw[e1,e2]at ch3;rw[<-hn]at*;rw[hk]at*;rw[e1,e2]at*;generalize t.set=s at*;generalize t.mn=mn at*;generalize t.mx=mx at*;generalize t.subs=l at*;clear hk hr h hs r2 rl r0 r6 Ni r5 Nj m2 m5 m3 m4 OO hn e1 e2;have Vk:=hid Vl;clear Vl;have CH3:=hid ch3;clear ch3;unfold aq at*;go_enter Tryz.func161,Tryz.ntmps161;go_wp2_with fail
 refine aI ?_;intro V hV;have B1:Hid (ar V w.heap.size #[.int .u8 3,.int .u64 (wd s 0).toNat,.int .u64 (wd s 1).toNat,.int .u64 (wd s 2).toNat,.int .u64 (wd s 3).toNat,.int .i64 0,.int .i64 0,.slice p n c] 97):=by rw[hV];exact hid (ar.new _ _ _)
 have X1:Hid (aa w V):=by rw[hV];exact hid ((Ext.refl _).alloc _).below
 clear hV;refine(Vk V X1).mono ?_;rintro e w2 ⟨rfl,hx⟩;have X2:=hid (X1.trans (hx.mono X1.size));have B2:=hid (B1.below hx B1.lt);clear hx B1 X1;obtain⟨b0,b1,b2,b3,b4,b5,b6,b7⟩:=(show _/\_/\_/\_/\_/\_/\_/\_ from⟨B2.cell 0,B2.cell 1,B2.cell 2,B2.cell 3,B2.cell 4,B2.cell 5,B2.cell 6,B2.cell 7⟩);simp only[List.getElem?_toArray,List.getElem?_cons_zero,List.getElem?_cons_succ]at b0 b1 b2 b3 b4 b5 b6 b7;go_wp2_with fail
 refine(CH3 _ X2).mono ?_;rintro e w3 ⟨rfl,hx⟩;have X3:=hid (X2.trans (hx.mono X2.size));clear hx b0 b1 b2 b3 b4 b5 b6 b7;go_wp2;go_ret;exact⟨rfl,X3⟩
theorem Ct (n0:Nat) (v:Value) (t:RX) (hk:t.kind=4) (hr:t.dt=true) (w:World) (h:aK (· <n0) w v t) (dw:n0<=w.heap.size) (hs:t.size<=10000000): ah 161 #[v] w fun e w'=>e=.returned (.bool true)/\aa w w':=by
 have nU:n0<=w.heap.size/\t.size<=10000000:=⟨dw,hs⟩;clear nU;obtain⟨r2,rl,r0,r6,Ni,r5,Nj⟩:=cS t hr;obtain⟨m2,m5,m3,m4,OO⟩:=gq t hr;have CH4:Hid (∀ W,aa w W->ah 196 #[v,.int .u8 4] W fun e w'=>e=.returned (.bool false)/\aa W w'):=hid fun W hW=>by
  have:=rX n0 v t 4 W (h.mV (hW.mono dw)) (Nat.le_trans dw hW.size) hs;rwa[show t.has 4=false from m4 hk]at this
 obtain⟨p,c,rfl⟩:=h.form;have heq:=oQ t.set;rw[show(t.set==0)=true from by rw[m2 (by omega)];rfl]at heq;obtain⟨e1,e2⟩:=m5 (by omega);obtain⟨n,hn⟩:=ag t.subs.length;have fH:(1:Int)<n:=by have:=Nj (by omega);omega
 have jg:decide ((1:Int)<n)=true:=decide_eq_true fH;have ch4:=CH4.out;clear CH4;rw[<-hn,hk]at ch4;rw[e1,e2]at ch4;rw[<-hn]at*;rw[hk]at*;rw[e1,e2]at*;generalize t.set=s at*;generalize t.mn=mn at*;generalize t.mx=mx at*;generalize t.subs=l at*;clear hk hr h hs r2 rl r0 r6 Ni r5 Nj m2 m5 m3 m4 OO hn e1 e2;have CH4:=hid ch4;clear ch4;unfold aq at*;go_enter Tryz.func161,Tryz.ntmps161;go_wp2_with fail
 refine aI ?_;intro V hV;have B1:Hid (ar V w.heap.size #[.int .u8 4,.int .u64 (wd s 0).toNat,.int .u64 (wd s 1).toNat,.int .u64 (wd s 2).toNat,.int .u64 (wd s 3).toNat,.int .i64 0,.int .i64 0,.slice p n c] 97):=by rw[hV];exact hid (ar.new _ _ _)
 have X1:Hid (aa w V):=by rw[hV];exact hid ((Ext.refl _).alloc _).below
 clear hV;refine(CH4 V X1).mono ?_;rintro e w2 ⟨rfl,hx⟩;have X2:=hid (X1.trans (hx.mono X1.size));clear hx B1 X1;go_wp2;go_ret;exact⟨rfl,X2⟩
theorem Cu (n0:Nat) (v:Value) (t:RX) (hk:t.kind=5) (hr:t.dt=true) (w:World) (h:aK (· <n0) w v t) (dw:n0<=w.heap.size) (hs:t.size<=10000000): ah 161 #[v] w fun e w'=>e=.returned (.bool true)/\aa w w':=by
 have nU:n0<=w.heap.size/\t.size<=10000000:=⟨dw,hs⟩;clear nU;obtain⟨r2,rl,r0,r6,Ni,r5,Nj⟩:=cS t hr;obtain⟨m2,m5,m3,m4,OO⟩:=gq t hr;have Vk:Hid (∀ W,aa w W->ah 196 #[v,.int .u8 1] W fun e w'=>e=.returned (.bool false)/\aa W w'):=hid fun W hW=>by
  have:=rX n0 v t 1 W (h.mV (hW.mono dw)) (Nat.le_trans dw hW.size) hs;rwa[show t.has 1=false from OO hk]at this
 obtain⟨p,c,rfl⟩:=h.form;have heq:=oQ t.set;rw[show(t.set==0)=true from by rw[m2 (by omega)];rfl]at heq;obtain⟨n,hn⟩:=ag t.subs.length;have fH:n=1:=by rw[hn];exact Ni (by omega)
 have Vl:=Vk.out;clear Vk;rw[<-hn,hk]at Vl;rw[fH]at Vl;rw[<-hn]at*;have CB:=hid fun W=>I5 t.mn t.mx (r5 hk) W
 rw[hk]at*;subst fH;have d1:(t.mn != 0)=(t.mn != 0):=rfl;obtain⟨g1,hg1⟩:=ag ((t.mn != 0));generalize t.set=s at*;generalize t.mn=mn at*;generalize t.mx=mx at*;generalize t.subs=l at*;clear hg1 d1 g1;clear hk hr h hs r2 rl r0 r6 Ni r5 Nj m2 m5 m3 m4 OO hn;have Vk:=hid Vl;clear Vl;unfold aq at*;go_enter Tryz.func161,Tryz.ntmps161;go_wp2_with fail
 refine CB _ |>.mono ?_;rintro e w1 ⟨rfl,hw⟩;replace hw:=hw.symm;subst hw;go_wp2_with fail
 refine aI ?_;intro V hV;have B1:Hid (ar V w.heap.size #[.int .u8 5,.int .u64 (wd s 0).toNat,.int .u64 (wd s 1).toNat,.int .u64 (wd s 2).toNat,.int .u64 (wd s 3).toNat,.int .i64 mn,.int .i64 mx,.slice p 1 c] 97):=by rw[hV];exact hid (ar.new _ _ _)
 have X1:Hid (aa w V):=by rw[hV];exact hid ((Ext.refl _).alloc _).below
 clear hV;refine(Vk V X1).mono ?_;rintro e w2 ⟨rfl,hx⟩;have X2:=hid (X1.trans (hx.mono X1.size));clear hx B1 X1;go_wp2;go_ret;exact⟨rfl,X2⟩
theorem Cv (n0:Nat) (v:Value) (t:RX) (hk:t.kind=6) (hr:t.dt=true) (w:World) (h:aK (· <n0) w v t) (dw:n0<=w.heap.size) (hs:t.size<=10000000): ah 161 #[v] w fun e w'=>e=.returned (.bool true)/\aa w w':=by
 have nU:n0<=w.heap.size/\t.size<=10000000:=⟨dw,hs⟩;clear nU;obtain⟨r2,rl,r0,r6,Ni,r5,Nj⟩:=cS t hr;obtain⟨m2,m5,m3,m4,OO⟩:=gq t hr;obtain⟨p,c,rfl⟩:=h.form;have heq:=oQ t.set;rw[show(t.set==0)=true from by rw[m2 (by omega)];rfl]at heq;obtain⟨e1,e2⟩:=m5 (by omega);obtain⟨n,hn⟩:=ag t.subs.length;have fH:n=1:=by rw[hn];exact Ni (by omega)
 rw[<-hn]at*;rw[hk]at*;rw[e1,e2]at*;subst fH;generalize t.set=s at*;generalize t.mn=mn at*;generalize t.mx=mx at*;generalize t.subs=l at*;clear hk hr h hs r2 rl r0 r6 Ni r5 Nj m2 m5 m3 m4 OO hn e1 e2;unfold aq at*;go_enter Tryz.func161,Tryz.ntmps161;go_wp2;go_ret;exact⟨rfl,((Ext.refl _).alloc _).below⟩
theorem Fg (n0:Nat) (v:Value) (t:RX) (hr:t.dt=true) (w:World) (h:aK (· <n0) w v t) (dw:n0<=w.heap.size) (hs:t.size<=10000000): ah 161 #[v] w fun e w'=>e=.returned (.bool true)/\aa w w':=by
 have h1:=(cS t hr).2.2.1;have h2:=(cS t hr).2.2.2.1;obtain hk | hk | hk | hk | hk | hk:t.kind=1\/t.kind=2\/t.kind=3\/t.kind=4\/t.kind=5\/t.kind=6:=by omega
 ·exact Cq n0 v t hk hr w h dw hs
 ·exact Cr n0 v t hk hr w h dw hs
 ·exact Cs n0 v t hk hr w h dw hs
 ·exact Ct n0 v t hk hr w h dw hs
 ·exact Cu n0 v t hk hr w h dw hs
 ·exact Cv n0 v t hk hr w h dw hs
attribute [local go_sem] Oper.semAt_some gK dI
theorem Rz (t:RX):∀ x∈t.pre,x.size<=t.size:=by
 induction t using RX.ind with
 | h k s a b l ih=>
  intro x hx;rw[RX.pre]at hx;rcases List.mem_cons.1 hx with rfl | hx
  ·exact aG _
  ·have:∀ l':List RX,(∀ t∈l',t∈l)->x∈RX.lC l'->x.size<=RX.sizes l':=by
    intro l';induction l' with
    | nil=>intro _ h;rw[RX.lC]at h;cases h
    | cons y l' YP=>
     intro hs h;rw[RX.lC]at h;rw[RX.sizes];rcases List.mem_append.1 h with h | h
     ·have:=ih y (hs y (aY ..)) x h;omega
     ·have:=YP (fun t ht=>hs t (bC _ ht)) h;omega
   have h5:=this l (fun _ h=>h) hx;rw[RX.size];omega
theorem I6 (v:Value) (t:RX) (hs:t.size<=10000) (w:World) (h:aK (· <w.heap.size) w v t): ah 100 #[v] w fun e w'=>e=.returned (.int .i64 t.size)/\aa w w':=by
 have CL:Hid (∀ W,aa w W->ah 158 #[v] W fun e w'=>e=.returned (.bool true)/\aa W w'):=hid fun W hW=>tj v t hs W ((h.mV hW).mono fun b hb=>aD hb hW.size)
 obtain⟨xs,hmap,qd,hseq⟩:=th w.heap.size t (by omega) v w h (aG _);obtain⟨p,c,rfl⟩:=h.form;have hlen:xs.length=t.size:=by
  have e:xs.length=t.pre.length:=by rw[<-hmap,aQ]
  rw[e,KP]
 rw[<-hlen]at hs ⊢;have Rx:=hid fun W B=>hseq W B _ rfl
 clear hseq qd hmap h hlen;refine cC Tryz.func100 rfl ?_;simp only[Tryz.ntmps100,List.size_toArray,List.length_cons,List.length_nil,Nat.reduceAdd,Nat.reduceSub,Array.replicate_succ,Array.replicate_zero,List.push_toArray,List.append_toArray,List.nil_append,List.cons_append,aq]at CL ⊢;go_wp2_with fail
 refine aI ?_;intro V hV;have B1:Hid (ar V w.heap.size (aq t.kind t.set t.mn t.mx (.slice p t.subs.length c)) 97):=by rw[hV];exact hid (ar.new _ _ _)
 have X1:Hid (aa w V):=by rw[hV];exact hid ((Ext.refl _).alloc _).below
 clear hV;refine(CL V X1).mono ?_;rintro e w1 ⟨rfl,hx⟩;have B2:=hid (B1.below hx B1.lt);have X2:=hid (X1.trans (hx.mono X1.size));have acT:w.heap.size<w1.heap.size:=B2.lt;clear hx B1 X1 CL;obtain⟨b0,b1,b2,b3,b4,b5,b6,b7⟩:=(show _/\_/\_/\_/\_/\_/\_/\_ from⟨(B2.alloc (.cells #[.int .i64 0] 3 (0,0))).cell 0,(B2.alloc (.cells #[.int .i64 0] 3 (0,0))).cell 1,(B2.alloc (.cells #[.int .i64 0] 3 (0,0))).cell 2,(B2.alloc (.cells #[.int .i64 0] 3 (0,0))).cell 3,(B2.alloc (.cells #[.int .i64 0] 3 (0,0))).cell 4,(B2.alloc (.cells #[.int .i64 0] 3 (0,0))).cell 5,(B2.alloc (.cells #[.int .i64 0] 3 (0,0))).cell 6,(B2.alloc (.cells #[.int .i64 0] 3 (0,0))).cell 7⟩);simp only[aq,List.getElem?_toArray,List.getElem?_cons_zero,List.getElem?_cons_succ]at b0 b1 b2 b3 b4 b5 b6 b7;go_wp2_with (go_at_call 160;refine(l6 _ _).mono ?_;rintro e w9 ⟨rfl,rfl⟩);refine aA ?_;intro W0 hW0;have h1:ar W0 w1.heap.size #[.int .i64 0] 3:=by rw[hW0];exact(ar.new _ _ _).alloc _
 have h3:ar W0 (w1.heap.size+1) (aq t.kind t.set t.mn t.mx (.slice p t.subs.length c)) 97:=by rw[hW0];exact(ar.new _ _ _).at (by simp)
 have hx:aa w W0:=by rw[hW0];exact X2.trans (((Ext.refl w1).alloc _).alloc _ |>.below.mono X2.size)
 have hsz:W0.heap.size=w1.heap.size+1+1:=by rw[hW0];simp
 clear hW0 b0 b1 b2 b3 b4 b5 b6 b7;refine ir (w:=W0) (d:=true) (Rx W0 _ (ae.ai hx fun _ h=>h) h3) (by rfl) oO (by intro _;rfl) (by intro k hk;rcases hk with hk | hk<;>omega)
  (fun ys _ W=>ar W w1.heap.size #[.int .i64 ys.length] 3/\aa w W)
  (fun _ _ _ _=>False)
  (fun ys T T' W W' ⟨h1,h3⟩ hT PN hs hn hk=>⟨h1.mY hT hk (by omega),iq h3 hT hk (aG _) (by omega)⟩)
  (fun c ys T T' W W' h=>h.elim)
  ⟨h1,hx⟩
  (fun x=>⟨#[.agg (aq t.kind t.set t.mn t.mx (.slice p t.subs.length c)),.pointer (some ⟨w.heap.size,0,none⟩),.int .i64 0,.pointer (some ⟨w1.heap.size,0,none⟩),.agg (aq t.kind t.set t.mn t.mx (.slice p t.subs.length c)),.bool true,.bool false,.agg (aq t.kind t.set t.mn t.mx (.slice p t.subs.length c)),.func (.func 195) #[] #[.pointer (some ⟨w1.heap.size+1,0,none⟩)],x.1,undef,undef,undef],[]⟩) ?assign ?body ?done ?stop
 case assign=>
  intro l x W K hK
  gi_wp2
  simpa[Ff,aq]using hK
 case body=>
  rintro l pre x T W bS hT hR yG hl ⟨h1,hx⟩;have hle:pre.length+1<=10000:=by
   have hle:=bS.length_le;rw[aJ]at hle;simp only[List.length_cons,List.length_nil]at hle;omega
  have c1:W.cell? ⟨w1.heap.size,0,none⟩=some (.int .i64 pre.length):=h1.cell 0;have f1:=h1.frozen 0;have e1:IntKind.i64.wrap ((pre.length:Int)+1)=(pre.length:Int)+1:=IntWalk.i64_in _ (by omega);have e4:((pre++ [x]).length:Int)=(pre.length:Int)+1:=by rw[aJ];rfl
  have H1:=hid h1;have HX:=hid hx;have HS:=hid hsz;have HT:=hid hT;have HE4:=hid e4;clear h1 hx hR hl yG hsz hT h3 bS e4;obtain⟨m,hm⟩:=ag pre.length;rw[<-hm]at c1 e1 H1 HE4 hle;clear hm
  gi_wp2
  refine⟨((ae.refl _ _).setCell (fun h=>?_) _),(by rw[HE4.out];exact H1.set 0 _),HX.setCell (by simp;omega) _⟩;have h2:=HS.out;rcases h with(h | h) | h
  ·dsimp only at h;omega
  ·dsimp only at h;omega
  ·have h1:=(HT.out _ h).1;dsimp only at h1;omega
 case done=>
  rintro D T W hD yJ hT ⟨h1,hx⟩ mO;have c1:W.cell? ⟨w1.heap.size,0,none⟩=some (.int .i64 xs.length):=h1.cell 0;have HX:=hid hx;have HS:=hid hsz;have HD:=hid hD;have yx:=hid mO;clear h1 hx yJ hsz hT mO hD;dsimp only;go_wp2;refine dz rfl yx (results_tmp rfl _ _ _) ⟨rfl,((ae.ai HX fun _ h=>h).putObj (by have h1:=HD.out;have h2:=HS.out;omega) _).below⟩
 case stop=>rintro D c pre T W _ _ _ _ h _;exact h.elim
end
section
open Go Go.RowKit Go.Shelf Go.Maps
attribute [local go_sem] Oper.semAt_some gK dI
theorem Fh (v:Value) (t:RX) (hf:t.fine) (hs:t.size<=10000) (w:World) (h:aK (· <w.heap.size) w v t): ah 99 #[v] w fun e w'=>e=.returned (.bool true)/\aa w w':=by
 have CL:Hid (∀ W,aa w W->ah 158 #[v] W fun e w'=>e=.returned (.bool true)/\aa W w'):=hid fun W hW=>tj v t hs W ((h.mV hW).mono fun b hb=>aD hb hW.size)
 obtain⟨xs,hmap,qd,hseq⟩:=th w.heap.size t (by omega) v w h (aG _);obtain⟨p,c,rfl⟩:=h.form;have CR:Hid (∀ x∈xs,∀ W,ae (· <w.heap.size) w W->ah 161 #[x.1] W fun e w'=>e=.returned (.bool true)/\aa W w'):=hid fun x hx W hW=>by
  have hp:x.2∈t.pre:=by rw[<-hmap];exact List.mem_map_of_mem hx
  exact Fg w.heap.size x.1 x.2 (hf x.2 hp) W ((qd x hx).kept hW) hW.size (by have:=Rz t x.2 hp;omega)
 have Rx:=hid fun W B=>hseq W B _ rfl
 have Zh:=hid qd;clear hseq qd hmap h hs hf;refine cC Tryz.func99 rfl ?_;simp only[Tryz.ntmps99,List.size_toArray,List.length_cons,List.length_nil,Nat.reduceAdd,Nat.reduceSub,Array.replicate_succ,Array.replicate_zero,List.push_toArray,List.append_toArray,List.nil_append,List.cons_append,aq]at CL ⊢;go_wp2_with fail
 refine aI ?_;intro V hV;have B1:Hid (ar V w.heap.size (aq t.kind t.set t.mn t.mx (.slice p t.subs.length c)) 97):=by rw[hV];exact hid ((ar.new _ _ _).alloc _)
 have R1:Hid (ar V (w.heap.size+1) #[.bool false] 4):=by rw[hV];exact hid ((ar.new (w.alloc _) _ _).at (by simp))
 have X1:Hid (aa w V):=by rw[hV];exact hid (((Ext.refl _).alloc _).alloc _).below
 clear hV;refine(CL V X1).mono ?_;rintro e w1 ⟨rfl,hx⟩;have B2:=hid (B1.below hx B1.lt);have R2:=hid (R1.below hx R1.lt);have X2:=hid (X1.trans (hx.mono X1.size));have acT:w.heap.size+1<w1.heap.size:=R2.lt;clear hx B1 X1 R1 CL;obtain⟨b0,b1,b2,b3,b4,b5,b6,b7⟩:=(show _/\_/\_/\_/\_/\_/\_/\_ from⟨B2.cell 0,B2.cell 1,B2.cell 2,B2.cell 3,B2.cell 4,B2.cell 5,B2.cell 6,B2.cell 7⟩);simp only[aq,List.getElem?_toArray,List.getElem?_cons_zero,List.getElem?_cons_succ]at b0 b1 b2 b3 b4 b5 b6 b7;go_wp2_with (go_at_call 160;refine(l6 _ _).mono ?_;rintro e w9 ⟨rfl,rfl⟩);refine aA ?_;intro W0 hW0;have h1:ar W0 (w.heap.size+1) #[.bool false] 4:=by rw[hW0];exact R2.alloc _
 have h3:ar W0 w1.heap.size (aq t.kind t.set t.mn t.mx (.slice p t.subs.length c)) 97:=by rw[hW0];exact ar.new _ _ _
 have hx:aa w W0:=by rw[hW0];exact X2.trans (((Ext.refl w1).alloc _).below.mono X2.size)
 have hsz:W0.heap.size=w1.heap.size+1:=by rw[hW0];simp
 clear hW0 b0 b1 b2 b3 b4 b5 b6 b7;have hR9:∀ k,(k<w.heap.size\/k=w1.heap.size)->k<W0.heap.size:=fun k hk=>by rcases hk with hk | hk<;>omega
 refine vH (w:=W0) (d:=true) (Rx W0 _ (ae.ai hx fun _ h=>h) h3) (by rfl) oO (by intro _;rfl) hR9
  (fun ys _ W=>ar W (w.heap.size+1) #[.bool false] 4/\aa w W)
  (fun _ _ _ _=>False)
  (fun ys T T' W W' ⟨h1,h3⟩ hT PN hs hn hk=>⟨h1.mY hT hk (by omega),iq h3 hT hk (aG _) (by omega)⟩)
  (fun c ys T T' W W' h=>h.elim)
  ⟨h1,hx⟩
  (fun z T W=>∃ b9:Nat,z.2.2= {tmps:= #[.agg (aq t.kind t.set t.mn t.mx (.slice p t.subs.length c)),.pointer (some ⟨w.heap.size,0,none⟩),.pointer (some ⟨w.heap.size+1,0,none⟩),.pointer (some ⟨b9,0,none⟩),.agg (aq t.kind t.set t.mn t.mx (.slice p t.subs.length c)),.bool true,.bool false,.agg (aq t.kind t.set t.mn t.mx (.slice p t.subs.length c)),.func (.func 195) #[] #[.pointer (some ⟨w1.heap.size,0,none⟩)],z.2.1.1,undef,undef,undef],defers:=[]} /\W0.heap.size<=b9/\b9<W.heap.size/\¬T b9/\(∃ c,z.2.1.1=.agg c/\ar W b9 c 97)/\ar W (w.heap.size+1) #[.bool false] 4/\aa w W)
  ?hIa ?assign ?body ?done ?stop
 case hIa=>
  rintro⟨pre,x,a1⟩ T T' W W' ⟨b9,e1,e2,e3,e4,⟨c,e5,e6⟩,e7,e8⟩ h1 h2 h3 h4 h5;have hs:=h5.size;refine⟨b9,e1,e2,by omega,fun h=>?_,⟨c,e5,e6.keeps h5.keeps ⟨e3,e4⟩⟩,e7.mY h1 h5 (by omega),iq e8 h1 h5 (aG _) (by omega)⟩;rcases h4 b9 h with h | h
  ·exact e4 h
  ·omega
 case assign=>
  rintro lr pre ⟨xv,xt⟩ T W hp hT hk ⟨i1,i2⟩;have hx:=Zh.out (xv,xt) (hp.subset (by simp));obtain⟨p9,c9,e9⟩:=hx.form;dsimp only at e9;subst e9;have I1:=hid i1;have I2:=hid i2;have HT:=hid hT;have HK:=hid hk;clear i1 i2 hT hx hp hk h3 h1;dsimp only[aq,Ff]
  gi_wp2
  have s7:W0.heap.size<=W.heap.size:=HK.size;refine⟨((ae.refl _ _).alloc (fun j hj=>?_) _),W.heap.size,rfl,s7,by simp,fun h=>by have:=(HT.out _ h).2;omega,⟨_,rfl,ar.new _ _ _⟩,I1.alloc _,I2.alloc I2.size _⟩;rcases hj with hj | hj
  ·have:=hR9 j hj;omega
  ·exact(HT j hj).2
 case body=>
  rintro lr pre ⟨xv,xt⟩ T a1 W hp hT hk yG sK ⟨b9,e1,e2,e3,e4,⟨c9,e5,e6⟩,e7,e8⟩;have hxm:=hp.subset (show(xv,xt)∈pre++ [(xv,xt)] by simp);have hx:=Zh.out (xv,xt) hxm;obtain⟨p9,cp9,e9⟩:=hx.form;dsimp only at e1 e5 e9;rw[e5]at e9;injection e9 with e9
  subst e1 e5 e9;have C1:=hid (CR.out _ hxm W (ae.ai e8 fun _ h=>h));have E7:=hid e7;have E8:=hid e8;have HT:=hid hT;obtain⟨b0,b1,b2,b3,b4,b5,b6,b7⟩:=(show _/\_/\_/\_/\_/\_/\_/\_ from⟨e6.cell 0,e6.cell 1,e6.cell 2,e6.cell 3,e6.cell 4,e6.cell 5,e6.cell 6,e6.cell 7⟩);simp only[aq,List.getElem?_toArray,List.getElem?_cons_zero,List.getElem?_cons_succ]at b0 b1 b2 b3 b4 b5 b6 b7;dsimp only[aq]at C1;clear e7 e6 e8 hx hp sK yG hT h3 h1 hxm hk
  gi_wp2_with (gi_at_call 161;refine(CallsIn.inRound lr (callsIn_wide.2 C1)).mono ?_;rintro e w2 ⟨rfl,hx⟩;have gF:=hid hx;clear hx)
  have hs2:=E8.size;refine⟨ae.ai gF fun j hj=>?_,E7.below gF E7.lt,E8.trans (gF.mono hs2)⟩;rcases hj with hj | hj
  ·have:=hR9 j hj;omega
  ·exact(HT j hj).2
 case done=>
  rintro D T W hD yJ hT ⟨i1,hx⟩ mO;have HX:=hid hx;have I1:=hid i1;have f1:=i1.frozen 0;have c1:W.cell? ⟨w.heap.size+1,0,none⟩=some (.bool false):=i1.cell 0;have HD:=hid hD;have yx:=hid mO;clear hx yJ hT mO hD i1;dsimp only;go_wp2;have hne:w.heap.size+1≠D:=by have:=HD.out;omega
  have YD:(W.setCell ⟨w.heap.size+1,0,none⟩ (.bool true)).heap[D]? =some (.deferred (some [])):=(Below.heap_setCell _ _ _ _ (by simpa using hne.symm)).trans yx;have bt:=(I1.set 0 (.bool true));have m0:((W.setCell ⟨w.heap.size+1,0,none⟩ (.bool true)).putObj D (.deferred none)).cell? ⟨w.heap.size+1,0,none⟩=some (.bool true):=(DG YD rfl rfl _).trans (bt.cell 0);refine dz rfl YD (v:=.bool true) (by simp[results,Tryz.results99,go_sem,m0]) ⟨rfl,?_⟩;have k1:ae (· <w.heap.size) w (W.setCell ⟨w.heap.size+1,0,none⟩ (.bool true)):=(ae.ai HX fun _ h=>h).setCell (by simp) _;exact(k1.putObj (by have h1:=HD.out;omega) _).below
 case stop=>rintro D c pre T W _ _ _ _ h _;exact h.elim
end
section
open Go Go.RowKit Go.Shelf Go.Maps
theorem Fi (l:List RX):RX.bH l<=10001*l.length:=by
 induction l with
 | nil=>simp[RX.bH]
 | cons x l ih=>
  rw[RX.bH,List.length_cons];have:=Ch x;omega
theorem I7 {l:List RX} {i:Nat} {t:RX} (h:l[i]? =some t):RX.bH (l.take (i+1))=RX.bH (l.take i)+t.cI:=by rw[List.take_add_one,h,eA];simp[RX.bH]
theorem Nk (t:RX):t.size<=10000000->∀ (n0:Nat) (v:Value) (w:World),aK (· <n0) w v t->n0<=w.heap.size-> ah 162 #[v] w fun e w'=>e=.returned (.int .i64 t.cI)/\aa w w':=by
 induction t using RX.ind with
 | h k s mn mx l ih=>
  intro hsz n0 v w hv dw;obtain⟨p,c,rfl⟩:=hv.form;obtain⟨n,hn⟩:=ag l.length;simp only[RX.kind,RX.set,RX.mn,RX.mx,RX.subs]at hv ⊢;rw[<-hn]at hv ⊢;have hn7:n<=10000000:=by rw[hn];exact Nat.le_trans (oP l) (by rw[RX.size]at hsz;omega)
  have IH:Hid (∀ (i:Nat) (t:RX),l[i]? =some t->∀ (v:Value) (w:World),aK (· <n0) w v t->n0<=w.heap.size->ah 162 #[v] w fun e w'=>e=.returned (.int .i64 t.cI)/\aa w w'):=hid fun i t hi v w h h0=>ih t (aw hi) (Nat.le_trans (xf (aw hi)) (by rw[RX.size]at hsz;omega)) n0 v w h h0
  obtain⟨s0,hs0⟩:=ag (if k=2 then 1 else 0:Nat);have anR:s0<=1:=by rw[hs0];split<;>omega
  obtain⟨S,hS⟩:=ag (s0+RX.bH l);have acX:S<=200000000000:=by have:=Fi l;rw[<-hn]at this;omega
  obtain⟨R,hR⟩:=ag ((RX.nd k s mn mx l).cI);have hRS:R=min (S*(if k=5 then min (RX.times mn mx) 10001 else 1)) 10001:=by rw[hR,RX.cI,hS,hs0]
  rw[<-hR];have HV:=hid hv;have HN:=hid hn;have HS0:=hid hs0;have HSS:=hid hS;have WY:=hid hRS;clear hv hn hs0 hS hRS hR ih hsz;unfold aq;go_enter Tryz.func162,Tryz.ntmps162;go_upto_region 2 with fail
  refine aA ?_;intro V hV;have B1:Hid (ar V w.heap.size #[.int .u8 k,.int .u64 (wd s 0).toNat,.int .u64 (wd s 1).toNat,.int .u64 (wd s 2).toNat,.int .u64 (wd s 3).toNat,.int .i64 mn,.int .i64 mx,.slice p n c] 97):=by rw[hV];exact hid (ar.new _ _ _)
  have X1:Hid (aa w V):=by rw[hV];exact hid ((Ext.refl _).alloc _).below
  clear hV;have b0:V.cell? ⟨w.heap.size,0,none⟩=some (.int .u8 k):=B1.cell 0;have b7:V.cell? ⟨w.heap.size,7,none⟩=some (.slice p n c):=B1.cell 7
  go_upto_if 10 with fail
  go_cut [3] from 8 to 10 (fun x wx=>x=.int .i64 s0/\wx=V)
  case first=>
   by_cases hk:k=2
   ·have e0:s0=1:=by rw[HS0.out,if_pos hk]
    have d1:((k:Int)==2)=true:=by rw[hk];rfl
    go_wp2_with fail
    go_meet
    exact⟨by rw[e0];rfl,rfl⟩
   ·have e0:s0=0:=by rw[HS0.out,if_neg hk]
    have d1:((k:Int)==2)=false:=by rw[beq_eq_false_iff_ne];omega
    go_wp2_with fail
    go_meet
    exact⟨by rw[e0];rfl,rfl⟩
  case rest=>
  obtain⟨rfl,hwc⟩:=hcut;replace hwc:=hwc.symm;subst hwc;go_wp2;clear b0 b7;go_loopw [14,3] (fun iv sv wr=>∃ i:Nat,i<=n/\iv=.int .i64 i/\sv=.int .i64 ((s0+RX.bH (l.take i):Nat):Int)/\aa V wr) (fun iv _ _=>n-(intOf iv).toNat);case atStart=>exact⟨0,by omega,rfl,by simp[RX.bH],Below.refl _ _⟩
  case round=>
   obtain⟨i,hi,rfl,rfl,hx⟩:=hrel;obtain⟨wo,rfl⟩:=ag (wr:World);have HX:=hid hx;have XO:=hid (X1.trans (hx.mono X1.size));clear hx;by_cases hlt:i<n
   ·have eE:(i:Int)<n:=by omega
    obtain⟨t,ht⟩:∃ t,l[i]? =some t:=⟨_,az (by have:=HN.out;omega)⟩;obtain⟨b,off,p',c',ep,hbF,hb,_,⟨q0,q1,q2,q3,q4,q5,q6,q7⟩,hrt⟩:=(HV.mV (XO.mono dw)).elem ht;subst ep;have Zi:=I7 ht;obtain⟨m,hm⟩:=ag (RX.bH (l.take i));have anT:m<=100010000000:=by have:=Fi (l.take i);rw[List.length_take]at this;rw[hm];omega
    have htp:=Ch t;obtain⟨tp,Zj⟩:=ag t.cI;rw[<-hm]at Zi ⊢;rw[<-Zj]at Zi htp;have e1:IntKind.i64.wrap (((s0+m:Nat):Int)+(tp:Int))=((s0+m+tp:Nat):Int):=by rw[IntWalk.i64_in _ (by omega)];omega
    obtain⟨sm,hsm⟩:=ag (s0+m);rw[<-hsm]at e1 ⊢;have WZ:s0+RX.bH (l.take (i+1))=sm+tp:=by rw[Zi,hsm];omega
    have C1:=hid (fun W (hW:aa wo W)=>IH i t ht _ W (hrt.mV (hW.mono (Nat.le_trans dw XO.size))) (Nat.le_trans (Nat.le_trans dw XO.size) hW.size));unfold aq at C1;rw[<-Zj]at C1;have GX:=hid WZ;clear hrt Zi hm WZ hsm Zj ht;go_wp2_with fail
    refine aI ?_;intro V2 hV2;have X2:Hid (aa wo V2):=by rw[hV2];exact hid ((Ext.refl _).alloc _).below
    clear hV2;refine(C1 V2 X2).mono ?_;rintro e w3 ⟨rfl,hx⟩;have X3:=hid (HX.trans ((X2.trans (hx.mono X2.size)).mono HX.size));clear hx C1 X2;go_wp2;go_roundw;case rel=>exact⟨i+1,by omega,by go_num,by rw[GX.out,Int.natCast_add],X3⟩
    case measure=>simp[intOf];omega
   ·obtain rfl:i=n:=by omega
    have eE:¬ ((i:Int)<i):=by omega
    have eT:s0+RX.bH (l.take i)=S:=by rw[HSS.out,HN.out,List.take_length]
    rw[eT];obtain⟨b0,b5,b6⟩:=(show _/\_/\_ from⟨(B1.below HX B1.lt).cell 0,(B1.below HX B1.lt).cell 5,(B1.below HX B1.lt).cell 6⟩);simp only[List.getElem?_toArray,List.getElem?_cons_zero,List.getElem?_cons_succ]at b0 b5 b6;clear eT;by_cases hk:k=5
    ·have d1:((k:Int)==5)=true:=by rw[hk];rfl
     have Nl:=WY.out;rw[if_pos hk]at Nl;obtain⟨L,hL⟩:∃ L:Int,max mn 0=L:=⟨_,rfl⟩;by_cases hx1:mx= -1
     ·have d2:(mx== -1)=true:=by rw[hx1];rfl
      obtain⟨T0,OA⟩:∃ T0:Int,max L mx=T0:=⟨_,rfl⟩;obtain⟨T1,hT1⟩:∃ T1:Int,max L 1=T1:=⟨_,rfl⟩;obtain⟨F,hF⟩:=ag (min (RX.times mn mx) 10001:Nat);have Nf:min T1 10001=(F:Int):=by rw[hF, <-hT1, <-hL];unfold RX.times;rw[if_pos hx1];omega
      have Zk:F<=10001:=by rw[hF];omega
      rw[<-hF]at Nl;have rY:S*F<=200000000000*10001:=Nat.mul_le_mul acX Zk;obtain⟨M,hM⟩:=ag (S*F);have e1:IntKind.i64.wrap ((S:Int)*(F:Int))=(M:Int):=by rw[show(S:Int)*(F:Int)=(M:Int) by rw[hM];push_cast;rfl];exact IntWalk.i64_in _ (by omega)
      rw[<-hM]at Nl;have e2:min (M:Int) 10001=(R:Int):=by omega
      have HRX:=hid Nl;clear Nl hM hF rY;subst hx1;go_wp2;go_ret;exact⟨rfl,XO⟩
     ·have d2:(mx== -1)=false:=beq_false_of_ne hx1
      obtain⟨T0,OA⟩:∃ T0:Int,max L mx=T0:=⟨_,rfl⟩;obtain⟨F,hF⟩:=ag (min (RX.times mn mx) 10001:Nat);have Nf:min T0 10001=(F:Int):=by rw[hF, <-OA, <-hL];unfold RX.times;rw[if_neg hx1];omega
      have Zk:F<=10001:=by rw[hF];omega
      rw[<-hF]at Nl;have rY:S*F<=200000000000*10001:=Nat.mul_le_mul acX Zk;obtain⟨M,hM⟩:=ag (S*F);have e1:IntKind.i64.wrap ((S:Int)*(F:Int))=(M:Int):=by rw[show(S:Int)*(F:Int)=(M:Int) by rw[hM];push_cast;rfl];exact IntWalk.i64_in _ (by omega)
      rw[<-hM]at Nl;have e2:min (M:Int) 10001=(R:Int):=by omega
      have HRX:=hid Nl;clear Nl hM hF rY;go_wp2;go_ret;exact⟨rfl,XO⟩
    ·have d1:((k:Int)==5)=false:=by rw[beq_eq_false_iff_ne];omega
     have e2:min (S:Int) 10001=(R:Int):=by have:=WY.out;rw[if_neg hk,Nat.mul_one]at this;omega
     go_wp2;go_ret;exact⟨rfl,XO⟩
theorem uU (v:Value) (t:RX) (hs:t.size<=10000) (w:World) (h:aK (· <w.heap.size) w v t): ah 101 #[v] w fun e w'=>e=.returned (.int .i64 t.cI)/\aa w w':=by
 have CL:Hid (∀ W,aa w W->ah 158 #[v] W fun e w'=>e=.returned (.bool true)/\aa W w'):=hid fun W hW=>tj v t hs W ((h.mV hW).mono fun b hb=>aD hb hW.size)
 have CP:Hid (∀ W,aa w W->ah 162 #[v] W fun e w'=>e=.returned (.int .i64 t.cI)/\aa W w'):=hid fun W hW=>Nk t (by omega) w.heap.size v W (h.mV hW) hW.size
 obtain⟨p,c,rfl⟩:=h.form;generalize t.cI=r at*;clear h hs;unfold aq at*;go_enter Tryz.func101,Tryz.ntmps101;go_wp2_with fail
 refine aI ?_;intro V hV;have B1:Hid (ar V w.heap.size (aq t.kind t.set t.mn t.mx (.slice p t.subs.length c)) 97):=by rw[hV];exact hid (ar.new _ _ _)
 have X1:Hid (aa w V):=by rw[hV];exact hid ((Ext.refl _).alloc _).below
 clear hV;refine(CL V X1).mono ?_;rintro e w1 ⟨rfl,hx⟩;have B2:=hid (B1.below hx B1.lt);have X2:=hid (X1.trans (hx.mono X1.size));clear hx B1 X1 CL;obtain⟨b0,b1,b2,b3,b4,b5,b6,b7⟩:=(show _/\_/\_/\_/\_/\_/\_/\_ from⟨B2.cell 0,B2.cell 1,B2.cell 2,B2.cell 3,B2.cell 4,B2.cell 5,B2.cell 6,B2.cell 7⟩);simp only[aq,List.getElem?_toArray,List.getElem?_cons_zero,List.getElem?_cons_succ]at b0 b1 b2 b3 b4 b5 b6 b7;go_wp2_with fail
 refine(CP w1 X2).mono ?_;rintro e w2 ⟨rfl,hx⟩;have X3:=hid (X2.trans (hx.mono X2.size));clear hx b0 b1 b2 b3 b4 b5 b6 b7;go_wp2;go_ret;exact⟨rfl,X3⟩
attribute [local go_sem] cJ
theorem Fj (x:PB):(dO (bW x) 448).length=(dY x).length/\(dO (bW x) 448).map wH=(dY x).map aM:=by rw[<-MP];refine⟨by simp,?_⟩;rw[List.map_map];rfl
theorem tk (x:PB) (b off:Nat) (w:World) (hb:fZ w b off (bW x)):ah 103 #[.pointer (some ⟨b,off,none⟩)] w fun e w'=>∃ v,e=.returned v/\w'.ownsRow w.heap.size 3 1 v (dY x).length ((dY x).map aM)/\aa w w':=by have h:=IE (bW x) b off w hb;rw[(Fj x).1,(Fj x).2]at h;exact h
theorem GM.ok0:(⟨[],[]⟩:GM).ok:=⟨rfl,fun f h=>(by cases h),fun s h=>(by cases h)⟩
theorem fL.new {base M:Nat} {w:World} (h:ar w M #[.slice none 0 0,.slice none 0 0] 177) (hb:base<=M):fL base M (· =M) w ⟨[],[]⟩:=
 ⟨rfl,(fun x hx=>by subst hx;exact⟨hb,h.lt⟩),_,_,h,World.ownsRow_nil _ _ _ _,(fun x e=>by cases e),World.ownsRow_nil _ _ _ _,(fun x e=>by cases e)⟩
theorem Al (v:Value) (t:RX) (w:World) (h:aK (· <w.heap.size) w v t) (hf:t.fine) (hs:t.size<=120) (hp:t.cI<=400): ah 59 #[v] w fun e w'=>∃ u,e=.returned (.tuple #[u,.int .i64 0])/\ik w.heap.size w' u t.nf/\aa w w':=by
 obtain⟨iL,zY,mR,mS,mU⟩:=info_parts Tryz.tX;obtain⟨p,c,rfl⟩:=h.form;have xe:=qm t hf;have acQ:=ER t hf hp;have lH:=nO t xe ⟨[],[]⟩ GM.ok0;obtain⟨v,hv⟩:=ag (Value.agg (aq t.kind t.set t.mn t.mx (.slice p t.subs.length c)));rw[<-hv]at h;have CC:Hid (∀ W,aa w W->ah 99 #[v] W fun e w'=>e=.returned (.bool true)/\aa W w'):=hid fun W hW=>Fh v t hf (by omega) W ((h.mV hW).mono fun b hb=>aD hb hW.size)
 have CS:Hid (∀ W,aa w W->ah 100 #[v] W fun e w'=>e=.returned (.int .i64 t.size)/\aa W w'):=hid fun W hW=>I6 v t (by omega) W ((h.mV hW).mono fun b hb=>aD hb hW.size)
 have CP:Hid (∀ W,aa w W->ah 101 #[v] W fun e w'=>e=.returned (.int .i64 t.cI)/\aa W w'):=hid fun W hW=>uU v t (by omega) W ((h.mV hW).mono fun b hb=>aD hb hW.size)
 obtain⟨m2,p2,wX⟩:∃ m2 p2,t.dG ⟨[],[]⟩=(m2,p2):=⟨_,_,rfl⟩;have CM:Hid (∀ W M,aa w W->w.heap.size<=M->ar W M #[.slice none 0 0,.slice none 0 0] 177->ah 102 #[.pointer (some ⟨M,0,none⟩),v] W (jV w.heap.size M (· =M) W m2 p2)):=hid fun W M hW hM hB=>by
  have:=Rw w.heap.size t hf (by omega) w.heap.size M (· =M) ⟨[],[]⟩ W v (aG _) (fL.new hB hM) (h.mV hW) GM.ok0 rfl (by show 0+t.cnt<=448;omega);rw[wX]at this;exact this
 rw[hv]at CC CS CP CM;rw[wX]at lH;have vG:=lH.len;have Cm:=lH.ok.len;dsimp only at vG Cm;have vG:m2.aN.length=0+t.cnt:=vG;have enf:t.nf=⟨m2.aN,m2.cK.map dY,dY p2.fst,dY p2.cW,p2.emp⟩:=by unfold RX.nf;rw[wX]
 have tJ:t.kind≠0:=oJ hf;obtain⟨k,hk⟩:=ag t.kind;obtain⟨sz,hsz⟩:=ag t.size;obtain⟨ps,TG⟩:=ag t.cI;obtain⟨nl,tK⟩:=ag t.subs.length;rw[enf];rw[<-hk, <-tK]at CC CS CP CM ⊢;rw[<-hk]at tJ;rw[<-hsz]at CS hs;rw[<-TG]at CP hp;obtain⟨n,hn⟩:=ag m2.aN.length;rw[<-hn]at Cm vG;have RA:n<=400:=by omega
 obtain⟨st,hst⟩:=ag t.set;obtain⟨tn,tq⟩:=ag t.mn;obtain⟨tx,KQ⟩:=ag t.mx;rw[<-hst, <-tq, <-KQ]at CC CS CP CM ⊢;have HN:=hid hn;have HL3:=hid Cm;have HS:=hid hs;have HP:=hid hp;clear lH h hv hf xe acQ wX vG Cm enf hk hsz TG tK hn hst tq KQ v;unfold aq at CC CS CP CM ⊢;have hs9:¬ ((120:Int)<sz):=by have:=HS.out;omega
 have hp9:¬ ((400:Int)<ps):=by have:=HP.out;omega
 go_enter Tryz.func59,Tryz.ntmps59
 go_upto_region 1 with fail
 refine aA ?_;intro V hV;have B1:Hid (ar V w.heap.size #[.int .u8 k,.int .u64 (wd st 0).toNat,.int .u64 (wd st 1).toNat,.int .u64 (wd st 2).toNat,.int .u64 (wd st 3).toNat,.int .i64 tn,.int .i64 tx,.slice p nl c] 97):=by rw[hV];exact hid ((ar.new w _ _).alloc _)
 have B2:Hid (ar V (w.heap.size+1) #[.slice none 0 0,.slice none 0 0,.slice none 0 0,.slice none 0 0,.bool false] 118):=by rw[hV];exact hid ((ar.new (w.alloc _) _ _).at (by simp))
 have HX:Hid (aa w V):=by rw[hV];exact hid (((Ext.refl w).alloc _).alloc _).below
 have yY:V.heap.size=w.heap.size+1+1:=by rw[hV];simp
 have qR:=hid yY;clear hV yY;have e0:V.cell? ⟨w.heap.size,0,none⟩=some (.int .u8 k):=B1.cell 0;have e1:V.cell? ⟨w.heap.size,1,none⟩=some (.int .u64 (wd st 0).toNat):=B1.cell 1;have e2:V.cell? ⟨w.heap.size,2,none⟩=some (.int .u64 (wd st 1).toNat):=B1.cell 2;have e3:V.cell? ⟨w.heap.size,3,none⟩=some (.int .u64 (wd st 2).toNat):=B1.cell 3;have e4:V.cell? ⟨w.heap.size,4,none⟩=some (.int .u64 (wd st 3).toNat):=B1.cell 4;have e5:V.cell? ⟨w.heap.size,5,none⟩=some (.int .i64 tn):=B1.cell 5;have e6:V.cell? ⟨w.heap.size,6,none⟩=some (.int .i64 tx):=B1.cell 6;have e7:V.cell? ⟨w.heap.size,7,none⟩=some (.slice p nl c):=B1.cell 7;have lM:¬ ((k:Int)=0):=by omega
 go_wp2_with fail
 refine(CC V HX).mono ?_;rintro e V2 ⟨rfl,hx⟩;have B1:=hid (B1.below hx B1.lt);have B2:=hid (B2.below hx B2.lt);have HX:=hid (HX.trans (hx.mono HX.size));have Nn:Hid (w.heap.size+1+1<=V2.heap.size):=hid (by have:=hx.size;have:=qR.out;omega);clear hx e0 e1 e2 e3 e4 e5 e6 e7 qR CC;have e0:V2.cell? ⟨w.heap.size,0,none⟩=some (.int .u8 k):=B1.cell 0;have e1:V2.cell? ⟨w.heap.size,1,none⟩=some (.int .u64 (wd st 0).toNat):=B1.cell 1;have e2:V2.cell? ⟨w.heap.size,2,none⟩=some (.int .u64 (wd st 1).toNat):=B1.cell 2;have e3:V2.cell? ⟨w.heap.size,3,none⟩=some (.int .u64 (wd st 2).toNat):=B1.cell 3;have e4:V2.cell? ⟨w.heap.size,4,none⟩=some (.int .u64 (wd st 3).toNat):=B1.cell 4;have e5:V2.cell? ⟨w.heap.size,5,none⟩=some (.int .i64 tn):=B1.cell 5;have e6:V2.cell? ⟨w.heap.size,6,none⟩=some (.int .i64 tx):=B1.cell 6;have e7:V2.cell? ⟨w.heap.size,7,none⟩=some (.slice p nl c):=B1.cell 7;go_wp2_with fail
 refine(CS V2 HX).mono ?_;rintro e V3 ⟨rfl,hx⟩;have B1:=hid (B1.below hx B1.lt);have B2:=hid (B2.below hx B2.lt);have HX:=hid (HX.trans (hx.mono HX.size));have Nn:Hid (w.heap.size+1+1<=V3.heap.size):=hid (by have:=hx.size;have:=Nn.out;omega);clear hx e0 e1 e2 e3 e4 e5 e6 e7 CS;have e0:V3.cell? ⟨w.heap.size,0,none⟩=some (.int .u8 k):=B1.cell 0;have e1:V3.cell? ⟨w.heap.size,1,none⟩=some (.int .u64 (wd st 0).toNat):=B1.cell 1;have e2:V3.cell? ⟨w.heap.size,2,none⟩=some (.int .u64 (wd st 1).toNat):=B1.cell 2;have e3:V3.cell? ⟨w.heap.size,3,none⟩=some (.int .u64 (wd st 2).toNat):=B1.cell 3;have e4:V3.cell? ⟨w.heap.size,4,none⟩=some (.int .u64 (wd st 3).toNat):=B1.cell 4;have e5:V3.cell? ⟨w.heap.size,5,none⟩=some (.int .i64 tn):=B1.cell 5;have e6:V3.cell? ⟨w.heap.size,6,none⟩=some (.int .i64 tx):=B1.cell 6;have e7:V3.cell? ⟨w.heap.size,7,none⟩=some (.slice p nl c):=B1.cell 7;go_wp2_with fail
 refine(CP V3 HX).mono ?_;rintro e V4 ⟨rfl,hx⟩;have B1:=hid (B1.below hx B1.lt);have B2:=hid (B2.below hx B2.lt);have HX:=hid (HX.trans (hx.mono HX.size));have Nn:Hid (w.heap.size+1+1<=V4.heap.size):=hid (by have:=hx.size;have:=Nn.out;omega);clear hx e0 e1 e2 e3 e4 e5 e6 e7 CP;go_upto_region 6 with fail
 refine aA ?_;intro V5 hV5;have BM:Hid (ar V5 V4.heap.size #[.slice none 0 0,.slice none 0 0] 177):=by rw[hV5];exact hid (ar.new _ _ _)
 have E5:Hid (Ext V4 V5):=by rw[hV5];exact hid ((Ext.refl _).alloc _)
 clear hV5;obtain⟨M,TY⟩:=ag V4.heap.size;rw[<-TY]at BM ⊢;have B1:=hid (B1.ext E5);have B2:=hid (B2.ext E5);have HX:=hid (HX.trans (E5.below.mono HX.size));have T9:w.heap.size+1+1<=M:=by have:=Nn.out;omega
 have hMl:M<V5.heap.size:=BM.lt;have CM:=hid (CM.out V5 M HX (by omega) BM);clear E5 Nn BM TY;have e0:V5.cell? ⟨w.heap.size,0,none⟩=some (.int .u8 k):=B1.cell 0;have e1:V5.cell? ⟨w.heap.size,1,none⟩=some (.int .u64 (wd st 0).toNat):=B1.cell 1;have e2:V5.cell? ⟨w.heap.size,2,none⟩=some (.int .u64 (wd st 1).toNat):=B1.cell 2;have e3:V5.cell? ⟨w.heap.size,3,none⟩=some (.int .u64 (wd st 2).toNat):=B1.cell 3;have e4:V5.cell? ⟨w.heap.size,4,none⟩=some (.int .u64 (wd st 3).toNat):=B1.cell 4;have e5:V5.cell? ⟨w.heap.size,5,none⟩=some (.int .i64 tn):=B1.cell 5;have e6:V5.cell? ⟨w.heap.size,6,none⟩=some (.int .i64 tx):=B1.cell 6;have e7:V5.cell? ⟨w.heap.size,7,none⟩=some (.slice p nl c):=B1.cell 7;go_wp2_with fail
 refine CM.mono ?_;rintro e V6 ⟨rfl,⟨F,hF,hFM,hFo⟩,hx,hsz⟩;have B2:=hid (B2.keeps hx ⟨B2.lt,by omega⟩);have HX:=hid (HX.trans (hx.mono fun x (hx:x<w.heap.size)=>⟨by omega,by omega⟩:ae (· <w.heap.size) V5 V6).below);have MF:=hid hF;have FO:=hid hFo;have Vm:M<V6.heap.size:=(hF.lt M hF.fm).2;clear hx hF hFM hFo hsz CM B1 e0 e1 e2 e3 e4 e5 e6 e7;unfold aB;go_upto_region 7 with fail
 refine aA ?_;intro V7 hV7;have X7:Hid (ar V7 V6.heap.size (aB p2) 181):=by rw[hV7];exact hid (ar.new _ _ _)
 have E7:Hid (Ext V6 V7):=by rw[hV7];exact hid ((Ext.refl _).alloc _)
 clear hV7;obtain⟨sv,fv,hM,r1,r1F,r2,r2F⟩:=MF.row;obtain⟨bq,hbq⟩:=ag V6.heap.size;rw[<-hbq]at X7 ⊢;have anZ:M<bq:=by omega
 have BM:=hid (hM.ext E7);have HX:=hid (HX.trans (E7.below.mono HX.size));have B2:=hid (B2.ext E7);rw[HL3.out]at r2;rw[<-HN.out]at r1;obtain⟨sa,sc,rfl⟩:=ownsRow_form r1;obtain⟨fa,fc,rfl⟩:=ownsRow_form r2;have R1:=hid (ak r1 E7.below);have R2:=hid (ak r2 E7.below);have ahl:bq<V7.heap.size:=X7.lt;clear MF FO hM r1 r2 r1F r2F E7 hbq Vm;obtain⟨n2,jg⟩:=ag ((dY p2.fst).length);obtain⟨n3,GV⟩:=ag ((dY p2.cW).length);obtain⟨X2s,hX2⟩:=ag ((dY p2.fst).map aM);obtain⟨X3s,hX3⟩:=ag ((dY p2.cW).map aM);obtain⟨em,Ua⟩:=ag p2.emp;have L2:Hid (∀ W,aa V7 W->ah 103 #[.pointer (some ⟨bq,0,none⟩)] W fun e w'=>∃ v,e=.returned v/\w'.ownsRow W.heap.size 3 1 v n2 X2s/\aa W w'):=hid fun W hW=>by rw[jg,hX2];exact tk p2.fst bq 0 W (fZ.fst (X7.below hW X7.lt))
 have L3:Hid (∀ W,aa V7 W->ah 103 #[.pointer (some ⟨bq,7,none⟩)] W fun e w'=>∃ v,e=.returned v/\w'.ownsRow W.heap.size 3 1 v n3 X3s/\aa W w'):=hid fun W hW=>by rw[GV,hX3];exact tk p2.cW bq 7 W (fZ.cW (X7.below hW X7.lt))
 have b0:V7.cell? ⟨M,0,none⟩=some (.slice sa n sc):=BM.cell 0;have oL:V7.cell? ⟨bq,14,none⟩=some (.bool em):=by rw[Ua];exact X7.cell 14
 have uN:=hid jg;have HN3:=hid GV;have gF:=hid hX2;have oy:=hid hX3;have HEM:=hid Ua;clear jg GV hX2 hX3 Ua X7;have ahp:M<V7.heap.size:=by omega
 refine aL false (fun _=>False) (by kernel_rfl) 12 [0,1,3,7,0,16,0,112,0,256,1023,0,4095] (fun i=>i==5 || i==7 || i==11 || i==12) (by kernel_rfl) (fun i=>if i=5 then aX.UQ V7.heap.size n2 X2s else if i=7 then aX.UQ V7.heap.size n3 X3s else if i=11 then aX.uQ V7.heap.size #[.slice none 0 0,.slice none 0 0,.slice none 0 0,.slice none 0 0,.bool false] 118 else aX.any _) ?_;intro C hC hne;have HC:=hid hC;have f1:=aC hC (p:=⟨M,0,none⟩) ahp (fun h=>h) b0;have f2:=aC hC (p:=⟨bq,14,none⟩) ahl (fun h=>h) oL;clear hC b0 oL
 repeat (refine au (fun K hK=>?_);first | (refine cg rfl ?_;try go_simp;refine hK _ _ ?_;clear hK K) | (refine bV rfl rfl ?_;unfold aF;go_simp;refine hK _ _ ?_;clear hK K))
 refine au (fun K hK=>?_);refine ct rfl rfl (aX.UQ V7.heap.size n2 X2s) rfl (fun W hW hN=>?_) (fun v hv=>?_)
 ·have hM:=(HC.out W).1 hW
  clear hW;go_simp;refine bI ((L2 W hM.below).mono ?_);rintro e w2 ⟨u,rfl,ho,hx⟩;exact⟨_,rfl,Move.ai hx,ownsRow_form ho,aH ho hM.size⟩
 obtain⟨a5,c5,rfl⟩:=hv;go_simp;refine hK _ _ ?_;clear hK K
 repeat (refine au (fun K hK=>?_);first | (refine cg rfl ?_;try go_simp;refine hK _ _ ?_;clear hK K) | (refine bV rfl rfl ?_;unfold aF;go_simp;refine hK _ _ ?_;clear hK K))
 refine au (fun K hK=>?_);refine ct rfl rfl (aX.UQ V7.heap.size n3 X3s) rfl (fun W hW hN=>?_) (fun v hv=>?_)
 ·have hM:=(HC.out W).1 hW
  clear hW;go_simp;refine bI ((L3 W hM.below).mono ?_);rintro e w2 ⟨u,rfl,ho,hx⟩;exact⟨_,rfl,Move.ai hx,ownsRow_form ho,aH ho hM.size⟩
 obtain⟨a6,c6,rfl⟩:=hv;go_simp;refine hK _ _ ?_;clear hK K
 repeat (refine au (fun K hK=>?_);first | (refine cg rfl ?_;try go_simp;refine hK _ _ ?_;clear hK K) | (refine bV rfl rfl ?_;unfold aF;go_simp;refine hK _ _ ?_;clear hK K))
 refine au (fun K0 hK=>?_);refine ct rfl rfl (aX.uQ V7.heap.size #[.slice none 0 0,.slice none 0 0,.slice none 0 0,.slice none 0 0,.bool false] 118) rfl (fun W hW hN=>?_) (fun v hv=>?_)
 ·have hM:=(HC.out W).1 hW
  have s7:=hM.size;clear hW hN hK K0;go_simp;exact⟨Move.ai ((Ext.refl _).alloc _).below,⟨_,rfl⟩,fun b hb=>by cases hb;exact⟨ar.new _ _ _,s7⟩⟩
 obtain⟨bx,rfl⟩:=hv;go_simp;refine hK _ _ ?_;clear hK K0;refine bM (fun W hW hH=>?_);have hM:=(HC.out W).1 hW;have hb8:(aX.uQ V7.heap.size #[.slice none 0 0,.slice none 0 0,.slice none 0 0,.slice none 0 0,.bool false] 118).H (.pointer (some ⟨bx,0,none⟩)) W:=hH _ (aw (show _=some _ from rfl:_[0]? =some _));have L6:Hid (W.ownsRow V7.heap.size 3 1 (.slice a6 n3 c6) n3 X3s):=hid (hH _ (aw (show _=some _ from rfl:_[1]? =some _)));have L5:Hid (W.ownsRow V7.heap.size 3 1 (.slice a5 n2 c5) n2 X2s):=hid (hH _ (aw (show _=some _ from rfl:_[2]? =some _)));have BX:=hid (hb8 bx rfl);have XW:=hid hM.below;have U8:V7.heap.size<=W.heap.size:=hM.size;have L4:=hid (ak R1 hM.below);have LF:=hid (ak R2 hM.below);have DM:=hid (BM.below hM.below BM.lt);clear hM hW hH HC hne f1 f2 hb8 L2 L3 R1 R2 BM;obtain⟨x0,x1,x2,x3,x4⟩:=BX.1.five;have z0:=BX.1.frozen 0;have z1:=BX.1.frozen 1;have z2:=BX.1.frozen 2;have z3:=BX.1.frozen 3;have z4:=BX.1.frozen 4;have zD:bx≠M:=by have:=BX.2;omega
 have D2:=(((((DM.other (p:=⟨bx,0,none⟩) zD (.slice sa n sc)).other (p:=⟨bx,1,none⟩) zD (.slice none 0 0)).other (p:=⟨bx,2,none⟩) zD (.slice a5 n2 c5)).other (p:=⟨bx,3,none⟩) zD (.slice a6 n3 c6)).other (p:=⟨bx,4,none⟩) zD (.bool em));have k0:=D2.cell 1;simp only[List.getElem?_toArray,List.getElem?_cons_zero,List.getElem?_cons_succ]at k0;clear D2;go_wp2;clear k0;refine aA ?_;intro W2 hW2;have BD:Hid (ar W2 bx #[.slice sa n sc,.slice none 0 0,.slice a5 n2 c5,.slice a6 n3 c6,.bool em] 118):=by rw[hW2];exact hid BX.1.acb
 have K2:ae (· ≠bx) W W2:=by rw[hW2];exact wE _ _ _ _ _ _ _
 clear hW2 x0 x1 x2 x3 x4 z0 z1 z2 z3 z4;have hbl:∀ {base:Nat} {e:TypeId} {size n:Nat} {u:Value} {xs:List Value},W.ownsRow base e size u n xs->118≠e->W2.ownsRow base e size u n xs:=fun h he=>aj h K2 fun x hx=>cy BX.1 h he x hx
 have M4:=hid (hbl L4 (by decide));have M5:=hid (hbl L5 (by decide));have M6:=hid (hbl L6 (by decide));have MF:=hid (hbl LF (by decide));have hVb:V7.heap.size<=bx:=BX.2;have E2:=hid ((B2.below XW B2.lt).keeps K2 (by have:=B2.lt;show w.heap.size+1≠bx;omega));have X2:Hid (aa w W2):=hid ((HX.trans (XW.mono HX.size)).trans (K2.mono fun x (hx:x<w.heap.size)=>by have:=B2.lt;omega:ae (· <w.heap.size) W W2).below);have akq:W.heap.size<=W2.heap.size:=K2.size;have an0:=B2.lt;have hb3:bx<W2.heap.size:=BD.lt;clear K2 hbl L4 L5 L6 LF BX XW DM B2 HX;go_loopw [53] (fun i wr=>∃ (kk:Nat) (u:Value),kk<=n/\i=.int .i64 kk/\ar wr bx #[.slice sa n sc,u,.slice a5 n2 c5,.slice a6 n3 c6,.bool em] 118/\bw W2.heap.size wr u ((m2.cK.map dY).take kk)/\ae (fun x=>x<W2.heap.size/\x≠bx) W2 wr) (fun i _=>n-(intOf i).toNat);case atStart=>exact⟨0,_,by omega,rfl,BD,bw.nil _ _,ae.refl _ _⟩
 case round=>
  obtain⟨kk,u,hk,rfl,hb,ho,hx⟩:=hrel;obtain⟨w5,rfl⟩:=ag (wr:World);have Nb:aa w w5:=X2.trans (hx.mono fun x (yX:x<w.heap.size)=>⟨aD yX X2.size,by omega⟩:ae (· <w.heap.size) W2 w5).below;by_cases hlt:kk<n
  ·obtain⟨f,hl⟩:∃ l,m2.cK[kk]? =some l:=⟨_,az (by have:=HL3.out;omega)⟩
   have eT:(m2.cK.map dY).take (kk+1)=(m2.cK.map dY).take kk++ [dY f]:=by rw[List.take_add_one,aO,hl];rfl
   have hlen:((m2.cK.map dY).take kk).length<=1000000:=by rw[List.length_take];omega
   have eE:(kk:Int)<n:=by omega
   have hrow:=aj MF hx fun x yX=>⟨(MF.lt x yX).2,cy BD MF (by decide) x yX⟩
   obtain⟨g,cap,efv⟩:∃ g cap,Value.slice fa n fc=.slice (some ⟨g,0,none⟩) n cap:=by
    rcases hrow.2 with⟨_,e2⟩ | ⟨g,cap,cur,e2,_⟩
    ·exfalso;omega
    ·exact⟨g,cap,e2⟩
   injection efv with e1 e2 e3
   subst e1 e3;have Am:g<w5.heap.size:=(hrow.lt g rfl).2;have mQ:n<=fc:=by
    rcases hrow.2 with⟨e,_⟩ | ⟨g',c',cur,e4,_,_,h9,_⟩
    ·cases e
    ·cases e4;omega
   have ce:∀ i,i<7->w5.cell? ⟨g,kk*7+i,none⟩=some (.int .u64 (bW f i).toNat):=fun i hi=>by
    have:=hrow.cells (g:=g) rfl _ _ (wQ hl hi);rw[Addr.add_mid]at this;simpa using this
   have e0:=ce 0 (by decide);have e1:=ce 1 (by decide);have e2:=ce 2 (by decide);have e3:=ce 3 (by decide);have e4:=ce 4 (by decide);have e5:=ce 5 (by decide);have e6:=ce 6 (by decide);simp only[Nat.add_zero]at e0;obtain⟨us,u1,u2,u3⟩:=ho;obtain⟨ml,pd⟩:=ag us.length;have qQ:ml<=1000000:=by omega
   obtain⟨j,hj⟩:=ag ((dY f).length);rw[<-pd]at u1 u2;have vr:=hid pd;have HJ:=hid hj;obtain⟨ua5,uc5,rfl⟩:=ownsRow_form u2;have U2:=hid u2;have U3:=hid u3;have U1:=hid u1;have HB:=hid hb;have HK:=hid hx;have HT:=hid eT;have hgz:g<w5.heap.size:=Am;clear hl hb hx eT Nb u1 u2 u3 pd hj hlen hrow ce;go_upto_region 11 with fail
   refine aA ?_;intro W6 uM;have Z6:Hid (ar W6 w5.heap.size (cJ (bW f)) 179):=by rw[uM];exact hid (ar.new _ _ _)
   have E6:Hid (Ext w5 W6):=by rw[uM];exact hid ((Ext.refl _).alloc _)
   clear uM e0 e1 e2 e3 e4 e5 e6;have U2:=hid (ak U2 E6.below);have U3:=hid fun i u l hu hl=>ak (U3 i u l hu hl) E6.below
   have HB:=hid (HB.ext E6);have HK:=hid (HK.tr (E6.keeps.mono fun x hx=>aD hx.1 HK.size));have CL:Hid (∀ W,aa W6 W->ah 103 #[.pointer (some ⟨w5.heap.size,0,none⟩)] W fun e w'=>∃ v,e=.returned v/\w'.ownsRow W.heap.size 3 1 v j ((dY f).map aM)/\aa W w'):=hid fun W hW=>by rw[HJ.out];exact tk f _ 0 W (fZ.QM (Z6.below hW Z6.lt))
   clear E6 Z6;refine aL false (fun _=>False) (by kernel_rfl) 4 [0,1,0,4,15,31,63] (fun i=>i==2 || i==3 || i==4 || i==6) (by kernel_rfl) (fun i=>if i=2 then aX.row W2.heap.size 3 1 j ((dY f).map aM)else if i=3 then aX.Kr W2.heap.size j ((dY f).map aM)else aX.any _) ?_;intro C hC hne;have HC:=hid hC;have f0:=aC hC (p:=⟨bx,1,none⟩) (by have:=HB.lt;exact this) (fun h=>h) (HB.cell 1);clear hC
   repeat (refine au (fun K hK=>?_);first | (refine cg rfl ?_;try go_simp;refine hK _ _ ?_;clear hK K) | (refine bV rfl rfl ?_;unfold aF;go_simp;refine hK _ _ ?_;clear hK K))
   refine au (fun K hK=>?_);refine ct rfl rfl (aX.row W2.heap.size 3 1 j ((dY f).map aM)) rfl (fun W hW hN=>?_) (fun v hv=>?_)
   ·have hM:=(HC.out W).1 hW
    clear hW;go_simp;refine bI ((CL W hM.below).mono ?_);rintro e w2 ⟨vp,rfl,ho,hx⟩;exact⟨_,rfl,Move.ai hx,ownsRow_form ho,aH ho (Nat.le_trans HK.size hM.size)⟩
   obtain⟨a7,c7,rfl⟩:=hv;go_simp;refine hK _ _ ?_;clear hK K;refine au (fun K hK=>?_);refine ct rfl rfl (aX.Kr W2.heap.size j ((dY f).map aM)) rfl (fun W hW hN=>?_) (fun v hv=>?_)
   ·have hro:W.ownsRow W2.heap.size 3 1 (.slice a7 j c7) j ((dY f).map aM):=hN.at 0 rfl (by kernel_rfl)
    have HRO:=hid hro;clear hW hN hK K hro;go_simp;exact⟨Move.ext ((Ext.refl _).alloc _),⟨_,rfl⟩,fun b hb=>by cases hb;exact⟨_,ar.new _ _ _,HRO.alloc _⟩⟩
   obtain⟨bz,rfl⟩:=hv;go_simp;refine hK _ _ ?_;clear hK K;refine bM (fun W hW hH=>?_);have hM:=(HC.out W).1 hW;obtain⟨ux,Zl,hux⟩:∃ ux,ar W bz #[ux] 39/\W.ownsRow W2.heap.size 3 1 ux j ((dY f).map aM):=hH _ (aY ..) bz rfl;obtain⟨a8,c8,rfl⟩:=ownsRow_form hux;have HBX:=hid Zl;have HUX:=hid hux;have YB:=hid (HB.below hM.below HB.lt);have YO:=hid (ak U2 hM.below);have Y3:=hid fun i u l hu hl=>ak (U3 i u l hu hl) hM.below
   have YK:=hid (HK.tr (ae.ai hM.below fun x hx=>aD hx.1 HK.size));have yY:W2.heap.size<=W.heap.size:=Nat.le_trans HK.size hM.size;clear hM hW hH f0 HC HB HK Zl hux U2 U3;go_wp2_with (at_builtin;refine Hid.out ?_);refine hid ?_;refine wpList_append_own_at _ rfl (.tmp 58) (.tmp 60) 27 rfl W2.heap.size 39 iL (.slice none 0 0) 1 24 Tryz.underlying27 zY mR mS mU rfl (by decide) _ _ _ rfl YO ⟨bz,0,none⟩ 1 1 [.slice a8 j c8] rfl rfl HBX.WC (by simp[Value.oneCell']) (by unfold maxLen;omega) (by omega) yY ?_;intro v' w3 hown' hgrow hh hat;have Xa:=hid hown';have HG:=hid hgrow;obtain⟨ua3,uc3,rfl⟩:=ownsRow_form hown';have Zm:∀ x,(Value.slice ua5 ml uc5).ownBlock=some x->W2.heap.size<=x:=(fun x e=>(YO.lt x e).1);have ZB:=hid (YB.grown hgrow (fun e=>by have:=Zm _ e.symm;omega));have ZK:=hid (YK.tr (ae.bB hgrow fun x hx=>⟨aD hx.1 yY,fun e=>by have:=Zm x e.symm;omega⟩));have YR:W.heap.size<=w3.heap.size:=hgrow.size;have p1:=ZB.cell 1;have q1:=ZB.frozen 1;clear hown' hgrow hh hat Zm;go_wp2;go_roundw;case rel=>
    refine⟨kk+1,_,by omega,by go_num,ZB.set 1 _,?_,ZK.setCell (p:=⟨bx,1,none⟩) (fun h=>h.2 rfl) _⟩;have hs:bw W2.heap.size w3 (.slice ua3 (ml+1) uc3) ((m2.cK.map dY).take kk++ [dY f]):=bw.snoc (w:=W) (v:=.slice ua5 ml uc5) (us:=us) (u:=.slice a8 j c8) (by rw[<-vr.out];exact U1) (by rw[<-vr.out];exact YO) (fun i u l hu hl=>Y3 i u l hu hl) (by rw[<-HJ.out];exact HUX) HG (by rw[<-vr.out];exact Xa);rw[HT.out];exact hs.keeps ((ae.refl (· ≠bx) _).setCell (p:=⟨bx,1,none⟩) (fun h=>h rfl) _) (fun x h1 _ e=>by omega)
   case measure=>simp[intOf];omega
  ·obtain rfl:kk=n:=by omega
   clear hlt hk;have eE:¬ ((kk:Int)<kk):=by omega
   have eT:(m2.cK.map dY).take kk=m2.cK.map dY:=by rw[show kk=(m2.cK.map dY).length by rw[aQ,HL3.out]];exact List.take_length
   rw[eT]at ho;obtain⟨ua,uc,acZ⟩:=ho.form;rw[aQ,HL3.out]at acZ;subst acZ;have R0:=hid ho;have XA:=hid Nb;have CB:=hid hb;have HK:=hid hx;have C2:=hid (E2.keeps hx ⟨E2.lt,by omega⟩);clear ho hb hx eT Nb;obtain⟨p0,p1,p2,p3,p4⟩:=CB.five;obtain⟨y0,y1,y2,y3,y4⟩:=C2.five;have z0:=C2.frozen 0;have z1:=C2.frozen 1;have z2:=C2.frozen 2;have z3:=C2.frozen 3;have z4:=C2.frozen 4;go_wp2;refine bA ?_;intro W9 gj;have E9:Hid (ar W9 (w.heap.size+1) #[.slice sa kk sc,.slice ua kk uc,.slice a5 n2 c5,.slice a6 n3 c6,.bool em] 118/\ae (· ≠w.heap.size+1) w5 W9):=by rw[gj];exact hid ⟨C2.acb,wE _ _ _ _ _ _ _⟩
   clear gj z0 z1 z2 z3 z4 y0 y1 y2 y3 y4 p0 p1 p2 p3 p4;obtain⟨m0,m1,m2',m3,m4⟩:=E9.1.five;have key:∀ {base:Nat} {e:TypeId} {size n:Nat} {u:Value} {xs:List Value},w.heap.size<=base->W2.ownsRow base e size u n xs->118≠e->W9.ownsRow w.heap.size e size u n xs:=fun hb h he=>aH (aj (aj h HK fun x hx=>⟨(h.lt x hx).2,cy BD h he x hx⟩) E9.2 fun x hx=>cy E2 h he x hx) hb
   refine bodyPost_ret (v:=.tuple #[.agg #[.slice sa kk sc,.slice ua kk uc,.slice a5 n2 c5,.slice a6 n3 c6,.bool em],.int .i64 0]) (by simp[results,Tryz.results59,go_sem,m0,m1,m2',m3,m4]) rfl ⟨_,rfl,⟨_,_,_,_,by rw[HEM.out],?_,?_,?_,?_⟩,XA.trans (E9.2.mono fun x (hx:x<w.heap.size)=>by show x≠w.heap.size+1;omega:ae (· <w.heap.size) w5 W9).below⟩
   ·show W9.ownsRow _ _ _ _ m2.aN.length _;rw[<-HN.out];exact key (aG _) M4 (by decide)
   ·exact(R0.keeps E9.2 fun x h1 _=>by show x≠w.heap.size+1;omega).base (by omega)
   ·show W9.ownsRow _ _ _ _ (dY p2.fst).length ((dY p2.fst).map aM);rw[<-uN.out, <-gF.out];exact key (by omega) M5 (by decide)
   ·show W9.ownsRow _ _ _ _ (dY p2.cW).length ((dY p2.cW).map aM);rw[<-HN3.out, <-oy.out];exact key (by omega) M6 (by decide)
end
section
open Go Go.RowKit Go.Shelf Go.Maps
attribute [local go_sem] encS
theorem ar.eight {w:World} {b:Nat} {x0 x1 x2 x3 x4 x5 x6 x7:Value} {t:TypeId} (h:ar w b #[x0,x1,x2,x3,x4,x5,x6,x7] t):w.cell? ⟨b,0,none⟩=some x0/\w.cell? ⟨b,1,none⟩=some x1/\w.cell? ⟨b,2,none⟩=some x2/\w.cell? ⟨b,3,none⟩=some x3/\w.cell? ⟨b,4,none⟩=some x4/\w.cell? ⟨b,5,none⟩=some x5/\w.cell? ⟨b,6,none⟩=some x6/\w.cell? ⟨b,7,none⟩=some x7:=
 ⟨h.cell 0,h.cell 1,h.cell 2,h.cell 3,h.cell 4,h.cell 5,h.cell 6,h.cell 7⟩
theorem dm (k:Nat) (s:BS) (mn mx:Int) (a:Value):(Tryz.prog.info? 97).map (·.size)=some (aq k s mn mx a).size:=by show _=some 8;kernel_rfl
theorem kB (k:Nat) (s:BS) (mn mx:Int) (p:Option Addr) (n c:Nat):(aq k s mn mx (.slice p n c)).all (·.oneCell')=true:=by unfold aq;simp[Value.oneCell']
def eL:Array Value:= #[.int .u8 0,.int .u64 0,.int .u64 0,.int .u64 0,.int .u64 0,.int .i64 0,.int .i64 0,.slice none 0 0]
theorem bT (k:Nat) (mn mx:Int) (a:Value):aq k 0 mn mx a= #[.int .u8 k,.int .u64 0,.int .u64 0,.int .u64 0,.int .u64 0,.int .i64 mn,.int .i64 mx,a]:=by unfold aq;simp only[Us];rfl
theorem aK.one {F:Nat->Prop} {w V:World} {k n c b:Nat} {s:BS} {mn mx:Int} {p:Option Addr} {t:RX} (hF:∀ x,F x->x<w.heap.size) (h:aK F w (.agg (aq k s mn mx (.slice p n c))) t) (hk:aa w V) (hB:ar V b (aq k s mn mx (.slice p n c)) 97) (hb:w.heap.size<=b) (k':Nat) (s':BS) (mn' mx':Int): aK (fun x=>x<V.heap.size/\(F x\/w.heap.size<=x)) V (.agg (aq k' s' mn' mx' (.slice (some ⟨b,0,none⟩) 1 1))) (.nd k' s' mn' mx' [t]):=by
 have h2:aK (fun x=>x<V.heap.size/\(F x\/w.heap.size<=x)) V (.agg (aq k s mn mx (.slice p n c))) t:=(h.keeps (ae.ai hk fun _ h=>h:ae (· <w.heap.size) w V) hF).mono fun x hx=>⟨aD (hF x hx) hk.size,.inl hx⟩
 refine .mk k' s' mn' mx' [t] _ b 0 1 (fun _=>.agg (aq k s mn mx (.slice p n c))) (fun e=>by cases e) (fun _=>⟨rfl,⟨hB.lt,.inr hb⟩,hB.lt,by simp⟩) (fun i x hi=>?_) (fun i x hi=>?_)
 ·have hl:=(List.getElem?_eq_some_iff.1 hi).1
  obtain rfl:i=0:=by simpa using hl
  refine⟨_,rfl,fun j u hj=>?_⟩;simpa using(hB.cell j).trans hj
 ·have hl:=(List.getElem?_eq_some_iff.1 hi).1
  obtain rfl:i=0:=by simpa using hl
  cases hi
  exact h2
theorem Fk (v:Value) (t:RX) (F:Nat->Prop) (w:World) (hF:∀ x,F x->x<w.heap.size) (h:aK F w v t): ah 107 #[v] w fun e w'=>∃ u,e=.returned u/\aK (fun x=>x<w'.heap.size/\(F x\/w.heap.size<=x)) w' u (.nd 6 0 0 0 [t])/\aa w w':=by
 obtain⟨p,c,rfl⟩:=h.form;have H:=hid h;obtain⟨k,hk⟩:=ag t.kind;obtain⟨nl,tK⟩:=ag t.subs.length;obtain⟨st,hst⟩:=ag t.set;obtain⟨tn,tq⟩:=ag t.mn;obtain⟨tx,KQ⟩:=ag t.mx;rw[<-hk, <-tK, <-hst, <-tq, <-KQ]at H ⊢;clear h hk tK hst tq KQ;unfold aq;go_enter Tryz.func107,Tryz.ntmps107;go_wp2;refine bA ?_;intro V hV;have B2:Hid (ar V (w.heap.size+1+1) (aq k st tn tx (.slice p nl c)) 97):=by rw[hV];exact hid ((ar.new _ _ _).at (by simp))
 have R1:Hid (ar V (w.heap.size+1) #[.int .u8 6,.int .u64 0,.int .u64 0,.int .u64 0,.int .u64 0,.int .i64 0,.int .i64 0,.slice (some ⟨w.heap.size+1+1,0,none⟩) 1 1] 97):=by rw[hV];exact hid (((ar.new _ _ _).at (by simp)).alloc _)
 have X1:Hid (aa w V):=by rw[hV];exact hid ((((Ext.refl w).alloc _).alloc _).alloc _).below
 clear hV;obtain⟨m0,m1,m2,m3,m4,m5,m6,m7⟩:=R1.eight;refine bodyPost_ret (v:=.agg #[.int .u8 6,.int .u64 0,.int .u64 0,.int .u64 0,.int .u64 0,.int .i64 0,.int .i64 0,.slice (some ⟨w.heap.size+1+1,0,none⟩) 1 1]) (by simp[results,Tryz.results107,go_sem,m0,m1,m2,m3,m4,m5,m6,m7]) rfl ⟨_,rfl,?_,X1⟩;have e:=aK.one hF H X1 B2 (by omega) 6 0 0 0;rw[bT]at e;exact e
theorem Np (v:Value) (t:RX) (mn mx:Int) (F:Nat->Prop) (w:World) (hF:∀ x,F x->x<w.heap.size) (h:aK F w v t): ah 108 #[v,.int .i64 mn,.int .i64 mx] w fun e w'=>∃ u,e=.returned u/\aK (fun x=>x<w'.heap.size/\(F x\/w.heap.size<=x)) w' u (.nd 5 0 mn mx [t])/\aa w w':=by
 obtain⟨p,c,rfl⟩:=h.form;have H:=hid h;obtain⟨k,hk⟩:=ag t.kind;obtain⟨nl,tK⟩:=ag t.subs.length;obtain⟨st,hst⟩:=ag t.set;obtain⟨tn,tq⟩:=ag t.mn;obtain⟨tx,KQ⟩:=ag t.mx;rw[<-hk, <-tK, <-hst, <-tq, <-KQ]at H ⊢;clear h hk tK hst tq KQ;unfold aq;go_enter Tryz.func108,Tryz.ntmps108;go_wp2;refine bA ?_;intro V hV;have B2:Hid (ar V (w.heap.size+1+1) (aq k st tn tx (.slice p nl c)) 97):=by rw[hV];exact hid ((ar.new _ _ _).at (by simp))
 have R1:Hid (ar V (w.heap.size+1) #[.int .u8 5,.int .u64 0,.int .u64 0,.int .u64 0,.int .u64 0,.int .i64 mn,.int .i64 mx,.slice (some ⟨w.heap.size+1+1,0,none⟩) 1 1] 97):=by rw[hV];exact hid (((ar.new _ _ _).at (by simp)).alloc _)
 have X1:Hid (aa w V):=by rw[hV];exact hid ((((Ext.refl w).alloc _).alloc _).alloc _).below
 clear hV;obtain⟨m0,m1,m2,m3,m4,m5,m6,m7⟩:=R1.eight;refine bodyPost_ret (v:=.agg #[.int .u8 5,.int .u64 0,.int .u64 0,.int .u64 0,.int .u64 0,.int .i64 mn,.int .i64 mx,.slice (some ⟨w.heap.size+1+1,0,none⟩) 1 1]) (by simp[results,Tryz.results108,go_sem,m0,m1,m2,m3,m4,m5,m6,m7]) rfl ⟨_,rfl,?_,X1⟩;have e:=aK.one hF H X1 B2 (by omega) 5 0 mn mx;rw[bT]at e;exact e
end
section
open Go Go.RowKit Go.Shelf Go.Maps
attribute [local go_sem] encS
theorem nV (s:ByteArray) (l:List Nat) (j8:s.data.toList.map (·.toNat)=l) (hn:l.length<=1000000) (w:World): ah 104 #[.string s] w fun e w'=>e=.returned (.agg (aq 2 (pX fun c=>l.contains c) 0 0 (.slice none 0 0)))/\aa w w':=by
 obtain⟨u,hu⟩:=ag (pX fun c=>l.contains c);rw[<-hu];have HU:=hid hu;have hsz:s.size=l.length:=by rw[<-j8];simp
 have HCE:Hid (∀ i x:Nat,l[i]? =some x->∃ h:i<s.size,(s[i]'h).toNat=x):=hid fun i x h=>by
  have hi:i<s.size:=by rw[hsz];exact(List.getElem?_eq_some_iff.1 h).1
  refine⟨hi,?_⟩;have hi2:i<s.data.toList.length:=by simpa using hi
  rw[<-j8,aO,az hi2]at h;have:=Option.some.inj h;rw[<-this,Array.getElem_toList];rfl
 have HL:Hid (∀ c∈l,c<256):=hid fun c hc=>by
  rw[<-j8]at hc;obtain⟨b,_,rfl⟩:=List.mem_map.1 hc;exact b.toNat_lt
 have lN:=hid hsz;have an8:((s.size:Nat):Int)=l.length:=by omega
 clear hu j8 hsz;go_enter Tryz.func104,Tryz.ntmps104;go_wp2;refine aA ?_;intro V hV;have R0:Hid (ar V w.heap.size eL 97):=by rw[hV];exact hid ((ar.new _ _ _).alloc _)
 have B0:Hid (ar V (w.heap.size+1) (encS 0) 56):=by rw[hV,gh];exact hid ((ar.new _ _ _).at (by simp))
 have X0:Hid (aa w V):=by rw[hV];exact hid (((Ext.refl w).alloc _).alloc _).below
 clear hV;go_loopw [7] (fun i wr=>∃ (k:Nat) (s':BS),k<=l.length/\i=.int .i64 k/\(∀ c,c<256->s'.getLsbD c=(l.take k).contains c)/\ar wr (w.heap.size+1) (encS s') 56/\ar wr w.heap.size eL 97/\aa w wr) (fun i _=>l.length-(intOf i).toNat);case atStart=>exact⟨0,0,by omega,rfl,fun c hc=>by simp,B0,R0,X0⟩
 case round=>
  obtain⟨k,s',hk,rfl,hs,hB,hR,hx⟩:=hrel;obtain⟨wo,rfl⟩:=ag (wr:World);have HS:=hid hs;clear hs;by_cases hlt:k<l.length
  ·obtain⟨c,mG⟩:∃ c,l[k]? =some c:=⟨l[k],az hlt⟩
   have jf:c<256:=HL.out c (aw mG);obtain⟨TI,hsc⟩:=HCE.out k c mG;have hw:(encS s')[c/64]? =some (.int .u64 (wd s' (c/64)).toNat):=gM s' (by omega);have hc1:wo.cell? ⟨w.heap.size+1,c/64,none⟩=some (.int .u64 (wd s' (c/64)).toNat):=(hB.cell _).trans hw;have hf:=hB.frozen (c/64);have eT:l.take (k+1)=l.take k++ [c]:=by rw[List.take_add_one,mG];rfl
   have HT:=hid eT;have HB:=hid hB;have HR:=hid hR;have HX:=hid hx;have eE:(k:Int)<l.length:=by omega
   have hkz:(k:Int)<s.size:=by omega
   clear hB hR hx hw eT mG;obtain⟨z,hz⟩:=ag (c/64:Nat);obtain⟨y,hy⟩:=ag (c%64:Nat);have hz4:z<4:=by omega
   have hy4:y<64:=by omega
   have hzi:IntKind.u8.wrap ((c:Int)/64)=(z:Int):=by rw[IntWalk.u8_in _ (by omega)];omega
   have hyi:Int.tmod (c:Int) 64=(y:Int):=by rw[Int.tmod_eq_emod_of_nonneg (by omega)];omega
   have hzI:(z:Int)<4:=by omega
   have hyI:(y:Int)<64:=by omega
   rw[<-hz]at hc1 hf;have HZ:=hid hz;have HY:=hid hy;clear hz hy;go_upto_region 5 with fail
   refine aL false (fun _=>False) (by kernel_rfl) 11 [0,0,3,7,15,31,0,0,192,448,960,2047,4095,8191] (fun i=>i==13) (by kernel_rfl) (fun _=>aX.any _) ?_;intro C hC hne;have HC:=hid hC;have hb9:=HB.lt;have f1:=aC hC (p:=⟨w.heap.size+1,z,none⟩) hb9 (fun h=>h) hc1;clear hC
   repeat (refine au (fun K hK=>?_);first | (refine cg rfl ?_;try go_simp;refine hK _ _ ?_;clear hK K) | (refine bV rfl rfl ?_;unfold aF;go_simp;refine hK _ _ ?_;clear hK K))
   refine bM (fun W hW hH=>?_);have ki:=(HC.out W).1 hW;have BW:=hid (HB.below ki.below HB.lt);have RW:=hid (HR.below ki.below HR.lt);have XW:Hid (aa w W):=hid (HX.trans (ki.below.mono HX.size));have hw:(encS s')[z]? =some (.int .u64 (wd s' z).toNat):=gM s' hz4;have g1:W.cell? ⟨w.heap.size+1,z,none⟩=some (.int .u64 (wd s' z).toNat):=(BW.cell _).trans hw;have gf:=BW.frozen z;clear ki hW hH HC hne f1 hc1 hf HB HR HX hw;go_wp2;go_roundw;case rel=>
    refine⟨k+1,np s' c,by omega,by go_num,fun d hd=>?_,?_,?_,?_⟩
    ·rw[kY s' jf,HS.out d hd,HT.out,List.contains_eq_any_beq,List.contains_eq_any_beq,List.any_append]
     simp
    ·rw[<-vM s' jf, <-HZ.out, <-HY.out];exact BW.set _ _
    ·exact RW.other (by simp) _
    ·exact XW.trans (((ae.refl (· <w.heap.size) _).setCell (p:=⟨w.heap.size+1,z,none⟩) (fun h=>by have h':w.heap.size+1<w.heap.size:=h;omega) _).below)
   case measure=>simp[intOf];omega
  ·have RB:s'=u:=by rw[HU.out];exact BS.Kc fun c hc=>by rw[HS.out c hc,List.take_of_length_le (by omega)]
   subst RB;obtain rfl:k=l.length:=by omega
   obtain⟨c0,c1,c2,c3⟩:=hB.LX;have HR:=hid hR;have HX:=hid hx;have eE:¬ ((l.length:Int)<l.length):=by omega
   have HB:=hid hB;clear hB hR hx;go_wp2_with (refine wpList_store_row rfl 97 (.tmp 2) (.tmp 25) rfl w.heap.size (aq 2 s' 0 0 (.slice none 0 0)) rfl rfl 97 eL HR (dm _ _ _ _ _) rfl (kB _ _ _ _ _ _ _) ?_;refine Hid.out ?_);refine hid ?_;obtain⟨V3,cX⟩:=ag (wo.setRow w.heap.size (aq 2 s' 0 0 (.slice none 0 0)));rw[<-cX];have R9:Hid (ar V3 w.heap.size (aq 2 s' 0 0 (.slice none 0 0)) 97):=by rw[cX];exact hid HR.setRow
   have X9:aa w V3:=by rw[cX];exact HX.trans ((bJ wo w.heap.size _).mono fun x (hx:x<w.heap.size)=>by show x≠_;omega:ae (· <w.heap.size) wo _).below
   clear cX;go_wp2;obtain⟨m0,m1,m2,m3,m4,m5,m6,m7⟩:=R9.eight;exact bodyPost_ret (v:=.agg (aq 2 s' 0 0 (.slice none 0 0))) (by simp[results,Tryz.results104,aq,go_sem,m0,m1,m2,m3,m4,m5,m6,m7]) rfl ⟨rfl,X9⟩
end
section
open Go Go.RowKit Go.Shelf Go.Maps
attribute [local go_sem] encS
theorem ze (n:Nat) (hn:n<256) (w:World): ah 105 #[.int .u8 n] w fun e w'=>∃ s:ByteArray,e=.returned (.string s)/\s.data.toList.map (·.toNat)=dZ n/\aa w w':=by
 obtain⟨r,hr⟩:=ag (n%12);have h12:r<12:=by omega
 have hrn:((n:Int)%12)=r:=by omega
 have hq:dZ n=[[97],[98],[97,98],[97],[98],[99],[97,98,99],[98,99],[10],[0,255],[97],[98]].getD r []:=by unfold dZ;rw[<-hr]
 rw[hq];clear hr hq;have hc:r=0\/r=1\/r=2\/r=3\/r=4\/r=5\/r=6\/r=7\/r=8\/r=9\/r=10\/r=11:=by omega
 rcases hc with rfl | rfl | rfl | rfl | rfl | rfl | rfl | rfl | rfl | rfl | rfl | rfl
 all_goals
  go_enter Tryz.func105,Tryz.ntmps105
  go_wp2;go_ret;exact⟨_,rfl,rfl,((Ext.refl w).alloc _).below⟩
end
section
open Go Go.RowKit Go.Shelf Go.Maps
theorem Tryz.Xb:(Tryz.prog.info? 97).map (fun i=>(i.zero,i.size,i.bytes))=some (some (.agg eL),8,80):=by kernel_rfl
def jX (k:Nat) (a b:RX) (i:Nat):List RX:=([a,b].take i).flatMap (ed k)
def cD (base:Nat) (F:Nat->Prop) (w:World) (v:Value) (l:List RX):Prop:=∃ cs:List (Array Value),cs.length=l.length/\w.ownsRow base 97 8 v l.length (bE cs)/\(∀ c∈cs,c.size=8/\∀ u∈c.toList,u.oneCell'=true)/\
 ∀ (i:Nat) (c:Array Value) (t:RX),cs[i]? =some c->l[i]? =some t->aK F w (.agg c) t
theorem cD.nil (base:Nat) (F:Nat->Prop) (w:World):cD base F w (.slice none 0 0) []:=⟨[],rfl,World.ownsRow_nil _ _ _ _,(fun _ h=>nomatch h),fun i c t h=>by simp at h⟩
theorem cD.form {base:Nat} {F:Nat->Prop} {w:World} {v:Value} {l:List RX} (h:cD base F w v l):∃ a c,v=.slice a l.length c:=by obtain⟨cs,h1,h2,h3,h4⟩:=h;exact ownsRow_form h2
theorem cD.below {base:Nat} {F:Nat->Prop} {w w':World} {v:Value} {l:List RX} (h:cD base F w v l) (hF:∀ x,F x->x<w.heap.size) (hk:aa w w'):cD base F w' v l:=by obtain⟨cs,h1,h2,h3,h4⟩:=h;exact⟨cs,h1,ak h2 hk,h3,fun i c t hi ht=>(h4 i c t hi ht).keeps (ae.ai hk fun _ h=>h:ae (· <w.heap.size) w w') hF⟩
theorem cD.node {base:Nat} {F:Nat->Prop} {w:World} {v:Value} {l:List RX} (h:cD base F w v l) (hF:∀ x,F x->x<w.heap.size) (k:Nat) (s:BS) (mn mx:Int):aK (fun x=>x<w.heap.size/\(F x\/base<=x)) w (.agg (aq k s mn mx v)) (.nd k s mn mx l):=by
 obtain⟨cs,h1,h2,h3,h4⟩:=h;rcases h2.2 with⟨rfl,e2⟩ | ⟨g,cap,cur,rfl,e2,e3,e4,e5,_⟩
 ·have hl:l=[]:=List.eq_nil_of_length_eq_zero e2
  subst hl;exact .leaf _ _ _ _ _ _ _ _
 ·have hg:=(h2.lt g rfl).2
  refine .mk k s mn mx l _ g 0 cap (fun i=>.agg (cs.getD i #[])) (fun e=>⟨_,_,by rw[e];rfl⟩) (fun _=>⟨rfl,⟨hg,.inr e2⟩,hg,e4⟩) (fun i t hi=>?_) (fun i t hi=>?_)
  ·have gJ:=(List.getElem?_eq_some_iff.1 hi).1
   obtain⟨c,hc⟩:∃ c,cs[i]? =some c:=⟨_,az (by omega)⟩;refine⟨c,by rw[bu,hc];rfl,fun j u hj=>?_⟩;have:=h2.cells (g:=g) rfl _ _ (iC (fun c hc=>(h3 c hc).1) hc hj);rw[Addr.add_mid]at this;rw[Nat.zero_add];simpa using this
  ·have gJ:=(List.getElem?_eq_some_iff.1 hi).1
   obtain⟨c,hc⟩:∃ c,cs[i]? =some c:=⟨_,az (by omega)⟩;have:=h4 i c t hc hi;rw[bu,hc];exact this.mono fun x hx=>⟨hF x hx,.inl hx⟩
theorem cD.app {base:Nat} {F:Nat->Prop} {w w':World} {v v':Value} {l l2:List RX} {cs cs2:List (Array Value)} (hF:∀ x,F x->x<base) (hb:base<=w.heap.size) (h1:cs.length=l.length) (h2:w.ownsRow base 97 8 v l.length (bE cs)) (h3:∀ c∈cs,c.size=8/\∀ u∈c.toList,u.oneCell'=true) (h4:∀ (i:Nat) (c:Array Value) (t:RX),cs[i]? =some c->l[i]? =some t->aK F w (.agg c) t) (g1:cs2.length=l2.length) (g3:∀ c∈cs2,c.size=8/\∀ u∈c.toList,u.oneCell'=true) (g4:∀ (i:Nat) (c:Array Value) (t:RX),cs2[i]? =some c->l2[i]? =some t->aK F w (.agg c) t) (ho:w'.ownsRow base 97 8 v' (l.length+l2.length) (bE cs++bE cs2)) (hg:w.grownBy w' v.ownBlock):cD base F w' v' (l++l2):=by
 have key:∀ (c:Array Value) (t:RX),aK F w (.agg c) t->aK F w' (.agg c) t:=fun c t h=>
  h.keeps (ae.bB hg fun x (hx:F x)=>⟨aD (hF x hx) hb,fun e=>by have:=(h2.lt x e.symm).1;have:=hF x hx;omega⟩) fun x hx=>hx
 refine⟨cs++cs2,by simp[h1,g1],by rw[aJ,lX];exact ho,fun c hc=>(List.mem_append.1 hc).elim (h3 c) (g3 c),fun i c t hi ht=>?_⟩;rcases Nat.lt_or_ge i l.length with gJ | gJ
 ·rw[bK (by omega)]at hi ht
  exact key c t (h4 i c t hi ht)
 ·rw[cM (by omega)]at hi ht
  rw[h1]at hi;exact key c t (g4 _ c t hi ht)
theorem cD.ac0 {base:Nat} {F:Nat->Prop} {w w':World} {v v':Value} {l:List RX} {t:RX} {c:Array Value} {cs:List (Array Value)} (hF:∀ x,F x->x<base) (hb:base<=w.heap.size) (h1:cs.length=l.length) (h2:w.ownsRow base 97 8 v l.length (bE cs)) (h3:∀ c∈cs,c.size=8/\∀ u∈c.toList,u.oneCell'=true) (h4:∀ (i:Nat) (c:Array Value) (t:RX),cs[i]? =some c->l[i]? =some t->aK F w (.agg c) t) (g3:c.size=8/\∀ u∈c.toList,u.oneCell'=true) (g4:aK F w (.agg c) t) (ho:w'.ownsRow base 97 8 v' (l.length+1) (bE cs++c.toList)) (hg:w.grownBy w' v.ownBlock):cD base F w' v' (l++ [t]):=by
 refine cD.app (cs2:=[c]) hF hb h1 h2 h3 h4 rfl (fun x hx=>by simp at hx;rw[hx];exact g3) (fun i x y hi hy=>?_) (by rw[show bE [c]=c.toList by unfold bE;simp];exact ho) hg;have hl:=(List.getElem?_eq_some_iff.1 hi).1;obtain rfl:i=0:=by simpa using hl
 cases hi
 cases hy
 exact g4
theorem cD.elem {base:Nat} {F:Nat->Prop} {w:World} {a:Option Addr} {n cap:Nat} {l:List RX} (h:cD base F w (.slice a n cap) l) {i:Nat} {t:RX} (hi:l[i]? =some t): ∃ g p' c',a=some ⟨g,0,none⟩/\n=l.length/\n<=cap/\base<=g/\g<w.heap.size/\ (w.cell? ⟨g,i*8,none⟩=some (.int .u8 t.kind)/\w.cell? ⟨g,i*8+1,none⟩=some (.int .u64 (wd t.set 0).toNat)/\w.cell? ⟨g,i*8+2,none⟩=some (.int .u64 (wd t.set 1).toNat)/\w.cell? ⟨g,i*8+3,none⟩=some (.int .u64 (wd t.set 2).toNat)/\w.cell? ⟨g,i*8+4,none⟩=some (.int .u64 (wd t.set 3).toNat)/\w.cell? ⟨g,i*8+5,none⟩=some (.int .i64 t.mn)/\w.cell? ⟨g,i*8+6,none⟩=some (.int .i64 t.mx)/\w.cell? ⟨g,i*8+7,none⟩=some (.slice p' t.subs.length c'))/\ aK F w (.agg (aq t.kind t.set t.mn t.mx (.slice p' t.subs.length c'))) t:=by
 obtain⟨cs,h1,h2,h3,h4⟩:=h;have gJ:=(List.getElem?_eq_some_iff.1 hi).1;obtain⟨c,hc⟩:∃ c,cs[i]? =some c:=⟨_,az (by omega)⟩;have hr:=h4 i c t hc hi;obtain⟨p',c',e⟩:=hr.form;injection e with e
 subst e;rcases h2.2 with⟨e1,e2⟩ | ⟨g,cap',cur,e1,e2,e3,e4,e5,_⟩
 ·exfalso;omega
 ·injection e1 with a1 a2 a3
  subst a1 a2 a3;have hlt:=h2.lt g rfl;have ce:∀ (j:Nat) (u:Value),(aq t.kind t.set t.mn t.mx (.slice p' t.subs.length c'))[j]? =some u->w.cell? ⟨g,i*8+j,none⟩=some u:=fun j u hj=>by
   have:=h2.cells (g:=g) rfl _ _ (iC (fun c hc=>(h3 c hc).1) hc hj);rw[Addr.add_mid]at this;simpa using this
  exact⟨g,p',c',rfl,rfl,e4,hlt.1,hlt.2,⟨ce 0 _ rfl,ce 1 _ rfl,ce 2 _ rfl,ce 3 _ rfl,ce 4 _ rfl,ce 5 _ rfl,ce 6 _ rfl,ce 7 _ rfl⟩,hr⟩
theorem I8 {cs:List (Array Value)} {j:Nat} {u:Value} (h:∀ c∈cs,c.size=8) (hj:(bE cs)[j]? =some u):∃ c,cs[j/8]? =some c/\c[j%8]? =some u:=by have hl:=(List.getElem?_eq_some_iff.1 hj).1;rw[fY h]at hl;have hc:cs[j/8]? =some (cs[j/8]'(by omega)):=az (by omega);have hs:=h _ (aw hc);have hu:(cs[j/8]'(by omega))[j%8]? =some ((cs[j/8]'(by omega))[j%8]'(by omega)):=Array.getElem?_eq_getElem (by omega);have:=iC h hc hu;rw[show j/8*8+j%8=j by omega,hj]at this;exact⟨_,hc,by rw[hu, <-Option.some.inj this]⟩
theorem aK.aht {F:Nat->Prop} {w:World} {k n c:Nat} {s:BS} {mn mx:Int} {p:Option Addr} {l:List RX} (h:aK F w (.agg (aq k s mn mx (.slice p n c))) (.nd k s mn mx l)) (hl:l≠[]): ∃ b off cs,p=some ⟨b,off,none⟩/\F b/\b<w.heap.size/\n=l.length/\cs.length=l.length/\(∀ c∈cs,c.size=8/\∀ u∈c.toList,u.oneCell'=true)/\(∀ (i:Nat) (c:Array Value) (t:RX),cs[i]? =some c->l[i]? =some t->aK F w (.agg c) t)/\∀ (j:Nat) (u:Value),(bE cs)[j]? =some u->w.cell? ⟨b,off+j,none⟩=some u:=by
 obtain⟨t0,ht0⟩:∃ t,l[0]? =some t:=by
  cases l with
  | nil=>exact absurd rfl hl
  | cons x l=>exact⟨x,rfl⟩
 obtain⟨b,off,p',c',rfl,hb,rV,mQ,_,_⟩:=h.elem ht0;have hn:n=l.length:=by obtain⟨p2,c2,e⟩:=h.form;simp[aq,RX.subs,RX.kind,RX.set,RX.mn,RX.mx]at e;exact e.2.1
 have key:∀ i:Nat,∃ c:Array Value,∀ t,l[i]? =some t->(c.size=8/\∀ u∈c.toList,u.oneCell'=true)/\aK F w (.agg c) t/\∀ (o:Nat) (u:Value),c[o]? =some u->w.cell? ⟨b,off+i*8+o,none⟩=some u:=fun i=>by
  rcases e:l[i]? with _ | t
  ·exact⟨#[],fun t h=>by cases h⟩
  ·obtain⟨b2,fV,p2,c2,e2,_,_,_,⟨f0,f1,f2,f3,f4,f5,f6,f7⟩,hr⟩:=h.elem e
   cases e2
   refine⟨aq t.kind t.set t.mn t.mx (.slice p2 t.subs.length c2),fun t' ht'=>?_⟩;cases ht';refine⟨cL _ _ _ _ _ _ _,hr,fun o u ho=>?_⟩;have hol:=(Array.getElem?_eq_some_iff.1 ho).1;have h8:(aq t.kind t.set t.mn t.mx (.slice p2 t.subs.length c2)).size=8:=rfl;rw[h8]at hol;have hc:o=0\/o=1\/o=2\/o=3\/o=4\/o=5\/o=6\/o=7:=by omega
   rcases hc with rfl | rfl | rfl | rfl | rfl | rfl | rfl | rfl<;>cases ho<;>assumption
 refine⟨b,off,(List.range l.length).map fun i=>Classical.choose (key i),rfl,hb,rV,hn,by simp,fun c hc=>?_,fun i c t hi ht=>?_,fun j u hj=>?_⟩
 ·obtain⟨i,hi,rfl⟩:=List.mem_map.1 hc
  have gJ:=List.mem_range.1 hi;exact(Classical.choose_spec (key i) _ (az gJ)).1
 ·have gJ:=(List.getElem?_eq_some_iff.1 ht).1
  rw[aO,List.getElem?_range gJ]at hi;cases hi;exact(Classical.choose_spec (key i) t ht).2.1
 ·obtain⟨c,hc,hu⟩:=I8 (fun c hc=>by
   obtain⟨i,hi,rfl⟩:=List.mem_map.1 hc
   exact(Classical.choose_spec (key i) _ (az (List.mem_range.1 hi))).1.1) hj
  rw[aO]at hc;have gJ:j/8<l.length:=by
   rcases Nat.lt_or_ge (j/8) l.length with h | h
   ·exact h
   ·rw[aS (by simpa using h)]at hc;cases hc
  rw[List.getElem?_range gJ]at hc;cases hc;have:=(Classical.choose_spec (key (j/8)) _ (az gJ)).2.2 _ _ hu;rw[show off+j/8*8+j%8=off+j by omega]at this;exact this
theorem aK.ac1 {F:Nat->Prop} {w:World} {k n c:Nat} {s:BS} {mn mx:Int} {p:Option Addr} {t:RX} (h:aK F w (.agg (aq k s mn mx (.slice p n c))) t) (hl:t.subs≠[]): ∃ b off cs,p=some ⟨b,off,none⟩/\F b/\b<w.heap.size/\n=t.subs.length/\cs.length=t.subs.length/\(∀ c∈cs,c.size=8/\∀ u∈c.toList,u.oneCell'=true)/\(∀ (i:Nat) (c:Array Value) (x:RX),cs[i]? =some c->t.subs[i]? =some x->aK F w (.agg c) x)/\∀ (j:Nat) (u:Value),(bE cs)[j]? =some u->w.cell? ⟨b,off+j,none⟩=some u:=by
 obtain⟨p',c',e⟩:=h.form;rw[e]at h;have e7:Value.slice p n c=.slice p' t.subs.length c':=by
  injection e with e
  have:=congrArg (fun a:Array Value=>a[7]?) e;simpa[aq]using this
 injection e7 with a1 a2 a3
 subst a1 a2 a3;cases t with
 | nd k s mn mx l=>exact h.aht hl
theorem l8 (F:Nat->Prop) (k:Nat) (hk:k=3\/k=4) (va vb:Value) (a b:RX) (ha:a.fine) (hb:b.fine) (Ki:a.size<=1000) (kJ:b.size<=1000) (w:World) (hFF:∀ x,F x->x<w.heap.size) (hva:aK F w va a) (hvb:aK F w vb b): ah 106 #[.int .u8 k,va,vb] w fun e w'=>∃ u,e=.returned u/\aK (fun x=>x<w'.heap.size/\(F x\/w.heap.size<=x)) w' u (cF k a b)/\aa w w':=by
 obtain⟨iN,vu,ju,jw,jy⟩:=info_parts Tryz.Xb;obtain⟨J,hJ⟩:=ag (cF k a b);rw[<-hJ];have HJ:=hid hJ;clear hJ;obtain⟨pa,ca,rfl⟩:=hva.form;obtain⟨pb,cb,rfl⟩:=hvb.form;have HA:=hid hva;have HB:=hid hvb;have FA:=hid ha;have FB:=hid hb;have SA:=hid Ki;have SB:=hid kJ;obtain⟨ka,hka⟩:=ag a.kind;obtain⟨na,Nq⟩:=ag a.subs.length;obtain⟨sa,ac2⟩:=ag a.set;obtain⟨ma,Dt⟩:=ag a.mn;obtain⟨xa,Xc⟩:=ag a.mx;obtain⟨kb,hkb⟩:=ag b.kind;obtain⟨nb,pZ⟩:=ag b.subs.length;obtain⟨sb,ac3⟩:=ag b.set;obtain⟨mb,oH⟩:=ag b.mn;obtain⟨xb,Fl⟩:=ag b.mx;rw[<-hka, <-Nq, <-ac2, <-Dt, <-Xc]at HA ⊢;rw[<-hkb, <-pZ, <-ac3, <-oH, <-Fl]at HB ⊢;have HKA:=hid hka;have HNA:=hid Nq;have HKB:=hid hkb;have GR:=hid pZ;clear hva hvb ha hb Ki kJ hka Nq ac2 Dt Xc hkb pZ ac3 oH Fl;unfold aq;go_enter Tryz.func106,Tryz.ntmps106;go_wp2;refine aA ?_;intro V hV;have R0:Hid (ar V (w.heap.size+1+1) eL 97):=by rw[hV];exact hid ((ar.at (ar.new _ _ _) (by simp)).alloc _)
 have L0:Hid (ar V (w.heap.size+1+1+1) #[.int .u8 ka,.int .u64 (wd sa 0).toNat,.int .u64 (wd sa 1).toNat,.int .u64 (wd sa 2).toNat,.int .u64 (wd sa 3).toNat,.int .i64 ma,.int .i64 xa,.slice pa na ca,.int .u8 kb,.int .u64 (wd sb 0).toNat,.int .u64 (wd sb 1).toNat,.int .u64 (wd sb 2).toNat,.int .u64 (wd sb 3).toNat,.int .i64 mb,.int .i64 xb,.slice pb nb cb] 97):=by rw[hV];exact hid (ar.at (ar.new _ _ _) (by simp))
 have X0:Hid (Ext w V):=by rw[hV];exact hid (((((Ext.refl w).alloc _).alloc _).alloc _).alloc _)
 have yY:V.heap.size=w.heap.size+1+1+1+1:=by rw[hV];simp
 have qR:=hid yY;clear hV yY;go_loopw [7,14] (fun u i wr=>∃ j:Nat,j<=2/\i=.int .i64 j/\cD V.heap.size F wr u (jX k a b j)/\ae (· <V.heap.size) V wr) (fun _ i _=>2-(intOf i).toNat);case atStart=>exact⟨0,by omega,rfl,cD.nil _ _ _,ae.refl _ _⟩
 case round=>
  obtain⟨j,hj,rfl,hrow,hx⟩:=hrel;obtain⟨wo,rfl⟩:=ag (wr:World);have hZ:=hid hrow;have HX:=hid hx;obtain⟨ru,rc,rfl⟩:=hrow.form;clear hrow hx;by_cases hlt:j<2
  ·have ku:(j:Int)<2:=by omega
   obtain⟨t,kx,nx,sx,mx,xx,px,cx,htj,e0,e1,e2,e3,e4,e5,e6,e7,hT,hkx,Du,hfx,EK⟩:∃ (t:RX) (kx nx:Nat) (sx:BS) (mx xx:Int) (px:Option Addr) (cx:Nat),[a,b][j]? =some t/\wo.cell? ⟨w.heap.size+1+1+1,j*8,none⟩=some (.int .u8 kx)/\wo.cell? ⟨w.heap.size+1+1+1,j*8+1,none⟩=some (.int .u64 (wd sx 0).toNat)/\wo.cell? ⟨w.heap.size+1+1+1,j*8+2,none⟩=some (.int .u64 (wd sx 1).toNat)/\wo.cell? ⟨w.heap.size+1+1+1,j*8+3,none⟩=some (.int .u64 (wd sx 2).toNat)/\wo.cell? ⟨w.heap.size+1+1+1,j*8+4,none⟩=some (.int .u64 (wd sx 3).toNat)/\wo.cell? ⟨w.heap.size+1+1+1,j*8+5,none⟩=some (.int .i64 mx)/\wo.cell? ⟨w.heap.size+1+1+1,j*8+6,none⟩=some (.int .i64 xx)/\wo.cell? ⟨w.heap.size+1+1+1,j*8+7,none⟩=some (.slice px nx cx)/\aK F w (.agg (aq kx sx mx xx (.slice px nx cx))) t/\kx=t.kind/\nx=t.subs.length/\t.fine/\t.size<=1000:=by
    have LB:=L0.keeps HX L0.lt;have Yp:j=0\/j=1:=by omega
    rcases Yp with rfl | rfl
    ·exact⟨a,ka,na,sa,ma,xa,pa,ca,rfl,LB.cell 0,LB.cell 1,LB.cell 2,LB.cell 3,LB.cell 4,LB.cell 5,LB.cell 6,LB.cell 7,HA,HKA,HNA,FA,SA⟩
    ·exact⟨b,kb,nb,sb,mb,xb,pb,cb,rfl,LB.cell 8,LB.cell 9,LB.cell 10,LB.cell 11,LB.cell 12,LB.cell 13,LB.cell 14,LB.cell 15,HB,HKB,GR,FB,SB⟩
   have eT:jX k a b (j+1)=jX k a b j++ed k t:=by unfold jX;rw[List.take_add_one,htj,List.flatMap_append];simp
   have p8:=hid eT;have HT:=hid hT;have HFX:=hid hfx;have HSX:=hid EK;have GX:=hid Du;have Xd:=hid hkx;clear htj eT hT hfx EK Du hkx;go_upto_region 6 with fail
   refine aA ?_;intro W1 hW1;have N1:Hid (ar W1 wo.heap.size (aq kx sx mx xx (.slice px nx cx)) 97):=by rw[hW1];exact hid (ar.new _ _ _)
   have E1:Hid (Ext wo W1):=by rw[hW1];exact hid ((Ext.refl wo).alloc _)
   clear hW1 e0 e1 e2 e3 e4 e5 e6 e7;have hF8:∀ x,x<w.heap.size->x<V.heap.size:=fun x hx=>by have:=qR.out;omega
   have Xe:∀ x,F x->x<V.heap.size:=fun x hx=>hF8 x (hFF x hx)
   have eo:=hid (hZ.below (fun x hx=>aD (Xe x hx) HX.size) E1.below);have kj:Hid (ae (· <V.heap.size) V W1):=hid (HX.tr (E1.keeps.mono fun x (hx:x<V.heap.size)=>aD hx HX.size));have T1:Hid (aK F W1 (.agg (aq kx sx mx xx (.slice px nx cx))) t):=hid (HT.keeps (X0.keeps.tr (kj.mono hF8)) hFF);have f0:W1.cell? ⟨wo.heap.size,0,none⟩=some (.int .u8 kx):=N1.cell 0;have f1:W1.cell? ⟨wo.heap.size,1,none⟩=some (.int .u64 (wd sx 0).toNat):=N1.cell 1;have f2:W1.cell? ⟨wo.heap.size,2,none⟩=some (.int .u64 (wd sx 1).toNat):=N1.cell 2;have f3:W1.cell? ⟨wo.heap.size,3,none⟩=some (.int .u64 (wd sx 2).toNat):=N1.cell 3;have f4:W1.cell? ⟨wo.heap.size,4,none⟩=some (.int .u64 (wd sx 3).toNat):=N1.cell 4;have f5:W1.cell? ⟨wo.heap.size,5,none⟩=some (.int .i64 mx):=N1.cell 5;have f6:W1.cell? ⟨wo.heap.size,6,none⟩=some (.int .i64 xx):=N1.cell 6;have f7:W1.cell? ⟨wo.heap.size,7,none⟩=some (.slice px nx cx):=N1.cell 7;obtain⟨cs,g1,g2,g3,g4⟩:=eo.out;obtain⟨L,hL⟩:=ag (jX k a b j);have hLs:L.length<=2000:=by
    have q:∀ (l:List RX),(∀ x∈l,x.fine/\x.size<=1000)->l.length<=2->(l.flatMap (ed k)).length<=1000*l.length:=fun l=>by
     induction l with
     | nil=>intro _ _;simp
     | cons x l ih=>
      intro hl h2;have i1:=ih (fun y hy=>hl y (bC _ hy)) (by simp at h2;omega);have i2:=(qo hk (hl x (aY ..)).1).2.1;have i3:=xd (ed k x);have i4:=(hl x (aY ..)).2;rw[List.flatMap_cons,aJ,List.length_cons];omega
    rw[hL]
    have i5:=q ([a,b].take j) (fun x hx=>by
     have:=List.mem_of_mem_take hx;simp at this;rcases this with rfl | rfl
     ·exact⟨FA,SA⟩
     ·exact⟨FB,SB⟩) (by rw[List.length_take];simp;omega)
    have:([a,b].take j).length<=2:=by rw[List.length_take];simp;omega
    unfold jX;omega
   rw[<-hL]at g1 g2 g4 ⊢;obtain⟨ml,pd⟩:=ag L.length;rw[<-pd]at g1 g2 hLs ⊢;have HL:=hid hL;have vr:=hid pd;have G1:=hid g1;have G2:=hid g2;have G3:=hid g3;have G4:=hid g4;have hbase:V.heap.size<=W1.heap.size:=kj.size;clear hL pd g1 g2 g3 g4 eo hZ;by_cases hc1:kx=k
   ·have Ku:ed k t=t.subs:=by unfold ed;rw[if_pos (by rw[<-Xd.out];exact hc1)]
    have hne:t.subs≠[]:=fun e=>by
     have h1:=(cS t (s6 HFX)).2.2.2.2.2.2 (by rw[<-Xd.out,hc1];exact hk);rw[e]at h1;simp at h1
    obtain⟨b2,fV,cs2,e2,q1,q2,q3,q4,q5,q6,q7⟩:=T1.out.ac1 hne;subst e2;have aoe:nx<=1000:=by have:=Ab t;have:=xd t.subs;have:=HSX.out;omega
    have Q4:=hid q4;have Q5:=hid q5;have Q6:=hid q6;have Q7:=hid q7;have Zn:=hid Ku;have HQ3:=hid q3;have hb1:((kx:Int)==k)=true:=by simp[hc1]
    clear Ku hne q4 q5 q6 q7 q1 q2 q3 hc1;go_wp2_with (at_builtin;refine Hid.out ?_);refine hid ?_;refine eZ rfl (.tmp 27) (.tmp 29) 95 rfl V.heap.size 97 iN (.agg eL) 8 80 Tryz.underlying95 vu ju jw jy rfl (by decide) (.slice ru ml rc) ml (bE cs) rfl G2 ⟨b2,fV,none⟩ nx cx (bE cs2) rfl (fun o u ho=>by rw[Addr.add_mid];exact Q7 o u ho) (by rw[fY (fun c hc=>(Q5.out c hc).1),Q4.out,HQ3.out]) (fun u hu=>by obtain⟨c,hc,hu⟩:=List.mem_flatMap.1 hu;exact(Q5 c hc).2 u hu) (by unfold maxLen;omega) (by omega) hbase ?_;intro v' w' ho hg kK;have K9:Hid (ae (· <V.heap.size) V w'):=hid (kj.tr (ae.bB hg fun x (hx:x<V.heap.size)=>⟨aD hx hbase,fun e=>by have:=(G2.lt x e.symm).1;omega⟩));have R9:Hid (cD V.heap.size F w' v' (L++t.subs)):=hid (cD.app (cs:=cs) (cs2:=cs2) Xe hbase (by rw[<-vr.out];exact G1) (by rw[<-vr.out];exact G2) G3 G4 Q4 Q5 Q6 (by rw[<-vr.out, <-HQ3.out];exact ho) hg);obtain⟨va',vc',rfl⟩:=ownsRow_form ho;clear ho hg kK;go_wp2;go_roundw;case rel=>
     refine⟨j+1,by omega,by go_num,?_,K9⟩;rw[p8.out,Zn.out, <-HL.out];exact R9
    case measure=>simp[intOf];omega
   ·have hb1:((kx:Int)==k)=false:=by simp;omega
    by_cases hk3:k=3
    ·by_cases hx1:kx=1
     ·have Ku:ed k t=[]:=by unfold ed;rw[if_neg (by rw[<-Xd.out];exact hc1),if_pos ⟨hk3,by rw[<-Xd.out];exact hx1⟩]
      have Zn:=hid Ku;have hb3:((k:Int)==3)=true:=by simp[hk3]
      have Zo:((kx:Int)==1)=true:=by simp[hx1]
      have R9:Hid (cD V.heap.size F W1 (.slice ru ml rc) L):=hid ⟨cs,by rw[<-vr.out];exact G1,by rw[<-vr.out];exact G2,G3,G4⟩;clear Ku hx1 hk3 hc1;go_wp2;go_roundw;case rel=>
       refine⟨j+1,by omega,by go_num,?_,kj⟩;rw[p8.out,Zn.out, <-HL.out,List.append_nil];exact R9
      case measure=>simp[intOf];omega
     ·have hc2:¬ (k=3/\kx=1):=fun h=>hx1 h.2
      have hb3:((k:Int)==3)=true:=by simp[hk3]
      have Zo:((kx:Int)==1)=false:=by simp;omega
      clear hk3;have Ku:ed k t=[t]:=by unfold ed;rw[if_neg (by rw[<-Xd.out];exact hc1),if_neg (by rw[<-Xd.out];exact hc2)]
      have Zn:=hid Ku;clear Ku;go_wp2_with (at_builtin;refine Hid.out ?_);refine hid ?_;refine js ?_;intro W2 hW2;have B2:Hid (ar W2 W1.heap.size (aq kx sx mx xx (.slice px nx cx)) 97):=by rw[hW2];exact hid (ar.new _ _ _)
      have E2:Hid (Ext W1 W2):=by rw[hW2];exact hid ((Ext.refl _).alloc _)
      clear hW2;have hs2:W1.heap.size<=W2.heap.size:=E2.size;refine eZ rfl (.tmp 18) (.tmp 20) 95 rfl V.heap.size 97 iN (.agg eL) 8 80 Tryz.underlying95 vu ju jw jy rfl (by decide) (.slice ru ml rc) ml (bE cs) rfl (ak G2 E2.below) ⟨W1.heap.size,0,none⟩ 1 1 (aq kx sx mx xx (.slice px nx cx)).toList rfl (cO B2) rfl (cL _ _ _ _ _ _ _).2 (by unfold maxLen;omega) (by omega) (by omega) ?_;intro v' w' ho hg kK;have K9:Hid (ae (· <V.heap.size) V w'):=hid ((kj.tr (E2.keeps.mono fun x (hx:x<V.heap.size)=>aD hx hbase)).tr (ae.bB hg fun x (hx:x<V.heap.size)=>⟨by omega,fun e=>by have:=(G2.lt x e.symm).1;omega⟩));have R9:Hid (cD V.heap.size F w' v' (L++ [t])):=hid (cD.ac0 (cs:=cs) (c:=aq kx sx mx xx (.slice px nx cx)) Xe (by omega) (by rw[<-vr.out];exact G1) (by rw[<-vr.out];exact ak G2 E2.below) G3 (fun i c y hi hy=>(G4 i c y hi hy).keeps E2.keeps fun x hx=>aD (Xe x hx) hbase) (cL _ _ _ _ _ _ _) (T1.out.keeps E2.keeps fun x hx=>aD (Xe x hx) hbase) (by rw[<-vr.out];exact ho) hg);obtain⟨va',vc',rfl⟩:=ownsRow_form ho;clear ho hg kK;go_wp2;go_roundw;case rel=>
       refine⟨j+1,by omega,by go_num,?_,K9⟩;rw[p8.out,Zn.out, <-HL.out];exact R9
      case measure=>simp[intOf];omega
    ·have hc2:¬ (k=3/\kx=1):=fun h=>hk3 h.1
     have hb3:((k:Int)==3)=false:=by simp;omega
     have Ku:ed k t=[t]:=by unfold ed;rw[if_neg (by rw[<-Xd.out];exact hc1),if_neg (by rw[<-Xd.out];exact hc2)]
     have Zn:=hid Ku;clear Ku;go_wp2_with (at_builtin;refine Hid.out ?_);refine hid ?_;refine js ?_;intro W2 hW2;have B2:Hid (ar W2 W1.heap.size (aq kx sx mx xx (.slice px nx cx)) 97):=by rw[hW2];exact hid (ar.new _ _ _)
     have E2:Hid (Ext W1 W2):=by rw[hW2];exact hid ((Ext.refl _).alloc _)
     clear hW2;have hs2:W1.heap.size<=W2.heap.size:=E2.size;refine eZ rfl (.tmp 18) (.tmp 20) 95 rfl V.heap.size 97 iN (.agg eL) 8 80 Tryz.underlying95 vu ju jw jy rfl (by decide) (.slice ru ml rc) ml (bE cs) rfl (ak G2 E2.below) ⟨W1.heap.size,0,none⟩ 1 1 (aq kx sx mx xx (.slice px nx cx)).toList rfl (cO B2) rfl (cL _ _ _ _ _ _ _).2 (by unfold maxLen;omega) (by omega) (by omega) ?_;intro v' w' ho hg kK;have K9:Hid (ae (· <V.heap.size) V w'):=hid ((kj.tr (E2.keeps.mono fun x (hx:x<V.heap.size)=>aD hx hbase)).tr (ae.bB hg fun x (hx:x<V.heap.size)=>⟨by omega,fun e=>by have:=(G2.lt x e.symm).1;omega⟩));have R9:Hid (cD V.heap.size F w' v' (L++ [t])):=hid (cD.ac0 (cs:=cs) (c:=aq kx sx mx xx (.slice px nx cx)) Xe (by omega) (by rw[<-vr.out];exact G1) (by rw[<-vr.out];exact ak G2 E2.below) G3 (fun i c y hi hy=>(G4 i c y hi hy).keeps E2.keeps fun x hx=>aD (Xe x hx) hbase) (cL _ _ _ _ _ _ _) (T1.out.keeps E2.keeps fun x hx=>aD (Xe x hx) hbase) (by rw[<-vr.out];exact ho) hg);obtain⟨va',vc',rfl⟩:=ownsRow_form ho;clear ho hg kK;go_wp2;go_roundw;case rel=>
      refine⟨j+1,by omega,by go_num,?_,K9⟩;rw[p8.out,Zn.out, <-HL.out];exact R9
     case measure=>simp[intOf];omega
  ·obtain rfl:j=2:=by omega
   have kX:¬ ((2:Int)<2):=by omega
   have X9:Hid (aa w wo):=hid (X0.below.trans (HX.mono fun x (hx:x<w.heap.size)=>by have:=qR.out;show x<V.heap.size;omega:ae (· <w.heap.size) V wo).below);have R9:=hid (R0.keeps HX R0.lt);have hjn:jX k a b 2=ed k a++ed k b:=by unfold jX;simp
   have Yp:cF k a b=fQ k (jX k a b 2):=by rw[hjn];rfl
   have vk:Hid (J=fQ k (jX k a b 2)):=hid (HJ.trans Yp);clear HJ;obtain⟨L,hL⟩:=ag (jX k a b 2);rw[<-hL]at hZ vk ⊢;clear hjn Yp hL HA HB FA FB SA SB;have hwV:w.heap.size+1+1<V.heap.size:=by have:=qR.out;omega
   match L,hZ,vk with
   | [],hZ,vk=>
    simp only[List.length_nil];go_wp2_with (refine wpList_store_row rfl 97 (.tmp 6) (.tmp 44) rfl (w.heap.size+1+1) #[.int .u8 1,.int .u64 0,.int .u64 0,.int .u64 0,.int .u64 0,.int .i64 0,.int .i64 0,.slice none 0 0] rfl rfl 97 eL R9 (by kernel_rfl) rfl (by simp[Value.oneCell']) ?_;refine Hid.out ?_);refine hid ?_;obtain⟨V3,cX⟩:=ag (wo.setRow (w.heap.size+1+1) #[.int .u8 1,.int .u64 0,.int .u64 0,.int .u64 0,.int .u64 0,.int .i64 0,.int .i64 0,.slice none 0 0]);rw[<-cX];have RR:Hid (ar V3 (w.heap.size+1+1) #[.int .u8 1,.int .u64 0,.int .u64 0,.int .u64 0,.int .u64 0,.int .i64 0,.int .i64 0,.slice none 0 0] 97):=by rw[cX];exact hid R9.setRow
    have XX:aa w V3:=by rw[cX];exact X9.trans ((bJ wo (w.heap.size+1+1) _).mono fun x (hx:x<w.heap.size)=>by show x≠_;omega:ae (· <w.heap.size) wo _).below
    clear cX;go_wp2;obtain⟨m0,m1,m2,m3,m4,m5,m6,m7⟩:=RR.eight;refine bodyPost_ret (v:=.agg #[.int .u8 1,.int .u64 0,.int .u64 0,.int .u64 0,.int .u64 0,.int .i64 0,.int .i64 0,.slice none 0 0]) (by simp[results,Tryz.results106,go_sem,m0,m1,m2,m3,m4,m5,m6,m7]) rfl ⟨_,rfl,?_,XX⟩;have e:=aK.leaf (fun x=>x<V3.heap.size/\(F x\/w.heap.size<=x)) V3 1 0 0 0 none 0;rw[bT]at e;rw[vk.out];exact e
   | [x],hZ,vk=>
    simp only[List.length_cons,List.length_nil,Nat.zero_add];obtain⟨g,p',c',e1,_,q2,q3,q4,⟨f0,f1,f2,f3,f4,f5,f6,f7⟩,hr⟩:=hZ.elem (i:=0) (t:=x) rfl;subst e1;simp only[Nat.zero_mul,Nat.zero_add]at f0 f1 f2 f3 f4 f5 f6 f7;have HR:=hid hr;obtain⟨k1,lM⟩:=ag x.kind;obtain⟨nl,tK⟩:=ag x.subs.length;obtain⟨st,hst⟩:=ag x.set;obtain⟨tn,tq⟩:=ag x.mn;obtain⟨tx,KQ⟩:=ag x.mx;rw[<-lM]at f0 HR;rw[<-hst]at f1 f2 f3 f4 HR;rw[<-tq]at f5 HR;rw[<-KQ]at f6 HR;rw[<-tK]at f7 HR;clear hr lM tK hst tq KQ;go_wp2_with (refine wpList_store_row rfl 97 (.tmp 6) (.tmp 49) rfl (w.heap.size+1+1) (aq k1 st tn tx (.slice p' nl c')) rfl rfl 97 eL R9 (dm _ _ _ _ _) rfl (kB _ _ _ _ _ _ _) ?_;refine Hid.out ?_);refine hid ?_;obtain⟨V3,cX⟩:=ag (wo.setRow (w.heap.size+1+1) (aq k1 st tn tx (.slice p' nl c')));rw[<-cX];have RR:Hid (ar V3 (w.heap.size+1+1) (aq k1 st tn tx (.slice p' nl c')) 97):=by rw[cX];exact hid R9.setRow
    have KK:ae (· ≠w.heap.size+1+1) wo V3:=by rw[cX];exact bJ _ _ _
    clear cX;go_wp2;obtain⟨m0,m1,m2,m3,m4,m5,m6,m7⟩:=RR.eight;refine bodyPost_ret (v:=.agg (aq k1 st tn tx (.slice p' nl c'))) (by simp[results,Tryz.results106,aq,go_sem,m0,m1,m2,m3,m4,m5,m6,m7]) rfl ⟨_,rfl,?_,X9.trans (KK.mono fun x (hx:x<w.heap.size)=>by show x≠_;omega:ae (· <w.heap.size) wo V3).below⟩;rw[vk.out];exact(HR.keeps (KK.mono fun y (hy:y<w.heap.size)=>by show y≠_;omega) hFF).mono fun y hy=>⟨by have:=hFF y hy;have:=KK.size;have:=R9.lt;omega,.inl hy⟩
   | x::y::l,hZ,vk=>
    obtain⟨ml,pd⟩:=ag ((x::y::l).length);have tT:2<=ml:=by rw[pd];simp
    rw[<-pd];rw[<-pd]at hZ;clear pd;have hd1:((ml:Int)==0)=false:=by simp;omega
    have YD:((ml:Int)==1)=false:=by simp;omega
    go_wp2_with (refine wpList_store_row rfl 97 (.tmp 6) (.tmp 52) rfl (w.heap.size+1+1) #[.int .u8 k,.int .u64 0,.int .u64 0,.int .u64 0,.int .u64 0,.int .i64 0,.int .i64 0,.slice ru ml rc] rfl rfl 97 eL R9 (by kernel_rfl) rfl (by simp[Value.oneCell']) ?_;refine Hid.out ?_)
    refine hid ?_;obtain⟨V3,cX⟩:=ag (wo.setRow (w.heap.size+1+1) #[.int .u8 k,.int .u64 0,.int .u64 0,.int .u64 0,.int .u64 0,.int .i64 0,.int .i64 0,.slice ru ml rc]);rw[<-cX];have RR:Hid (ar V3 (w.heap.size+1+1) #[.int .u8 k,.int .u64 0,.int .u64 0,.int .u64 0,.int .u64 0,.int .i64 0,.int .i64 0,.slice ru ml rc] 97):=by rw[cX];exact hid R9.setRow
    have KK:ae (· ≠w.heap.size+1+1) wo V3:=by rw[cX];exact bJ _ _ _
    clear cX;go_wp2;obtain⟨m0,m1,m2,m3,m4,m5,m6,m7⟩:=RR.eight;refine bodyPost_ret (v:=.agg #[.int .u8 k,.int .u64 0,.int .u64 0,.int .u64 0,.int .u64 0,.int .i64 0,.int .i64 0,.slice ru ml rc]) (by simp[results,Tryz.results106,go_sem,m0,m1,m2,m3,m4,m5,m6,m7]) rfl ⟨_,rfl,?_,X9.trans (KK.mono fun x (hx:x<w.heap.size)=>by show x≠_;omega:ae (· <w.heap.size) wo V3).below⟩;obtain⟨cs,g1,g2,g3,g4⟩:=hZ.out;have hrow:cD V.heap.size F V3 (.slice ru ml rc) (x::y::l):=⟨cs,g1,aj g2 KK fun z hz=>by have:=(g2.lt z hz).1;show z≠_;omega,g3,fun i c t hi ht=>(g4 i c t hi ht).keeps (KK.mono fun y (hy:y<w.heap.size)=>by show y≠_;omega) hFF⟩;have e:=(hrow.node (fun x hx=>by have:=hFF x hx;have:=KK.size;have:=R9.lt;omega) k 0 0 0).mono fun y hy=>(⟨hy.1,hy.2.imp id fun h=>by omega⟩:y<V3.heap.size/\(F y\/w.heap.size<=y))
    rw[bT]at e;rw[vk.out];exact e
def dT (w:World) (v:Value) (l:List (Nat×Nat×Nat)):Prop:=(v=.slice none 0 0/\l=[])\/(∃ ad c,v=.slice (some ad) 0 c/\l=[])\/
 ∃ b off c,v=.slice (some ⟨b,off,none⟩) l.length c/\b<w.heap.size/\l.length<=c/\l≠[]/\∀ (i:Nat) (s:Nat×Nat×Nat),l[i]? =some s->s.1<256/\s.2.1<256/\s.2.2<256/\w.cell? ⟨b,off+i*3,none⟩=some (.int .u8 s.1)/\w.cell? ⟨b,off+i*3+1,none⟩=some (.int .u8 s.2.1)/\w.cell? ⟨b,off+i*3+2,none⟩=some (.int .u8 s.2.2)
theorem dT.below {w w':World} {v:Value} {l:List (Nat×Nat×Nat)} (h:dT w v l) (hk:aa w w'):dT w' v l:=by
 rcases h with h | h | ⟨b,off,c,hv,hb,hc,hl,h⟩
 ·exact .inl h
 ·exact .inr (.inl h)
 ·have hcell:∀ j,w'.cell? ⟨b,j,none⟩=w.cell? ⟨b,j,none⟩:=fun j=>(ae.ai hk fun _ h=>h:ae (· <w.heap.size) w w').cell (p:=⟨b,j,none⟩) hb
  refine .inr (.inr ⟨b,off,c,hv,aD hb hk.size,hc,hl,fun i s hi=>?_⟩);rw[hcell,hcell,hcell];exact h i s hi
theorem I9 {cs:List (Array Value)} {i:Nat} (h:∀ c∈cs,c.size=8) (hi:i<cs.length) (u0 u1 u2 u3 u4 u5 u6 u7:Value): ((((((((bE cs).set (i*8) u0).set (i*8+1) u1).set (i*8+2) u2).set (i*8+3) u3).set (i*8+4) u4).set (i*8+5) u5).set (i*8+6) u6).set (i*8+7) u7=bE (cs.set i #[u0,u1,u2,u3,u4,u5,u6,u7]):=by
 have hlen:=fY h;have h':∀ c∈cs.set i #[u0,u1,u2,u3,u4,u5,u6,u7],c.size=8:=fun c hc=>by
  rcases List.mem_or_eq_of_mem_set hc with hc | rfl
  ·exact h c hc
  ·rfl
 have ac5:=fY h';rw[List.length_set]at ac5;apply List.ext_getElem?;intro j;rcases Nat.lt_or_ge j (cs.length*8)with hj | hj
 ·obtain⟨q,hq⟩:∃ q,(cs.set i #[u0,u1,u2,u3,u4,u5,u6,u7])[j/8]? =some q:=⟨_,az (by rw[List.length_set];omega)⟩
  have hs:=h' _ (aw hq);obtain⟨u,hu⟩:∃ u,q[j%8]? =some u:=⟨_,Array.getElem?_eq_getElem (show j%8<q.size by omega)⟩;have hr:=iC h' hq hu;rw[show j/8*8+j%8=j by omega]at hr;rw[hr];rw[List.getElem?_set]at hq;by_cases he:i=j/8
  ·rw[if_pos he,if_pos hi]at hq
   cases hq
   have hm:j%8=0\/j%8=1\/j%8=2\/j%8=3\/j%8=4\/j%8=5\/j%8=6\/j%8=7:=by omega
   simp only[List.getElem?_set,List.length_set,hlen];rcases hm with hm | hm | hm | hm | hm | hm | hm | hm<;>rw[hm]at hu<;>simp at hu<;>subst hu<;>(repeat (first | rw[if_neg (by omega)] | rw[if_pos (by omega)]))
  ·rw[if_neg he]at hq
   have hr2:=iC h hq hu;rw[show j/8*8+j%8=j by omega]at hr2;simp only[List.getElem?_set]
   repeat rw[if_neg (by omega)]
   exact hr2
 ·rw[aS (by simp only[List.length_set];omega),aS (by omega)]
theorem cd.fresh {base:Nat} {w w':World} {v':Value} {l:List RX} {cs:List (Array Value)} {k:Nat} {c:Array Value} {t:RX} (hk:k<=l.length) (h1:cs.length=l.length) (h3:∀ c∈cs,c.size=8/\∀ u∈c.toList,u.oneCell'=true) (h4:∀ (i:Nat) (c:Array Value) (t:RX),cs[i]? =some c->l[i]? =some t->aK (fun x=>base<=x/\x<w.heap.size) w (.agg c) t) (g3:c.size=8/\∀ u∈c.toList,u.oneCell'=true) (g4:aK (fun x=>base<=x/\x<w.heap.size) w (.agg c) t) (ho:w'.ownsRow base 97 8 v' (k+1) (bE (cs.take k)++c.toList)) (hx:aa w w') (hv:v'.ownBlock=some w.heap.size):cd base w' v' (l.take k++ [t]):=by
 have hlk:(l.take k++ [t]).length=k+1:=by rw[aJ,List.length_take,Nat.min_eq_left hk];rfl
 have Yx:(cs.take k).length=k:=by rw[List.length_take];omega
 have key:∀ (c:Array Value) (t:RX),aK (fun x=>base<=x/\x<w.heap.size) w (.agg c) t->aK (fun x=>base<=x/\x<w'.heap.size/\v'.ownBlock≠some x) w' (.agg c) t:=fun c t h=>
  (h.keeps (ae.ai hx fun _ h=>h:ae (· <w.heap.size) w w') fun _ h=>h.2).mono fun x h=>⟨h.1,aD h.2 hx.size,fun e=>by rw[hv]at e;cases e;exact Nat.lt_irrefl _ h.2⟩
 refine⟨cs.take k++ [c],by rw[hlk,aJ,Yx];rfl,?_,fun x hx=>?_,fun i x y hi hy=>?_⟩
 ·rw[hlk,lX,show bE [c]=c.toList by unfold bE;simp];exact ho
 ·rcases List.mem_append.1 hx with hx | hx
  ·exact h3 x (List.mem_of_mem_take hx)
  ·simp at hx;rw[hx];exact g3
 ·rcases Nat.lt_or_ge i k with hik | hik
  ·rw[bK (by omega),List.getElem?_take,if_pos hik]at hi
   rw[bK (by rw[List.length_take];omega),List.getElem?_take,if_pos hik]at hy;exact key x y (h4 i x y hi hy)
  ·have hl:=(List.getElem?_eq_some_iff.1 hy).1
   rw[hlk]at hl;obtain rfl:i=k:=by omega
   rw[cM (by omega),Yx,Nat.sub_self]at hi;rw[cM (by rw[List.length_take];omega),List.length_take,Nat.min_eq_left hk,Nat.sub_self]at hy;cases hi;cases hy;exact key _ _ g4
theorem cd.turned {base g cap:Nat} {w:World} {l:List RX} {cs:List (Array Value)} {i:Nat} {t:RX} {u0 u1 u2 u3 u4 u5 u6 u7:Value} (hi:i<l.length) (h1:cs.length=l.length) (h2:w.ownsRow base 97 8 (.slice (some ⟨g,0,none⟩) l.length cap) l.length (bE cs)) (h3:∀ c∈cs,c.size=8/\∀ u∈c.toList,u.oneCell'=true) (h4:∀ (i:Nat) (c:Array Value) (t:RX),cs[i]? =some c->l[i]? =some t->aK (fun x=>base<=x/\x<w.heap.size/\x≠g) w (.agg c) t) (g3:∀ u∈ [u0,u1,u2,u3,u4,u5,u6,u7],u.oneCell'=true) (g4:aK (fun x=>base<=x/\x<w.heap.size/\x≠g) w (.agg #[u0,u1,u2,u3,u4,u5,u6,u7]) t): cd base ((((((((w.setCell ⟨g,i*8,none⟩ u0).setCell ⟨g,i*8+1,none⟩ u1).setCell ⟨g,i*8+2,none⟩ u2).setCell ⟨g,i*8+3,none⟩ u3).setCell ⟨g,i*8+4,none⟩ u4).setCell ⟨g,i*8+5,none⟩ u5).setCell ⟨g,i*8+6,none⟩ u6).setCell ⟨g,i*8+7,none⟩ u7) (.slice (some ⟨g,0,none⟩) l.length cap) (l.set i t):=by
 have hk:ae (· ≠g) w ((((((((w.setCell ⟨g,i*8,none⟩ u0).setCell ⟨g,i*8+1,none⟩ u1).setCell ⟨g,i*8+2,none⟩ u2).setCell ⟨g,i*8+3,none⟩ u3).setCell ⟨g,i*8+4,none⟩ u4).setCell ⟨g,i*8+5,none⟩ u5).setCell ⟨g,i*8+6,none⟩ u6).setCell ⟨g,i*8+7,none⟩ u7):=
  ((((((((ae.refl _ _).setCell (fun e=>e rfl) _).setCell (fun e=>e rfl) _).setCell (fun e=>e rfl) _).setCell (fun e=>e rfl) _).setCell (fun e=>e rfl) _).setCell (fun e=>e rfl) _).setCell (fun e=>e rfl) _).setCell (fun e=>e rfl) _
 have key:∀ (c:Array Value) (t:RX),aK (fun x=>base<=x/\x<w.heap.size/\x≠g) w (.agg c) t->aK (fun x=>base<=x/\x<((((((((w.setCell ⟨g,i*8,none⟩ u0).setCell ⟨g,i*8+1,none⟩ u1).setCell ⟨g,i*8+2,none⟩ u2).setCell ⟨g,i*8+3,none⟩ u3).setCell ⟨g,i*8+4,none⟩ u4).setCell ⟨g,i*8+5,none⟩ u5).setCell ⟨g,i*8+6,none⟩ u6).setCell ⟨g,i*8+7,none⟩ u7).heap.size/\(Value.slice (some ⟨g,0,none⟩) l.length cap).ownBlock≠some x) _ (.agg c) t:=fun c t h=>
  (h.keeps hk fun x hx=>hx.2.2).mono fun x hx=>⟨hx.1,aD hx.2.1 hk.size,fun e=>by cases e;exact hx.2.2 rfl⟩
 have r0:=(h2.stored (i*8) u0).1;have r1:=(r0.stored (i*8+1) u1).1;have r2:=(r1.stored (i*8+2) u2).1;have r3:=(r2.stored (i*8+3) u3).1;have r4:=(r3.stored (i*8+4) u4).1;have r5:=(r4.stored (i*8+5) u5).1;have r6:=(r5.stored (i*8+6) u6).1;have r7:=(r6.stored (i*8+7) u7).1;rw[I9 (fun c hc=>(h3 c hc).1) (by omega)]at r7;refine⟨cs.set i #[u0,u1,u2,u3,u4,u5,u6,u7],by simp[h1],by rw[List.length_set];exact r7,fun c hc=>?_,fun j c x hj hx=>?_⟩
 ·rcases List.mem_or_eq_of_mem_set hc with hc | rfl
  ·exact h3 c hc
  ·exact⟨rfl,g3⟩
 ·rw[List.getElem?_set]at hj hx
  by_cases e:i=j
  ·rw[if_pos e]at hj hx
   subst e;rw[if_pos (by omega)]at hj;rw[if_pos hi]at hx;cases hj;cases hx;exact key _ _ g4
  ·rw[if_neg e]at hj hx
   exact key _ _ (h4 j c x hj hx)
theorem Ja {l:List (Nat×Nat×Nat)} {k:Nat} {s:Nat×Nat×Nat} (h:l[k]? =some s):jl (l.take (k+1))=(jl (l.take k)).step s:=by unfold jl;rw[List.take_add_one,h,List.foldl_append];rfl
def Cw.tree (base:Nat) (t:RX):aX (Move false (fun _=>False)) where
 P:=fun v=>∃ p c,v=.agg (aq t.kind t.set t.mn t.mx (.slice p t.subs.length c))
 H:=fun v W=>aK (fun x=>base<=x/\x<W.heap.size) W v t
 ot:=.agg (aq t.kind t.set t.mn t.mx (.slice none t.subs.length 0))
 pw:=⟨none,0,rfl⟩
 st:=fun _ _ _ hm _ h=>(h.keeps (ae.ai hm.below fun _ h=>h) fun _ hx=>hx.2).mono fun _ hx=>⟨hx.1,aD hx.2 hm.size⟩
def Cw.box (base:Nat) (t:RX):aX (Move false (fun _=>False)) where
 P:=fun v=>∃ b,v=.slice (some ⟨b,0,none⟩) 1 1
 H:=fun v W=>∀ b,v=.slice (some ⟨b,0,none⟩) 1 1->∃ p c,ar W b (aq t.kind t.set t.mn t.mx (.slice p t.subs.length c)) 97/\aK (fun x=>base<=x/\x<W.heap.size) W (.agg (aq t.kind t.set t.mn t.mx (.slice p t.subs.length c))) t
 ot:=.slice (some ⟨0,0,none⟩) 1 1
 pw:=⟨0,rfl⟩
 st:=fun _ _ _ hm _ h b e=>by
  obtain⟨p,c,h1,h2⟩:=h b e;exact⟨p,c,h1.below hm.below h1.lt,(h2.keeps (ae.ai hm.below fun _ h=>h) fun _ hx=>hx.2).mono fun _ hx=>⟨hx.1,aD hx.2 hm.size⟩⟩
theorem cd.iV {base:Nat} {w:World} {a:Option Addr} {n cap:Nat} {l:List RX} (h:cd base w (.slice a n cap) l) {i:Nat} {t:RX} (hi:l[i]? =some t): ∃ g p' c',a=some ⟨g,0,none⟩/\n<=cap/\base<=g/\g<w.heap.size/\w.rangeAt g (i*8) (aq t.kind t.set t.mn t.mx (.slice p' t.subs.length c')).toList/\aK (fun x=>base<=x/\x<w.heap.size/\x≠g) w (.agg (aq t.kind t.set t.mn t.mx (.slice p' t.subs.length c'))) t:=by
 obtain⟨g,p',c',e,_,h1,h2,h3,⟨f0,f1,f2,f3,f4,f5,f6,f7⟩,hr⟩:=h.elem hi;refine⟨g,p',c',e,h1,h2,h3,fun j v hj=>?_,hr⟩;have hl:=(List.getElem?_eq_some_iff.1 hj).1;have h8:(aq t.kind t.set t.mn t.mx (.slice p' t.subs.length c')).toList.length=8:=rfl;rw[h8]at hl;have hc:j=0\/j=1\/j=2\/j=3\/j=4\/j=5\/j=6\/j=7:=by omega
 rcases hc with rfl | rfl | rfl | rfl | rfl | rfl | rfl | rfl<;>cases hj<;>assumption
theorem uy {cs:List (Array Value)} {q j:Nat} {u:Value} (h:(bE (cs.take q))[j]? =some u):(bE cs)[j]? =some u:=by
 have e:bE cs=bE (cs.take q)++bE (cs.drop q):=by rw[<-lX,List.take_append_drop]
 rw[e,bK (List.getElem?_eq_some_iff.1 h).1];exact h
theorem xh {P:Program} {ops:Array Oper} {rest:List Oper} {op:Oper} {a:Act} {w:World} {Q:Exit->Act->World->Prop} (hw:Region.wanted op (yielded ops a.tmps)=true) (ty:TypeId) (x:Operand) (ho:op.op=.load ty x) (b o:Nat) (hx:a.eval x=.pointer (some ⟨b,o,none⟩)) (cs:Array Value) (d:TypeDesc) (hc:w.rangeAt b o cs.toList) (hu:P.underlying ty=some d) (hd:d.isRow=true) (hi:(P.info? ty).map (·.size)=some cs.size) (h:wpList P ops Q rest (a.put op.dst (.agg cs)) w):wpList P ops Q (op::rest) a w:=
 nA hw fun _ hK=>wp_load_mid ty x ho b o hx cs.toList d hc hu hd (by rw[Array.length_toList];exact hi) (hK _ _ h)
theorem Vn (a b:Int):(if(if a<b then b else a)<1 then(1:Int)else if a<b then b else a)=max (max a b) 1:=by
 by_cases h:a<b
 ·simp only[h,if_true];split<;>omega
 ·simp only[h,if_false];split<;>omega
theorem Nr (a b:Nat):1<=iD a b/\iD a b<=3/\max (max (fe a:Int) (jT a b)) 1=(iD a b:Int):=by unfold iD jT fe;split<;>omega
theorem rZ {P:Program} {ops:Array Oper} {rest:List Oper} {o:Oper} {a:Act} {w:World} {Q:Exit->Act->World->Prop} {s x:Operand} {t t':TypeId} (_:o.op=.call {callee:=.builtin .append,args:= #[s,x],argTypes:= #[t,t']}) (h:Hid (wpList P ops Q (o::rest) a w)):wpList P ops Q (o::rest) a w:=h.out
theorem cd.push {base:Nat} {w w':World} {v v':Value} {l:List RX} {t:RX} {c:Array Value} {cs:List (Array Value)} (h1:cs.length=l.length) (h3:∀ c∈cs,c.size=8/\∀ u∈c.toList,u.oneCell'=true) (h4:∀ (i:Nat) (c:Array Value) (t:RX),cs[i]? =some c->l[i]? =some t->aK (fun x=>base<=x/\x<w.heap.size/\v.ownBlock≠some x) w (.agg c) t) (g3:c.size=8/\∀ u∈c.toList,u.oneCell'=true) (g4:aK (fun x=>base<=x/\x<w.heap.size/\v.ownBlock≠some x) w (.agg c) t) (ho:w'.ownsRow base 97 8 v' (l.length+1) (bE cs++c.toList)) (hg:w.grownBy w' v.ownBlock) (kK:v'.ownBlock=v.ownBlock\/v'.ownBlock=some w.heap.size):cd base w' v' (l++ [t]):=by
 refine cd.app (cs2:=[c]) h1 h3 h4 rfl (fun x hx=>by simp at hx;rw[hx];exact g3) (fun i x y hi hy=>?_) (by rw[show bE [c]=c.toList by unfold bE;simp];exact ho) hg kK;have hl:=(List.getElem?_eq_some_iff.1 hi).1;obtain rfl:i=0:=by simpa using hl
 cases hi
 cases hy
 exact g4
structure ac6 (P:Prop) where
 A:Prop
 B:Prop
 C:Prop
 D:Prop
 E:Prop
 G:Prop
 H:Prop
 Z:Prop
 out:A->B->C->D->E->G->H->Z->P
def eC (b off c:Nat) (l:List (Nat×Nat×Nat)) (w:World) (hb:b<w.heap.size) (hc:l.length<=c) (iT:l.length<=1000000000000000) (hS:∀ (i:Nat) (s:Nat×Nat×Nat),l[i]? =some s->s.1<256/\s.2.1<256/\s.2.2<256/\w.cell? ⟨b,off+i*3,none⟩=some (.int .u8 s.1)/\w.cell? ⟨b,off+i*3+1,none⟩=some (.int .u8 s.2.1)/\w.cell? ⟨b,off+i*3+2,none⟩=some (.int .u8 s.2.2)): ac6 (ah 60 #[.slice (some ⟨b,off,none⟩) l.length c] w fun e w'=>∃ u,e=.returned u/\aK (· <w'.heap.size) w' u (gY l)/\aa w w'):=by
 have HS:=hid hS;clear hS;apply ac6.mk;case out=>
  intro gA gB gC gD gE gG gH gZ;obtain⟨iN,vu,ju,jw,jy⟩:=info_parts Tryz.Xb;obtain⟨R,hR⟩:=ag (gY l);rw[<-hR];have HR:=hid hR;obtain⟨n,hn⟩:=ag l.length;obtain⟨N,hN⟩:=ag (min n 25);have l9:min (n:Int) 25=(N:Int):=by omega
  have Fm:N<=n:=by omega
  have pC:N<=25:=by omega
  rw[<-hn]at hc iT ⊢;have Fo:N<=c:=by omega
  have pA:=hid hn;have HN:=hid hN;clear hR hn hN;go_enter Tryz.func60,Tryz.ntmps60;go_wp2;refine aA ?_;intro V hV;have R0:Hid (ar V w.heap.size eL 97):=by rw[hV];exact hid (ar.new _ _ _)
  have X0:Hid (Ext w V):=by rw[hV];exact hid ((Ext.refl w).alloc _)
  have qR:Hid (V.heap.size=w.heap.size+1):=hid (by rw[hV];simp);clear hV;go_loopw [3,4,5,22] (fun u x y i wr=>∃ k:Nat,k<=N/\i=.int .i64 k/\x=.int .i64 (jl (l.take k)).mK/\y=.int .i64 (jl (l.take k)).yy/\cd V.heap.size wr u (jl (l.take k)).all/\ae (· <V.heap.size) V wr) (fun _ _ _ i _=>N-(intOf i).toNat);case atStart=>exact⟨0,by omega,rfl,rfl,rfl,cd.nil _ _,ae.refl _ _⟩
  case round=>
   obtain⟨k,hk,rfl,rfl,rfl,hrow,hx⟩:=hrel;obtain⟨wo,rfl⟩:=ag (wr:World);have HX:=hid hx;clear hx;by_cases hlt:k<N
   ·have eE:(k:Int)<N:=by omega
    obtain⟨⟨s0,s1,s2⟩,hsk⟩:∃ s,l[k]? =some s:=⟨_,az (by have:=pA.out;omega)⟩;have hstep:=Ja hsk;have pE:=wN (l.take k);obtain⟨PP,Zp⟩:=ag (jl (l.take k));rw[<-Zp]at hstep pE hrow ⊢;have hlk:(l.take k).length<=25:=by rw[List.length_take];omega
    obtain⟨Jb,GY,Jc,c0,c1,c2⟩:=HS.out k _ hsk;dsimp only at Jb GY Jc c0 c1 c2;have wc:∀ (o:Nat) (u:Value),w.cell? ⟨b,o,none⟩=some u->wo.cell? ⟨b,o,none⟩=some u:=fun o u h=>(HX.cell (p:=⟨b,o,none⟩) (by have:=qR.out;show b<V.heap.size;omega)).trans ((X0.cell (p:=⟨b,o,none⟩) hb).trans h)
    replace c0:=wc _ _ c0;replace c1:=wc _ _ c1;replace c2:=wc _ _ c2;obtain⟨ru,rc,rfl⟩:=hrow.form;obtain⟨m,hm⟩:=ag PP.all.length;have r8:m<=25:=by have:=pE.len;omega
    obtain⟨uf,huf⟩:=ag PP.mK;obtain⟨gr,hgr⟩:=ag PP.yy;have jY:uf<=16:=by have:=pE.Ac;omega
    have HST:=hid hstep;have km:=hid pE;have HM:=hid hm;have uV:=hid huf;have lJ:=hid hgr;have Dv:=hid hlk;rw[<-hm]at hrow ⊢;rw[<-huf, <-hgr];have hZ:=hid hrow;clear hstep pE hm huf hgr hlk hrow hsk Zp wc;go_upto_region 6 with fail
    refine aA ?_;intro W1 hW1;have B1:Hid (ar W1 wo.heap.size #[.int .u8 s0,.int .u8 s1,.int .u8 s2] 185):=by rw[hW1];exact hid (ar.new _ _ _)
    have E1:Hid (Ext wo W1):=by rw[hW1];exact hid ((Ext.refl wo).alloc _)
    clear hW1 c0 c1 c2;have eo:=hid (hZ.below E1.below);have kj:Hid (ae (· <V.heap.size) V W1):=hid (HX.tr (E1.keeps.mono fun x (hx:x<V.heap.size)=>aD hx HX.size));have d0:W1.cell? ⟨wo.heap.size,0,none⟩=some (.int .u8 s0):=B1.cell 0;have d1:W1.cell? ⟨wo.heap.size,1,none⟩=some (.int .u8 s1):=B1.cell 1;have d2:W1.cell? ⟨wo.heap.size,2,none⟩=some (.int .u8 s2):=B1.cell 2;obtain⟨kd,hkd⟩:=ag (s0%12);have GZ:Int.tmod (s0:Int) 12=(kd:Int):=by rw[Int.tmod_eq_emod_of_nonneg (by omega)];omega
    have kC:kd<12:=by omega
    have hbase:V.heap.size<=W1.heap.size:=kj.size;have zf:=hid hkd;clear hkd hZ E1 HX;by_cases hA:kd<4
    ·skip --CA
     rename_i xi xj xm Ao Ap Aq Ar Au;revert iN vu ju jw jy R HR n iT hc N l9 Fm pC Fo pA HN xi xj xm V R0 X0 qR u7 u8 u9 u10 u11 u12 u23 u24 u25 u26 u27 u28 u29 u30 u31 u32 u33 u34 u35 u36 u37 u38 u39 u40 u41 u42 u43 u44 u45 u46 u47 u48 u49 u50 u51 u52 u53 u54 u55 u56 u57 u58 u59 u60 u61 u62 u63 u64 u65 u66 u67 u68 u69 u70 u71 u72 u73 u74 u75 u76 u77 u78 u79 u80 u81 u82 u83 u84 u85 u86 u87 u88 u89 u90 u91 u92 u93 u94 u95 u96 u97 u98 u99 u100 u101 u102 u103 u104 u105 u106 u107 u108 u109 u110 u111 u112 u113 u114 u115 u116 u117 u118 u119 u120 u121 u122 u123 u124 u125 u126 u127 u128 u129 u130 u131 u132 u133 u134 u135 u136 u137 u138 u139 u140 u141 u142 u143 u144 u145 u146 u147 u148 u149 u150 u151 u152 u153 u154 u155 u156 u157 u158 u159 u160 u161 u162 u163 u164 u165 u166 u167 u168 u169 u170 u171 u172 u173 u174 u175 u176 u177 u178 u179 u180 u181 u182 u183 u184 k hk wo hlt eE s0 s1 s2 PP Jb GY Jc ru rc m r8 uf gr jY HST km HM uV lJ Dv Ao Ap Aq Ar Au W1 B1 eo kj d0 d1 d2 kd GZ kC hbase zf hA;exact gA
    ·by_cases hB:kd=4
     ·skip --CB
      rename_i xi xj xm Ao Ap Aq Ar Au;revert iN vu ju jw jy R HR n iT hc N l9 Fm pC Fo pA HN xi xj xm V R0 X0 qR u7 u8 u9 u10 u11 u12 u23 u24 u25 u26 u27 u28 u29 u30 u31 u32 u33 u34 u35 u36 u37 u38 u39 u40 u41 u42 u43 u44 u45 u46 u47 u48 u49 u50 u51 u52 u53 u54 u55 u56 u57 u58 u59 u60 u61 u62 u63 u64 u65 u66 u67 u68 u69 u70 u71 u72 u73 u74 u75 u76 u77 u78 u79 u80 u81 u82 u83 u84 u85 u86 u87 u88 u89 u90 u91 u92 u93 u94 u95 u96 u97 u98 u99 u100 u101 u102 u103 u104 u105 u106 u107 u108 u109 u110 u111 u112 u113 u114 u115 u116 u117 u118 u119 u120 u121 u122 u123 u124 u125 u126 u127 u128 u129 u130 u131 u132 u133 u134 u135 u136 u137 u138 u139 u140 u141 u142 u143 u144 u145 u146 u147 u148 u149 u150 u151 u152 u153 u154 u155 u156 u157 u158 u159 u160 u161 u162 u163 u164 u165 u166 u167 u168 u169 u170 u171 u172 u173 u174 u175 u176 u177 u178 u179 u180 u181 u182 u183 u184 k hk wo hlt eE s0 s1 s2 PP Jb GY Jc ru rc m r8 uf gr jY HST km HM uV lJ Dv Ao Ap Aq Ar Au W1 B1 eo kj d0 d1 d2 kd GZ kC hbase zf hA hB;exact gB
     ·by_cases hC:kd<7/\1<m
      ·skip --CC
       rename_i xi xj xm Ao Ap Aq Ar Au;revert iN vu ju jw jy R HR n iT hc N l9 Fm pC Fo pA HN xi xj xm V R0 X0 qR u7 u8 u9 u10 u11 u12 u23 u24 u25 u26 u27 u28 u29 u30 u31 u32 u33 u34 u35 u36 u37 u38 u39 u40 u41 u42 u43 u44 u45 u46 u47 u48 u49 u50 u51 u52 u53 u54 u55 u56 u57 u58 u59 u60 u61 u62 u63 u64 u65 u66 u67 u68 u69 u70 u71 u72 u73 u74 u75 u76 u77 u78 u79 u80 u81 u82 u83 u84 u85 u86 u87 u88 u89 u90 u91 u92 u93 u94 u95 u96 u97 u98 u99 u100 u101 u102 u103 u104 u105 u106 u107 u108 u109 u110 u111 u112 u113 u114 u115 u116 u117 u118 u119 u120 u121 u122 u123 u124 u125 u126 u127 u128 u129 u130 u131 u132 u133 u134 u135 u136 u137 u138 u139 u140 u141 u142 u143 u144 u145 u146 u147 u148 u149 u150 u151 u152 u153 u154 u155 u156 u157 u158 u159 u160 u161 u162 u163 u164 u165 u166 u167 u168 u169 u170 u171 u172 u173 u174 u175 u176 u177 u178 u179 u180 u181 u182 u183 u184 k hk wo hlt eE s0 s1 s2 PP Jb GY Jc ru rc m r8 uf gr jY HST km HM uV lJ Dv Ao Ap Aq Ar Au W1 B1 eo kj d0 d1 d2 kd GZ kC hbase zf hA hB hC;exact gC
      ·by_cases hD:kd<9/\1<m
       ·skip --CD
        rename_i xi xj xm Ao Ap Aq Ar Au;revert iN vu ju jw jy R HR n iT hc N l9 Fm pC Fo pA HN xi xj xm V R0 X0 qR u7 u8 u9 u10 u11 u12 u23 u24 u25 u26 u27 u28 u29 u30 u31 u32 u33 u34 u35 u36 u37 u38 u39 u40 u41 u42 u43 u44 u45 u46 u47 u48 u49 u50 u51 u52 u53 u54 u55 u56 u57 u58 u59 u60 u61 u62 u63 u64 u65 u66 u67 u68 u69 u70 u71 u72 u73 u74 u75 u76 u77 u78 u79 u80 u81 u82 u83 u84 u85 u86 u87 u88 u89 u90 u91 u92 u93 u94 u95 u96 u97 u98 u99 u100 u101 u102 u103 u104 u105 u106 u107 u108 u109 u110 u111 u112 u113 u114 u115 u116 u117 u118 u119 u120 u121 u122 u123 u124 u125 u126 u127 u128 u129 u130 u131 u132 u133 u134 u135 u136 u137 u138 u139 u140 u141 u142 u143 u144 u145 u146 u147 u148 u149 u150 u151 u152 u153 u154 u155 u156 u157 u158 u159 u160 u161 u162 u163 u164 u165 u166 u167 u168 u169 u170 u171 u172 u173 u174 u175 u176 u177 u178 u179 u180 u181 u182 u183 u184 k hk wo hlt eE s0 s1 s2 PP Jb GY Jc ru rc m r8 uf gr jY HST km HM uV lJ Dv Ao Ap Aq Ar Au W1 B1 eo kj d0 d1 d2 kd GZ kC hbase zf hA hB hC hD;exact gD
       ·by_cases hE:kd=9/\0<m/\gr<9
        ·skip --CE
         rename_i xi xj xm Ao Ap Aq Ar Au;revert iN vu ju jw jy R HR n iT hc N l9 Fm pC Fo pA HN xi xj xm V R0 X0 qR u7 u8 u9 u10 u11 u12 u23 u24 u25 u26 u27 u28 u29 u30 u31 u32 u33 u34 u35 u36 u37 u38 u39 u40 u41 u42 u43 u44 u45 u46 u47 u48 u49 u50 u51 u52 u53 u54 u55 u56 u57 u58 u59 u60 u61 u62 u63 u64 u65 u66 u67 u68 u69 u70 u71 u72 u73 u74 u75 u76 u77 u78 u79 u80 u81 u82 u83 u84 u85 u86 u87 u88 u89 u90 u91 u92 u93 u94 u95 u96 u97 u98 u99 u100 u101 u102 u103 u104 u105 u106 u107 u108 u109 u110 u111 u112 u113 u114 u115 u116 u117 u118 u119 u120 u121 u122 u123 u124 u125 u126 u127 u128 u129 u130 u131 u132 u133 u134 u135 u136 u137 u138 u139 u140 u141 u142 u143 u144 u145 u146 u147 u148 u149 u150 u151 u152 u153 u154 u155 u156 u157 u158 u159 u160 u161 u162 u163 u164 u165 u166 u167 u168 u169 u170 u171 u172 u173 u174 u175 u176 u177 u178 u179 u180 u181 u182 u183 u184 k hk wo hlt eE s0 s1 s2 PP Jb GY Jc ru rc m r8 uf gr jY HST km HM uV lJ Dv Ao Ap Aq Ar Au W1 B1 eo kj d0 d1 d2 kd GZ kC hbase zf hA hB hC hD hE;exact gE
        ·by_cases hG:9<kd/\0<m
         ·skip --CG
          rename_i xi xj xm Ao Ap Aq Ar Au;revert iN vu ju jw jy R HR n iT hc N l9 Fm pC Fo pA HN xi xj xm V R0 X0 qR u7 u8 u9 u10 u11 u12 u23 u24 u25 u26 u27 u28 u29 u30 u31 u32 u33 u34 u35 u36 u37 u38 u39 u40 u41 u42 u43 u44 u45 u46 u47 u48 u49 u50 u51 u52 u53 u54 u55 u56 u57 u58 u59 u60 u61 u62 u63 u64 u65 u66 u67 u68 u69 u70 u71 u72 u73 u74 u75 u76 u77 u78 u79 u80 u81 u82 u83 u84 u85 u86 u87 u88 u89 u90 u91 u92 u93 u94 u95 u96 u97 u98 u99 u100 u101 u102 u103 u104 u105 u106 u107 u108 u109 u110 u111 u112 u113 u114 u115 u116 u117 u118 u119 u120 u121 u122 u123 u124 u125 u126 u127 u128 u129 u130 u131 u132 u133 u134 u135 u136 u137 u138 u139 u140 u141 u142 u143 u144 u145 u146 u147 u148 u149 u150 u151 u152 u153 u154 u155 u156 u157 u158 u159 u160 u161 u162 u163 u164 u165 u166 u167 u168 u169 u170 u171 u172 u173 u174 u175 u176 u177 u178 u179 u180 u181 u182 u183 u184 k hk wo hlt eE s0 s1 s2 PP Jb GY Jc ru rc m r8 uf gr jY HST km HM uV lJ Dv Ao Ap Aq Ar Au W1 B1 eo kj d0 d1 d2 kd GZ kC hbase zf hA hB hC hD hE hG;exact gG
         ·have Fp:PP.step (s0,s1,s2)=PP:=by
           unfold dC.step;dsimp only;rw[<-zf.out, <-HM.out, <-lJ.out,if_neg hA,if_neg hB,if_neg hC,if_neg hD,if_neg hE,if_neg (fun h=>hG ⟨h.1,h.2.1⟩)]
          have mM:=hid Fp;clear Fp;have a1:¬ ((kd:Int)<4):=by omega
          have a2:((kd:Int)==4)=false:=by simp;omega
          rename_i xi xj xm Ao Ap Aq Ar Au;revert iN vu ju jw jy R HR n iT hc N l9 Fm pC Fo pA HN xi xj xm V R0 X0 qR u7 u8 u9 u10 u11 u12 u23 u24 u25 u26 u27 u28 u29 u30 u31 u32 u33 u34 u35 u36 u37 u38 u39 u40 u41 u42 u43 u44 u45 u46 u47 u48 u49 u50 u51 u52 u53 u54 u55 u56 u57 u58 u59 u60 u61 u62 u63 u64 u65 u66 u67 u68 u69 u70 u71 u72 u73 u74 u75 u76 u77 u78 u79 u80 u81 u82 u83 u84 u85 u86 u87 u88 u89 u90 u91 u92 u93 u94 u95 u96 u97 u98 u99 u100 u101 u102 u103 u104 u105 u106 u107 u108 u109 u110 u111 u112 u113 u114 u115 u116 u117 u118 u119 u120 u121 u122 u123 u124 u125 u126 u127 u128 u129 u130 u131 u132 u133 u134 u135 u136 u137 u138 u139 u140 u141 u142 u143 u144 u145 u146 u147 u148 u149 u150 u151 u152 u153 u154 u155 u156 u157 u158 u159 u160 u161 u162 u163 u164 u165 u166 u167 u168 u169 u170 u171 u172 u173 u174 u175 u176 u177 u178 u179 u180 u181 u182 u183 u184 k hk wo hlt eE s0 s1 s2 PP Jb GY Jc ru rc m r8 uf gr jY HST km HM uV lJ Dv Ao Ap Aq Ar Au W1 B1 eo kj d0 d1 d2 kd GZ kC hbase zf hA hB hC hD hE hG mM a1 a2;exact gH
   ·obtain rfl:k=N:=by omega
    have Il:¬ ((k:Int)<k):=by omega
    rename_i xi xj xm;revert iN vu ju jw jy R HR n iT hc pA xi xj xm V R0 X0 qR u3 u7 u8 u9 u10 u11 u12 u23 u24 u25 u26 u27 u28 u29 u30 u31 u32 u33 u34 u35 u36 u37 u38 u39 u40 u41 u42 u43 u44 u45 u46 u47 u48 u49 u50 u51 u52 u53 u54 u55 u56 u57 u58 u59 u60 u61 u62 u63 u64 u65 u66 u67 u68 u69 u70 u71 u72 u73 u74 u75 u76 u77 u78 u79 u80 u81 u82 u83 u84 u85 u86 u87 u88 u89 u90 u91 u92 u93 u94 u95 u96 u97 u98 u99 u100 u101 u102 u103 u104 u105 u106 u107 u108 u109 u110 u111 u112 u113 u114 u115 u116 u117 u118 u119 u120 u121 u122 u123 u124 u125 u126 u127 u128 u129 u130 u131 u132 u133 u134 u135 u136 u137 u138 u139 u140 u141 u142 u143 u144 u145 u146 u147 u148 u149 u150 u151 u152 u153 u154 u155 u156 u157 u158 u159 u160 u161 u162 u163 u164 u165 u166 u167 u168 u169 u170 u171 u172 u173 u174 u175 u176 u177 u178 u179 u180 u181 u182 u183 u184 k wo hrow HX l9 Fm pC Fo HN hk hlt Il;exact gZ
end
end Go.Proofs.YtjgccapbphadjaaGreatDoor
