/- rx.positions, rx.Positions. -/
import Derived.Test.YtalombmiochpmaaGreatDoorOR23
import Derived.Deep.CutRange
set_option maxRecDepth 100000
set_option maxHeartbeats 16000000
open Go.Lib (hid)
namespace Go.Proofs.YtalombmiochpmaaGreatDoor
section
open Go Go.RowKit Go.Shelf Go.Maps
attribute [local go_sem] Oper.semAt_some gO dC
theorem MX (t:RX):t.pre.length=t.size:=by
 induction t using RX.ind with
 | h k s a b l ih=>
  rw[RX.pre,RX.size,List.length_cons];have:∀ l':List RX,(∀ t∈l',t∈l)->(RX.mS l').length=RX.sizes l':=by
   intro l';induction l' with
   | nil=>intro _;rfl
   | cons x l' ih2=>
    intro hs;rw[RX.mS,RX.sizes,List.length_append,ih x (hs x (List.mem_cons_self ..)),ih2 fun t ht=>hs t (List.mem_cons_of_mem _ ht)]
  rw[this l fun _ h=>h];omega
theorem vw (v:Value) (t:RX) (hs:t.size<=10000) (w:World) (h:aL (· <w.heap.size) w v t): Calls Tryz.prog 94 #[v] w fun e w'=>e=.returned (.bool true)/\Below w.heap.size w w':=by
 obtain⟨xs,hmap,pC,hseq⟩:=vv w.heap.size t (by omega) v w h (Nat.le_refl _);obtain⟨p,c,rfl⟩:=h.form;have hlen:xs.length<=10000:=by
  have e:xs.length=t.pre.length:=by rw[<-hmap,List.length_map]
  rw[e,MX];exact hs
 have TJ:=hid fun W B=>hseq W B _ rfl
 have abt:=hid pC;clear hseq pC hmap h hs;refine ck Tryz.func94 rfl ?_;simp only[Tryz.ntmps94,List.size_toArray,List.length_cons,List.length_nil,Nat.reduceAdd,Nat.reduceSub,Array.replicate_succ,Array.replicate_zero,List.push_toArray,List.append_toArray,List.nil_append,List.cons_append,au];go_wp2;refine wp_scope_straight ?_;go_wp2;go_step3;go_wp2_with (go_at_call 96;refine(nP _ _).mono ?_;rintro e w1 ⟨rfl,rfl⟩);refine aw ?_;intro W0 hW0;have h1:ah W0 (w.heap.size+1) #[.int .i64 0] 3:=by rw[hW0];exact((ah.new _ _ _).at (by simp)).alloc _
 have h3:ah W0 (w.heap.size+1+1) (au t.kind t.set t.mn t.mx (.slice p t.subs.length c)) 62:=by rw[hW0];exact(ah.new _ _ _).at (by simp)
 have hx:Ext w W0:=by rw[hW0];exact(((Ext.refl w).alloc _).alloc _).alloc _
 have hsz:W0.heap.size=w.heap.size+1+1+1:=by rw[hW0];simp
 clear hW0;refine im (w:=W0) (d:=true) (TJ.out W0 _ (hx.mono fun _ h=>h) h3) (by rfl) rj (by intro _;rfl) (by intro k hk;rcases hk with hk | hk<;>omega)
  (fun ys _ W=>ah W (w.heap.size+1) #[.int .i64 ys.length] 3/\Below w.heap.size w W)
  (fun _ _ _ _=>False)
  (fun ys T T' W W' ⟨h1,h3⟩ hT Ra hs hn hk=>⟨h1.nA hT hk (by omega),jh h3 hT hk (Nat.le_refl _) (by omega)⟩)
  (fun c ys T T' W W' h=>h.elim)
  ⟨h1,hx.below⟩
  (fun x=>⟨#[.agg (au t.kind t.set t.mn t.mx (.slice p t.subs.length c)),.pointer (some ⟨w.heap.size,0,none⟩),.bool false,.pointer (some ⟨w.heap.size+1,0,none⟩),.agg (au t.kind t.set t.mn t.mx (.slice p t.subs.length c)),.func (.func 122) #[] #[.pointer (some ⟨w.heap.size+1+1,0,none⟩)],x.1,undef,undef,undef,undef,undef,undef],[]⟩) ?assign ?body ?done ?stop
 case assign=>
  intro l x W K hK
  gi_wp2
  simpa[IE,au]using hK
 case body=>
  rintro l pre x T W bQ hT hR xR hl ⟨h1,hx⟩;have hle:pre.length+1<=10000:=by
   have hle:=bQ.length_le;rw[List.length_append]at hle;simp only[List.length_cons,List.length_nil]at hle;omega
  have c1:W.cell? ⟨w.heap.size+1,0,none⟩=some (.int .i64 pre.length):=h1.cell 0;have f1:=h1.frozen 0;have e1:IntKind.i64.wrap ((pre.length:Int)+1)=(pre.length:Int)+1:=IntWalk.i64_in _ (by omega);have e2:¬ ((10000:Int)<(pre.length:Int)+1):=by omega
  have e3:decide ((10000:Int)<(pre.length:Int)+1)=false:=decide_eq_false e2;have e4:((pre++ [x]).length:Int)=(pre.length:Int)+1:=by rw[List.length_append];rfl
  have H1:=hid h1;have HX:=hid hx;have HS:=hid hsz;have HT:=hid hT;have HE4:=hid e4;clear h1 hx hR hl xR hsz hT h3 bQ e4;obtain⟨m,hm⟩:∃ m,m=pre.length:=⟨_,rfl⟩;rw[<-hm]at c1 e1 e2 e3 H1 HE4 hle;clear hm
  gi_wp2
  refine⟨((aa.refl _ _).setCell (fun h=>?_) _),(by rw[HE4.out];exact H1.out.set 0 _),HX.out.setCell (by simp) _⟩;have h2:=HS.out;rcases h with(h | h) | h
  ·dsimp only at h;omega
  ·dsimp only at h;omega
  ·have h1:=(HT.out _ h).1;dsimp only at h1;omega
 case done=>
  rintro D T W hD yf hT ⟨h1,hx⟩ nw;have c1:W.cell? ⟨w.heap.size+1,0,none⟩=some (.int .i64 xs.length):=h1.cell 0;have e2:((xs.length:Int)<=10000):=by omega
  have e3:decide ((xs.length:Int)<=10000)=true:=decide_eq_true e2;have HX:=hid hx;have HS:=hid hsz;have HD:=hid hD;have xC:=hid nw;clear h1 hx yf hsz hT nw hD;obtain⟨m,hm⟩:∃ m,m=xs.length:=⟨_,rfl⟩;rw[<-hm]at c1 e2 e3;clear hm;dsimp only;go_wp2;rw[Exit.noGoto_ret];refine dz rfl xC.out (results_tmp rfl _ _ _) ⟨rfl,((aa.ag HX.out fun _ h=>h).putObj (by have h1:=HD.out;have h2:=HS.out;omega) _).below⟩
 case stop=>rintro D c pre T W _ _ _ _ h _;exact h.elim
end
section
open Go Go.RowKit Go.Shelf Go.Maps
theorem iu (t:RX) (h:t.dG=true):(t.kind≠2->t.set=0)/\(t.kind≠5->t.mn=0/\t.mx=0)/\(t.kind=3->t.has 1=false/\t.has 3=false)/\(t.kind=4->t.has 4=false)/\(t.kind=5->t.has 1=false):=by
 unfold RX.dG at h;generalize t.kind=k at*;generalize t.set=s at*;generalize t.mn=a at*;generalize t.mx=b at*;generalize t.has 1=i1 at*;generalize t.has 3=i3 at*;generalize t.has 4=i4 at*;generalize t.subs=l at*;split at h
 ·cases h
 rename_i h0;refine⟨fun hk=>Classical.byContradiction fun hs=>h0 (.inl ⟨hk,hs⟩),fun hk=>?_,fun hk=>?_,fun hk=>?_,fun hk=>?_⟩
 ·have h1:¬ (a≠0\/b≠0):=fun e=>h0 (.inr (.inl ⟨hk,e⟩))
  omega
 ·subst hk;simp at h;exact⟨h.1.2,h.2⟩
 ·subst hk;simp at h;exact h.2
 ·subst hk;simp at h;exact h.2
theorem Lp (a b:Int) (h:jv a b=true) (w:World): Calls Tryz.prog 124 #[.int .i64 a,.int .i64 b] w fun e w'=>e=.returned (.bool true)/\w'=w:=by
 unfold jv at h;split at h
 ·cases h
 rename_i h0;simp only[Bool.or_eq_true,Bool.and_eq_true,decide_eq_true_eq]at h;have e1:decide (a<0)=false:=decide_eq_false (by omega);have e2:decide (16<a)=false:=decide_eq_false (by omega);by_cases ha:a=1
 ·subst ha
  have hb1:b≠1:=fun e=>h0 (.inr (.inr ⟨rfl,e⟩))
  have e4:(b==1)=false:=beq_false_of_ne hb1;by_cases hb:b= -1
  ·subst hb
   clear h h0;go_enter Tryz.func124,Tryz.ntmps124;go_wp2;go_ret;exact⟨rfl,rfl⟩
  ·have e5:(b== -1)=false:=beq_false_of_ne hb
   have e6:decide (1<=b)=true:=decide_eq_true (by omega);have e7:decide (b<=16)=true:=decide_eq_true (by omega);have e8:(1:Int)<=b:=by omega
   have e9:b<=16:=by omega
   clear h h0;go_enter Tryz.func124,Tryz.ntmps124;go_wp2;go_ret;exact⟨rfl,rfl⟩
 ·have e3:(a==1)=false:=beq_false_of_ne ha
  by_cases hb:b= -1
  ·subst hb
   clear h h0;go_enter Tryz.func124,Tryz.ntmps124;go_wp2;go_ret;exact⟨rfl,rfl⟩
  ·have e5:(b== -1)=false:=beq_false_of_ne hb
   have e6:decide (1<=b)=true:=decide_eq_true (by omega);have e7:decide (b<=16)=true:=decide_eq_true (by omega);have e8:(1:Int)<=b:=by omega
   have e9:b<=16:=by omega
   have ea:decide (a<=b)=true:=decide_eq_true (by omega);have eb:a<=b:=by omega
   clear h h0;go_enter Tryz.func124,Tryz.ntmps124;go_wp2;go_ret;exact⟨rfl,rfl⟩
theorem TK (x:RX) (a:Value) (k:Nat) (B:Nat) (W:World) (hB:ah W B #[.int .u8 k] 5): Calls Tryz.prog 152 #[.agg (au x.kind x.set x.mn x.mx a),.pointer (some ⟨B,0,none⟩)] W fun e w'=>e=.returned (.bool (x.kind==k))/\Below W.heap.size W w':=by
 have hB':∀ o,(W.alloc o).cell? ⟨B,0,none⟩=some (.int .u8 k):=fun o=>(hB.alloc o).cell 0
 unfold au;obtain⟨r,hr⟩:∃ r,r=(x.kind==k):=⟨_,rfl⟩;have e1:((x.kind:Int)==(k:Int))=r:=by
  rw[hr,Bool.eq_iff_iff,beq_iff_eq,beq_iff_eq];omega
 rw[<-hr];clear hr hB;generalize (x.kind:Int)=xk at*;generalize (k:Int)=kk at*;go_enter Tryz.func152,Tryz.ntmps152;go_wp2;go_ret;exact⟨rfl,((Ext.refl _).alloc _).below⟩
theorem Xc:∀ args w,(callFunc 152 args).run Tryz.prog w=.ok (.enter 152 args) w:=enters_of Tryz.func152 (by kernel_rfl) rfl
theorem Fj (n0:Nat) (k':Nat) (s:BS) (mn mx:Int) (p:Option Addr) (n c:Nat) (l:List RX) (hn:n=l.length) (hn7:n<=10000000) (k B:Nat) (w:World) (h:aL (· <n0) w (.agg (au k' s mn mx (.slice p n c))) (.nd k' s mn mx l)) (dD:n0<=w.heap.size) (hB:ah w B #[.int .u8 k] 5): Calls Tryz.prog 166 #[.slice p n c,.func (.func 152) #[] #[.pointer (some ⟨B,0,none⟩)]] w fun e w'=>e=.returned (.int .i64 (gX (fun x:RX=>x.kind==k) l))/\Below w.heap.size w w':=by
 have H:=hid h;have HN:=hid hn;have HB:=hid hB;have eg:=Xc;obtain⟨r,hr⟩:∃ r,r=gX (fun x:RX=>x.kind==k) l:=⟨_,rfl⟩;rw[<-hr];have HR:=hid hr;clear h hn hB hr;go_enter Tryz.func166,Tryz.ntmps166;go_wp2;go_loopw [8] (fun iv wr=>∃ i:Nat,i<=n/\iv=.int .i64 i/\(∀ x∈l.take i,(x.kind==k)=false)/\Below w.heap.size w wr) (fun iv _=>n-(intOf iv).toNat);case atStart=>exact⟨0,by omega,rfl,fun x hx=>by simp at hx,Below.refl _ _⟩
 case round=>
  obtain⟨i,hi,rfl,ha,hx⟩:=hrel;obtain⟨wo,rfl⟩:∃ wo:World,wo=wr:=⟨_,rfl⟩;have HX:=hid hx;have HA:=hid ha;clear hx ha;by_cases hlt:i<n
  ·have gz:(i:Int)<n:=by omega
   obtain⟨t,ht⟩:∃ t,l[i]? =some t:=⟨_,List.getElem?_eq_getElem (by have:=HN.out;omega)⟩;obtain⟨b,off,p',c',ep,hbF,hb,_,⟨q0,q1,q2,q3,q4,q5,q6,q7⟩,_⟩:=(H.out.qi (HX.out.mono dD)).elem ht;subst ep;have C1:=hid (TK t (.slice p' t.subs.length c') k B wo (HB.out.below HX.out HB.out.lt));have HT:=hid ht;unfold au at C1;obtain⟨g,hg⟩:∃ g,g=(t.kind==k):=⟨_,rfl⟩;rw[<-hg]at C1;have HG:=hid hg;clear ht hg;cases g with
   | true=>
    have lC:=hid (HR.out.trans (pR HT.out HG.out.symm HA.out));go_wp2_with fail
    refine C1.out.mono ?_;rintro e w2 ⟨rfl,hx⟩;have X2:=hid (HX.out.trans (hx.mono HX.out.size));clear hx;go_wp2;go_ret;exact⟨by rw[lC.out];rfl,X2.out⟩
   | false=>
    go_wp2_with fail
    refine C1.out.mono ?_;rintro e w2 ⟨rfl,hx⟩;have X2:=hid (HX.out.trans (hx.mono HX.out.size));clear hx;go_wp2;go_roundw;case rel=>exact⟨i+1,by omega,by go_num,uS HT.out HG.out.symm HA.out,X2.out⟩
    case measure=>simp[intOf];omega
  ·obtain rfl:i=n:=by omega
   have gz:¬ ((i:Int)<i):=by omega
   have lC:=hid (HR.out.trans (pS fun y hy=>HA.out y (by rw[HN.out,List.take_length];exact hy)));go_wp2;go_ret;exact⟨by rw[lC.out];rfl,HX.out⟩
theorem tT (n0:Nat) (v:Value) (t:RX) (k:Nat) (w:World) (h:aL (· <n0) w v t) (dD:n0<=w.heap.size) (hs:t.size<=10000000): Calls Tryz.prog 123 #[v,.int .u8 k] w fun e w'=>e=.returned (.bool (t.has k))/\Below w.heap.size w w':=by
 cases t with
 | nd k' s mn mx l=>
  obtain⟨p,c,rfl⟩:=h.form;obtain⟨n,hn⟩:∃ n,n=l.length:=⟨_,rfl⟩;have hn7:n<=10000000:=by rw[hn];exact Nat.le_trans (rv l) (by rw[RX.size]at hs;omega)
  simp only[RX.kind,RX.set,RX.mn,RX.mx,RX.subs]at h ⊢;rw[<-hn]at h ⊢;have CF:Hid (∀ W B,Below w.heap.size w W->ah W B #[.int .u8 k] 5->Calls Tryz.prog 151 #[.slice p n c,.func (.func 152) #[] #[.pointer (some ⟨B,0,none⟩)]] W fun e w'=>e=.returned (.bool (l.any fun x=>x.kind==k))/\Below W.heap.size W w'):=hid fun W B hW hB=>by
   have CI:=hid (Fj n0 k' s mn mx p n c l hn hn7 k B W (h.qi (hW.mono dD)) (Nat.le_trans dD hW.size) hB);rw[<-rV];clear h hn hB;generalize gX (fun x:RX=>x.kind==k) l=z at CI ⊢;go_enter Tryz.func151,Tryz.ntmps151;go_wp2_with fail
   refine CI.out.mono ?_;rintro e w2 ⟨rfl,hx⟩;have X2:=hid hx;clear hx;go_wp2;go_ret;exact⟨rfl,X2.out⟩
  have hr:(RX.nd k' s mn mx l).has k=l.any fun x=>x.kind==k:=rfl
  rw[hr];generalize (l.any fun x=>x.kind==k)=r at CF ⊢;clear h hn hr hs;unfold au;go_enter Tryz.func123,Tryz.ntmps123;go_wp2_with fail
  refine az ?_;intro V hV;have B1:ah V (w.heap.size+1) #[.int .u8 k] 5:=by rw[hV];exact(ah.new _ _ _).at (by simp)
  have X1:Below w.heap.size w V:=by rw[hV];exact(((Ext.refl w).alloc _).alloc _).below
  clear hV;refine(CF.out V _ X1 B1).mono ?_;rintro e w2 ⟨rfl,hx⟩;have X2:=hid (X1.trans (hx.mono X1.size));clear hx X1 B1 CF;go_wp2;go_ret;exact⟨rfl,X2.out⟩
theorem ry (s:BS) (W:World):(Op.equalIn 10000 59 (.agg #[.int .u64 (wd s 0).toNat,.int .u64 (wd s 1).toNat,.int .u64 (wd s 2).toNat,.int .u64 (wd s 3).toNat]) (.agg #[.int .u64 0,.int .u64 0,.int .u64 0,.int .u64 0])).run Tryz.prog W=.ok (s==0) W:=by have h:=j7 s 0 W;rw[fQ]at h;exact h
theorem Fk (n0:Nat) (v:Value) (t:RX) (hk:t.kind=1) (hr:t.dG=true) (w:World) (h:aL (· <n0) w v t) (dD:n0<=w.heap.size) (hs:t.size<=10000000): Calls Tryz.prog 97 #[v] w fun e w'=>e=.returned (.bool true)/\Below w.heap.size w w':=by
 have qq:n0<=w.heap.size/\t.size<=10000000:=⟨dD,hs⟩;clear qq;obtain⟨r2,rl,r0,r6,Pg,r5,Ph⟩:=cW t hr;obtain⟨m2,m5,m3,m4,Qx⟩:=iu t hr;obtain⟨p,c,rfl⟩:=h.form;have heq:=ry t.set;rw[show(t.set==0)=true from by rw[m2 (by omega)];rfl]at heq;obtain⟨e1,e2⟩:=m5 (by omega);obtain⟨n,hn⟩:∃ n,n=t.subs.length:=⟨_,rfl⟩;have gR:n=0:=by rw[hn,rl (by omega)];rfl
 rw[<-hn]at*;rw[hk]at*;rw[e1,e2]at*;subst gR;generalize t.set=s at*;generalize t.mn=mn at*;generalize t.mx=mx at*;generalize t.subs=l at*;clear hk hr h hs r2 rl r0 r6 Pg r5 Ph m2 m5 m3 m4 Qx hn e1 e2;unfold au at*;go_enter Tryz.func97,Tryz.ntmps97;go_wp2;go_ret;exact⟨rfl,((Ext.refl _).alloc _).below⟩
theorem Fl (n0:Nat) (v:Value) (t:RX) (hk:t.kind=2) (hr:t.dG=true) (w:World) (h:aL (· <n0) w v t) (dD:n0<=w.heap.size) (hs:t.size<=10000000): Calls Tryz.prog 97 #[v] w fun e w'=>e=.returned (.bool true)/\Below w.heap.size w w':=by
 have qq:n0<=w.heap.size/\t.size<=10000000:=⟨dD,hs⟩;clear qq;obtain⟨r2,rl,r0,r6,Pg,r5,Ph⟩:=cW t hr;obtain⟨m2,m5,m3,m4,Qx⟩:=iu t hr;obtain⟨p,c,rfl⟩:=h.form;have heq:=ry t.set;rw[show(t.set==0)=false from beq_false_of_ne (r2 hk)]at heq;obtain⟨e1,e2⟩:=m5 (by omega);obtain⟨n,hn⟩:∃ n,n=t.subs.length:=⟨_,rfl⟩;have gR:n=0:=by rw[hn,rl (by omega)];rfl
 rw[<-hn]at*;rw[hk]at*;rw[e1,e2]at*;subst gR;generalize t.set=s at*;generalize t.mn=mn at*;generalize t.mx=mx at*;generalize t.subs=l at*;clear hk hr h hs r2 rl r0 r6 Pg r5 Ph m2 m5 m3 m4 Qx hn e1 e2;unfold au at*;go_enter Tryz.func97,Tryz.ntmps97;go_wp2;go_ret;exact⟨rfl,((Ext.refl _).alloc _).below⟩
theorem Fm (n0:Nat) (v:Value) (t:RX) (hk:t.kind=3) (hr:t.dG=true) (w:World) (h:aL (· <n0) w v t) (dD:n0<=w.heap.size) (hs:t.size<=10000000): Calls Tryz.prog 97 #[v] w fun e w'=>e=.returned (.bool true)/\Below w.heap.size w w':=by
 have qq:n0<=w.heap.size/\t.size<=10000000:=⟨dD,hs⟩;clear qq;obtain⟨r2,rl,r0,r6,Pg,r5,Ph⟩:=cW t hr;obtain⟨m2,m5,m3,m4,Qx⟩:=iu t hr;have Xd:Hid (∀ W,Below w.heap.size w W->Calls Tryz.prog 123 #[v,.int .u8 1] W fun e w'=>e=.returned (.bool false)/\Below W.heap.size W w'):=hid fun W hW=>by
  have:=tT n0 v t 1 W (h.qi (hW.mono dD)) (Nat.le_trans dD hW.size) hs;rwa[show t.has 1=false from(m3 hk).1]at this
 have CH3:Hid (∀ W,Below w.heap.size w W->Calls Tryz.prog 123 #[v,.int .u8 3] W fun e w'=>e=.returned (.bool false)/\Below W.heap.size W w'):=hid fun W hW=>by
  have:=tT n0 v t 3 W (h.qi (hW.mono dD)) (Nat.le_trans dD hW.size) hs;rwa[show t.has 3=false from(m3 hk).2]at this
 obtain⟨p,c,rfl⟩:=h.form;have heq:=ry t.set;rw[show(t.set==0)=true from by rw[m2 (by omega)];rfl]at heq;obtain⟨e1,e2⟩:=m5 (by omega);obtain⟨n,hn⟩:∃ n,n=t.subs.length:=⟨_,rfl⟩;have gR:(1:Int)<n:=by have:=Ph (by omega);omega
 have jB:decide ((1:Int)<n)=true:=decide_eq_true gR;have Xe:=Xd.out;clear Xd;rw[<-hn,hk]at Xe;rw[e1,e2]at Xe;have ch3:=CH3.out;clear CH3;rw[<-hn,hk]at ch3;rw[e1,e2]at ch3;rw[<-hn]at*;rw[hk]at*;rw[e1,e2]at*;generalize t.set=s at*;generalize t.mn=mn at*;generalize t.mx=mx at*;generalize t.subs=l at*;clear hk hr h hs r2 rl r0 r6 Pg r5 Ph m2 m5 m3 m4 Qx hn e1 e2;have Xd:=hid Xe;clear Xe;have CH3:=hid ch3;clear ch3;unfold au at*;go_enter Tryz.func97,Tryz.ntmps97;go_wp2_with fail
 refine az ?_;intro V hV;have B1:Hid (ah V w.heap.size #[.int .u8 3,.int .u64 (wd s 0).toNat,.int .u64 (wd s 1).toNat,.int .u64 (wd s 2).toNat,.int .u64 (wd s 3).toNat,.int .i64 0,.int .i64 0,.slice p n c] 62):=by rw[hV];exact hid (ah.new _ _ _)
 have X1:Hid (Below w.heap.size w V):=by rw[hV];exact hid ((Ext.refl _).alloc _).below
 clear hV;refine(Xd.out V X1.out).mono ?_;rintro e w2 ⟨rfl,hx⟩;have X2:=hid (X1.out.trans (hx.mono X1.out.size));have B2:=hid (B1.out.below hx B1.out.lt);clear hx B1 X1;obtain⟨b0,b1,b2,b3,b4,b5,b6,b7⟩:=(show _/\_/\_/\_/\_/\_/\_/\_ from⟨B2.out.cell 0,B2.out.cell 1,B2.out.cell 2,B2.out.cell 3,B2.out.cell 4,B2.out.cell 5,B2.out.cell 6,B2.out.cell 7⟩);simp only[List.getElem?_toArray,List.getElem?_cons_zero,List.getElem?_cons_succ]at b0 b1 b2 b3 b4 b5 b6 b7;go_wp2_with fail
 refine(CH3.out _ X2.out).mono ?_;rintro e w3 ⟨rfl,hx⟩;have X3:=hid (X2.out.trans (hx.mono X2.out.size));clear hx b0 b1 b2 b3 b4 b5 b6 b7;go_wp2;go_ret;exact⟨rfl,X3.out⟩
theorem Fo (n0:Nat) (v:Value) (t:RX) (hk:t.kind=4) (hr:t.dG=true) (w:World) (h:aL (· <n0) w v t) (dD:n0<=w.heap.size) (hs:t.size<=10000000): Calls Tryz.prog 97 #[v] w fun e w'=>e=.returned (.bool true)/\Below w.heap.size w w':=by
 have qq:n0<=w.heap.size/\t.size<=10000000:=⟨dD,hs⟩;clear qq;obtain⟨r2,rl,r0,r6,Pg,r5,Ph⟩:=cW t hr;obtain⟨m2,m5,m3,m4,Qx⟩:=iu t hr;have CH4:Hid (∀ W,Below w.heap.size w W->Calls Tryz.prog 123 #[v,.int .u8 4] W fun e w'=>e=.returned (.bool false)/\Below W.heap.size W w'):=hid fun W hW=>by
  have:=tT n0 v t 4 W (h.qi (hW.mono dD)) (Nat.le_trans dD hW.size) hs;rwa[show t.has 4=false from m4 hk]at this
 obtain⟨p,c,rfl⟩:=h.form;have heq:=ry t.set;rw[show(t.set==0)=true from by rw[m2 (by omega)];rfl]at heq;obtain⟨e1,e2⟩:=m5 (by omega);obtain⟨n,hn⟩:∃ n,n=t.subs.length:=⟨_,rfl⟩;have gR:(1:Int)<n:=by have:=Ph (by omega);omega
 have jB:decide ((1:Int)<n)=true:=decide_eq_true gR;have ch4:=CH4.out;clear CH4;rw[<-hn,hk]at ch4;rw[e1,e2]at ch4;rw[<-hn]at*;rw[hk]at*;rw[e1,e2]at*;generalize t.set=s at*;generalize t.mn=mn at*;generalize t.mx=mx at*;generalize t.subs=l at*;clear hk hr h hs r2 rl r0 r6 Pg r5 Ph m2 m5 m3 m4 Qx hn e1 e2;have CH4:=hid ch4;clear ch4;unfold au at*;go_enter Tryz.func97,Tryz.ntmps97;go_wp2_with fail
 refine az ?_;intro V hV;have B1:Hid (ah V w.heap.size #[.int .u8 4,.int .u64 (wd s 0).toNat,.int .u64 (wd s 1).toNat,.int .u64 (wd s 2).toNat,.int .u64 (wd s 3).toNat,.int .i64 0,.int .i64 0,.slice p n c] 62):=by rw[hV];exact hid (ah.new _ _ _)
 have X1:Hid (Below w.heap.size w V):=by rw[hV];exact hid ((Ext.refl _).alloc _).below
 clear hV;refine(CH4.out V X1.out).mono ?_;rintro e w2 ⟨rfl,hx⟩;have X2:=hid (X1.out.trans (hx.mono X1.out.size));clear hx B1 X1;go_wp2;go_ret;exact⟨rfl,X2.out⟩
theorem Fp (n0:Nat) (v:Value) (t:RX) (hk:t.kind=5) (hr:t.dG=true) (w:World) (h:aL (· <n0) w v t) (dD:n0<=w.heap.size) (hs:t.size<=10000000): Calls Tryz.prog 97 #[v] w fun e w'=>e=.returned (.bool true)/\Below w.heap.size w w':=by
 have qq:n0<=w.heap.size/\t.size<=10000000:=⟨dD,hs⟩;clear qq;obtain⟨r2,rl,r0,r6,Pg,r5,Ph⟩:=cW t hr;obtain⟨m2,m5,m3,m4,Qx⟩:=iu t hr;have Xd:Hid (∀ W,Below w.heap.size w W->Calls Tryz.prog 123 #[v,.int .u8 1] W fun e w'=>e=.returned (.bool false)/\Below W.heap.size W w'):=hid fun W hW=>by
  have:=tT n0 v t 1 W (h.qi (hW.mono dD)) (Nat.le_trans dD hW.size) hs;rwa[show t.has 1=false from Qx hk]at this
 obtain⟨p,c,rfl⟩:=h.form;have heq:=ry t.set;rw[show(t.set==0)=true from by rw[m2 (by omega)];rfl]at heq;obtain⟨n,hn⟩:∃ n,n=t.subs.length:=⟨_,rfl⟩;have gR:n=1:=by rw[hn];exact Pg (by omega)
 have Xe:=Xd.out;clear Xd;rw[<-hn,hk]at Xe;rw[gR]at Xe;rw[<-hn]at*;have CB:=hid fun W=>Lp t.mn t.mx (r5 hk) W
 rw[hk]at*;subst gR;have d1:(t.mn != 0)=(t.mn != 0):=rfl;obtain⟨g1,hg1⟩:∃ g,g=(t.mn != 0):=⟨_,rfl⟩;generalize t.set=s at*;generalize t.mn=mn at*;generalize t.mx=mx at*;generalize t.subs=l at*;clear hg1 d1 g1;clear hk hr h hs r2 rl r0 r6 Pg r5 Ph m2 m5 m3 m4 Qx hn;have Xd:=hid Xe;clear Xe;unfold au at*;go_enter Tryz.func97,Tryz.ntmps97;go_wp2_with fail
 refine CB.out _ |>.mono ?_;rintro e w1 ⟨rfl,hw⟩;replace hw:=hw.symm;subst hw;go_wp2_with fail
 refine az ?_;intro V hV;have B1:Hid (ah V w.heap.size #[.int .u8 5,.int .u64 (wd s 0).toNat,.int .u64 (wd s 1).toNat,.int .u64 (wd s 2).toNat,.int .u64 (wd s 3).toNat,.int .i64 mn,.int .i64 mx,.slice p 1 c] 62):=by rw[hV];exact hid (ah.new _ _ _)
 have X1:Hid (Below w.heap.size w V):=by rw[hV];exact hid ((Ext.refl _).alloc _).below
 clear hV;refine(Xd.out V X1.out).mono ?_;rintro e w2 ⟨rfl,hx⟩;have X2:=hid (X1.out.trans (hx.mono X1.out.size));clear hx B1 X1;go_wp2;go_ret;exact⟨rfl,X2.out⟩
theorem Fq (n0:Nat) (v:Value) (t:RX) (hk:t.kind=6) (hr:t.dG=true) (w:World) (h:aL (· <n0) w v t) (dD:n0<=w.heap.size) (hs:t.size<=10000000): Calls Tryz.prog 97 #[v] w fun e w'=>e=.returned (.bool true)/\Below w.heap.size w w':=by
 have qq:n0<=w.heap.size/\t.size<=10000000:=⟨dD,hs⟩;clear qq;obtain⟨r2,rl,r0,r6,Pg,r5,Ph⟩:=cW t hr;obtain⟨m2,m5,m3,m4,Qx⟩:=iu t hr;obtain⟨p,c,rfl⟩:=h.form;have heq:=ry t.set;rw[show(t.set==0)=true from by rw[m2 (by omega)];rfl]at heq;obtain⟨e1,e2⟩:=m5 (by omega);obtain⟨n,hn⟩:∃ n,n=t.subs.length:=⟨_,rfl⟩;have gR:n=1:=by rw[hn];exact Pg (by omega)
 rw[<-hn]at*;rw[hk]at*;rw[e1,e2]at*;subst gR;generalize t.set=s at*;generalize t.mn=mn at*;generalize t.mx=mx at*;generalize t.subs=l at*;clear hk hr h hs r2 rl r0 r6 Pg r5 Ph m2 m5 m3 m4 Qx hn e1 e2;unfold au at*;go_enter Tryz.func97,Tryz.ntmps97;go_wp2;go_ret;exact⟨rfl,((Ext.refl _).alloc _).below⟩
theorem IG (n0:Nat) (v:Value) (t:RX) (hr:t.dG=true) (w:World) (h:aL (· <n0) w v t) (dD:n0<=w.heap.size) (hs:t.size<=10000000): Calls Tryz.prog 97 #[v] w fun e w'=>e=.returned (.bool true)/\Below w.heap.size w w':=by
 have h1:=(cW t hr).2.2.1;have h2:=(cW t hr).2.2.2.1;obtain hk | hk | hk | hk | hk | hk:t.kind=1\/t.kind=2\/t.kind=3\/t.kind=4\/t.kind=5\/t.kind=6:=by omega
 ·exact Fk n0 v t hk hr w h dD hs
 ·exact Fl n0 v t hk hr w h dD hs
 ·exact Fm n0 v t hk hr w h dD hs
 ·exact Fo n0 v t hk hr w h dD hs
 ·exact Fp n0 v t hk hr w h dD hs
 ·exact Fq n0 v t hk hr w h dD hs
attribute [local go_sem] Oper.semAt_some gO dC
theorem TL (t:RX):∀ x∈t.pre,x.size<=t.size:=by
 induction t using RX.ind with
 | h k s a b l ih=>
  intro x hx;rw[RX.pre]at hx;rcases List.mem_cons.1 hx with rfl | hx
  ·exact Nat.le_refl _
  ·have:∀ l':List RX,(∀ t∈l',t∈l)->x∈RX.mS l'->x.size<=RX.sizes l':=by
    intro l';induction l' with
    | nil=>intro _ h;rw[RX.mS]at h;cases h
    | cons y l' ih2=>
     intro hs h;rw[RX.mS]at h;rw[RX.sizes];rcases List.mem_append.1 h with h | h
     ·have:=ih y (hs y (List.mem_cons_self ..)) x h;omega
     ·have:=ih2 (fun t ht=>hs t (List.mem_cons_of_mem _ ht)) h;omega
   have h5:=this l (fun _ h=>h) hx;rw[RX.size];omega
theorem Lq (v:Value) (t:RX) (hs:t.size<=10000) (w:World) (h:aL (· <w.heap.size) w v t): Calls Tryz.prog 75 #[v] w fun e w'=>e=.returned (.int .i64 t.size)/\Below w.heap.size w w':=by
 have CL:Hid (∀ W,Below w.heap.size w W->Calls Tryz.prog 94 #[v] W fun e w'=>e=.returned (.bool true)/\Below W.heap.size W w'):=hid fun W hW=>vw v t hs W ((h.qi hW).mono fun b hb=>Nat.lt_of_lt_of_le hb hW.size)
 obtain⟨xs,hmap,pC,hseq⟩:=vv w.heap.size t (by omega) v w h (Nat.le_refl _);obtain⟨p,c,rfl⟩:=h.form;have hlen:xs.length=t.size:=by
  have e:xs.length=t.pre.length:=by rw[<-hmap,List.length_map]
  rw[e,MX]
 rw[<-hlen]at hs ⊢;have TJ:=hid fun W B=>hseq W B _ rfl
 clear hseq pC hmap h hlen;refine ck Tryz.func75 rfl ?_;simp only[Tryz.ntmps75,List.size_toArray,List.length_cons,List.length_nil,Nat.reduceAdd,Nat.reduceSub,Array.replicate_succ,Array.replicate_zero,List.push_toArray,List.append_toArray,List.nil_append,List.cons_append,au]at CL ⊢;go_wp2_with fail
 refine az ?_;intro V hV;have B1:Hid (ah V w.heap.size (au t.kind t.set t.mn t.mx (.slice p t.subs.length c)) 62):=by rw[hV];exact hid (ah.new _ _ _)
 have X1:Hid (Below w.heap.size w V):=by rw[hV];exact hid ((Ext.refl _).alloc _).below
 clear hV;refine(CL.out V X1.out).mono ?_;rintro e w1 ⟨rfl,hx⟩;have B2:=hid (B1.out.below hx B1.out.lt);have X2:=hid (X1.out.trans (hx.mono X1.out.size));have aaw:w.heap.size<w1.heap.size:=B2.out.lt;clear hx B1 X1 CL;obtain⟨b0,b1,b2,b3,b4,b5,b6,b7⟩:=(show _/\_/\_/\_/\_/\_/\_/\_ from⟨(B2.out.alloc (.cells #[.int .i64 0] 3 (0,0))).cell 0,(B2.out.alloc (.cells #[.int .i64 0] 3 (0,0))).cell 1,(B2.out.alloc (.cells #[.int .i64 0] 3 (0,0))).cell 2,(B2.out.alloc (.cells #[.int .i64 0] 3 (0,0))).cell 3,(B2.out.alloc (.cells #[.int .i64 0] 3 (0,0))).cell 4,(B2.out.alloc (.cells #[.int .i64 0] 3 (0,0))).cell 5,(B2.out.alloc (.cells #[.int .i64 0] 3 (0,0))).cell 6,(B2.out.alloc (.cells #[.int .i64 0] 3 (0,0))).cell 7⟩);simp only[au,List.getElem?_toArray,List.getElem?_cons_zero,List.getElem?_cons_succ]at b0 b1 b2 b3 b4 b5 b6 b7;go_wp2_with (go_at_call 96;refine(nP _ _).mono ?_;rintro e w9 ⟨rfl,rfl⟩);refine aw ?_;intro W0 hW0;have h1:ah W0 w1.heap.size #[.int .i64 0] 3:=by rw[hW0];exact(ah.new _ _ _).alloc _
 have h3:ah W0 (w1.heap.size+1) (au t.kind t.set t.mn t.mx (.slice p t.subs.length c)) 62:=by rw[hW0];exact(ah.new _ _ _).at (by simp)
 have hx:Below w.heap.size w W0:=by rw[hW0];exact X2.out.trans (((Ext.refl w1).alloc _).alloc _ |>.below.mono X2.out.size)
 have hsz:W0.heap.size=w1.heap.size+1+1:=by rw[hW0];simp
 clear hW0 b0 b1 b2 b3 b4 b5 b6 b7;refine im (w:=W0) (d:=true) (TJ.out W0 _ (aa.ag hx fun _ h=>h) h3) (by rfl) rj (by intro _;rfl) (by intro k hk;rcases hk with hk | hk<;>omega)
  (fun ys _ W=>ah W w1.heap.size #[.int .i64 ys.length] 3/\Below w.heap.size w W)
  (fun _ _ _ _=>False)
  (fun ys T T' W W' ⟨h1,h3⟩ hT Ra hs hn hk=>⟨h1.nA hT hk (by omega),jh h3 hT hk (Nat.le_refl _) (by omega)⟩)
  (fun c ys T T' W W' h=>h.elim)
  ⟨h1,hx⟩
  (fun x=>⟨#[.agg (au t.kind t.set t.mn t.mx (.slice p t.subs.length c)),.pointer (some ⟨w.heap.size,0,none⟩),.int .i64 0,.pointer (some ⟨w1.heap.size,0,none⟩),.agg (au t.kind t.set t.mn t.mx (.slice p t.subs.length c)),.bool true,.bool false,.agg (au t.kind t.set t.mn t.mx (.slice p t.subs.length c)),.func (.func 122) #[] #[.pointer (some ⟨w1.heap.size+1,0,none⟩)],x.1,undef,undef,undef],[]⟩) ?assign ?body ?done ?stop
 case assign=>
  intro l x W K hK
  gi_wp2
  simpa[IE,au]using hK
 case body=>
  rintro l pre x T W bQ hT hR xR hl ⟨h1,hx⟩;have hle:pre.length+1<=10000:=by
   have hle:=bQ.length_le;rw[List.length_append]at hle;simp only[List.length_cons,List.length_nil]at hle;omega
  have c1:W.cell? ⟨w1.heap.size,0,none⟩=some (.int .i64 pre.length):=h1.cell 0;have f1:=h1.frozen 0;have e1:IntKind.i64.wrap ((pre.length:Int)+1)=(pre.length:Int)+1:=IntWalk.i64_in _ (by omega);have e4:((pre++ [x]).length:Int)=(pre.length:Int)+1:=by rw[List.length_append];rfl
  have H1:=hid h1;have HX:=hid hx;have HS:=hid hsz;have HT:=hid hT;have HE4:=hid e4;clear h1 hx hR hl xR hsz hT h3 bQ e4;obtain⟨m,hm⟩:∃ m,m=pre.length:=⟨_,rfl⟩;rw[<-hm]at c1 e1 H1 HE4 hle;clear hm
  gi_wp2
  refine⟨((aa.refl _ _).setCell (fun h=>?_) _),(by rw[HE4.out];exact H1.out.set 0 _),HX.out.setCell (by simp;omega) _⟩;have h2:=HS.out;rcases h with(h | h) | h
  ·dsimp only at h;omega
  ·dsimp only at h;omega
  ·have h1:=(HT.out _ h).1;dsimp only at h1;omega
 case done=>
  rintro D T W hD yf hT ⟨h1,hx⟩ nw;have c1:W.cell? ⟨w1.heap.size,0,none⟩=some (.int .i64 xs.length):=h1.cell 0;have HX:=hid hx;have HS:=hid hsz;have HD:=hid hD;have xC:=hid nw;clear h1 hx yf hsz hT nw hD;dsimp only;go_wp2;refine dz rfl xC.out (results_tmp rfl _ _ _) ⟨rfl,((aa.ag HX.out fun _ h=>h).putObj (by have h1:=HD.out;have h2:=HS.out;omega) _).below⟩
 case stop=>rintro D c pre T W _ _ _ _ h _;exact h.elim
end
section
open Go Go.RowKit Go.Shelf Go.Maps
attribute [local go_sem] Oper.semAt_some gO dC
theorem II (v:Value) (t:RX) (hf:t.fine) (hs:t.size<=10000) (w:World) (h:aL (· <w.heap.size) w v t): Calls Tryz.prog 74 #[v] w fun e w'=>e=.returned (.bool true)/\Below w.heap.size w w':=by
 have CL:Hid (∀ W,Below w.heap.size w W->Calls Tryz.prog 94 #[v] W fun e w'=>e=.returned (.bool true)/\Below W.heap.size W w'):=hid fun W hW=>vw v t hs W ((h.qi hW).mono fun b hb=>Nat.lt_of_lt_of_le hb hW.size)
 obtain⟨xs,hmap,pC,hseq⟩:=vv w.heap.size t (by omega) v w h (Nat.le_refl _);obtain⟨p,c,rfl⟩:=h.form;have CR:Hid (∀ x∈xs,∀ W,aa (· <w.heap.size) w W->Calls Tryz.prog 97 #[x.1] W fun e w'=>e=.returned (.bool true)/\Below W.heap.size W w'):=hid fun x hx W hW=>by
  have hp:x.2∈t.pre:=by rw[<-hmap];exact List.mem_map_of_mem hx
  exact IG w.heap.size x.1 x.2 (hf x.2 hp) W ((pC x hx).kept hW) hW.size (by have:=TL t x.2 hp;omega)
 have TJ:=hid fun W B=>hseq W B _ rfl
 have abt:=hid pC;clear hseq pC hmap h hs hf;refine ck Tryz.func74 rfl ?_;simp only[Tryz.ntmps74,List.size_toArray,List.length_cons,List.length_nil,Nat.reduceAdd,Nat.reduceSub,Array.replicate_succ,Array.replicate_zero,List.push_toArray,List.append_toArray,List.nil_append,List.cons_append,au]at CL ⊢;go_wp2_with fail
 refine az ?_;intro V hV;have B1:Hid (ah V w.heap.size (au t.kind t.set t.mn t.mx (.slice p t.subs.length c)) 62):=by rw[hV];exact hid ((ah.new _ _ _).alloc _)
 have R1:Hid (ah V (w.heap.size+1) #[.bool false] 4):=by rw[hV];exact hid ((ah.new (w.alloc _) _ _).at (by simp))
 have X1:Hid (Below w.heap.size w V):=by rw[hV];exact hid (((Ext.refl _).alloc _).alloc _).below
 clear hV;refine(CL.out V X1.out).mono ?_;rintro e w1 ⟨rfl,hx⟩;have B2:=hid (B1.out.below hx B1.out.lt);have R2:=hid (R1.out.below hx R1.out.lt);have X2:=hid (X1.out.trans (hx.mono X1.out.size));have aaw:w.heap.size+1<w1.heap.size:=R2.out.lt;clear hx B1 X1 R1 CL;obtain⟨b0,b1,b2,b3,b4,b5,b6,b7⟩:=(show _/\_/\_/\_/\_/\_/\_/\_ from⟨B2.out.cell 0,B2.out.cell 1,B2.out.cell 2,B2.out.cell 3,B2.out.cell 4,B2.out.cell 5,B2.out.cell 6,B2.out.cell 7⟩);simp only[au,List.getElem?_toArray,List.getElem?_cons_zero,List.getElem?_cons_succ]at b0 b1 b2 b3 b4 b5 b6 b7;go_wp2_with (go_at_call 96;refine(nP _ _).mono ?_;rintro e w9 ⟨rfl,rfl⟩);refine aw ?_;intro W0 hW0;have h1:ah W0 (w.heap.size+1) #[.bool false] 4:=by rw[hW0];exact R2.out.alloc _
 have h3:ah W0 w1.heap.size (au t.kind t.set t.mn t.mx (.slice p t.subs.length c)) 62:=by rw[hW0];exact ah.new _ _ _
 have hx:Below w.heap.size w W0:=by rw[hW0];exact X2.out.trans (((Ext.refl w1).alloc _).below.mono X2.out.size)
 have hsz:W0.heap.size=w1.heap.size+1:=by rw[hW0];simp
 clear hW0 b0 b1 b2 b3 b4 b5 b6 b7;have hR9:∀ k,(k<w.heap.size\/k=w1.heap.size)->k<W0.heap.size:=fun k hk=>by rcases hk with hk | hk<;>omega
 refine xS (w:=W0) (d:=true) (TJ.out W0 _ (aa.ag hx fun _ h=>h) h3) (by rfl) rj (by intro _;rfl) hR9
  (fun ys _ W=>ah W (w.heap.size+1) #[.bool false] 4/\Below w.heap.size w W)
  (fun _ _ _ _=>False)
  (fun ys T T' W W' ⟨h1,h3⟩ hT Ra hs hn hk=>⟨h1.nA hT hk (by omega),jh h3 hT hk (Nat.le_refl _) (by omega)⟩)
  (fun c ys T T' W W' h=>h.elim)
  ⟨h1,hx⟩
  (fun z T W=>∃ b9:Nat,z.2.2= {tmps:= #[.agg (au t.kind t.set t.mn t.mx (.slice p t.subs.length c)),.pointer (some ⟨w.heap.size,0,none⟩),.pointer (some ⟨w.heap.size+1,0,none⟩),.pointer (some ⟨b9,0,none⟩),.agg (au t.kind t.set t.mn t.mx (.slice p t.subs.length c)),.bool true,.bool false,.agg (au t.kind t.set t.mn t.mx (.slice p t.subs.length c)),.func (.func 122) #[] #[.pointer (some ⟨w1.heap.size,0,none⟩)],z.2.1.1,undef,undef,undef],defers:=[]} /\W0.heap.size<=b9/\b9<W.heap.size/\¬T b9/\(∃ c,z.2.1.1=.agg c/\ah W b9 c 62)/\ah W (w.heap.size+1) #[.bool false] 4/\Below w.heap.size w W)
  ?hIa ?assign ?body ?done ?stop
 case hIa=>
  rintro⟨pre,x,a1⟩ T T' W W' ⟨b9,e1,e2,e3,e4,⟨c,e5,e6⟩,e7,e8⟩ h1 h2 h3 h4 h5;have hs:=h5.size;refine⟨b9,e1,e2,by omega,fun h=>?_,⟨c,e5,e6.keeps h5.keeps ⟨e3,e4⟩⟩,e7.nA h1 h5 (by omega),jh e8 h1 h5 (Nat.le_refl _) (by omega)⟩;rcases h4 b9 h with h | h
  ·exact e4 h
  ·omega
 case assign=>
  rintro lr pre ⟨xv,xt⟩ T W hp hT hk ⟨i1,i2⟩;have hx:=abt.out (xv,xt) (hp.subset (by simp));obtain⟨p9,c9,e9⟩:=hx.form;dsimp only at e9;subst e9;have I1:=hid i1;have I2:=hid i2;have HT:=hid hT;have HK:=hid hk;clear i1 i2 hT hx hp hk h3 h1;dsimp only[au,IE]
  gi_wp2
  have xI:W0.heap.size<=W.heap.size:=HK.out.size;refine⟨((aa.refl _ _).alloc (fun j hj=>?_) _),W.heap.size,rfl,xI,by simp,fun h=>by have:=(HT.out _ h).2;omega,⟨_,rfl,ah.new _ _ _⟩,I1.out.alloc _,I2.out.alloc I2.out.size _⟩;rcases hj with hj | hj
  ·have:=hR9 j hj;omega
  ·exact(HT.out j hj).2
 case body=>
  rintro lr pre ⟨xv,xt⟩ T a1 W hp hT hk xR uI ⟨b9,e1,e2,e3,e4,⟨c9,e5,e6⟩,e7,e8⟩;have hxm:=hp.subset (show(xv,xt)∈pre++ [(xv,xt)] by simp);have hx:=abt.out (xv,xt) hxm;obtain⟨p9,cp9,e9⟩:=hx.form;dsimp only at e1 e5 e9;rw[e5]at e9;injection e9 with e9
  subst e1 e5 e9;have C1:=hid (CR.out _ hxm W (aa.ag e8 fun _ h=>h));have E7:=hid e7;have E8:=hid e8;have HT:=hid hT;obtain⟨b0,b1,b2,b3,b4,b5,b6,b7⟩:=(show _/\_/\_/\_/\_/\_/\_/\_ from⟨e6.cell 0,e6.cell 1,e6.cell 2,e6.cell 3,e6.cell 4,e6.cell 5,e6.cell 6,e6.cell 7⟩);simp only[au,List.getElem?_toArray,List.getElem?_cons_zero,List.getElem?_cons_succ]at b0 b1 b2 b3 b4 b5 b6 b7;dsimp only[au]at C1;clear e7 e6 e8 hx hp uI xR hT h3 h1 hxm hk
  gi_wp2_with (gi_at_call 97;refine(CallsIn.inRound lr (callsIn_wide.2 C1.out)).mono ?_;rintro e w2 ⟨rfl,hx⟩;have gP:=hid hx;clear hx)
  have hs2:=E8.out.size;refine⟨aa.ag gP.out fun j hj=>?_,E7.out.below gP.out E7.out.lt,E8.out.trans (gP.out.mono hs2)⟩;rcases hj with hj | hj
  ·have:=hR9 j hj;omega
  ·exact(HT.out j hj).2
 case done=>
  rintro D T W hD yf hT ⟨i1,hx⟩ nw;have HX:=hid hx;have I1:=hid i1;have f1:=i1.frozen 0;have c1:W.cell? ⟨w.heap.size+1,0,none⟩=some (.bool false):=i1.cell 0;have HD:=hid hD;have xC:=hid nw;clear hx yf hT nw hD i1;dsimp only;go_wp2;have hne:w.heap.size+1≠D:=by have:=HD.out;omega
  have hd2:(W.setCell ⟨w.heap.size+1,0,none⟩ (.bool true)).heap[D]? =some (.deferred (some [])):=(Below.heap_setCell _ _ _ _ (by simpa using hne.symm)).trans xC.out;have bt:=(I1.out.set 0 (.bool true));have m0:((W.setCell ⟨w.heap.size+1,0,none⟩ (.bool true)).putObj D (.deferred none)).cell? ⟨w.heap.size+1,0,none⟩=some (.bool true):=(Gw hd2 rfl rfl _).trans (bt.cell 0);refine dz rfl hd2 (v:=.bool true) (by simp[results,Tryz.results74,go_sem,m0]) ⟨rfl,?_⟩;have k1:aa (· <w.heap.size) w (W.setCell ⟨w.heap.size+1,0,none⟩ (.bool true)):=(aa.ag HX.out fun _ h=>h).setCell (by simp) _;exact(k1.putObj (by have h1:=HD.out;omega) _).below
 case stop=>rintro D c pre T W _ _ _ _ h _;exact h.elim
end
section
open Go Go.RowKit Go.Shelf Go.Maps
theorem IJ (l:List RX):RX.bL l<=10001*l.length:=by
 induction l with
 | nil=>simp[RX.bL]
 | cons x l ih=>
  rw[RX.bL,List.length_cons];have:=Fb x;omega
theorem Lr {l:List RX} {i:Nat} {t:RX} (h:l[i]? =some t):RX.bL (l.take (i+1))=RX.bL (l.take i)+t.cO:=by rw[List.take_add_one,h,eL];simp[RX.bL]
theorem Pj (t:RX):t.size<=10000000->∀ (n0:Nat) (v:Value) (w:World),aL (· <n0) w v t->n0<=w.heap.size-> Calls Tryz.prog 98 #[v] w fun e w'=>e=.returned (.int .i64 t.cO)/\Below w.heap.size w w':=by
 induction t using RX.ind with
 | h k s mn mx l ih=>
  intro hsz n0 v w hv dD;obtain⟨p,c,rfl⟩:=hv.form;obtain⟨n,hn⟩:∃ n,n=l.length:=⟨_,rfl⟩;simp only[RX.kind,RX.set,RX.mn,RX.mx,RX.subs]at hv ⊢;rw[<-hn]at hv ⊢;have hn7:n<=10000000:=by rw[hn];exact Nat.le_trans (rv l) (by rw[RX.size]at hsz;omega)
  have IH:Hid (∀ (i:Nat) (t:RX),l[i]? =some t->∀ (v:Value) (w:World),aL (· <n0) w v t->n0<=w.heap.size->Calls Tryz.prog 98 #[v] w fun e w'=>e=.returned (.int .i64 t.cO)/\Below w.heap.size w w'):=hid fun i t hi v w h h0=>ih t (List.mem_of_getElem? hi) (Nat.le_trans (zv (List.mem_of_getElem? hi)) (by rw[RX.size]at hsz;omega)) n0 v w h h0
  obtain⟨s0,hs0⟩:∃ s0:Nat,s0=if k=2 then 1 else 0:=⟨_,rfl⟩
  have ar9:s0<=1:=by rw[hs0];split<;>omega
  obtain⟨S,hS⟩:∃ S,S=s0+RX.bL l:=⟨_,rfl⟩;have afn:S<=200000000000:=by have:=IJ l;rw[<-hn]at this;omega
  obtain⟨R,hR⟩:∃ R,R=(RX.nd k s mn mx l).cO:=⟨_,rfl⟩;have hRS:R=min (S*(if k=5 then min (RX.times mn mx) 10001 else 1)) 10001:=by rw[hR,RX.cO,hS,hs0]
  rw[<-hR];have HV:=hid hv;have HN:=hid hn;have HS0:=hid hs0;have HSS:=hid hS;have Yz:=hid hRS;clear hv hn hs0 hS hRS hR ih hsz;unfold au;go_enter Tryz.func98,Tryz.ntmps98;go_upto_region 2 with fail
  refine aw ?_;intro V hV;have B1:Hid (ah V w.heap.size #[.int .u8 k,.int .u64 (wd s 0).toNat,.int .u64 (wd s 1).toNat,.int .u64 (wd s 2).toNat,.int .u64 (wd s 3).toNat,.int .i64 mn,.int .i64 mx,.slice p n c] 62):=by rw[hV];exact hid (ah.new _ _ _)
  have X1:Hid (Below w.heap.size w V):=by rw[hV];exact hid ((Ext.refl _).alloc _).below
  clear hV;have b0:V.cell? ⟨w.heap.size,0,none⟩=some (.int .u8 k):=B1.out.cell 0;have b7:V.cell? ⟨w.heap.size,7,none⟩=some (.slice p n c):=B1.out.cell 7
  go_upto_if 10 with fail
  go_cut [3] from 8 to 10 (fun x wx=>x=.int .i64 s0/\wx=V)
  case first=>
   by_cases hk:k=2
   ·have e0:s0=1:=by rw[HS0.out,if_pos hk]
    have d1:((k:Int)==2)=true:=by rw[hk];rfl
    go_wp2_with fail
    go_meet
    exact⟨by rw[e0];rfl,rfl⟩
   ·have e0:s0=0:=by rw[HS0.out,if_neg hk]
    have d1:((k:Int)==2)=false:=by rw[beq_eq_false_iff_ne];omega
    go_wp2_with fail
    go_meet
    exact⟨by rw[e0];rfl,rfl⟩
  case rest=>
  obtain⟨rfl,hwc⟩:=hcut;replace hwc:=hwc.symm;subst hwc;go_wp2;clear b0 b7;go_loopw [14,3] (fun iv sv wr=>∃ i:Nat,i<=n/\iv=.int .i64 i/\sv=.int .i64 ((s0+RX.bL (l.take i):Nat):Int)/\Below V.heap.size V wr) (fun iv _ _=>n-(intOf iv).toNat);case atStart=>exact⟨0,by omega,rfl,by simp[RX.bL],Below.refl _ _⟩
  case round=>
   obtain⟨i,hi,rfl,rfl,hx⟩:=hrel;obtain⟨wo,rfl⟩:∃ wo:World,wo=wr:=⟨_,rfl⟩;have HX:=hid hx;have XO:=hid (X1.out.trans (hx.mono X1.out.size));clear hx;by_cases hlt:i<n
   ·have gz:(i:Int)<n:=by omega
    obtain⟨t,ht⟩:∃ t,l[i]? =some t:=⟨_,List.getElem?_eq_getElem (by have:=HN.out;omega)⟩;obtain⟨b,off,p',c',ep,hbF,hb,_,⟨q0,q1,q2,q3,q4,q5,q6,q7⟩,hrt⟩:=(HV.out.qi (XO.out.mono dD)).elem ht;subst ep;have YQ:=Lr ht;obtain⟨m,hm⟩:∃ m,m=RX.bL (l.take i):=⟨_,rfl⟩;have asa:m<=100010000000:=by have:=IJ (l.take i);rw[List.length_take]at this;rw[hm];omega
    have htp:=Fb t;obtain⟨tp,abu⟩:∃ tp,tp=t.cO:=⟨_,rfl⟩;rw[<-hm]at YQ ⊢;rw[<-abu]at YQ htp;have e1:IntKind.i64.wrap (((s0+m:Nat):Int)+(tp:Int))=((s0+m+tp:Nat):Int):=by rw[IntWalk.i64_in _ (by omega)];omega
    obtain⟨sm,hsm⟩:∃ sm,sm=s0+m:=⟨_,rfl⟩;rw[<-hsm]at e1 ⊢;have YR:s0+RX.bL (l.take (i+1))=sm+tp:=by rw[YQ,hsm];omega
    have C1:=hid (fun W (hW:Below wo.heap.size wo W)=>IH.out i t ht _ W (hrt.qi (hW.mono (Nat.le_trans dD XO.out.size))) (Nat.le_trans (Nat.le_trans dD XO.out.size) hW.size));unfold au at C1;rw[<-abu]at C1;have Ql:=hid YR;clear hrt YQ hm YR hsm abu ht;go_wp2_with fail
    refine az ?_;intro V2 hV2;have X2:Hid (Below wo.heap.size wo V2):=by rw[hV2];exact hid ((Ext.refl _).alloc _).below
    clear hV2;refine(C1.out V2 X2.out).mono ?_;rintro e w3 ⟨rfl,hx⟩;have X3:=hid (HX.out.trans ((X2.out.trans (hx.mono X2.out.size)).mono HX.out.size));clear hx C1 X2;go_wp2;go_roundw;case rel=>exact⟨i+1,by omega,by go_num,by rw[Ql.out,Int.natCast_add],X3.out⟩
    case measure=>simp[intOf];omega
   ·obtain rfl:i=n:=by omega
    have gz:¬ ((i:Int)<i):=by omega
    have eH:s0+RX.bL (l.take i)=S:=by rw[HSS.out,HN.out,List.take_length]
    rw[eH];obtain⟨b0,b5,b6⟩:=(show _/\_/\_ from⟨(B1.out.below HX.out B1.out.lt).cell 0,(B1.out.below HX.out B1.out.lt).cell 5,(B1.out.below HX.out B1.out.lt).cell 6⟩);simp only[List.getElem?_toArray,List.getElem?_cons_zero,List.getElem?_cons_succ]at b0 b5 b6;clear eH;by_cases hk:k=5
    ·have d1:((k:Int)==5)=true:=by rw[hk];rfl
     have Pk:=Yz.out;rw[if_pos hk]at Pk;obtain⟨L,hL⟩:∃ L:Int,max mn 0=L:=⟨_,rfl⟩;by_cases hx1:mx= -1
     ·have d2:(mx== -1)=true:=by rw[hx1];rfl
      obtain⟨T0,Qf⟩:∃ T0:Int,max L mx=T0:=⟨_,rfl⟩;obtain⟨T1,hT1⟩:∃ T1:Int,max L 1=T1:=⟨_,rfl⟩;obtain⟨F,hF⟩:∃ F:Nat,F=min (RX.times mn mx) 10001:=⟨_,rfl⟩;have Pd:min T1 10001=(F:Int):=by rw[hF, <-hT1, <-hL];unfold RX.times;rw[if_pos hx1];omega
      have abv:F<=10001:=by rw[hF];omega
      rw[<-hF]at Pk;have oQ:S*F<=200000000000*10001:=Nat.mul_le_mul afn abv;obtain⟨M,hM⟩:∃ M,M=S*F:=⟨_,rfl⟩;have e1:IntKind.i64.wrap ((S:Int)*(F:Int))=(M:Int):=by rw[show(S:Int)*(F:Int)=(M:Int) by rw[hM];push_cast;rfl];exact IntWalk.i64_in _ (by omega)
      rw[<-hM]at Pk;have e2:min (M:Int) 10001=(R:Int):=by omega
      have HRX:=hid Pk;clear Pk hM hF oQ;subst hx1;go_wp2;go_ret;exact⟨rfl,XO.out⟩
     ·have d2:(mx== -1)=false:=beq_false_of_ne hx1
      obtain⟨T0,Qf⟩:∃ T0:Int,max L mx=T0:=⟨_,rfl⟩;obtain⟨F,hF⟩:∃ F:Nat,F=min (RX.times mn mx) 10001:=⟨_,rfl⟩;have Pd:min T0 10001=(F:Int):=by rw[hF, <-Qf, <-hL];unfold RX.times;rw[if_neg hx1];omega
      have abv:F<=10001:=by rw[hF];omega
      rw[<-hF]at Pk;have oQ:S*F<=200000000000*10001:=Nat.mul_le_mul afn abv;obtain⟨M,hM⟩:∃ M,M=S*F:=⟨_,rfl⟩;have e1:IntKind.i64.wrap ((S:Int)*(F:Int))=(M:Int):=by rw[show(S:Int)*(F:Int)=(M:Int) by rw[hM];push_cast;rfl];exact IntWalk.i64_in _ (by omega)
      rw[<-hM]at Pk;have e2:min (M:Int) 10001=(R:Int):=by omega
      have HRX:=hid Pk;clear Pk hM hF oQ;go_wp2;go_ret;exact⟨rfl,XO.out⟩
    ·have d1:((k:Int)==5)=false:=by rw[beq_eq_false_iff_ne];omega
     have e2:min (S:Int) 10001=(R:Int):=by have:=Yz.out;rw[if_neg hk,Nat.mul_one]at this;omega
     go_wp2;go_ret;exact⟨rfl,XO.out⟩
theorem xl (v:Value) (t:RX) (hs:t.size<=10000) (w:World) (h:aL (· <w.heap.size) w v t): Calls Tryz.prog 76 #[v] w fun e w'=>e=.returned (.int .i64 t.cO)/\Below w.heap.size w w':=by
 have CL:Hid (∀ W,Below w.heap.size w W->Calls Tryz.prog 94 #[v] W fun e w'=>e=.returned (.bool true)/\Below W.heap.size W w'):=hid fun W hW=>vw v t hs W ((h.qi hW).mono fun b hb=>Nat.lt_of_lt_of_le hb hW.size)
 have CP:Hid (∀ W,Below w.heap.size w W->Calls Tryz.prog 98 #[v] W fun e w'=>e=.returned (.int .i64 t.cO)/\Below W.heap.size W w'):=hid fun W hW=>Pj t (by omega) w.heap.size v W (h.qi hW) hW.size
 obtain⟨p,c,rfl⟩:=h.form;generalize t.cO=r at*;clear h hs;unfold au at*;go_enter Tryz.func76,Tryz.ntmps76;go_wp2_with fail
 refine az ?_;intro V hV;have B1:Hid (ah V w.heap.size (au t.kind t.set t.mn t.mx (.slice p t.subs.length c)) 62):=by rw[hV];exact hid (ah.new _ _ _)
 have X1:Hid (Below w.heap.size w V):=by rw[hV];exact hid ((Ext.refl _).alloc _).below
 clear hV;refine(CL.out V X1.out).mono ?_;rintro e w1 ⟨rfl,hx⟩;have B2:=hid (B1.out.below hx B1.out.lt);have X2:=hid (X1.out.trans (hx.mono X1.out.size));clear hx B1 X1 CL;obtain⟨b0,b1,b2,b3,b4,b5,b6,b7⟩:=(show _/\_/\_/\_/\_/\_/\_/\_ from⟨B2.out.cell 0,B2.out.cell 1,B2.out.cell 2,B2.out.cell 3,B2.out.cell 4,B2.out.cell 5,B2.out.cell 6,B2.out.cell 7⟩);simp only[au,List.getElem?_toArray,List.getElem?_cons_zero,List.getElem?_cons_succ]at b0 b1 b2 b3 b4 b5 b6 b7;go_wp2_with fail
 refine(CP.out w1 X2.out).mono ?_;rintro e w2 ⟨rfl,hx⟩;have X3:=hid (X2.out.trans (hx.mono X2.out.size));clear hx b0 b1 b2 b3 b4 b5 b6 b7;go_wp2;go_ret;exact⟨rfl,X3.out⟩
end
end Go.Proofs.YtalombmiochpmaaGreatDoor
