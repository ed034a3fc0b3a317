/- The law's small trees: letters. -/
import Derived.Test.YtjgccapbphadjaaGreatDoorOX08
import Derived.Deep.CutRange
set_option maxRecDepth 100000
set_option maxHeartbeats 16000000
open Go.Lib (hid)
open Go.Value renaming slice->An,int->As,bool->A',pointer->B_,agg->GB,oneCell'->IF
open Go.Ending renaming returned->AF
open Option renaming none->AI,some->AN
open Go.Lib renaming hid->AM
open List renaming getElem?_cons_zero->AS,getElem?_cons_succ->AT,getElem?_toArray->Bs,length_cons->B',getElem?_eq_some_iff->DE,length_nil->DP,append_toArray->EV,size_toArray->E_,push_toArray->Ft,take_add_one->FF,contains_eq_any_beq->F_,cons_append->GO,take_length->GS,nil_append->G',length_take->Is
open Go.IntKind renaming u64->A_,i64->Bm,u8->It
open Nat renaming le_trans->By,reduceAdd->H',reduceSub->If,mul_le_mul->Iv
open Go renaming World->Cd,bodyPost_ret->G_,undef->H_
open Bool renaming false->C_,true->C'
open Go.Proofs.Tryz renaming ntmps161->DH,func161->D0,ntmps197->FG,func197->GW,prog->IN,func233->IT
open Go.RowKit renaming Hid->DQ
open Go.IntWalk renaming i64_in->DS
open Array renaming replicate_succ->D_,replicate_zero->D'
namespace Go.Proofs.YtjgccapbphadjaaGreatDoor
section
open Go Go.RowKit Go.Shelf Go.Maps
attribute [local go_sem] Oper.semAt_some gj dz
theorem J1 (t:RX):t.pre.length=t.size:=by
 induction t using RX.ind with
 | h k s a b l ih=>
  rw[RX.pre,RX.size,B'];have:∀ l':List RX,(∀ t∈l',t∈l)->(RX.kY l').length=RX.sizes l':=by
   intro l';induction l' with
   | nil=>intro _;rfl
   | cons x l' YA=>
    intro hs;rw[RX.kY,RX.sizes,aJ,ih x (hs x (bu ..)),YA fun t ht=>hs t (bM _ ht)]
  rw[this l fun _ h=>h];omega
theorem sI (v:Value) (t:RX) (hs:t.size<=10000) (w:Cd) (h:aH (· <w.heap.size) w v t): ah 158 #[v] w fun e w'=>e=AF (A' C')/\aa w w':=by
 obtain⟨xs,hmap,pN,hseq⟩:=sH w.heap.size t (by omega) v w h (aF _);obtain⟨p,c,rfl⟩:=h.form;have hlen:xs.length<=10000:=by
  have e:xs.length=t.pre.length:=by rw[<-hmap,aP]
  rw[e,J1];exact hs
 have QO:=AM fun W B=>hseq W B _ rfl
 have YY:=AM pN;clear hseq pN hmap h hs;refine cd Tryz.func158 rfl ?_;simp only[Tryz.ntmps158,E_,B',DP,H',If,D_,D',Ft,EV,G',GO,aq];go_wp2;refine wp_scope_straight ?_;go_wp2;go_step3;go_wp2_with (go_at_call 160;refine(lU _ _).mono ?_;rintro e w1 ⟨rfl,rfl⟩);refine aw ?_;intro W0 hW0;have h1:ar W0 (w.heap.size+1) #[As Bm 0] 3:=by rw[hW0];exact((ar.new _ _ _).at (by simp)).alloc _
 have h3:ar W0 (w.heap.size+1+1) (aq t.kind t.set t.mn t.mx (An p t.subs.length c)) 97:=by rw[hW0];exact(ar.new _ _ _).at (by simp)
 have hx:Ext w W0:=by rw[hW0];exact(((Ext.refl w).alloc _).alloc _).alloc _
 have hsz:W0.heap.size=w.heap.size+1+1+1:=by rw[hW0];simp
 clear hW0;refine ic (w:=W0) (d:=C') (QO W0 _ (hx.mono fun _ h=>h) h3) (by rfl) oB (by intro _;rfl) (by intro k hk;rcases hk with hk | hk<;>omega)
  (fun ys _ W=>ar W (w.heap.size+1) #[As Bm ys.length] 3/\aa w W)
  (fun _ _ _ _=>False)
  (fun ys T T' W W' ⟨h1,h3⟩ hT OT hs hn hk=>⟨h1.mJ hT hk (by omega),ib h3 hT hk (aF _) (by omega)⟩)
  (fun c ys T T' W W' h=>h.elim)
  ⟨h1,hx.below⟩
  (fun x=>⟨#[GB (aq t.kind t.set t.mn t.mx (An p t.subs.length c)),B_ (AN ⟨w.heap.size,0,AI⟩),A' C_,B_ (AN ⟨w.heap.size+1,0,AI⟩),GB (aq t.kind t.set t.mn t.mx (An p t.subs.length c)),.func (.func 195) #[] #[B_ (AN ⟨w.heap.size+1+1,0,AI⟩)],x.1,H_,H_,H_,H_,H_,H_],[]⟩) ?assign ?body ?done ?stop
 case assign=>
  intro l x W K hK
  gi_wp2
  simpa[Et,aq]using hK
 case body=>
  rintro l pre x T W bO hT hR xO hl ⟨h1,hx⟩;have hle:pre.length+1<=10000:=by
   have hle:=bO.length_le;rw[aJ]at hle;simp only[B',DP]at hle;omega
  have c1:W.cell? ⟨w.heap.size+1,0,AI⟩=AN (As Bm pre.length):=h1.cell 0;have f1:=h1.frozen 0;have e1:Bm.wrap ((pre.length:Int)+1)=(pre.length:Int)+1:=DS _ (by omega);have e2:¬ ((10000:Int)<(pre.length:Int)+1):=by omega
  have e3:decide ((10000:Int)<(pre.length:Int)+1)=false:=decide_eq_false e2;have e4:((pre++ [x]).length:Int)=(pre.length:Int)+1:=by rw[aJ];rfl
  have H1:=AM h1;have HX:=AM hx;have HS:=AM hsz;have HT:=AM hT;have HE4:=AM e4;clear h1 hx hR hl xO hsz hT h3 bO e4;obtain⟨m,hm⟩:=ag pre.length;rw[<-hm]at c1 e1 e2 e3 H1 HE4 hle;clear hm
  gi_wp2
  refine⟨((ae.refl _ _).setCell (fun h=>?_) _),(by rw[HE4.out];exact H1.set 0 _),HX.setCell (by simp) _⟩;have h2:=HS.out;rcases h with(h | h) | h
  ·dsimp only at h;omega
  ·dsimp only at h;omega
  ·have h1:=(HT.out _ h).1;dsimp only at h1;omega
 case done=>
  rintro D T W hD xR hT ⟨h1,hx⟩ mB;have c1:W.cell? ⟨w.heap.size+1,0,AI⟩=AN (As Bm xs.length):=h1.cell 0;have e2:((xs.length:Int)<=10000):=by omega
  have e3:decide ((xs.length:Int)<=10000)=true:=decide_eq_true e2;have HX:=AM hx;have HS:=AM hsz;have HD:=AM hD;have xF:=AM mB;clear h1 hx xR hsz hT mB hD;obtain⟨m,hm⟩:=ag xs.length;rw[<-hm]at c1 e2 e3;clear hm;dsimp only;go_wp2;rw[Exit.noGoto_ret];refine di rfl xF (results_tmp rfl _ _ _) ⟨rfl,((ae.aj HX fun _ h=>h).putObj (by have h1:=HD.out;have h2:=HS.out;omega) _).below⟩
 case stop=>rintro D c pre T W _ _ _ _ h _;exact h.elim
end
section
open Go Go.RowKit Go.Shelf Go.Maps
theorem fW (t:RX) (h:t.cZ=C'):(t.kind≠2->t.set=0)/\(t.kind≠5->t.mn=0/\t.mx=0)/\(t.kind=3->t.has 1=C_/\t.has 3=C_)/\(t.kind=4->t.has 4=C_)/\(t.kind=5->t.has 1=C_):=by
 unfold RX.cZ at h;generalize t.kind=k at*;generalize t.set=s at*;generalize t.mn=a at*;generalize t.mx=b at*;generalize t.has 1=i1 at*;generalize t.has 3=i3 at*;generalize t.has 4=i4 at*;generalize t.subs=l at*;split at h
 ·cases h
 rename_i h0;refine⟨fun hk=>Classical.byContradiction fun hs=>h0 (.inl ⟨hk,hs⟩),fun hk=>?_,fun hk=>?_,fun hk=>?_,fun hk=>?_⟩
 ·have h1:¬ (a≠0\/b≠0):=fun e=>h0 (.inr (.inl ⟨hk,e⟩))
  omega
 ·subst hk;simp at h;exact⟨h.1.2,h.2⟩
 ·subst hk;simp at h;exact h.2
 ·subst hk;simp at h;exact h.2
theorem H8 (a b:Int) (h:iA a b=C') (w:Cd): ah 197 #[As Bm a,As Bm b] w fun e w'=>e=AF (A' C')/\w'=w:=by
 unfold iA at h;split at h
 ·cases h
 rename_i h0;simp only[Bool.or_eq_true,Bool.and_eq_true,decide_eq_true_eq]at h;have e1:decide (a<0)=false:=decide_eq_false (by omega);have e2:decide (16<a)=false:=decide_eq_false (by omega);by_cases ha:a=1
 ·subst ha
  have hb1:b≠1:=fun e=>h0 (.inr (.inr ⟨rfl,e⟩))
  have e4:(b==1)=false:=beq_false_of_ne hb1;by_cases hb:b= -1
  ·subst hb
   clear h h0;go_enter GW,FG;go_wp2;go_ret;exact⟨rfl,rfl⟩
  ·have e5:(b== -1)=false:=beq_false_of_ne hb
   have e6:decide (1<=b)=true:=decide_eq_true (by omega);have e7:decide (b<=16)=true:=decide_eq_true (by omega);have e8:(1:Int)<=b:=by omega
   have e9:b<=16:=by omega
   clear h h0;go_enter GW,FG;go_wp2;go_ret;exact⟨rfl,rfl⟩
 ·have e3:(a==1)=false:=beq_false_of_ne ha
  by_cases hb:b= -1
  ·subst hb
   clear h h0;go_enter GW,FG;go_wp2;go_ret;exact⟨rfl,rfl⟩
  ·have e5:(b== -1)=false:=beq_false_of_ne hb
   have e6:decide (1<=b)=true:=decide_eq_true (by omega);have e7:decide (b<=16)=true:=decide_eq_true (by omega);have e8:(1:Int)<=b:=by omega
   have e9:b<=16:=by omega
   have ea:decide (a<=b)=true:=decide_eq_true (by omega);have eb:a<=b:=by omega
   clear h h0;go_enter GW,FG;go_wp2;go_ret;exact⟨rfl,rfl⟩
theorem QP (x:RX) (a:Value) (k:Nat) (B:Nat) (W:Cd) (hB:ar W B #[As It k] 5): ah 233 #[GB (aq x.kind x.set x.mn x.mx a),B_ (AN ⟨B,0,AI⟩)] W fun e w'=>e=AF (A' (x.kind==k))/\aa W w':=by
 have hB':∀ o,(W.alloc o).cell? ⟨B,0,AI⟩=AN (As It k):=fun o=>(hB.alloc o).cell 0
 unfold aq;obtain⟨r,hr⟩:=ag ((x.kind==k));have e1:((x.kind:Int)==(k:Int))=r:=by
  rw[hr,Bool.eq_iff_iff,beq_iff_eq,beq_iff_eq];omega
 rw[<-hr];clear hr hB;generalize (x.kind:Int)=xk at*;generalize (k:Int)=kk at*;go_enter IT,Tryz.ntmps233;go_wp2;go_ret;exact⟨rfl,((Ext.refl _).alloc _).below⟩
theorem UN:∀ args w,(callFunc 233 args).run IN w=.ok (.enter 233 args) w:=enters_of IT (by kernel_rfl) rfl
theorem Be (n0:Nat) (k':Nat) (s:BS) (mn mx:Int) (p:Option Addr) (n c:Nat) (l:List RX) (hn:n=l.length) (hn7:n<=10000000) (k B:Nat) (w:Cd) (h:aH (· <n0) w (GB (aq k' s mn mx (An p n c))) (.nd k' s mn mx l)) (bX:n0<=w.heap.size) (hB:ar w B #[As It k] 5): ah 246 #[An p n c,.func (.func 233) #[] #[B_ (AN ⟨B,0,AI⟩)]] w fun e w'=>e=AF (As Bm (fK (fun x:RX=>x.kind==k) l))/\aa w w':=by
 have H:=AM h;have HN:=AM hn;have HB:=AM hB;have eg:=UN;obtain⟨r,hr⟩:=ag (fK (fun x:RX=>x.kind==k) l);rw[<-hr];have HR:=AM hr;clear h hn hB hr;go_enter Tryz.func246,Tryz.ntmps246;go_wp2;go_loopw [8] (fun iv wr=>∃ i:Nat,i<=n/\iv=As Bm i/\(∀ x∈l.take i,(x.kind==k)=C_)/\aa w wr) (fun iv _=>n-(intOf iv).toNat);case atStart=>exact⟨0,by omega,rfl,fun x hx=>by simp at hx,Below.refl _ _⟩
 case round=>
  obtain⟨i,hi,rfl,ha,hx⟩:=hrel;obtain⟨wo,rfl⟩:=ag (wr:Cd);have HX:=AM hx;have HA:=AM ha;clear hx ha;by_cases hlt:i<n
  ·have ed:(i:Int)<n:=by omega
   obtain⟨t,ht⟩:∃ t,l[i]? =AN t:=⟨_,aB (by have:=HN.out;omega)⟩;obtain⟨b,off,p',c',ep,hbF,hb,_,⟨q0,q1,q2,q3,q4,q5,q6,q7⟩,_⟩:=(H.mF (HX.mono bX)).elem ht;subst ep;have C1:=AM (QP t (An p' t.subs.length c') k B wo (HB.below HX HB.lt));have HT:=AM ht;unfold aq at C1;obtain⟨g,hg⟩:=ag ((t.kind==k));rw[<-hg]at C1;have HG:=AM hg;clear ht hg;cases g with
   | true=>
    have iz:=AM (HR.trans (np HT HG.symm HA));go_wp2_with fail
    refine C1.mono ?_;rintro e w2 ⟨rfl,hx⟩;have X2:=AM (HX.trans (hx.mono HX.size));clear hx;go_wp2;go_ret;exact⟨by rw[iz.out];rfl,X2⟩
   | false=>
    go_wp2_with fail
    refine C1.mono ?_;rintro e w2 ⟨rfl,hx⟩;have X2:=AM (HX.trans (hx.mono HX.size));clear hx;go_wp2;go_roundw;case rel=>exact⟨i+1,by omega,by go_num,r8 HT HG.symm HA,X2⟩
    case measure=>simp[intOf];omega
  ·obtain rfl:i=n:=by omega
   have ed:¬ ((i:Int)<i):=by omega
   have iz:=AM (HR.trans (nr fun y hy=>HA y (by rw[HN.out,GS];exact hy)));go_wp2;go_ret;exact⟨by rw[iz.out];rfl,HX⟩
theorem rr (n0:Nat) (v:Value) (t:RX) (k:Nat) (w:Cd) (h:aH (· <n0) w v t) (bX:n0<=w.heap.size) (hs:t.size<=10000000): ah 196 #[v,As It k] w fun e w'=>e=AF (A' (t.has k))/\aa w w':=by
 cases t with
 | nd k' s mn mx l=>
  obtain⟨p,c,rfl⟩:=h.form;obtain⟨n,hn⟩:=ag l.length;have hn7:n<=10000000:=by rw[hn];exact By (oC l) (by rw[RX.size]at hs;omega)
  simp only[RX.kind,RX.set,RX.mn,RX.mx,RX.subs]at h ⊢;rw[<-hn]at h ⊢;have CF:DQ (∀ W B,aa w W->ar W B #[As It k] 5->ah 232 #[An p n c,.func (.func 233) #[] #[B_ (AN ⟨B,0,AI⟩)]] W fun e w'=>e=AF (A' (l.any fun x=>x.kind==k))/\aa W w'):=AM fun W B hW hB=>by
   have CI:=AM (Be n0 k' s mn mx p n c l hn hn7 k B W (h.mF (hW.mono bX)) (By bX hW.size) hB);rw[<-pR];clear h hn hB;generalize fK (fun x:RX=>x.kind==k) l=z at CI ⊢;go_enter Tryz.func232,Tryz.ntmps232;go_wp2_with fail
   refine CI.mono ?_;rintro e w2 ⟨rfl,hx⟩;have X2:=AM hx;clear hx;go_wp2;go_ret;exact⟨rfl,X2⟩
  have hr:(RX.nd k' s mn mx l).has k=l.any fun x=>x.kind==k:=rfl
  rw[hr];generalize (l.any fun x=>x.kind==k)=r at CF ⊢;clear h hn hr hs;unfold aq;go_enter Tryz.func196,Tryz.ntmps196;go_wp2_with fail
  refine aK ?_;intro V hV;have B1:ar V (w.heap.size+1) #[As It k] 5:=by rw[hV];exact(ar.new _ _ _).at (by simp)
  have X1:aa w V:=by rw[hV];exact(((Ext.refl w).alloc _).alloc _).below
  clear hV;refine(CF V _ X1 B1).mono ?_;rintro e w2 ⟨rfl,hx⟩;have X2:=AM (X1.trans (hx.mono X1.size));clear hx X1 B1 CF;go_wp2;go_ret;exact⟨rfl,X2⟩
theorem oD (s:BS) (W:Cd):(Op.equalIn 10000 56 (GB #[As A_ (wd s 0).toNat,As A_ (wd s 1).toNat,As A_ (wd s 2).toNat,As A_ (wd s 3).toNat]) (GB #[As A_ 0,As A_ 0,As A_ 0,As A_ 0])).run IN W=.ok (s==0) W:=by have h:=ie s 0 W;rw[fU]at h;exact h
theorem Bf (n0:Nat) (v:Value) (t:RX) (hk:t.kind=1) (hr:t.cZ=C') (w:Cd) (h:aH (· <n0) w v t) (bX:n0<=w.heap.size) (hs:t.size<=10000000): ah 161 #[v] w fun e w'=>e=AF (A' C')/\aa w w':=by
 have nL:n0<=w.heap.size/\t.size<=10000000:=⟨bX,hs⟩;clear nL;obtain⟨r2,rl,r0,r6,Mq,r5,Mr⟩:=cI t hr;obtain⟨m2,m5,m3,m4,NW⟩:=fW t hr;obtain⟨p,c,rfl⟩:=h.form;have heq:=oD t.set;rw[show(t.set==0)=C' from by rw[m2 (by omega)];rfl]at heq;obtain⟨e1,e2⟩:=m5 (by omega);obtain⟨n,hn⟩:=ag t.subs.length;have cM:n=0:=by rw[hn,rl (by omega)];rfl
 rw[<-hn]at*;rw[hk]at*;rw[e1,e2]at*;subst cM;generalize t.set=s at*;generalize t.mn=mn at*;generalize t.mx=mx at*;generalize t.subs=l at*;clear hk hr h hs r2 rl r0 r6 Mq r5 Mr m2 m5 m3 m4 NW hn e1 e2;unfold aq at*;go_enter D0,DH;go_wp2;go_ret;exact⟨rfl,((Ext.refl _).alloc _).below⟩
theorem Bg (n0:Nat) (v:Value) (t:RX) (hk:t.kind=2) (hr:t.cZ=C') (w:Cd) (h:aH (· <n0) w v t) (bX:n0<=w.heap.size) (hs:t.size<=10000000): ah 161 #[v] w fun e w'=>e=AF (A' C')/\aa w w':=by
 have nL:n0<=w.heap.size/\t.size<=10000000:=⟨bX,hs⟩;clear nL;obtain⟨r2,rl,r0,r6,Mq,r5,Mr⟩:=cI t hr;obtain⟨m2,m5,m3,m4,NW⟩:=fW t hr;obtain⟨p,c,rfl⟩:=h.form;have heq:=oD t.set;rw[show(t.set==0)=C_ from beq_false_of_ne (r2 hk)]at heq;obtain⟨e1,e2⟩:=m5 (by omega);obtain⟨n,hn⟩:=ag t.subs.length;have cM:n=0:=by rw[hn,rl (by omega)];rfl
 rw[<-hn]at*;rw[hk]at*;rw[e1,e2]at*;subst cM;generalize t.set=s at*;generalize t.mn=mn at*;generalize t.mx=mx at*;generalize t.subs=l at*;clear hk hr h hs r2 rl r0 r6 Mq r5 Mr m2 m5 m3 m4 NW hn e1 e2;unfold aq at*;go_enter D0,DH;go_wp2;go_ret;exact⟨rfl,((Ext.refl _).alloc _).below⟩
theorem Bh (n0:Nat) (v:Value) (t:RX) (hk:t.kind=3) (hr:t.cZ=C') (w:Cd) (h:aH (· <n0) w v t) (bX:n0<=w.heap.size) (hs:t.size<=10000000): ah 161 #[v] w fun e w'=>e=AF (A' C')/\aa w w':=by
 have nL:n0<=w.heap.size/\t.size<=10000000:=⟨bX,hs⟩;clear nL;obtain⟨r2,rl,r0,r6,Mq,r5,Mr⟩:=cI t hr;obtain⟨m2,m5,m3,m4,NW⟩:=fW t hr;have UO:DQ (∀ W,aa w W->ah 196 #[v,As It 1] W fun e w'=>e=AF (A' C_)/\aa W w'):=AM fun W hW=>by
  have:=rr n0 v t 1 W (h.mF (hW.mono bX)) (By bX hW.size) hs;rwa[show t.has 1=C_ from(m3 hk).1]at this
 have CH3:DQ (∀ W,aa w W->ah 196 #[v,As It 3] W fun e w'=>e=AF (A' C_)/\aa W w'):=AM fun W hW=>by
  have:=rr n0 v t 3 W (h.mF (hW.mono bX)) (By bX hW.size) hs;rwa[show t.has 3=C_ from(m3 hk).2]at this
 obtain⟨p,c,rfl⟩:=h.form;have heq:=oD t.set;rw[show(t.set==0)=C' from by rw[m2 (by omega)];rfl]at heq;obtain⟨e1,e2⟩:=m5 (by omega);obtain⟨n,hn⟩:=ag t.subs.length;have cM:(1:Int)<n:=by have:=Mr (by omega);omega
 have dP:decide ((1:Int)<n)=true:=decide_eq_true cM;have UQ:=UO.out;clear UO;rw[<-hn,hk]at UQ;rw[e1,e2]at UQ;have ch3:=CH3.out;clear CH3;rw[<-hn,hk]at ch3;rw[e1,e2]at ch3;rw[<-hn]at*;rw[hk]at*;rw[e1,e2]at*;generalize t.set=s at*;generalize t.mn=mn at*;generalize t.mx=mx at*;generalize t.subs=l at*;clear hk hr h hs r2 rl r0 r6 Mq r5 Mr m2 m5 m3 m4 NW hn e1 e2;have UO:=AM UQ;clear UQ;have CH3:=AM ch3;clear ch3;unfold aq at*;go_enter D0,DH;go_wp2_with fail
 refine aK ?_;intro V hV;have B1:DQ (ar V w.heap.size #[As It 3,As A_ (wd s 0).toNat,As A_ (wd s 1).toNat,As A_ (wd s 2).toNat,As A_ (wd s 3).toNat,As Bm 0,As Bm 0,An p n c] 97):=by rw[hV];exact AM (ar.new _ _ _)
 have X1:DQ (aa w V):=by rw[hV];exact AM ((Ext.refl _).alloc _).below
 clear hV;refine(UO V X1).mono ?_;rintro e w2 ⟨rfl,hx⟩;have X2:=AM (X1.trans (hx.mono X1.size));have B2:=AM (B1.below hx B1.lt);clear hx B1 X1;obtain⟨b0,b1,b2,b3,b4,b5,b6,b7⟩:=(show _/\_/\_/\_/\_/\_/\_/\_ from⟨B2.cell 0,B2.cell 1,B2.cell 2,B2.cell 3,B2.cell 4,B2.cell 5,B2.cell 6,B2.cell 7⟩);simp only[Bs,AS,AT]at b0 b1 b2 b3 b4 b5 b6 b7;go_wp2_with fail
 refine(CH3 _ X2).mono ?_;rintro e w3 ⟨rfl,hx⟩;have X3:=AM (X2.trans (hx.mono X2.size));clear hx b0 b1 b2 b3 b4 b5 b6 b7;go_wp2;go_ret;exact⟨rfl,X3⟩
theorem Bi (n0:Nat) (v:Value) (t:RX) (hk:t.kind=4) (hr:t.cZ=C') (w:Cd) (h:aH (· <n0) w v t) (bX:n0<=w.heap.size) (hs:t.size<=10000000): ah 161 #[v] w fun e w'=>e=AF (A' C')/\aa w w':=by
 have nL:n0<=w.heap.size/\t.size<=10000000:=⟨bX,hs⟩;clear nL;obtain⟨r2,rl,r0,r6,Mq,r5,Mr⟩:=cI t hr;obtain⟨m2,m5,m3,m4,NW⟩:=fW t hr;have CH4:DQ (∀ W,aa w W->ah 196 #[v,As It 4] W fun e w'=>e=AF (A' C_)/\aa W w'):=AM fun W hW=>by
  have:=rr n0 v t 4 W (h.mF (hW.mono bX)) (By bX hW.size) hs;rwa[show t.has 4=C_ from m4 hk]at this
 obtain⟨p,c,rfl⟩:=h.form;have heq:=oD t.set;rw[show(t.set==0)=C' from by rw[m2 (by omega)];rfl]at heq;obtain⟨e1,e2⟩:=m5 (by omega);obtain⟨n,hn⟩:=ag t.subs.length;have cM:(1:Int)<n:=by have:=Mr (by omega);omega
 have dP:decide ((1:Int)<n)=true:=decide_eq_true cM;have ch4:=CH4.out;clear CH4;rw[<-hn,hk]at ch4;rw[e1,e2]at ch4;rw[<-hn]at*;rw[hk]at*;rw[e1,e2]at*;generalize t.set=s at*;generalize t.mn=mn at*;generalize t.mx=mx at*;generalize t.subs=l at*;clear hk hr h hs r2 rl r0 r6 Mq r5 Mr m2 m5 m3 m4 NW hn e1 e2;have CH4:=AM ch4;clear ch4;unfold aq at*;go_enter D0,DH;go_wp2_with fail
 refine aK ?_;intro V hV;have B1:DQ (ar V w.heap.size #[As It 4,As A_ (wd s 0).toNat,As A_ (wd s 1).toNat,As A_ (wd s 2).toNat,As A_ (wd s 3).toNat,As Bm 0,As Bm 0,An p n c] 97):=by rw[hV];exact AM (ar.new _ _ _)
 have X1:DQ (aa w V):=by rw[hV];exact AM ((Ext.refl _).alloc _).below
 clear hV;refine(CH4 V X1).mono ?_;rintro e w2 ⟨rfl,hx⟩;have X2:=AM (X1.trans (hx.mono X1.size));clear hx B1 X1;go_wp2;go_ret;exact⟨rfl,X2⟩
theorem Bj (n0:Nat) (v:Value) (t:RX) (hk:t.kind=5) (hr:t.cZ=C') (w:Cd) (h:aH (· <n0) w v t) (bX:n0<=w.heap.size) (hs:t.size<=10000000): ah 161 #[v] w fun e w'=>e=AF (A' C')/\aa w w':=by
 have nL:n0<=w.heap.size/\t.size<=10000000:=⟨bX,hs⟩;clear nL;obtain⟨r2,rl,r0,r6,Mq,r5,Mr⟩:=cI t hr;obtain⟨m2,m5,m3,m4,NW⟩:=fW t hr;have UO:DQ (∀ W,aa w W->ah 196 #[v,As It 1] W fun e w'=>e=AF (A' C_)/\aa W w'):=AM fun W hW=>by
  have:=rr n0 v t 1 W (h.mF (hW.mono bX)) (By bX hW.size) hs;rwa[show t.has 1=C_ from NW hk]at this
 obtain⟨p,c,rfl⟩:=h.form;have heq:=oD t.set;rw[show(t.set==0)=C' from by rw[m2 (by omega)];rfl]at heq;obtain⟨n,hn⟩:=ag t.subs.length;have cM:n=1:=by rw[hn];exact Mq (by omega)
 have UQ:=UO.out;clear UO;rw[<-hn,hk]at UQ;rw[cM]at UQ;rw[<-hn]at*;have CB:=AM fun W=>H8 t.mn t.mx (r5 hk) W
 rw[hk]at*;subst cM;have d1:(t.mn != 0)=(t.mn != 0):=rfl;obtain⟨g1,hg1⟩:=ag ((t.mn != 0));generalize t.set=s at*;generalize t.mn=mn at*;generalize t.mx=mx at*;generalize t.subs=l at*;clear hg1 d1 g1;clear hk hr h hs r2 rl r0 r6 Mq r5 Mr m2 m5 m3 m4 NW hn;have UO:=AM UQ;clear UQ;unfold aq at*;go_enter D0,DH;go_wp2_with fail
 refine CB _ |>.mono ?_;rintro e w1 ⟨rfl,hw⟩;replace hw:=hw.symm;subst hw;go_wp2_with fail
 refine aK ?_;intro V hV;have B1:DQ (ar V w.heap.size #[As It 5,As A_ (wd s 0).toNat,As A_ (wd s 1).toNat,As A_ (wd s 2).toNat,As A_ (wd s 3).toNat,As Bm mn,As Bm mx,An p 1 c] 97):=by rw[hV];exact AM (ar.new _ _ _)
 have X1:DQ (aa w V):=by rw[hV];exact AM ((Ext.refl _).alloc _).below
 clear hV;refine(UO V X1).mono ?_;rintro e w2 ⟨rfl,hx⟩;have X2:=AM (X1.trans (hx.mono X1.size));clear hx B1 X1;go_wp2;go_ret;exact⟨rfl,X2⟩
theorem Bk (n0:Nat) (v:Value) (t:RX) (hk:t.kind=6) (hr:t.cZ=C') (w:Cd) (h:aH (· <n0) w v t) (bX:n0<=w.heap.size) (hs:t.size<=10000000): ah 161 #[v] w fun e w'=>e=AF (A' C')/\aa w w':=by
 have nL:n0<=w.heap.size/\t.size<=10000000:=⟨bX,hs⟩;clear nL;obtain⟨r2,rl,r0,r6,Mq,r5,Mr⟩:=cI t hr;obtain⟨m2,m5,m3,m4,NW⟩:=fW t hr;obtain⟨p,c,rfl⟩:=h.form;have heq:=oD t.set;rw[show(t.set==0)=C' from by rw[m2 (by omega)];rfl]at heq;obtain⟨e1,e2⟩:=m5 (by omega);obtain⟨n,hn⟩:=ag t.subs.length;have cM:n=1:=by rw[hn];exact Mq (by omega)
 rw[<-hn]at*;rw[hk]at*;rw[e1,e2]at*;subst cM;generalize t.set=s at*;generalize t.mn=mn at*;generalize t.mx=mx at*;generalize t.subs=l at*;clear hk hr h hs r2 rl r0 r6 Mq r5 Mr m2 m5 m3 m4 NW hn e1 e2;unfold aq at*;go_enter D0,DH;go_wp2;go_ret;exact⟨rfl,((Ext.refl _).alloc _).below⟩
theorem Eu (n0:Nat) (v:Value) (t:RX) (hr:t.cZ=C') (w:Cd) (h:aH (· <n0) w v t) (bX:n0<=w.heap.size) (hs:t.size<=10000000): ah 161 #[v] w fun e w'=>e=AF (A' C')/\aa w w':=by
 have h1:=(cI t hr).2.2.1;have h2:=(cI t hr).2.2.2.1;obtain hk | hk | hk | hk | hk | hk:t.kind=1\/t.kind=2\/t.kind=3\/t.kind=4\/t.kind=5\/t.kind=6:=by omega
 ·exact Bf n0 v t hk hr w h bX hs
 ·exact Bg n0 v t hk hr w h bX hs
 ·exact Bh n0 v t hk hr w h bX hs
 ·exact Bi n0 v t hk hr w h bX hs
 ·exact Bj n0 v t hk hr w h bX hs
 ·exact Bk n0 v t hk hr w h bX hs
attribute [local go_sem] Oper.semAt_some gj dz
theorem QQ (t:RX):∀ x∈t.pre,x.size<=t.size:=by
 induction t using RX.ind with
 | h k s a b l ih=>
  intro x hx;rw[RX.pre]at hx;rcases List.mem_cons.1 hx with rfl | hx
  ·exact aF _
  ·have:∀ l':List RX,(∀ t∈l',t∈l)->x∈RX.kY l'->x.size<=RX.sizes l':=by
    intro l';induction l' with
    | nil=>intro _ h;rw[RX.kY]at h;cases h
    | cons y l' YA=>
     intro hs h;rw[RX.kY]at h;rw[RX.sizes];rcases List.mem_append.1 h with h | h
     ·have:=ih y (hs y (bu ..)) x h;omega
     ·have:=YA (fun t ht=>hs t (bM _ ht)) h;omega
   have h5:=this l (fun _ h=>h) hx;rw[RX.size];omega
theorem H9 (v:Value) (t:RX) (hs:t.size<=10000) (w:Cd) (h:aH (· <w.heap.size) w v t): ah 100 #[v] w fun e w'=>e=AF (As Bm t.size)/\aa w w':=by
 have CL:DQ (∀ W,aa w W->ah 158 #[v] W fun e w'=>e=AF (A' C')/\aa W w'):=AM fun W hW=>sI v t hs W ((h.mF hW).mono fun b hb=>ay hb hW.size)
 obtain⟨xs,hmap,pN,hseq⟩:=sH w.heap.size t (by omega) v w h (aF _);obtain⟨p,c,rfl⟩:=h.form;have hlen:xs.length=t.size:=by
  have e:xs.length=t.pre.length:=by rw[<-hmap,aP]
  rw[e,J1]
 rw[<-hlen]at hs ⊢;have QO:=AM fun W B=>hseq W B _ rfl
 clear hseq pN hmap h hlen;refine cd Tryz.func100 rfl ?_;simp only[Tryz.ntmps100,E_,B',DP,H',If,D_,D',Ft,EV,G',GO,aq]at CL ⊢;go_wp2_with fail
 refine aK ?_;intro V hV;have B1:DQ (ar V w.heap.size (aq t.kind t.set t.mn t.mx (An p t.subs.length c)) 97):=by rw[hV];exact AM (ar.new _ _ _)
 have X1:DQ (aa w V):=by rw[hV];exact AM ((Ext.refl _).alloc _).below
 clear hV;refine(CL V X1).mono ?_;rintro e w1 ⟨rfl,hx⟩;have B2:=AM (B1.below hx B1.lt);have X2:=AM (X1.trans (hx.mono X1.size));have Yg:w.heap.size<w1.heap.size:=B2.lt;clear hx B1 X1 CL;obtain⟨b0,b1,b2,b3,b4,b5,b6,b7⟩:=(show _/\_/\_/\_/\_/\_/\_/\_ from⟨(B2.alloc (.cells #[As Bm 0] 3 (0,0))).cell 0,(B2.alloc (.cells #[As Bm 0] 3 (0,0))).cell 1,(B2.alloc (.cells #[As Bm 0] 3 (0,0))).cell 2,(B2.alloc (.cells #[As Bm 0] 3 (0,0))).cell 3,(B2.alloc (.cells #[As Bm 0] 3 (0,0))).cell 4,(B2.alloc (.cells #[As Bm 0] 3 (0,0))).cell 5,(B2.alloc (.cells #[As Bm 0] 3 (0,0))).cell 6,(B2.alloc (.cells #[As Bm 0] 3 (0,0))).cell 7⟩);simp only[aq,Bs,AS,AT]at b0 b1 b2 b3 b4 b5 b6 b7;go_wp2_with (go_at_call 160;refine(lU _ _).mono ?_;rintro e w9 ⟨rfl,rfl⟩);refine aw ?_;intro W0 hW0;have h1:ar W0 w1.heap.size #[As Bm 0] 3:=by rw[hW0];exact(ar.new _ _ _).alloc _
 have h3:ar W0 (w1.heap.size+1) (aq t.kind t.set t.mn t.mx (An p t.subs.length c)) 97:=by rw[hW0];exact(ar.new _ _ _).at (by simp)
 have hx:aa w W0:=by rw[hW0];exact X2.trans (((Ext.refl w1).alloc _).alloc _ |>.below.mono X2.size)
 have hsz:W0.heap.size=w1.heap.size+1+1:=by rw[hW0];simp
 clear hW0 b0 b1 b2 b3 b4 b5 b6 b7;refine ic (w:=W0) (d:=C') (QO W0 _ (ae.aj hx fun _ h=>h) h3) (by rfl) oB (by intro _;rfl) (by intro k hk;rcases hk with hk | hk<;>omega)
  (fun ys _ W=>ar W w1.heap.size #[As Bm ys.length] 3/\aa w W)
  (fun _ _ _ _=>False)
  (fun ys T T' W W' ⟨h1,h3⟩ hT OT hs hn hk=>⟨h1.mJ hT hk (by omega),ib h3 hT hk (aF _) (by omega)⟩)
  (fun c ys T T' W W' h=>h.elim)
  ⟨h1,hx⟩
  (fun x=>⟨#[GB (aq t.kind t.set t.mn t.mx (An p t.subs.length c)),B_ (AN ⟨w.heap.size,0,AI⟩),As Bm 0,B_ (AN ⟨w1.heap.size,0,AI⟩),GB (aq t.kind t.set t.mn t.mx (An p t.subs.length c)),A' C',A' C_,GB (aq t.kind t.set t.mn t.mx (An p t.subs.length c)),.func (.func 195) #[] #[B_ (AN ⟨w1.heap.size+1,0,AI⟩)],x.1,H_,H_,H_],[]⟩) ?assign ?body ?done ?stop
 case assign=>
  intro l x W K hK
  gi_wp2
  simpa[Et,aq]using hK
 case body=>
  rintro l pre x T W bO hT hR xO hl ⟨h1,hx⟩;have hle:pre.length+1<=10000:=by
   have hle:=bO.length_le;rw[aJ]at hle;simp only[B',DP]at hle;omega
  have c1:W.cell? ⟨w1.heap.size,0,AI⟩=AN (As Bm pre.length):=h1.cell 0;have f1:=h1.frozen 0;have e1:Bm.wrap ((pre.length:Int)+1)=(pre.length:Int)+1:=DS _ (by omega);have e4:((pre++ [x]).length:Int)=(pre.length:Int)+1:=by rw[aJ];rfl
  have H1:=AM h1;have HX:=AM hx;have HS:=AM hsz;have HT:=AM hT;have HE4:=AM e4;clear h1 hx hR hl xO hsz hT h3 bO e4;obtain⟨m,hm⟩:=ag pre.length;rw[<-hm]at c1 e1 H1 HE4 hle;clear hm
  gi_wp2
  refine⟨((ae.refl _ _).setCell (fun h=>?_) _),(by rw[HE4.out];exact H1.set 0 _),HX.setCell (by simp;omega) _⟩;have h2:=HS.out;rcases h with(h | h) | h
  ·dsimp only at h;omega
  ·dsimp only at h;omega
  ·have h1:=(HT.out _ h).1;dsimp only at h1;omega
 case done=>
  rintro D T W hD xR hT ⟨h1,hx⟩ mB;have c1:W.cell? ⟨w1.heap.size,0,AI⟩=AN (As Bm xs.length):=h1.cell 0;have HX:=AM hx;have HS:=AM hsz;have HD:=AM hD;have xF:=AM mB;clear h1 hx xR hsz hT mB hD;dsimp only;go_wp2;refine di rfl xF (results_tmp rfl _ _ _) ⟨rfl,((ae.aj HX fun _ h=>h).putObj (by have h1:=HD.out;have h2:=HS.out;omega) _).below⟩
 case stop=>rintro D c pre T W _ _ _ _ h _;exact h.elim
end
section
open Go Go.RowKit Go.Shelf Go.Maps
attribute [local go_sem] Oper.semAt_some gj dz
theorem Ev (v:Value) (t:RX) (hf:t.fine) (hs:t.size<=10000) (w:Cd) (h:aH (· <w.heap.size) w v t): ah 99 #[v] w fun e w'=>e=AF (A' C')/\aa w w':=by
 have CL:DQ (∀ W,aa w W->ah 158 #[v] W fun e w'=>e=AF (A' C')/\aa W w'):=AM fun W hW=>sI v t hs W ((h.mF hW).mono fun b hb=>ay hb hW.size)
 obtain⟨xs,hmap,pN,hseq⟩:=sH w.heap.size t (by omega) v w h (aF _);obtain⟨p,c,rfl⟩:=h.form;have CR:DQ (∀ x∈xs,∀ W,ae (· <w.heap.size) w W->ah 161 #[x.1] W fun e w'=>e=AF (A' C')/\aa W w'):=AM fun x hx W hW=>by
  have hp:x.2∈t.pre:=by rw[<-hmap];exact List.mem_map_of_mem hx
  exact Eu w.heap.size x.1 x.2 (hf x.2 hp) W ((pN x hx).kept hW) hW.size (by have:=QQ t x.2 hp;omega)
 have QO:=AM fun W B=>hseq W B _ rfl
 have YY:=AM pN;clear hseq pN hmap h hs hf;refine cd Tryz.func99 rfl ?_;simp only[Tryz.ntmps99,E_,B',DP,H',If,D_,D',Ft,EV,G',GO,aq]at CL ⊢;go_wp2_with fail
 refine aK ?_;intro V hV;have B1:DQ (ar V w.heap.size (aq t.kind t.set t.mn t.mx (An p t.subs.length c)) 97):=by rw[hV];exact AM ((ar.new _ _ _).alloc _)
 have R1:DQ (ar V (w.heap.size+1) #[A' C_] 4):=by rw[hV];exact AM ((ar.new (w.alloc _) _ _).at (by simp))
 have X1:DQ (aa w V):=by rw[hV];exact AM (((Ext.refl _).alloc _).alloc _).below
 clear hV;refine(CL V X1).mono ?_;rintro e w1 ⟨rfl,hx⟩;have B2:=AM (B1.below hx B1.lt);have R2:=AM (R1.below hx R1.lt);have X2:=AM (X1.trans (hx.mono X1.size));have Yg:w.heap.size+1<w1.heap.size:=R2.lt;clear hx B1 X1 R1 CL;obtain⟨b0,b1,b2,b3,b4,b5,b6,b7⟩:=(show _/\_/\_/\_/\_/\_/\_/\_ from⟨B2.cell 0,B2.cell 1,B2.cell 2,B2.cell 3,B2.cell 4,B2.cell 5,B2.cell 6,B2.cell 7⟩);simp only[aq,Bs,AS,AT]at b0 b1 b2 b3 b4 b5 b6 b7;go_wp2_with (go_at_call 160;refine(lU _ _).mono ?_;rintro e w9 ⟨rfl,rfl⟩);refine aw ?_;intro W0 hW0;have h1:ar W0 (w.heap.size+1) #[A' C_] 4:=by rw[hW0];exact R2.alloc _
 have h3:ar W0 w1.heap.size (aq t.kind t.set t.mn t.mx (An p t.subs.length c)) 97:=by rw[hW0];exact ar.new _ _ _
 have hx:aa w W0:=by rw[hW0];exact X2.trans (((Ext.refl w1).alloc _).below.mono X2.size)
 have hsz:W0.heap.size=w1.heap.size+1:=by rw[hW0];simp
 clear hW0 b0 b1 b2 b3 b4 b5 b6 b7;have hR9:∀ k,(k<w.heap.size\/k=w1.heap.size)->k<W0.heap.size:=fun k hk=>by rcases hk with hk | hk<;>omega
 refine uP (w:=W0) (d:=C') (QO W0 _ (ae.aj hx fun _ h=>h) h3) (by rfl) oB (by intro _;rfl) hR9
  (fun ys _ W=>ar W (w.heap.size+1) #[A' C_] 4/\aa w W)
  (fun _ _ _ _=>False)
  (fun ys T T' W W' ⟨h1,h3⟩ hT OT hs hn hk=>⟨h1.mJ hT hk (by omega),ib h3 hT hk (aF _) (by omega)⟩)
  (fun c ys T T' W W' h=>h.elim)
  ⟨h1,hx⟩
  (fun z T W=>∃ b9:Nat,z.2.2= {tmps:= #[GB (aq t.kind t.set t.mn t.mx (An p t.subs.length c)),B_ (AN ⟨w.heap.size,0,AI⟩),B_ (AN ⟨w.heap.size+1,0,AI⟩),B_ (AN ⟨b9,0,AI⟩),GB (aq t.kind t.set t.mn t.mx (An p t.subs.length c)),A' C',A' C_,GB (aq t.kind t.set t.mn t.mx (An p t.subs.length c)),.func (.func 195) #[] #[B_ (AN ⟨w1.heap.size,0,AI⟩)],z.2.1.1,H_,H_,H_],defers:=[]} /\W0.heap.size<=b9/\b9<W.heap.size/\¬T b9/\(∃ c,z.2.1.1=GB c/\ar W b9 c 97)/\ar W (w.heap.size+1) #[A' C_] 4/\aa w W)
  ?hIa ?assign ?body ?done ?stop
 case hIa=>
  rintro⟨pre,x,a1⟩ T T' W W' ⟨b9,e1,e2,e3,e4,⟨c,e5,e6⟩,e7,e8⟩ h1 h2 h3 h4 h5;have hs:=h5.size;refine⟨b9,e1,e2,by omega,fun h=>?_,⟨c,e5,e6.keeps h5.keeps ⟨e3,e4⟩⟩,e7.mJ h1 h5 (by omega),ib e8 h1 h5 (aF _) (by omega)⟩;rcases h4 b9 h with h | h
  ·exact e4 h
  ·omega
 case assign=>
  rintro lr pre ⟨xv,xt⟩ T W hp hT hk ⟨i1,i2⟩;have hx:=YY.out (xv,xt) (hp.subset (by simp));obtain⟨p9,c9,e9⟩:=hx.form;dsimp only at e9;subst e9;have I1:=AM i1;have I2:=AM i2;have HT:=AM hT;have HK:=AM hk;clear i1 i2 hT hx hp hk h3 h1;dsimp only[aq,Et]
  gi_wp2
  have nI:W0.heap.size<=W.heap.size:=HK.size;refine⟨((ae.refl _ _).alloc (fun j hj=>?_) _),W.heap.size,rfl,nI,by simp,fun h=>by have:=(HT.out _ h).2;omega,⟨_,rfl,ar.new _ _ _⟩,I1.alloc _,I2.alloc I2.size _⟩;rcases hj with hj | hj
  ·have:=hR9 j hj;omega
  ·exact(HT j hj).2
 case body=>
  rintro lr pre ⟨xv,xt⟩ T a1 W hp hT hk xO rR ⟨b9,e1,e2,e3,e4,⟨c9,e5,e6⟩,e7,e8⟩;have hxm:=hp.subset (show(xv,xt)∈pre++ [(xv,xt)] by simp);have hx:=YY.out (xv,xt) hxm;obtain⟨p9,cp9,e9⟩:=hx.form;dsimp only at e1 e5 e9;rw[e5]at e9;injection e9 with e9
  subst e1 e5 e9;have C1:=AM (CR.out _ hxm W (ae.aj e8 fun _ h=>h));have E7:=AM e7;have E8:=AM e8;have HT:=AM hT;obtain⟨b0,b1,b2,b3,b4,b5,b6,b7⟩:=(show _/\_/\_/\_/\_/\_/\_/\_ from⟨e6.cell 0,e6.cell 1,e6.cell 2,e6.cell 3,e6.cell 4,e6.cell 5,e6.cell 6,e6.cell 7⟩);simp only[aq,Bs,AS,AT]at b0 b1 b2 b3 b4 b5 b6 b7;dsimp only[aq]at C1;clear e7 e6 e8 hx hp rR xO hT h3 h1 hxm hk
  gi_wp2_with (gi_at_call 161;refine(CallsIn.inRound lr (callsIn_wide.2 C1)).mono ?_;rintro e w2 ⟨rfl,hx⟩;have gh:=AM hx;clear hx)
  have hs2:=E8.size;refine⟨ae.aj gh fun j hj=>?_,E7.below gh E7.lt,E8.trans (gh.mono hs2)⟩;rcases hj with hj | hj
  ·have:=hR9 j hj;omega
  ·exact(HT j hj).2
 case done=>
  rintro D T W hD xR hT ⟨i1,hx⟩ mB;have HX:=AM hx;have I1:=AM i1;have f1:=i1.frozen 0;have c1:W.cell? ⟨w.heap.size+1,0,AI⟩=AN (A' C_):=i1.cell 0;have HD:=AM hD;have xF:=AM mB;clear hx xR hT mB hD i1;dsimp only;go_wp2;have hne:w.heap.size+1≠D:=by have:=HD.out;omega
  have Yp:(W.setCell ⟨w.heap.size+1,0,AI⟩ (A' C')).heap[D]? =AN (.deferred (AN [])):=(Below.heap_setCell _ _ _ _ (by simpa using hne.symm)).trans xF;have bt:=(I1.set 0 (A' C'));have m0:((W.setCell ⟨w.heap.size+1,0,AI⟩ (A' C')).putObj D (.deferred AI)).cell? ⟨w.heap.size+1,0,AI⟩=AN (A' C'):=(CG Yp rfl rfl _).trans (bt.cell 0);refine di rfl Yp (v:=A' C') (by simp[results,Tryz.results99,go_sem,m0]) ⟨rfl,?_⟩;have k1:ae (· <w.heap.size) w (W.setCell ⟨w.heap.size+1,0,AI⟩ (A' C')):=(ae.aj HX fun _ h=>h).setCell (by simp) _;exact(k1.putObj (by have h1:=HD.out;omega) _).below
 case stop=>rintro D c pre T W _ _ _ _ h _;exact h.elim
end
section
open Go Go.RowKit Go.Shelf Go.Maps
theorem Ew (l:List RX):RX.bF l<=10001*l.length:=by
 induction l with
 | nil=>simp[RX.bF]
 | cons x l ih=>
  rw[RX.bF,B'];have:=A7 x;omega
theorem Ib {l:List RX} {i:Nat} {t:RX} (h:l[i]? =AN t):RX.bF (l.take (i+1))=RX.bF (l.take i)+t.cy:=by rw[FF,h,eu];simp[RX.bF]
theorem Ms (t:RX):t.size<=10000000->∀ (n0:Nat) (v:Value) (w:Cd),aH (· <n0) w v t->n0<=w.heap.size-> ah 162 #[v] w fun e w'=>e=AF (As Bm t.cy)/\aa w w':=by
 induction t using RX.ind with
 | h k s mn mx l ih=>
  intro hsz n0 v w hv bX;obtain⟨p,c,rfl⟩:=hv.form;obtain⟨n,hn⟩:=ag l.length;simp only[RX.kind,RX.set,RX.mn,RX.mx,RX.subs]at hv ⊢;rw[<-hn]at hv ⊢;have hn7:n<=10000000:=by rw[hn];exact By (oC l) (by rw[RX.size]at hsz;omega)
  have IH:DQ (∀ (i:Nat) (t:RX),l[i]? =AN t->∀ (v:Value) (w:Cd),aH (· <n0) w v t->n0<=w.heap.size->ah 162 #[v] w fun e w'=>e=AF (As Bm t.cy)/\aa w w'):=AM fun i t hi v w h h0=>ih t (ax hi) (By (wk (ax hi)) (by rw[RX.size]at hsz;omega)) n0 v w h h0
  obtain⟨s0,hs0⟩:=ag (if k=2 then 1 else 0:Nat);have anS:s0<=1:=by rw[hs0];split<;>omega
  obtain⟨S,hS⟩:=ag (s0+RX.bF l);have acM:S<=200000000000:=by have:=Ew l;rw[<-hn]at this;omega
  obtain⟨R,hR⟩:=ag ((RX.nd k s mn mx l).cy);have hRS:R=min (S*(if k=5 then min (RX.times mn mx) 10001 else 1)) 10001:=by rw[hR,RX.cy,hS,hs0]
  rw[<-hR];have HV:=AM hv;have HN:=AM hn;have J2:=AM hs0;have HSS:=AM hS;have Wv:=AM hRS;clear hv hn hs0 hS hRS hR ih hsz;unfold aq;go_enter Tryz.func162,Tryz.ntmps162;go_upto_region 2 with fail
  refine aw ?_;intro V hV;have B1:DQ (ar V w.heap.size #[As It k,As A_ (wd s 0).toNat,As A_ (wd s 1).toNat,As A_ (wd s 2).toNat,As A_ (wd s 3).toNat,As Bm mn,As Bm mx,An p n c] 97):=by rw[hV];exact AM (ar.new _ _ _)
  have X1:DQ (aa w V):=by rw[hV];exact AM ((Ext.refl _).alloc _).below
  clear hV;have b0:V.cell? ⟨w.heap.size,0,AI⟩=AN (As It k):=B1.cell 0;have b7:V.cell? ⟨w.heap.size,7,AI⟩=AN (An p n c):=B1.cell 7
  go_upto_if 10 with fail
  go_cut [3] from 8 to 10 (fun x wx=>x=As Bm s0/\wx=V)
  case first=>
   by_cases hk:k=2
   ·have e0:s0=1:=by rw[J2.out,if_pos hk]
    have d1:((k:Int)==2)=true:=by rw[hk];rfl
    go_wp2_with fail
    go_meet
    exact⟨by rw[e0];rfl,rfl⟩
   ·have e0:s0=0:=by rw[J2.out,if_neg hk]
    have d1:((k:Int)==2)=false:=by rw[beq_eq_false_iff_ne];omega
    go_wp2_with fail
    go_meet
    exact⟨by rw[e0];rfl,rfl⟩
  case rest=>
  obtain⟨rfl,hwc⟩:=hcut;replace hwc:=hwc.symm;subst hwc;go_wp2;clear b0 b7;go_loopw [14,3] (fun iv sv wr=>∃ i:Nat,i<=n/\iv=As Bm i/\sv=As Bm ((s0+RX.bF (l.take i):Nat):Int)/\aa V wr) (fun iv _ _=>n-(intOf iv).toNat);case atStart=>exact⟨0,by omega,rfl,by simp[RX.bF],Below.refl _ _⟩
  case round=>
   obtain⟨i,hi,rfl,rfl,hx⟩:=hrel;obtain⟨wo,rfl⟩:=ag (wr:Cd);have HX:=AM hx;have XO:=AM (X1.trans (hx.mono X1.size));clear hx;by_cases hlt:i<n
   ·have ed:(i:Int)<n:=by omega
    obtain⟨t,ht⟩:∃ t,l[i]? =AN t:=⟨_,aB (by have:=HN.out;omega)⟩;obtain⟨b,off,p',c',ep,hbF,hb,_,⟨q0,q1,q2,q3,q4,q5,q6,q7⟩,hrt⟩:=(HV.mF (XO.mono bX)).elem ht;subst ep;have YZ:=Ib ht;obtain⟨m,hm⟩:=ag (RX.bF (l.take i));have anU:m<=100010000000:=by have:=Ew (l.take i);rw[Is]at this;rw[hm];omega
    have htp:=A7 t;obtain⟨tp,Y0⟩:=ag t.cy;rw[<-hm]at YZ ⊢;rw[<-Y0]at YZ htp;have e1:Bm.wrap (((s0+m:Nat):Int)+(tp:Int))=((s0+m+tp:Nat):Int):=by rw[DS _ (by omega)];omega
    obtain⟨sm,hsm⟩:=ag (s0+m);rw[<-hsm]at e1 ⊢;have Ww:s0+RX.bF (l.take (i+1))=sm+tp:=by rw[YZ,hsm];omega
    have C1:=AM (fun W (hW:aa wo W)=>IH i t ht _ W (hrt.mF (hW.mono (By bX XO.size))) (By (By bX XO.size) hW.size));unfold aq at C1;rw[<-Y0]at C1;have Bl:=AM Ww;clear hrt YZ hm Ww hsm Y0 ht;go_wp2_with fail
    refine aK ?_;intro V2 hV2;have X2:DQ (aa wo V2):=by rw[hV2];exact AM ((Ext.refl _).alloc _).below
    clear hV2;refine(C1 V2 X2).mono ?_;rintro e w3 ⟨rfl,hx⟩;have X3:=AM (HX.trans ((X2.trans (hx.mono X2.size)).mono HX.size));clear hx C1 X2;go_wp2;go_roundw;case rel=>exact⟨i+1,by omega,by go_num,by rw[Bl.out,Int.natCast_add],X3⟩
    case measure=>simp[intOf];omega
   ·obtain rfl:i=n:=by omega
    have ed:¬ ((i:Int)<i):=by omega
    have er:s0+RX.bF (l.take i)=S:=by rw[HSS.out,HN.out,GS]
    rw[er];obtain⟨b0,b5,b6⟩:=(show _/\_/\_ from⟨(B1.below HX B1.lt).cell 0,(B1.below HX B1.lt).cell 5,(B1.below HX B1.lt).cell 6⟩);simp only[Bs,AS,AT]at b0 b5 b6;clear er;by_cases hk:k=5
    ·have d1:((k:Int)==5)=true:=by rw[hk];rfl
     have Mt:=Wv.out;rw[if_pos hk]at Mt;obtain⟨L,hL⟩:∃ L:Int,max mn 0=L:=⟨_,rfl⟩;by_cases hx1:mx= -1
     ·have d2:(mx== -1)=true:=by rw[hx1];rfl
      obtain⟨T0,NG⟩:∃ T0:Int,max L mx=T0:=⟨_,rfl⟩;obtain⟨T1,hT1⟩:∃ T1:Int,max L 1=T1:=⟨_,rfl⟩;obtain⟨F,hF⟩:=ag (min (RX.times mn mx) 10001:Nat);have Mn:min T1 10001=(F:Int):=by rw[hF, <-hT1, <-hL];unfold RX.times;rw[if_pos hx1];omega
      have Y4:F<=10001:=by rw[hF];omega
      rw[<-hF]at Mt;have lA:S*F<=200000000000*10001:=Iv acM Y4;obtain⟨M,hM⟩:=ag (S*F);have e1:Bm.wrap ((S:Int)*(F:Int))=(M:Int):=by rw[show(S:Int)*(F:Int)=(M:Int) by rw[hM];push_cast;rfl];exact DS _ (by omega)
      rw[<-hM]at Mt;have e2:min (M:Int) 10001=(R:Int):=by omega
      have HRX:=AM Mt;clear Mt hM hF lA;subst hx1;go_wp2;go_ret;exact⟨rfl,XO⟩
     ·have d2:(mx== -1)=false:=beq_false_of_ne hx1
      obtain⟨T0,NG⟩:∃ T0:Int,max L mx=T0:=⟨_,rfl⟩;obtain⟨F,hF⟩:=ag (min (RX.times mn mx) 10001:Nat);have Mn:min T0 10001=(F:Int):=by rw[hF, <-NG, <-hL];unfold RX.times;rw[if_neg hx1];omega
      have Y4:F<=10001:=by rw[hF];omega
      rw[<-hF]at Mt;have lA:S*F<=200000000000*10001:=Iv acM Y4;obtain⟨M,hM⟩:=ag (S*F);have e1:Bm.wrap ((S:Int)*(F:Int))=(M:Int):=by rw[show(S:Int)*(F:Int)=(M:Int) by rw[hM];push_cast;rfl];exact DS _ (by omega)
      rw[<-hM]at Mt;have e2:min (M:Int) 10001=(R:Int):=by omega
      have HRX:=AM Mt;clear Mt hM hF lA;go_wp2;go_ret;exact⟨rfl,XO⟩
    ·have d1:((k:Int)==5)=false:=by rw[beq_eq_false_iff_ne];omega
     have e2:min (S:Int) 10001=(R:Int):=by have:=Wv.out;rw[if_neg hk,Nat.mul_one]at this;omega
     go_wp2;go_ret;exact⟨rfl,XO⟩
theorem uj (v:Value) (t:RX) (hs:t.size<=10000) (w:Cd) (h:aH (· <w.heap.size) w v t): ah 101 #[v] w fun e w'=>e=AF (As Bm t.cy)/\aa w w':=by
 have CL:DQ (∀ W,aa w W->ah 158 #[v] W fun e w'=>e=AF (A' C')/\aa W w'):=AM fun W hW=>sI v t hs W ((h.mF hW).mono fun b hb=>ay hb hW.size)
 have CP:DQ (∀ W,aa w W->ah 162 #[v] W fun e w'=>e=AF (As Bm t.cy)/\aa W w'):=AM fun W hW=>Ms t (by omega) w.heap.size v W (h.mF hW) hW.size
 obtain⟨p,c,rfl⟩:=h.form;generalize t.cy=r at*;clear h hs;unfold aq at*;go_enter Tryz.func101,Tryz.ntmps101;go_wp2_with fail
 refine aK ?_;intro V hV;have B1:DQ (ar V w.heap.size (aq t.kind t.set t.mn t.mx (An p t.subs.length c)) 97):=by rw[hV];exact AM (ar.new _ _ _)
 have X1:DQ (aa w V):=by rw[hV];exact AM ((Ext.refl _).alloc _).below
 clear hV;refine(CL V X1).mono ?_;rintro e w1 ⟨rfl,hx⟩;have B2:=AM (B1.below hx B1.lt);have X2:=AM (X1.trans (hx.mono X1.size));clear hx B1 X1 CL;obtain⟨b0,b1,b2,b3,b4,b5,b6,b7⟩:=(show _/\_/\_/\_/\_/\_/\_/\_ from⟨B2.cell 0,B2.cell 1,B2.cell 2,B2.cell 3,B2.cell 4,B2.cell 5,B2.cell 6,B2.cell 7⟩);simp only[aq,Bs,AS,AT]at b0 b1 b2 b3 b4 b5 b6 b7;go_wp2_with fail
 refine(CP w1 X2).mono ?_;rintro e w2 ⟨rfl,hx⟩;have X3:=AM (X2.trans (hx.mono X2.size));clear hx b0 b1 b2 b3 b4 b5 b6 b7;go_wp2;go_ret;exact⟨rfl,X3⟩
attribute [local go_sem] cA
theorem Ex (x:PB):(dF (bW x) 448).length=(dT x).length/\(dF (bW x) 448).map vG=(dT x).map aG:=by rw[<-Ma];refine⟨by simp,?_⟩;rw[List.map_map];rfl
theorem sJ (x:PB) (b off:Nat) (w:Cd) (hb:fP w b off (bW x)):ah 103 #[B_ (AN ⟨b,off,AI⟩)] w fun e w'=>∃ v,e=AF v/\w'.ownsRow w.heap.size 3 1 v (dT x).length ((dT x).map aG)/\aa w w':=by have h:=Ho (bW x) b off w hb;rw[(Ex x).1,(Ex x).2]at h;exact h
theorem GM.ok0:(⟨[],[]⟩:GM).ok:=⟨rfl,fun f h=>(by cases h),fun s h=>(by cases h)⟩
theorem fE.new {base M:Nat} {w:Cd} (h:ar w M #[An AI 0 0,An AI 0 0] 177) (hb:base<=M):fE base M (· =M) w ⟨[],[]⟩:=
 ⟨rfl,(fun x hx=>by subst hx;exact⟨hb,h.lt⟩),_,_,h,World.ownsRow_nil _ _ _ _,(fun x e=>by cases e),World.ownsRow_nil _ _ _ _,(fun x e=>by cases e)⟩
theorem zC (v:Value) (t:RX) (w:Cd) (h:aH (· <w.heap.size) w v t) (hf:t.fine) (hs:t.size<=120) (hp:t.cy<=400): ah 59 #[v] w fun e w'=>∃ u,e=AF (.tuple #[u,As Bm 0])/\gX w.heap.size w' u t.nf/\aa w w':=by
 obtain⟨iL,uC,j6,j7,j8⟩:=info_parts Tryz.pd;obtain⟨p,c,rfl⟩:=h.form;have wh:=pV t hf;have acH:=Eg t hf hp;have lq:=nD t wh ⟨[],[]⟩ GM.ok0;obtain⟨v,hv⟩:=ag (GB (aq t.kind t.set t.mn t.mx (An p t.subs.length c)));rw[<-hv]at h;have CC:DQ (∀ W,aa w W->ah 99 #[v] W fun e w'=>e=AF (A' C')/\aa W w'):=AM fun W hW=>Ev v t hf (by omega) W ((h.mF hW).mono fun b hb=>ay hb hW.size)
 have CS:DQ (∀ W,aa w W->ah 100 #[v] W fun e w'=>e=AF (As Bm t.size)/\aa W w'):=AM fun W hW=>H9 v t (by omega) W ((h.mF hW).mono fun b hb=>ay hb hW.size)
 have CP:DQ (∀ W,aa w W->ah 101 #[v] W fun e w'=>e=AF (As Bm t.cy)/\aa W w'):=AM fun W hW=>uj v t (by omega) W ((h.mF hW).mono fun b hb=>ay hb hW.size)
 obtain⟨m2,p2,vW⟩:∃ m2 p2,t.dw ⟨[],[]⟩=(m2,p2):=⟨_,_,rfl⟩;have CM:DQ (∀ W M,aa w W->w.heap.size<=M->ar W M #[An AI 0 0,An AI 0 0] 177->ah 102 #[B_ (AN ⟨M,0,AI⟩),v] W (jQ w.heap.size M (· =M) W m2 p2)):=AM fun W M hW hM hB=>by
  have:=QN w.heap.size t hf (by omega) w.heap.size M (· =M) ⟨[],[]⟩ W v (aF _) (fE.new hB hM) (h.mF hW) GM.ok0 rfl (by show 0+t.cnt<=448;omega);rw[vW]at this;exact this
 rw[hv]at CC CS CP CM;rw[vW]at lq;have yE:=lq.len;have ym:=lq.ok.len;dsimp only at yE ym;have yE:m2.aO.length=0+t.cnt:=yE;have enf:t.nf=⟨m2.aO,m2.cB.map dT,dT p2.fst,dT p2.cL,p2.emp⟩:=by unfold RX.nf;rw[vW]
 have rS:t.kind≠0:=ow hf;obtain⟨k,hk⟩:=ag t.kind;obtain⟨sz,hsz⟩:=ag t.size;obtain⟨ps,Ta⟩:=ag t.cy;obtain⟨nl,qE⟩:=ag t.subs.length;rw[enf];rw[<-hk, <-qE]at CC CS CP CM ⊢;rw[<-hk]at rS;rw[<-hsz]at CS hs;rw[<-Ta]at CP hp;obtain⟨n,hn⟩:=ag m2.aO.length;rw[<-hn]at ym yE;have QS:n<=400:=by omega
 obtain⟨st,hst⟩:=ag t.set;obtain⟨tn,sK⟩:=ag t.mn;obtain⟨tx,J3⟩:=ag t.mx;rw[<-hst, <-sK, <-J3]at CC CS CP CM ⊢;have HN:=AM hn;have HL3:=AM ym;have HS:=AM hs;have HP:=AM hp;clear lq h hv hf wh acH vW yE ym enf hk hsz Ta qE hn hst sK J3 v;unfold aq at CC CS CP CM ⊢;have hs9:¬ ((120:Int)<sz):=by have:=HS.out;omega
 have hp9:¬ ((400:Int)<ps):=by have:=HP.out;omega
 go_enter Tryz.func59,Tryz.ntmps59
 go_upto_region 1 with fail
 refine aw ?_;intro V hV;have B1:DQ (ar V w.heap.size #[As It k,As A_ (wd st 0).toNat,As A_ (wd st 1).toNat,As A_ (wd st 2).toNat,As A_ (wd st 3).toNat,As Bm tn,As Bm tx,An p nl c] 97):=by rw[hV];exact AM ((ar.new w _ _).alloc _)
 have B2:DQ (ar V (w.heap.size+1) #[An AI 0 0,An AI 0 0,An AI 0 0,An AI 0 0,A' C_] 118):=by rw[hV];exact AM ((ar.new (w.alloc _) _ _).at (by simp))
 have HX:DQ (aa w V):=by rw[hV];exact AM (((Ext.refl w).alloc _).alloc _).below
 have yg:V.heap.size=w.heap.size+1+1:=by rw[hV];simp
 have qu:=AM yg;clear hV yg;have e0:V.cell? ⟨w.heap.size,0,AI⟩=AN (As It k):=B1.cell 0;have e1:V.cell? ⟨w.heap.size,1,AI⟩=AN (As A_ (wd st 0).toNat):=B1.cell 1;have e2:V.cell? ⟨w.heap.size,2,AI⟩=AN (As A_ (wd st 1).toNat):=B1.cell 2;have e3:V.cell? ⟨w.heap.size,3,AI⟩=AN (As A_ (wd st 2).toNat):=B1.cell 3;have e4:V.cell? ⟨w.heap.size,4,AI⟩=AN (As A_ (wd st 3).toNat):=B1.cell 4;have e5:V.cell? ⟨w.heap.size,5,AI⟩=AN (As Bm tn):=B1.cell 5;have e6:V.cell? ⟨w.heap.size,6,AI⟩=AN (As Bm tx):=B1.cell 6;have e7:V.cell? ⟨w.heap.size,7,AI⟩=AN (An p nl c):=B1.cell 7;have mj:¬ ((k:Int)=0):=by omega
 go_wp2_with fail
 refine(CC V HX).mono ?_;rintro e V2 ⟨rfl,hx⟩;have B1:=AM (B1.below hx B1.lt);have B2:=AM (B2.below hx B2.lt);have HX:=AM (HX.trans (hx.mono HX.size));have Mu:DQ (w.heap.size+1+1<=V2.heap.size):=AM (by have:=hx.size;have:=qu.out;omega);clear hx e0 e1 e2 e3 e4 e5 e6 e7 qu CC;have e0:V2.cell? ⟨w.heap.size,0,AI⟩=AN (As It k):=B1.cell 0;have e1:V2.cell? ⟨w.heap.size,1,AI⟩=AN (As A_ (wd st 0).toNat):=B1.cell 1;have e2:V2.cell? ⟨w.heap.size,2,AI⟩=AN (As A_ (wd st 1).toNat):=B1.cell 2;have e3:V2.cell? ⟨w.heap.size,3,AI⟩=AN (As A_ (wd st 2).toNat):=B1.cell 3;have e4:V2.cell? ⟨w.heap.size,4,AI⟩=AN (As A_ (wd st 3).toNat):=B1.cell 4;have e5:V2.cell? ⟨w.heap.size,5,AI⟩=AN (As Bm tn):=B1.cell 5;have e6:V2.cell? ⟨w.heap.size,6,AI⟩=AN (As Bm tx):=B1.cell 6;have e7:V2.cell? ⟨w.heap.size,7,AI⟩=AN (An p nl c):=B1.cell 7;go_wp2_with fail
 refine(CS V2 HX).mono ?_;rintro e V3 ⟨rfl,hx⟩;have B1:=AM (B1.below hx B1.lt);have B2:=AM (B2.below hx B2.lt);have HX:=AM (HX.trans (hx.mono HX.size));have Mu:DQ (w.heap.size+1+1<=V3.heap.size):=AM (by have:=hx.size;have:=Mu.out;omega);clear hx e0 e1 e2 e3 e4 e5 e6 e7 CS;have e0:V3.cell? ⟨w.heap.size,0,AI⟩=AN (As It k):=B1.cell 0;have e1:V3.cell? ⟨w.heap.size,1,AI⟩=AN (As A_ (wd st 0).toNat):=B1.cell 1;have e2:V3.cell? ⟨w.heap.size,2,AI⟩=AN (As A_ (wd st 1).toNat):=B1.cell 2;have e3:V3.cell? ⟨w.heap.size,3,AI⟩=AN (As A_ (wd st 2).toNat):=B1.cell 3;have e4:V3.cell? ⟨w.heap.size,4,AI⟩=AN (As A_ (wd st 3).toNat):=B1.cell 4;have e5:V3.cell? ⟨w.heap.size,5,AI⟩=AN (As Bm tn):=B1.cell 5;have e6:V3.cell? ⟨w.heap.size,6,AI⟩=AN (As Bm tx):=B1.cell 6;have e7:V3.cell? ⟨w.heap.size,7,AI⟩=AN (An p nl c):=B1.cell 7;go_wp2_with fail
 refine(CP V3 HX).mono ?_;rintro e V4 ⟨rfl,hx⟩;have B1:=AM (B1.below hx B1.lt);have B2:=AM (B2.below hx B2.lt);have HX:=AM (HX.trans (hx.mono HX.size));have Mu:DQ (w.heap.size+1+1<=V4.heap.size):=AM (by have:=hx.size;have:=Mu.out;omega);clear hx e0 e1 e2 e3 e4 e5 e6 e7 CP;go_upto_region 6 with fail
 refine aw ?_;intro V5 Y8;have BM:DQ (ar V5 V4.heap.size #[An AI 0 0,An AI 0 0] 177):=by rw[Y8];exact AM (ar.new _ _ _)
 have E5:DQ (Ext V4 V5):=by rw[Y8];exact AM ((Ext.refl _).alloc _)
 clear Y8;obtain⟨M,hMe⟩:=ag V4.heap.size;rw[<-hMe]at BM ⊢;have B1:=AM (B1.ext E5);have B2:=AM (B2.ext E5);have HX:=AM (HX.trans (E5.below.mono HX.size));have Tq:w.heap.size+1+1<=M:=by have:=Mu.out;omega
 have hMl:M<V5.heap.size:=BM.lt;have CM:=AM (CM.out V5 M HX (by omega) BM);clear E5 Mu BM hMe;have e0:V5.cell? ⟨w.heap.size,0,AI⟩=AN (As It k):=B1.cell 0;have e1:V5.cell? ⟨w.heap.size,1,AI⟩=AN (As A_ (wd st 0).toNat):=B1.cell 1;have e2:V5.cell? ⟨w.heap.size,2,AI⟩=AN (As A_ (wd st 1).toNat):=B1.cell 2;have e3:V5.cell? ⟨w.heap.size,3,AI⟩=AN (As A_ (wd st 2).toNat):=B1.cell 3;have e4:V5.cell? ⟨w.heap.size,4,AI⟩=AN (As A_ (wd st 3).toNat):=B1.cell 4;have e5:V5.cell? ⟨w.heap.size,5,AI⟩=AN (As Bm tn):=B1.cell 5;have e6:V5.cell? ⟨w.heap.size,6,AI⟩=AN (As Bm tx):=B1.cell 6;have e7:V5.cell? ⟨w.heap.size,7,AI⟩=AN (An p nl c):=B1.cell 7;go_wp2_with fail
 refine CM.mono ?_;rintro e V6 ⟨rfl,⟨F,hF,hFM,hFo⟩,hx,hsz⟩;have B2:=AM (B2.keeps hx ⟨B2.lt,by omega⟩);have HX:=AM (HX.trans (hx.mono fun x (hx:x<w.heap.size)=>⟨by omega,by omega⟩:ae (· <w.heap.size) V5 V6).below);have MF:=AM hF;have FO:=AM hFo;have UR:M<V6.heap.size:=(hF.lt M hF.fm).2;clear hx hF hFM hFo hsz CM B1 e0 e1 e2 e3 e4 e5 e6 e7;unfold aA;go_upto_region 7 with fail
 refine aw ?_;intro V7 hV7;have X7:DQ (ar V7 V6.heap.size (aA p2) 181):=by rw[hV7];exact AM (ar.new _ _ _)
 have E7:DQ (Ext V6 V7):=by rw[hV7];exact AM ((Ext.refl _).alloc _)
 clear hV7;obtain⟨sv,fv,hM,r1,r1F,r2,r2F⟩:=MF.row;obtain⟨bq,hbq⟩:=ag V6.heap.size;rw[<-hbq]at X7 ⊢;have an1:M<bq:=by omega
 have BM:=AM (hM.ext E7);have HX:=AM (HX.trans (E7.below.mono HX.size));have B2:=AM (B2.ext E7);rw[HL3.out]at r2;rw[<-HN.out]at r1;obtain⟨sa,sc,rfl⟩:=ownsRow_form r1;obtain⟨fa,fc,rfl⟩:=ownsRow_form r2;have R1:=AM (ai r1 E7.below);have R2:=AM (ai r2 E7.below);have ahg:bq<V7.heap.size:=X7.lt;clear MF FO hM r1 r2 r1F r2F E7 hbq UR;obtain⟨n2,dP⟩:=ag ((dT p2.fst).length);obtain⟨n3,Ga⟩:=ag ((dT p2.cL).length);obtain⟨X2s,hX2⟩:=ag ((dT p2.fst).map aG);obtain⟨X3s,hX3⟩:=ag ((dT p2.cL).map aG);obtain⟨em,hem⟩:=ag p2.emp;have L2:DQ (∀ W,aa V7 W->ah 103 #[B_ (AN ⟨bq,0,AI⟩)] W fun e w'=>∃ v,e=AF v/\w'.ownsRow W.heap.size 3 1 v n2 X2s/\aa W w'):=AM fun W hW=>by rw[dP,hX2];exact sJ p2.fst bq 0 W (fP.fst (X7.below hW X7.lt))
 have L3:DQ (∀ W,aa V7 W->ah 103 #[B_ (AN ⟨bq,7,AI⟩)] W fun e w'=>∃ v,e=AF v/\w'.ownsRow W.heap.size 3 1 v n3 X3s/\aa W w'):=AM fun W hW=>by rw[Ga,hX3];exact sJ p2.cL bq 7 W (fP.cL (X7.below hW X7.lt))
 have b0:V7.cell? ⟨M,0,AI⟩=AN (An sa n sc):=BM.cell 0;have oy:V7.cell? ⟨bq,14,AI⟩=AN (A' em):=by rw[hem];exact X7.cell 14
 have pO:=AM dP;have HN3:=AM Ga;have gh:=AM hX2;have nX:=AM hX3;have HEM:=AM hem;clear dP Ga hX2 hX3 hem X7;have ahj:M<V7.heap.size:=by omega
 refine aI C_ (fun _=>False) (by kernel_rfl) 12 [0,1,3,7,0,16,0,112,0,256,1023,0,4095] (fun i=>i==5 || i==7 || i==11 || i==12) (by kernel_rfl) (fun i=>if i=5 then aU.Up V7.heap.size n2 X2s else if i=7 then aU.Up V7.heap.size n3 X3s else if i=11 then aU.ue V7.heap.size #[An AI 0 0,An AI 0 0,An AI 0 0,An AI 0 0,A' C_] 118 else aU.any _) ?_;intro C hC hne;have HC:=AM hC;have f1:=aD hC (p:=⟨M,0,AI⟩) ahj (fun h=>h) b0;have f2:=aD hC (p:=⟨bq,14,AI⟩) ahg (fun h=>h) oy;clear hC b0 oy
 repeat (refine au (fun K hK=>?_);first | (refine bL rfl ?_;try go_simp;refine hK _ _ ?_;clear hK K) | (refine bJ rfl rfl ?_;unfold az;go_simp;refine hK _ _ ?_;clear hK K))
 refine au (fun K hK=>?_);refine bS rfl rfl (aU.Up V7.heap.size n2 X2s) rfl (fun W hW hN=>?_) (fun v hv=>?_)
 ·have hM:=(HC.out W).1 hW
  clear hW;go_simp;refine bA ((L2 W hM.below).mono ?_);rintro e w2 ⟨u,rfl,ho,hx⟩;exact⟨_,rfl,Move.aj hx,ownsRow_form ho,aC ho hM.size⟩
 obtain⟨a5,c5,rfl⟩:=hv;go_simp;refine hK _ _ ?_;clear hK K
 repeat (refine au (fun K hK=>?_);first | (refine bL rfl ?_;try go_simp;refine hK _ _ ?_;clear hK K) | (refine bJ rfl rfl ?_;unfold az;go_simp;refine hK _ _ ?_;clear hK K))
 refine au (fun K hK=>?_);refine bS rfl rfl (aU.Up V7.heap.size n3 X3s) rfl (fun W hW hN=>?_) (fun v hv=>?_)
 ·have hM:=(HC.out W).1 hW
  clear hW;go_simp;refine bA ((L3 W hM.below).mono ?_);rintro e w2 ⟨u,rfl,ho,hx⟩;exact⟨_,rfl,Move.aj hx,ownsRow_form ho,aC ho hM.size⟩
 obtain⟨a6,c6,rfl⟩:=hv;go_simp;refine hK _ _ ?_;clear hK K
 repeat (refine au (fun K hK=>?_);first | (refine bL rfl ?_;try go_simp;refine hK _ _ ?_;clear hK K) | (refine bJ rfl rfl ?_;unfold az;go_simp;refine hK _ _ ?_;clear hK K))
 refine au (fun K0 hK=>?_);refine bS rfl rfl (aU.ue V7.heap.size #[An AI 0 0,An AI 0 0,An AI 0 0,An AI 0 0,A' C_] 118) rfl (fun W hW hN=>?_) (fun v hv=>?_)
 ·have hM:=(HC.out W).1 hW
  have nI:=hM.size;clear hW hN hK K0;go_simp;exact⟨Move.aj ((Ext.refl _).alloc _).below,⟨_,rfl⟩,fun b hb=>by cases hb;exact⟨ar.new _ _ _,nI⟩⟩
 obtain⟨bx,rfl⟩:=hv;go_simp;refine hK _ _ ?_;clear hK K0;refine bC (fun W hW hH=>?_);have hM:=(HC.out W).1 hW;have hb8:(aU.ue V7.heap.size #[An AI 0 0,An AI 0 0,An AI 0 0,An AI 0 0,A' C_] 118).H (B_ (AN ⟨bx,0,AI⟩)) W:=hH _ (ax (show _=AN _ from rfl:_[0]? =AN _));have L6:DQ (W.ownsRow V7.heap.size 3 1 (An a6 n3 c6) n3 X3s):=AM (hH _ (ax (show _=AN _ from rfl:_[1]? =AN _)));have L5:DQ (W.ownsRow V7.heap.size 3 1 (An a5 n2 c5) n2 X2s):=AM (hH _ (ax (show _=AN _ from rfl:_[2]? =AN _)));have BX:=AM (hb8 bx rfl);have XW:=AM hM.below;have UC:V7.heap.size<=W.heap.size:=hM.size;have L4:=AM (ai R1 hM.below);have LF:=AM (ai R2 hM.below);have DM:=AM (BM.below hM.below BM.lt);clear hM hW hH HC hne f1 f2 hb8 L2 L3 R1 R2 BM;obtain⟨x0,x1,x2,x3,x4⟩:=BX.1.five;have z0:=BX.1.frozen 0;have z1:=BX.1.frozen 1;have z2:=BX.1.frozen 2;have z3:=BX.1.frozen 3;have z4:=BX.1.frozen 4;have yL:bx≠M:=by have:=BX.2;omega
 have D2:=(((((DM.other (p:=⟨bx,0,AI⟩) yL (An sa n sc)).other (p:=⟨bx,1,AI⟩) yL (An AI 0 0)).other (p:=⟨bx,2,AI⟩) yL (An a5 n2 c5)).other (p:=⟨bx,3,AI⟩) yL (An a6 n3 c6)).other (p:=⟨bx,4,AI⟩) yL (A' em));have k0:=D2.cell 1;simp only[Bs,AS,AT]at k0;clear D2;go_wp2;clear k0;refine aw ?_;intro W2 hW2;have BD:DQ (ar W2 bx #[An sa n sc,An AI 0 0,An a5 n2 c5,An a6 n3 c6,A' em] 118):=by rw[hW2];exact AM BX.1.ab0
 have K2:ae (· ≠bx) W W2:=by rw[hW2];exact vD _ _ _ _ _ _ _
 clear hW2 x0 x1 x2 x3 x4 z0 z1 z2 z3 z4;have hbl:∀ {base:Nat} {e:TypeId} {size n:Nat} {u:Value} {xs:List Value},W.ownsRow base e size u n xs->118≠e->W2.ownsRow base e size u n xs:=fun h he=>ak h K2 fun x hx=>bZ BX.1 h he x hx
 have M4:=AM (hbl L4 (by decide));have M5:=AM (hbl L5 (by decide));have M6:=AM (hbl L6 (by decide));have MF:=AM (hbl LF (by decide));have hVb:V7.heap.size<=bx:=BX.2;have E2:=AM ((B2.below XW B2.lt).keeps K2 (by have:=B2.lt;show w.heap.size+1≠bx;omega));have X2:DQ (aa w W2):=AM ((HX.trans (XW.mono HX.size)).trans (K2.mono fun x (hx:x<w.heap.size)=>by have:=B2.lt;omega:ae (· <w.heap.size) W W2).below);have akn:W.heap.size<=W2.heap.size:=K2.size;have an3:=B2.lt;have hb3:bx<W2.heap.size:=BD.lt;clear K2 hbl L4 L5 L6 LF BX XW DM B2 HX;go_loopw [53] (fun i wr=>∃ (kk:Nat) (u:Value),kk<=n/\i=As Bm kk/\ar wr bx #[An sa n sc,u,An a5 n2 c5,An a6 n3 c6,A' em] 118/\aS W2.heap.size wr u ((m2.cB.map dT).take kk)/\ae (fun x=>x<W2.heap.size/\x≠bx) W2 wr) (fun i _=>n-(intOf i).toNat);case atStart=>exact⟨0,_,by omega,rfl,BD,aS.nil _ _,ae.refl _ _⟩
 case round=>
  obtain⟨kk,u,hk,rfl,hb,ho,hx⟩:=hrel;obtain⟨w5,rfl⟩:=ag (wr:Cd);have Mj:aa w w5:=X2.trans (hx.mono fun x (AH:x<w.heap.size)=>⟨ay AH X2.size,by omega⟩:ae (· <w.heap.size) W2 w5).below;by_cases hlt:kk<n
  ·obtain⟨f,hl⟩:∃ l,m2.cB[kk]? =AN l:=⟨_,aB (by have:=HL3.out;omega)⟩
   have er:(m2.cB.map dT).take (kk+1)=(m2.cB.map dT).take kk++ [dT f]:=by rw[FF,aN,hl];rfl
   have hlen:((m2.cB.map dT).take kk).length<=1000000:=by rw[Is];omega
   have ed:(kk:Int)<n:=by omega
   have hrow:=ak MF hx fun x AH=>⟨(MF.lt x AH).2,bZ BD MF (by decide) x AH⟩
   obtain⟨g,cap,efv⟩:∃ g cap,An fa n fc=An (AN ⟨g,0,AI⟩) n cap:=by
    rcases hrow.2 with⟨_,e2⟩ | ⟨g,cap,cur,e2,_⟩
    ·exfalso;omega
    ·exact⟨g,cap,e2⟩
   injection efv with e1 e2 e3
   subst e1 e3;have xJ:g<w5.heap.size:=(hrow.lt g rfl).2;have mD:n<=fc:=by
    rcases hrow.2 with⟨e,_⟩ | ⟨g',c',cur,e4,_,_,h9,_⟩
    ·cases e
    ·cases e4;omega
   have ce:∀ i,i<7->w5.cell? ⟨g,kk*7+i,AI⟩=AN (As A_ (bW f i).toNat):=fun i hi=>by
    have:=hrow.cells (g:=g) rfl _ _ (vP hl hi);rw[Addr.add_mid]at this;simpa using this
   have e0:=ce 0 (by decide);have e1:=ce 1 (by decide);have e2:=ce 2 (by decide);have e3:=ce 3 (by decide);have e4:=ce 4 (by decide);have e5:=ce 5 (by decide);have e6:=ce 6 (by decide);simp only[Nat.add_zero]at e0;obtain⟨us,u1,u2,u3⟩:=ho;obtain⟨ml,oL⟩:=ag us.length;have tX:ml<=1000000:=by omega
   obtain⟨j,hj⟩:=ag ((dT f).length);rw[<-oL]at u1 u2;have yn:=AM oL;have HJ:=AM hj;obtain⟨ua5,uc5,rfl⟩:=ownsRow_form u2;have U2:=AM u2;have U3:=AM u3;have U1:=AM u1;have HB:=AM hb;have HK:=AM hx;have HT:=AM er;have hgz:g<w5.heap.size:=xJ;clear hl hb hx er Mj u1 u2 u3 oL hj hlen hrow ce;go_upto_region 11 with fail
   refine aw ?_;intro W6 rW;have Z6:DQ (ar W6 w5.heap.size (cA (bW f)) 179):=by rw[rW];exact AM (ar.new _ _ _)
   have E6:DQ (Ext w5 W6):=by rw[rW];exact AM ((Ext.refl _).alloc _)
   clear rW e0 e1 e2 e3 e4 e5 e6;have U2:=AM (ai U2 E6.below);have U3:=AM fun i u l hu hl=>ai (U3 i u l hu hl) E6.below
   have HB:=AM (HB.ext E6);have HK:=AM (HK.tr (E6.keeps.mono fun x hx=>ay hx.1 HK.size));have CL:DQ (∀ W,aa W6 W->ah 103 #[B_ (AN ⟨w5.heap.size,0,AI⟩)] W fun e w'=>∃ v,e=AF v/\w'.ownsRow W.heap.size 3 1 v j ((dT f).map aG)/\aa W w'):=AM fun W hW=>by rw[HJ.out];exact sJ f _ 0 W (fP.Qd (Z6.below hW Z6.lt))
   clear E6 Z6;refine aI C_ (fun _=>False) (by kernel_rfl) 4 [0,1,0,4,15,31,63] (fun i=>i==2 || i==3 || i==4 || i==6) (by kernel_rfl) (fun i=>if i=2 then aU.row W2.heap.size 3 1 j ((dT f).map aG)else if i=3 then aU.JG W2.heap.size j ((dT f).map aG)else aU.any _) ?_;intro C hC hne;have HC:=AM hC;have f0:=aD hC (p:=⟨bx,1,AI⟩) (by have:=HB.lt;exact this) (fun h=>h) (HB.cell 1);clear hC
   repeat (refine au (fun K hK=>?_);first | (refine bL rfl ?_;try go_simp;refine hK _ _ ?_;clear hK K) | (refine bJ rfl rfl ?_;unfold az;go_simp;refine hK _ _ ?_;clear hK K))
   refine au (fun K hK=>?_);refine bS rfl rfl (aU.row W2.heap.size 3 1 j ((dT f).map aG)) rfl (fun W hW hN=>?_) (fun v hv=>?_)
   ·have hM:=(HC.out W).1 hW
    clear hW;go_simp;refine bA ((CL W hM.below).mono ?_);rintro e w2 ⟨vp,rfl,ho,hx⟩;exact⟨_,rfl,Move.aj hx,ownsRow_form ho,aC ho (By HK.size hM.size)⟩
   obtain⟨a7,c7,rfl⟩:=hv;go_simp;refine hK _ _ ?_;clear hK K;refine au (fun K hK=>?_);refine bS rfl rfl (aU.JG W2.heap.size j ((dT f).map aG)) rfl (fun W hW hN=>?_) (fun v hv=>?_)
   ·have hro:W.ownsRow W2.heap.size 3 1 (An a7 j c7) j ((dT f).map aG):=hN.at 0 rfl (by kernel_rfl)
    have HRO:=AM hro;clear hW hN hK K hro;go_simp;exact⟨Move.ext ((Ext.refl _).alloc _),⟨_,rfl⟩,fun b hb=>by cases hb;exact⟨_,ar.new _ _ _,HRO.alloc _⟩⟩
   obtain⟨bz,rfl⟩:=hv;go_simp;refine hK _ _ ?_;clear hK K;refine bC (fun W hW hH=>?_);have hM:=(HC.out W).1 hW;obtain⟨ux,Za,hux⟩:∃ ux,ar W bz #[ux] 39/\W.ownsRow W2.heap.size 3 1 ux j ((dT f).map aG):=hH _ (bu ..) bz rfl;obtain⟨a8,c8,rfl⟩:=ownsRow_form hux;have HBX:=AM Za;have HUX:=AM hux;have YB:=AM (HB.below hM.below HB.lt);have YO:=AM (ai U2 hM.below);have Y3:=AM fun i u l hu hl=>ai (U3 i u l hu hl) hM.below
   have YK:=AM (HK.tr (ae.aj hM.below fun x hx=>ay hx.1 HK.size));have yg:W2.heap.size<=W.heap.size:=By HK.size hM.size;clear hM hW hH f0 HC HB HK Za hux U2 U3;go_wp2_with (at_builtin;refine Hid.out ?_);refine AM ?_;refine wpList_append_own_at _ rfl (.tmp 58) (.tmp 60) 27 rfl W2.heap.size 39 iL (An AI 0 0) 1 24 Tryz.underlying27 uC j6 j7 j8 rfl (by decide) _ _ _ rfl YO ⟨bz,0,AI⟩ 1 1 [An a8 j c8] rfl rfl HBX.VZ (by simp[IF]) (by unfold maxLen;omega) (by omega) yg ?_;intro v' w3 hown' hgrow hh hat;have Wx:=AM hown';have HG:=AM hgrow;obtain⟨ua3,uc3,rfl⟩:=ownsRow_form hown';have Zb:∀ x,(An ua5 ml uc5).ownBlock=AN x->W2.heap.size<=x:=(fun x e=>(YO.lt x e).1);have ZB:=AM (YB.grown hgrow (fun e=>by have:=Zb _ e.symm;omega));have ZK:=AM (YK.tr (ae.aZ hgrow fun x hx=>⟨ay hx.1 yg,fun e=>by have:=Zb x e.symm;omega⟩));have YD:W.heap.size<=w3.heap.size:=hgrow.size;have p1:=ZB.cell 1;have q1:=ZB.frozen 1;clear hown' hgrow hh hat Zb;go_wp2;go_roundw;case rel=>
    refine⟨kk+1,_,by omega,by go_num,ZB.set 1 _,?_,ZK.setCell (p:=⟨bx,1,AI⟩) (fun h=>h.2 rfl) _⟩;have hs:aS W2.heap.size w3 (An ua3 (ml+1) uc3) ((m2.cB.map dT).take kk++ [dT f]):=aS.snoc (w:=W) (v:=An ua5 ml uc5) (us:=us) (u:=An a8 j c8) (by rw[<-yn.out];exact U1) (by rw[<-yn.out];exact YO) (fun i u l hu hl=>Y3 i u l hu hl) (by rw[<-HJ.out];exact HUX) HG (by rw[<-yn.out];exact Wx);rw[HT.out];exact hs.keeps ((ae.refl (· ≠bx) _).setCell (p:=⟨bx,1,AI⟩) (fun h=>h rfl) _) (fun x h1 _ e=>by omega)
   case measure=>simp[intOf];omega
  ·obtain rfl:kk=n:=by omega
   clear hlt hk;have ed:¬ ((kk:Int)<kk):=by omega
   have er:(m2.cB.map dT).take kk=m2.cB.map dT:=by rw[show kk=(m2.cB.map dT).length by rw[aP,HL3.out]];exact GS
   rw[er]at ho;obtain⟨ua,uc,acO⟩:=ho.form;rw[aP,HL3.out]at acO;subst acO;have R0:=AM ho;have XA:=AM Mj;have CB:=AM hb;have HK:=AM hx;have C2:=AM (E2.keeps hx ⟨E2.lt,by omega⟩);clear ho hb hx er Mj;obtain⟨p0,p1,p2,p3,p4⟩:=CB.five;obtain⟨y0,y1,y2,y3,y4⟩:=C2.five;have z0:=C2.frozen 0;have z1:=C2.frozen 1;have z2:=C2.frozen 2;have z3:=C2.frozen 3;have z4:=C2.frozen 4;go_wp2;refine aQ ?_;intro W9 dG;have E9:DQ (ar W9 (w.heap.size+1) #[An sa kk sc,An ua kk uc,An a5 n2 c5,An a6 n3 c6,A' em] 118/\ae (· ≠w.heap.size+1) w5 W9):=by rw[dG];exact AM ⟨C2.ab0,vD _ _ _ _ _ _ _⟩
   clear dG z0 z1 z2 z3 z4 y0 y1 y2 y3 y4 p0 p1 p2 p3 p4;obtain⟨m0,m1,m2',m3,m4⟩:=E9.1.five;have key:∀ {base:Nat} {e:TypeId} {size n:Nat} {u:Value} {xs:List Value},w.heap.size<=base->W2.ownsRow base e size u n xs->118≠e->W9.ownsRow w.heap.size e size u n xs:=fun hb h he=>aC (ak (ak h HK fun x hx=>⟨(h.lt x hx).2,bZ BD h he x hx⟩) E9.2 fun x hx=>bZ E2 h he x hx) hb
   refine G_ (v:=.tuple #[GB #[An sa kk sc,An ua kk uc,An a5 n2 c5,An a6 n3 c6,A' em],As Bm 0]) (by simp[results,Tryz.results59,go_sem,m0,m1,m2',m3,m4]) rfl ⟨_,rfl,⟨_,_,_,_,by rw[HEM.out],?_,?_,?_,?_⟩,XA.trans (E9.2.mono fun x (hx:x<w.heap.size)=>by show x≠w.heap.size+1;omega:ae (· <w.heap.size) w5 W9).below⟩
   ·show W9.ownsRow _ _ _ _ m2.aO.length _;rw[<-HN.out];exact key (aF _) M4 (by decide)
   ·exact(R0.keeps E9.2 fun x h1 _=>by show x≠w.heap.size+1;omega).base (by omega)
   ·show W9.ownsRow _ _ _ _ (dT p2.fst).length ((dT p2.fst).map aG);rw[<-pO.out, <-gh.out];exact key (by omega) M5 (by decide)
   ·show W9.ownsRow _ _ _ _ (dT p2.cL).length ((dT p2.cL).map aG);rw[<-HN3.out, <-nX.out];exact key (by omega) M6 (by decide)
end
section
open Go Go.RowKit Go.Shelf Go.Maps
attribute [local go_sem] encS
theorem ar.eight {w:Cd} {b:Nat} {x0 x1 x2 x3 x4 x5 x6 x7:Value} {t:TypeId} (h:ar w b #[x0,x1,x2,x3,x4,x5,x6,x7] t):w.cell? ⟨b,0,AI⟩=AN x0/\w.cell? ⟨b,1,AI⟩=AN x1/\w.cell? ⟨b,2,AI⟩=AN x2/\w.cell? ⟨b,3,AI⟩=AN x3/\w.cell? ⟨b,4,AI⟩=AN x4/\w.cell? ⟨b,5,AI⟩=AN x5/\w.cell? ⟨b,6,AI⟩=AN x6/\w.cell? ⟨b,7,AI⟩=AN x7:=
 ⟨h.cell 0,h.cell 1,h.cell 2,h.cell 3,h.cell 4,h.cell 5,h.cell 6,h.cell 7⟩
theorem cW (k:Nat) (s:BS) (mn mx:Int) (a:Value):(IN.info? 97).map (·.size)=AN (aq k s mn mx a).size:=by show _=AN 8;kernel_rfl
theorem kq (k:Nat) (s:BS) (mn mx:Int) (p:Option Addr) (n c:Nat):(aq k s mn mx (An p n c)).all (·.oneCell')=true:=by unfold aq;simp[IF]
def eG:Array Value:= #[As It 0,As A_ 0,As A_ 0,As A_ 0,As A_ 0,As Bm 0,As Bm 0,An AI 0 0]
theorem bP (k:Nat) (mn mx:Int) (a:Value):aq k 0 mn mx a= #[As It k,As A_ 0,As A_ 0,As A_ 0,As A_ 0,As Bm mn,As Bm mx,a]:=by unfold aq;simp only[TQ];rfl
theorem aH.one {F:Nat->Prop} {w V:Cd} {k n c b:Nat} {s:BS} {mn mx:Int} {p:Option Addr} {t:RX} (hF:∀ x,F x->x<w.heap.size) (h:aH F w (GB (aq k s mn mx (An p n c))) t) (hk:aa w V) (hB:ar V b (aq k s mn mx (An p n c)) 97) (hb:w.heap.size<=b) (k':Nat) (s':BS) (mn' mx':Int): aH (fun x=>x<V.heap.size/\(F x\/w.heap.size<=x)) V (GB (aq k' s' mn' mx' (An (AN ⟨b,0,AI⟩) 1 1))) (.nd k' s' mn' mx' [t]):=by
 have h2:aH (fun x=>x<V.heap.size/\(F x\/w.heap.size<=x)) V (GB (aq k s mn mx (An p n c))) t:=(h.keeps (ae.aj hk fun _ h=>h:ae (· <w.heap.size) w V) hF).mono fun x hx=>⟨ay (hF x hx) hk.size,.inl hx⟩
 refine .mk k' s' mn' mx' [t] _ b 0 1 (fun _=>GB (aq k s mn mx (An p n c))) (fun e=>by cases e) (fun _=>⟨rfl,⟨hB.lt,.inr hb⟩,hB.lt,by simp⟩) (fun i x hi=>?_) (fun i x hi=>?_)
 ·have hl:=(DE.1 hi).1
  obtain rfl:i=0:=by simpa using hl
  refine⟨_,rfl,fun j u hj=>?_⟩;simpa using(hB.cell j).trans hj
 ·have hl:=(DE.1 hi).1
  obtain rfl:i=0:=by simpa using hl
  cases hi
  exact h2
theorem Ey (v:Value) (t:RX) (F:Nat->Prop) (w:Cd) (hF:∀ x,F x->x<w.heap.size) (h:aH F w v t): ah 107 #[v] w fun e w'=>∃ u,e=AF u/\aH (fun x=>x<w'.heap.size/\(F x\/w.heap.size<=x)) w' u (.nd 6 0 0 0 [t])/\aa w w':=by
 obtain⟨p,c,rfl⟩:=h.form;have H:=AM h;obtain⟨k,hk⟩:=ag t.kind;obtain⟨nl,qE⟩:=ag t.subs.length;obtain⟨st,hst⟩:=ag t.set;obtain⟨tn,sK⟩:=ag t.mn;obtain⟨tx,J3⟩:=ag t.mx;rw[<-hk, <-qE, <-hst, <-sK, <-J3]at H ⊢;clear h hk qE hst sK J3;unfold aq;go_enter Tryz.func107,Tryz.ntmps107;go_wp2;refine aQ ?_;intro V hV;have B2:DQ (ar V (w.heap.size+1+1) (aq k st tn tx (An p nl c)) 97):=by rw[hV];exact AM ((ar.new _ _ _).at (by simp))
 have R1:DQ (ar V (w.heap.size+1) #[As It 6,As A_ 0,As A_ 0,As A_ 0,As A_ 0,As Bm 0,As Bm 0,An (AN ⟨w.heap.size+1+1,0,AI⟩) 1 1] 97):=by rw[hV];exact AM (((ar.new _ _ _).at (by simp)).alloc _)
 have X1:DQ (aa w V):=by rw[hV];exact AM ((((Ext.refl w).alloc _).alloc _).alloc _).below
 clear hV;obtain⟨m0,m1,m2,m3,m4,m5,m6,m7⟩:=R1.eight;refine G_ (v:=GB #[As It 6,As A_ 0,As A_ 0,As A_ 0,As A_ 0,As Bm 0,As Bm 0,An (AN ⟨w.heap.size+1+1,0,AI⟩) 1 1]) (by simp[results,Tryz.results107,go_sem,m0,m1,m2,m3,m4,m5,m6,m7]) rfl ⟨_,rfl,?_,X1⟩;have e:=aH.one hF H X1 B2 (by omega) 6 0 0 0;rw[bP]at e;exact e
theorem Mv (v:Value) (t:RX) (mn mx:Int) (F:Nat->Prop) (w:Cd) (hF:∀ x,F x->x<w.heap.size) (h:aH F w v t): ah 108 #[v,As Bm mn,As Bm mx] w fun e w'=>∃ u,e=AF u/\aH (fun x=>x<w'.heap.size/\(F x\/w.heap.size<=x)) w' u (.nd 5 0 mn mx [t])/\aa w w':=by
 obtain⟨p,c,rfl⟩:=h.form;have H:=AM h;obtain⟨k,hk⟩:=ag t.kind;obtain⟨nl,qE⟩:=ag t.subs.length;obtain⟨st,hst⟩:=ag t.set;obtain⟨tn,sK⟩:=ag t.mn;obtain⟨tx,J3⟩:=ag t.mx;rw[<-hk, <-qE, <-hst, <-sK, <-J3]at H ⊢;clear h hk qE hst sK J3;unfold aq;go_enter Tryz.func108,Tryz.ntmps108;go_wp2;refine aQ ?_;intro V hV;have B2:DQ (ar V (w.heap.size+1+1) (aq k st tn tx (An p nl c)) 97):=by rw[hV];exact AM ((ar.new _ _ _).at (by simp))
 have R1:DQ (ar V (w.heap.size+1) #[As It 5,As A_ 0,As A_ 0,As A_ 0,As A_ 0,As Bm mn,As Bm mx,An (AN ⟨w.heap.size+1+1,0,AI⟩) 1 1] 97):=by rw[hV];exact AM (((ar.new _ _ _).at (by simp)).alloc _)
 have X1:DQ (aa w V):=by rw[hV];exact AM ((((Ext.refl w).alloc _).alloc _).alloc _).below
 clear hV;obtain⟨m0,m1,m2,m3,m4,m5,m6,m7⟩:=R1.eight;refine G_ (v:=GB #[As It 5,As A_ 0,As A_ 0,As A_ 0,As A_ 0,As Bm mn,As Bm mx,An (AN ⟨w.heap.size+1+1,0,AI⟩) 1 1]) (by simp[results,Tryz.results108,go_sem,m0,m1,m2,m3,m4,m5,m6,m7]) rfl ⟨_,rfl,?_,X1⟩;have e:=aH.one hF H X1 B2 (by omega) 5 0 mn mx;rw[bP]at e;exact e
end
section
open Go Go.RowKit Go.Shelf Go.Maps
attribute [local go_sem] encS
theorem nM (s:ByteArray) (l:List Nat) (mm:s.data.toList.map (·.toNat)=l) (hn:l.length<=1000000) (w:Cd): ah 104 #[.string s] w fun e w'=>e=AF (GB (aq 2 (pK fun c=>l.contains c) 0 0 (An AI 0 0)))/\aa w w':=by
 obtain⟨u,hu⟩:=ag (pK fun c=>l.contains c);rw[<-hu];have HU:=AM hu;have hsz:s.size=l.length:=by rw[<-mm];simp
 have HCE:DQ (∀ i x:Nat,l[i]? =AN x->∃ h:i<s.size,(s[i]'h).toNat=x):=AM fun i x h=>by
  have hi:i<s.size:=by rw[hsz];exact(DE.1 h).1
  refine⟨hi,?_⟩;have hi2:i<s.data.toList.length:=by simpa using hi
  rw[<-mm,aN,aB hi2]at h;have:=Option.some.inj h;rw[<-this,Array.getElem_toList];rfl
 have HL:DQ (∀ c∈l,c<256):=AM fun c hc=>by
  rw[<-mm]at hc;obtain⟨b,_,rfl⟩:=List.mem_map.1 hc;exact b.toNat_lt
 have lF:=AM hsz;have aob:((s.size:Nat):Int)=l.length:=by omega
 clear hu mm hsz;go_enter Tryz.func104,Tryz.ntmps104;go_wp2;refine aw ?_;intro V hV;have R0:DQ (ar V w.heap.size eG 97):=by rw[hV];exact AM ((ar.new _ _ _).alloc _)
 have B0:DQ (ar V (w.heap.size+1) (encS 0) 56):=by rw[hV,fU];exact AM ((ar.new _ _ _).at (by simp))
 have X0:DQ (aa w V):=by rw[hV];exact AM (((Ext.refl w).alloc _).alloc _).below
 clear hV;go_loopw [7] (fun i wr=>∃ (k:Nat) (s':BS),k<=l.length/\i=As Bm k/\(∀ c,c<256->s'.getLsbD c=(l.take k).contains c)/\ar wr (w.heap.size+1) (encS s') 56/\ar wr w.heap.size eG 97/\aa w wr) (fun i _=>l.length-(intOf i).toNat);case atStart=>exact⟨0,0,by omega,rfl,fun c hc=>by simp,B0,R0,X0⟩
 case round=>
  obtain⟨k,s',hk,rfl,hs,hB,hR,hx⟩:=hrel;obtain⟨wo,rfl⟩:=ag (wr:Cd);have HS:=AM hs;clear hs;by_cases hlt:k<l.length
  ·obtain⟨c,od⟩:∃ c,l[k]? =AN c:=⟨l[k],aB hlt⟩
   have kP:c<256:=HL.out c (ax od);obtain⟨Tc,hsc⟩:=HCE.out k c od;have hw:(encS s')[c/64]? =AN (As A_ (wd s' (c/64)).toNat):=gu s' (by omega);have hc1:wo.cell? ⟨w.heap.size+1,c/64,AI⟩=AN (As A_ (wd s' (c/64)).toNat):=(hB.cell _).trans hw;have hf:=hB.frozen (c/64);have er:l.take (k+1)=l.take k++ [c]:=by rw[FF,od];rfl
   have HT:=AM er;have HB:=AM hB;have HR:=AM hR;have HX:=AM hx;have ed:(k:Int)<l.length:=by omega
   have hkz:(k:Int)<s.size:=by omega
   clear hB hR hx hw er od;obtain⟨z,hz⟩:=ag (c/64:Nat);obtain⟨y,hy⟩:=ag (c%64:Nat);have hz4:z<4:=by omega
   have hy4:y<64:=by omega
   have hzi:It.wrap ((c:Int)/64)=(z:Int):=by rw[IntWalk.u8_in _ (by omega)];omega
   have hyi:Int.tmod (c:Int) 64=(y:Int):=by rw[Int.tmod_eq_emod_of_nonneg (by omega)];omega
   have hzI:(z:Int)<4:=by omega
   have hyI:(y:Int)<64:=by omega
   rw[<-hz]at hc1 hf;have HZ:=AM hz;have HY:=AM hy;clear hz hy;go_upto_region 5 with fail
   refine aI C_ (fun _=>False) (by kernel_rfl) 11 [0,0,3,7,15,31,0,0,192,448,960,2047,4095,8191] (fun i=>i==13) (by kernel_rfl) (fun _=>aU.any _) ?_;intro C hC hne;have HC:=AM hC;have Pt:=HB.lt;have f1:=aD hC (p:=⟨w.heap.size+1,z,AI⟩) Pt (fun h=>h) hc1;clear hC
   repeat (refine au (fun K hK=>?_);first | (refine bL rfl ?_;try go_simp;refine hK _ _ ?_;clear hK K) | (refine bJ rfl rfl ?_;unfold az;go_simp;refine hK _ _ ?_;clear hK K))
   refine bC (fun W hW hH=>?_);have jq:=(HC.out W).1 hW;have BW:=AM (HB.below jq.below HB.lt);have RW:=AM (HR.below jq.below HR.lt);have XW:DQ (aa w W):=AM (HX.trans (jq.below.mono HX.size));have hw:(encS s')[z]? =AN (As A_ (wd s' z).toNat):=gu s' hz4;have g1:W.cell? ⟨w.heap.size+1,z,AI⟩=AN (As A_ (wd s' z).toNat):=(BW.cell _).trans hw;have gf:=BW.frozen z;clear jq hW hH HC hne f1 hc1 hf HB HR HX hw;go_wp2;go_roundw;case rel=>
    refine⟨k+1,mP s' c,by omega,by go_num,fun d hd=>?_,?_,?_,?_⟩
    ·rw[kO s' kP,HS.out d hd,HT.out,F_,F_,List.any_append]
     simp
    ·rw[<-uU s' kP, <-HZ.out, <-HY.out];exact BW.set _ _
    ·exact RW.other (by simp) _
    ·exact XW.trans (((ae.refl (· <w.heap.size) _).setCell (p:=⟨w.heap.size+1,z,AI⟩) (fun h=>by have h':w.heap.size+1<w.heap.size:=h;omega) _).below)
   case measure=>simp[intOf];omega
  ·have QT:s'=u:=by rw[HU.out];exact BS.Jq fun c hc=>by rw[HS.out c hc,List.take_of_length_le (by omega)]
   subst QT;obtain rfl:k=l.length:=by omega
   obtain⟨c0,c1,c2,c3⟩:=hB.K1;have HR:=AM hR;have HX:=AM hx;have ed:¬ ((l.length:Int)<l.length):=by omega
   have HB:=AM hB;clear hB hR hx;go_wp2_with (refine wpList_store_row rfl 97 (.tmp 2) (.tmp 25) rfl w.heap.size (aq 2 s' 0 0 (An AI 0 0)) rfl rfl 97 eG HR (cW _ _ _ _ _) rfl (kq _ _ _ _ _ _ _) ?_;refine Hid.out ?_);refine AM ?_;obtain⟨V3,cP⟩:=ag (wo.setRow w.heap.size (aq 2 s' 0 0 (An AI 0 0)));rw[<-cP];have R9:DQ (ar V3 w.heap.size (aq 2 s' 0 0 (An AI 0 0)) 97):=by rw[cP];exact AM HR.setRow
   have X9:aa w V3:=by rw[cP];exact HX.trans ((bG wo w.heap.size _).mono fun x (hx:x<w.heap.size)=>by show x≠_;omega:ae (· <w.heap.size) wo _).below
   clear cP;go_wp2;obtain⟨m0,m1,m2,m3,m4,m5,m6,m7⟩:=R9.eight;exact G_ (v:=GB (aq 2 s' 0 0 (An AI 0 0))) (by simp[results,Tryz.results104,aq,go_sem,m0,m1,m2,m3,m4,m5,m6,m7]) rfl ⟨rfl,X9⟩
end
section
open Go Go.RowKit Go.Shelf Go.Maps
attribute [local go_sem] encS
theorem yo (n:Nat) (hn:n<256) (w:Cd): ah 105 #[As It n] w fun e w'=>∃ s:ByteArray,e=AF (.string s)/\s.data.toList.map (·.toNat)=dU n/\aa w w':=by
 obtain⟨r,hr⟩:=ag (n%12);have h12:r<12:=by omega
 have hrn:((n:Int)%12)=r:=by omega
 have hq:dU n=[[97],[98],[97,98],[97],[98],[99],[97,98,99],[98,99],[10],[0,255],[97],[98]].getD r []:=by unfold dU;rw[<-hr]
 rw[hq];clear hr hq;have hc:r=0\/r=1\/r=2\/r=3\/r=4\/r=5\/r=6\/r=7\/r=8\/r=9\/r=10\/r=11:=by omega
 rcases hc with rfl | rfl | rfl | rfl | rfl | rfl | rfl | rfl | rfl | rfl | rfl | rfl
 all_goals
  go_enter Tryz.func105,Tryz.ntmps105
  go_wp2;go_ret;exact⟨_,rfl,rfl,((Ext.refl w).alloc _).below⟩
end
end Go.Proofs.YtjgccapbphadjaaGreatDoor
