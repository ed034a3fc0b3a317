/- Numbers of keys in the order in which they come, in plain words. -/
import Derived.Test.YtjgccapbphadjaaGreatDoorOX09
set_option maxRecDepth 100000
set_option maxHeartbeats 16000000
open Go.Lib (hid)
open Go.Value renaming slice->An,int->AI,agg->A',oneCell'->NX,bool->Q_
open Option renaming some->As,none->AF
open Go.Lib renaming hid->AM
open List renaming getElem?_eq_some_iff->AN,length_take->AS,length_set->C_,mem_of_mem_take->C',range->DS,mem_range->D0,length_cons->D',length_nil->Ft,getElem?_set->GB,take_length->GS,eq_nil_of_length_eq_zero->G_,nodup_iff_pairwise_ne->If,mem_or_eq_of_mem_set->Is,take_add_one->It,mem_map->IF,mem_append->IT,take_append_drop->I',set_append_right->J_,getElem?_range->J',getElem?_take->K_,mem_singleton->Lw,foldl_append->Ly,idxOf_append->L_,length_range->MY
open Go renaming Value->AT,World->By,wpList_store_row->B_,bodyPost_ret->EV,Addr->M_,TypeId->On,MemPlace->P'
open Go.Proofs.Tryz renaming underlying97->A_,prog->Bs,underlying95->B',results60->H_,underlying5->Iv,results106->I_,underlying116->Lo,ntmps60->OR,func60->O'
open Go.IntWalk renaming i64_in->Bm
open Go.IntKind renaming u64->Cd,i64->DE,u8->FG
open Go.RowKit renaming Hid->DH
open Go.Operand renaming tmp->DP
open Classical renaming choose_spec->DQ
open Int renaming tmod_eq_emod_of_nonneg->D_,tmod->P_
open Go.RowKit.Hid renaming out->E_
open Nat renaming min_eq_left->FF,zero_add->F_,lt_or_ge->G',sub_self->IN,le_trans->L7,mul_le_mul->N_,zero_mul->N',sub_zero->O_
open Bool renaming true->GO,false->Kx
open Go.Ending renaming returned->GW
open Go.DataW renaming trod->H'
namespace Go.Proofs.YtjgccapbphadjaaGreatDoor
section
open Go Go.RowKit Go.Shelf Go.Maps
theorem Tryz.Wy:(Bs.info? 97).map (fun i=>(i.zero,i.size,i.bytes))=As (As (A' eG),8,80):=by kernel_rfl
def jS (k:Nat) (a b:RX) (i:Nat):List RX:=([a,b].take i).flatMap (dV k)
def cg (base:Nat) (F:Nat->Prop) (w:By) (v:AT) (l:List RX):Prop:=∃ cs:List (Array AT),cs.length=l.length/\w.ownsRow base 97 8 v l.length (bD cs)/\(∀ c∈cs,c.size=8/\∀ u∈c.toList,u.oneCell'=GO)/\
 ∀ (i:Nat) (c:Array AT) (t:RX),cs[i]? =As c->l[i]? =As t->aH F w (A' c) t
theorem cg.nil (base:Nat) (F:Nat->Prop) (w:By):cg base F w (An AF 0 0) []:=⟨[],rfl,World.ownsRow_nil _ _ _ _,(fun _ h=>nomatch h),fun i c t h=>by simp at h⟩
theorem cg.form {base:Nat} {F:Nat->Prop} {w:By} {v:AT} {l:List RX} (h:cg base F w v l):∃ a c,v=An a l.length c:=by obtain⟨cs,h1,h2,h3,h4⟩:=h;exact ownsRow_form h2
theorem cg.below {base:Nat} {F:Nat->Prop} {w w':By} {v:AT} {l:List RX} (h:cg base F w v l) (hF:∀ x,F x->x<w.heap.size) (hk:aa w w'):cg base F w' v l:=by obtain⟨cs,h1,h2,h3,h4⟩:=h;exact⟨cs,h1,ai h2 hk,h3,fun i c t hi ht=>(h4 i c t hi ht).keeps (ae.aj hk fun _ h=>h:ae (· <w.heap.size) w w') hF⟩
theorem cg.node {base:Nat} {F:Nat->Prop} {w:By} {v:AT} {l:List RX} (h:cg base F w v l) (hF:∀ x,F x->x<w.heap.size) (k:Nat) (s:BS) (mn mx:Int):aH (fun x=>x<w.heap.size/\(F x\/base<=x)) w (A' (aq k s mn mx v)) (.nd k s mn mx l):=by
 obtain⟨cs,h1,h2,h3,h4⟩:=h;rcases h2.2 with⟨rfl,e2⟩ | ⟨g,cap,cur,rfl,e2,e3,e4,e5,_⟩
 ·have hl:l=[]:=G_ e2
  subst hl;exact .leaf _ _ _ _ _ _ _ _
 ·have hg:=(h2.lt g rfl).2
  refine .mk k s mn mx l _ g 0 cap (fun i=>A' (cs.getD i #[])) (fun e=>⟨_,_,by rw[e];rfl⟩) (fun _=>⟨rfl,⟨hg,.inr e2⟩,hg,e4⟩) (fun i t hi=>?_) (fun i t hi=>?_)
  ·have fT:=(AN.1 hi).1
   obtain⟨c,hc⟩:∃ c,cs[i]? =As c:=⟨_,aB (by omega)⟩;refine⟨c,by rw[bB,hc];rfl,fun j u hj=>?_⟩;have:=h2.cells (g:=g) rfl _ _ (im (fun c hc=>(h3 c hc).1) hc hj);rw[Addr.add_mid]at this;rw[F_];simpa using this
  ·have fT:=(AN.1 hi).1
   obtain⟨c,hc⟩:∃ c,cs[i]? =As c:=⟨_,aB (by omega)⟩;have:=h4 i c t hc hi;rw[bB,hc];exact this.mono fun x hx=>⟨hF x hx,.inl hx⟩
theorem cg.app {base:Nat} {F:Nat->Prop} {w w':By} {v v':AT} {l l2:List RX} {cs cs2:List (Array AT)} (hF:∀ x,F x->x<base) (hb:base<=w.heap.size) (h1:cs.length=l.length) (h2:w.ownsRow base 97 8 v l.length (bD cs)) (h3:∀ c∈cs,c.size=8/\∀ u∈c.toList,u.oneCell'=GO) (h4:∀ (i:Nat) (c:Array AT) (t:RX),cs[i]? =As c->l[i]? =As t->aH F w (A' c) t) (g1:cs2.length=l2.length) (g3:∀ c∈cs2,c.size=8/\∀ u∈c.toList,u.oneCell'=GO) (g4:∀ (i:Nat) (c:Array AT) (t:RX),cs2[i]? =As c->l2[i]? =As t->aH F w (A' c) t) (ho:w'.ownsRow base 97 8 v' (l.length+l2.length) (bD cs++bD cs2)) (hg:w.grownBy w' v.ownBlock):cg base F w' v' (l++l2):=by
 have key:∀ (c:Array AT) (t:RX),aH F w (A' c) t->aH F w' (A' c) t:=fun c t h=>
  h.keeps (ae.aZ hg fun x (hx:F x)=>⟨ay (hF x hx) hb,fun e=>by have:=(h2.lt x e.symm).1;have:=hF x hx;omega⟩) fun x hx=>hx
 refine⟨cs++cs2,by simp[h1,g1],by rw[aJ,lQ];exact ho,fun c hc=>(IT.1 hc).elim (h3 c) (g3 c),fun i c t hi ht=>?_⟩;rcases G' i l.length with fT | fT
 ·rw[bH (by omega)]at hi ht
  exact key c t (h4 i c t hi ht)
 ·rw[cF (by omega)]at hi ht
  rw[h1]at hi;exact key c t (g4 _ c t hi ht)
theorem cg.acP {base:Nat} {F:Nat->Prop} {w w':By} {v v':AT} {l:List RX} {t:RX} {c:Array AT} {cs:List (Array AT)} (hF:∀ x,F x->x<base) (hb:base<=w.heap.size) (h1:cs.length=l.length) (h2:w.ownsRow base 97 8 v l.length (bD cs)) (h3:∀ c∈cs,c.size=8/\∀ u∈c.toList,u.oneCell'=GO) (h4:∀ (i:Nat) (c:Array AT) (t:RX),cs[i]? =As c->l[i]? =As t->aH F w (A' c) t) (g3:c.size=8/\∀ u∈c.toList,u.oneCell'=GO) (g4:aH F w (A' c) t) (ho:w'.ownsRow base 97 8 v' (l.length+1) (bD cs++c.toList)) (hg:w.grownBy w' v.ownBlock):cg base F w' v' (l++ [t]):=by
 refine cg.app (cs2:=[c]) hF hb h1 h2 h3 h4 rfl (fun x hx=>by simp at hx;rw[hx];exact g3) (fun i x y hi hy=>?_) (by rw[show bD [c]=c.toList by unfold bD;simp];exact ho) hg;have hl:=(AN.1 hi).1;obtain rfl:i=0:=by simpa using hl
 cases hi
 cases hy
 exact g4
theorem cg.elem {base:Nat} {F:Nat->Prop} {w:By} {a:Option M_} {n cap:Nat} {l:List RX} (h:cg base F w (An a n cap) l) {i:Nat} {t:RX} (hi:l[i]? =As t): ∃ g p' c',a=As ⟨g,0,AF⟩/\n=l.length/\n<=cap/\base<=g/\g<w.heap.size/\ (w.cell? ⟨g,i*8,AF⟩=As (AI FG t.kind)/\w.cell? ⟨g,i*8+1,AF⟩=As (AI Cd (wd t.set 0).toNat)/\w.cell? ⟨g,i*8+2,AF⟩=As (AI Cd (wd t.set 1).toNat)/\w.cell? ⟨g,i*8+3,AF⟩=As (AI Cd (wd t.set 2).toNat)/\w.cell? ⟨g,i*8+4,AF⟩=As (AI Cd (wd t.set 3).toNat)/\w.cell? ⟨g,i*8+5,AF⟩=As (AI DE t.mn)/\w.cell? ⟨g,i*8+6,AF⟩=As (AI DE t.mx)/\w.cell? ⟨g,i*8+7,AF⟩=As (An p' t.subs.length c'))/\ aH F w (A' (aq t.kind t.set t.mn t.mx (An p' t.subs.length c'))) t:=by
 obtain⟨cs,h1,h2,h3,h4⟩:=h;have fT:=(AN.1 hi).1;obtain⟨c,hc⟩:∃ c,cs[i]? =As c:=⟨_,aB (by omega)⟩;have hr:=h4 i c t hc hi;obtain⟨p',c',e⟩:=hr.form;injection e with e
 subst e;rcases h2.2 with⟨e1,e2⟩ | ⟨g,cap',cur,e1,e2,e3,e4,e5,_⟩
 ·exfalso;omega
 ·injection e1 with a1 a2 a3
  subst a1 a2 a3;have hlt:=h2.lt g rfl;have ce:∀ (j:Nat) (u:AT),(aq t.kind t.set t.mn t.mx (An p' t.subs.length c'))[j]? =As u->w.cell? ⟨g,i*8+j,AF⟩=As u:=fun j u hj=>by
   have:=h2.cells (g:=g) rfl _ _ (im (fun c hc=>(h3 c hc).1) hc hj);rw[Addr.add_mid]at this;simpa using this
  exact⟨g,p',c',rfl,rfl,e4,hlt.1,hlt.2,⟨ce 0 _ rfl,ce 1 _ rfl,ce 2 _ rfl,ce 3 _ rfl,ce 4 _ rfl,ce 5 _ rfl,ce 6 _ rfl,ce 7 _ rfl⟩,hr⟩
theorem Ic {cs:List (Array AT)} {j:Nat} {u:AT} (h:∀ c∈cs,c.size=8) (hj:(bD cs)[j]? =As u):∃ c,cs[j/8]? =As c/\c[j%8]? =As u:=by have hl:=(AN.1 hj).1;rw[fO h]at hl;have hc:cs[j/8]? =As (cs[j/8]'(by omega)):=aB (by omega);have hs:=h _ (ax hc);have hu:(cs[j/8]'(by omega))[j%8]? =As ((cs[j/8]'(by omega))[j%8]'(by omega)):=Array.getElem?_eq_getElem (by omega);have:=im h hc hu;rw[show j/8*8+j%8=j by omega,hj]at this;exact⟨_,hc,by rw[hu, <-Option.some.inj this]⟩
theorem aH.ahn {F:Nat->Prop} {w:By} {k n c:Nat} {s:BS} {mn mx:Int} {p:Option M_} {l:List RX} (h:aH F w (A' (aq k s mn mx (An p n c))) (.nd k s mn mx l)) (hl:l≠[]): ∃ b off cs,p=As ⟨b,off,AF⟩/\F b/\b<w.heap.size/\n=l.length/\cs.length=l.length/\(∀ c∈cs,c.size=8/\∀ u∈c.toList,u.oneCell'=GO)/\(∀ (i:Nat) (c:Array AT) (t:RX),cs[i]? =As c->l[i]? =As t->aH F w (A' c) t)/\∀ (j:Nat) (u:AT),(bD cs)[j]? =As u->w.cell? ⟨b,off+j,AF⟩=As u:=by
 obtain⟨t0,ht0⟩:∃ t,l[0]? =As t:=by
  cases l with
  | nil=>exact absurd rfl hl
  | cons x l=>exact⟨x,rfl⟩
 obtain⟨b,off,p',c',rfl,hb,rq,mD,_,_⟩:=h.elem ht0;have hn:n=l.length:=by obtain⟨p2,c2,e⟩:=h.form;simp[aq,RX.subs,RX.kind,RX.set,RX.mn,RX.mx]at e;exact e.2.1
 have key:∀ i:Nat,∃ c:Array AT,∀ t,l[i]? =As t->(c.size=8/\∀ u∈c.toList,u.oneCell'=GO)/\aH F w (A' c) t/\∀ (o:Nat) (u:AT),c[o]? =As u->w.cell? ⟨b,off+i*8+o,AF⟩=As u:=fun i=>by
  rcases e:l[i]? with _ | t
  ·exact⟨#[],fun t h=>by cases h⟩
  ·obtain⟨b2,fL,p2,c2,e2,_,_,_,⟨f0,f1,f2,f3,f4,f5,f6,f7⟩,hr⟩:=h.elem e
   cases e2
   refine⟨aq t.kind t.set t.mn t.mx (An p2 t.subs.length c2),fun t' Wu=>?_⟩;cases Wu;refine⟨cD _ _ _ _ _ _ _,hr,fun o u ho=>?_⟩;have hol:=(Array.getElem?_eq_some_iff.1 ho).1;have h8:(aq t.kind t.set t.mn t.mx (An p2 t.subs.length c2)).size=8:=rfl;rw[h8]at hol;have hc:o=0\/o=1\/o=2\/o=3\/o=4\/o=5\/o=6\/o=7:=by omega
   rcases hc with rfl | rfl | rfl | rfl | rfl | rfl | rfl | rfl<;>cases ho<;>assumption
 refine⟨b,off,(DS l.length).map fun i=>Classical.choose (key i),rfl,hb,rq,hn,by simp,fun c hc=>?_,fun i c t hi ht=>?_,fun j u hj=>?_⟩
 ·obtain⟨i,hi,rfl⟩:=IF.1 hc
  have fT:=D0.1 hi;exact(DQ (key i) _ (aB fT)).1
 ·have fT:=(AN.1 ht).1
  rw[aN,J' fT]at hi;cases hi;exact(DQ (key i) t ht).2.1
 ·obtain⟨c,hc,hu⟩:=Ic (fun c hc=>by
   obtain⟨i,hi,rfl⟩:=IF.1 hc
   exact(DQ (key i) _ (aB (D0.1 hi))).1.1) hj
  rw[aN]at hc;have fT:j/8<l.length:=by
   rcases G' (j/8) l.length with h | h
   ·exact h
   ·rw[aT (by simpa using h)]at hc;cases hc
  rw[J' fT]at hc;cases hc;have:=(DQ (key (j/8)) _ (aB fT)).2.2 _ _ hu;rw[show off+j/8*8+j%8=off+j by omega]at this;exact this
theorem aH.acQ {F:Nat->Prop} {w:By} {k n c:Nat} {s:BS} {mn mx:Int} {p:Option M_} {t:RX} (h:aH F w (A' (aq k s mn mx (An p n c))) t) (hl:t.subs≠[]): ∃ b off cs,p=As ⟨b,off,AF⟩/\F b/\b<w.heap.size/\n=t.subs.length/\cs.length=t.subs.length/\(∀ c∈cs,c.size=8/\∀ u∈c.toList,u.oneCell'=GO)/\(∀ (i:Nat) (c:Array AT) (x:RX),cs[i]? =As c->t.subs[i]? =As x->aH F w (A' c) x)/\∀ (j:Nat) (u:AT),(bD cs)[j]? =As u->w.cell? ⟨b,off+j,AF⟩=As u:=by
 obtain⟨p',c',e⟩:=h.form;rw[e]at h;have e7:An p n c=An p' t.subs.length c':=by
  injection e with e
  have:=congrArg (fun a:Array AT=>a[7]?) e;simpa[aq]using this
 injection e7 with a1 a2 a3
 subst a1 a2 a3;cases t with
 | nd k s mn mx l=>exact h.ahn hl
theorem lV (F:Nat->Prop) (k:Nat) (hk:k=3\/k=4) (va vb:AT) (a b:RX) (ha:a.fine) (hb:b.fine) (Jw:a.size<=1000) (mi:b.size<=1000) (w:By) (hFF:∀ x,F x->x<w.heap.size) (hva:aH F w va a) (hvb:aH F w vb b): ah 106 #[AI FG k,va,vb] w fun e w'=>∃ u,e=GW u/\aH (fun x=>x<w'.heap.size/\(F x\/w.heap.size<=x)) w' u (cr k a b)/\aa w w':=by
 obtain⟨iN,uE,js,jt,ju⟩:=info_parts Tryz.Wy;obtain⟨J,hJ⟩:=ag (cr k a b);rw[<-hJ];have HJ:=AM hJ;clear hJ;obtain⟨pa,ca,rfl⟩:=hva.form;obtain⟨pb,cb,rfl⟩:=hvb.form;have HA:=AM hva;have HB:=AM hvb;have FA:=AM ha;have FB:=AM hb;have SA:=AM Jw;have SB:=AM mi;obtain⟨ka,hka⟩:=ag a.kind;obtain⟨na,UU⟩:=ag a.subs.length;obtain⟨sa,acR⟩:=ag a.set;obtain⟨ma,Mw⟩:=ag a.mn;obtain⟨xa,Wz⟩:=ag a.mx;obtain⟨kb,hkb⟩:=ag b.kind;obtain⟨nb,uY⟩:=ag b.subs.length;obtain⟨sb,acS⟩:=ag b.set;obtain⟨mb,pC⟩:=ag b.mn;obtain⟨xb,Ez⟩:=ag b.mx;rw[<-hka, <-UU, <-acR, <-Mw, <-Wz]at HA ⊢;rw[<-hkb, <-uY, <-acS, <-pC, <-Ez]at HB ⊢;have HKA:=AM hka;have HNA:=AM UU;have HKB:=AM hkb;have Pb:=AM uY;clear hva hvb ha hb Jw mi hka UU acR Mw Wz hkb uY acS pC Ez;unfold aq;go_enter Tryz.func106,Tryz.ntmps106;go_wp2;refine aw ?_;intro V hV;have R0:DH (ar V (w.heap.size+1+1) eG 97):=by rw[hV];exact AM ((ar.at (ar.new _ _ _) (by simp)).alloc _)
 have L0:DH (ar V (w.heap.size+1+1+1) #[AI FG ka,AI Cd (wd sa 0).toNat,AI Cd (wd sa 1).toNat,AI Cd (wd sa 2).toNat,AI Cd (wd sa 3).toNat,AI DE ma,AI DE xa,An pa na ca,AI FG kb,AI Cd (wd sb 0).toNat,AI Cd (wd sb 1).toNat,AI Cd (wd sb 2).toNat,AI Cd (wd sb 3).toNat,AI DE mb,AI DE xb,An pb nb cb] 97):=by rw[hV];exact AM (ar.at (ar.new _ _ _) (by simp))
 have X0:DH (Ext w V):=by rw[hV];exact AM (((((Ext.refl w).alloc _).alloc _).alloc _).alloc _)
 have yg:V.heap.size=w.heap.size+1+1+1+1:=by rw[hV];simp
 have qu:=AM yg;clear hV yg;go_loopw [7,14] (fun u i wr=>∃ j:Nat,j<=2/\i=AI DE j/\cg V.heap.size F wr u (jS k a b j)/\ae (· <V.heap.size) V wr) (fun _ i _=>2-(intOf i).toNat);case atStart=>exact⟨0,by omega,rfl,cg.nil _ _ _,ae.refl _ _⟩
 case round=>
  obtain⟨j,hj,rfl,hrow,hx⟩:=hrel;obtain⟨wo,rfl⟩:=ag (wr:By);have gQ:=AM hrow;have HX:=AM hx;obtain⟨ru,rc,rfl⟩:=hrow.form;clear hrow hx;by_cases hlt:j<2
  ·have jA:(j:Int)<2:=by omega
   obtain⟨t,kx,nx,sx,mx,xx,px,cx,htj,e0,e1,e2,e3,e4,e5,e6,e7,hT,hkx,Ct,hfx,NP⟩:∃ (t:RX) (kx nx:Nat) (sx:BS) (mx xx:Int) (px:Option M_) (cx:Nat),[a,b][j]? =As t/\wo.cell? ⟨w.heap.size+1+1+1,j*8,AF⟩=As (AI FG kx)/\wo.cell? ⟨w.heap.size+1+1+1,j*8+1,AF⟩=As (AI Cd (wd sx 0).toNat)/\wo.cell? ⟨w.heap.size+1+1+1,j*8+2,AF⟩=As (AI Cd (wd sx 1).toNat)/\wo.cell? ⟨w.heap.size+1+1+1,j*8+3,AF⟩=As (AI Cd (wd sx 2).toNat)/\wo.cell? ⟨w.heap.size+1+1+1,j*8+4,AF⟩=As (AI Cd (wd sx 3).toNat)/\wo.cell? ⟨w.heap.size+1+1+1,j*8+5,AF⟩=As (AI DE mx)/\wo.cell? ⟨w.heap.size+1+1+1,j*8+6,AF⟩=As (AI DE xx)/\wo.cell? ⟨w.heap.size+1+1+1,j*8+7,AF⟩=As (An px nx cx)/\aH F w (A' (aq kx sx mx xx (An px nx cx))) t/\kx=t.kind/\nx=t.subs.length/\t.fine/\t.size<=1000:=by
    have LB:=L0.keeps HX L0.lt;have XY:j=0\/j=1:=by omega
    rcases XY with rfl | rfl
    ·exact⟨a,ka,na,sa,ma,xa,pa,ca,rfl,LB.cell 0,LB.cell 1,LB.cell 2,LB.cell 3,LB.cell 4,LB.cell 5,LB.cell 6,LB.cell 7,HA,HKA,HNA,FA,SA⟩
    ·exact⟨b,kb,nb,sb,mb,xb,pb,cb,rfl,LB.cell 8,LB.cell 9,LB.cell 10,LB.cell 11,LB.cell 12,LB.cell 13,LB.cell 14,LB.cell 15,HB,HKB,Pb,FB,SB⟩
   have er:jS k a b (j+1)=jS k a b j++dV k t:=by unfold jS;rw[It,htj,List.flatMap_append];simp
   have pM:=AM er;have HT:=AM hT;have HFX:=AM hfx;have HSX:=AM NP;have Bl:=AM Ct;have WA:=AM hkx;clear htj er hT hfx NP Ct hkx;go_upto_region 6 with fail
   refine aw ?_;intro W1 hW1;have N1:DH (ar W1 wo.heap.size (aq kx sx mx xx (An px nx cx)) 97):=by rw[hW1];exact AM (ar.new _ _ _)
   have E1:DH (Ext wo W1):=by rw[hW1];exact AM ((Ext.refl wo).alloc _)
   clear hW1 e0 e1 e2 e3 e4 e5 e6 e7;have hF8:∀ x,x<w.heap.size->x<V.heap.size:=fun x hx=>by have:=qu.out;omega
   have WC:∀ x,F x->x<V.heap.size:=fun x hx=>hF8 x (hFF x hx)
   have dZ:=AM (gQ.below (fun x hx=>ay (WC x hx) HX.size) E1.below);have jd:DH (ae (· <V.heap.size) V W1):=AM (HX.tr (E1.keeps.mono fun x (hx:x<V.heap.size)=>ay hx HX.size));have T1:DH (aH F W1 (A' (aq kx sx mx xx (An px nx cx))) t):=AM (HT.keeps (X0.keeps.tr (jd.mono hF8)) hFF);have f0:W1.cell? ⟨wo.heap.size,0,AF⟩=As (AI FG kx):=N1.cell 0;have f1:W1.cell? ⟨wo.heap.size,1,AF⟩=As (AI Cd (wd sx 0).toNat):=N1.cell 1;have f2:W1.cell? ⟨wo.heap.size,2,AF⟩=As (AI Cd (wd sx 1).toNat):=N1.cell 2;have f3:W1.cell? ⟨wo.heap.size,3,AF⟩=As (AI Cd (wd sx 2).toNat):=N1.cell 3;have f4:W1.cell? ⟨wo.heap.size,4,AF⟩=As (AI Cd (wd sx 3).toNat):=N1.cell 4;have f5:W1.cell? ⟨wo.heap.size,5,AF⟩=As (AI DE mx):=N1.cell 5;have f6:W1.cell? ⟨wo.heap.size,6,AF⟩=As (AI DE xx):=N1.cell 6;have f7:W1.cell? ⟨wo.heap.size,7,AF⟩=As (An px nx cx):=N1.cell 7;obtain⟨cs,g1,g2,g3,g4⟩:=dZ.out;obtain⟨L,hL⟩:=ag (jS k a b j);have hLs:L.length<=2000:=by
    have q:∀ (l:List RX),(∀ x∈l,x.fine/\x.size<=1000)->l.length<=2->(l.flatMap (dV k)).length<=1000*l.length:=fun l=>by
     induction l with
     | nil=>intro _ _;simp
     | cons x l ih=>
      intro hl h2;have i1:=ih (fun y hy=>hl y (bM _ hy)) (by simp at h2;omega);have i2:=(pW hk (hl x (bu ..)).1).2.1;have i3:=vZ (dV k x);have i4:=(hl x (bu ..)).2;rw[List.flatMap_cons,aJ,D'];omega
    rw[hL]
    have i5:=q ([a,b].take j) (fun x hx=>by
     have:=C' hx;simp at this;rcases this with rfl | rfl
     ·exact⟨FA,SA⟩
     ·exact⟨FB,SB⟩) (by rw[AS];simp;omega)
    have:([a,b].take j).length<=2:=by rw[AS];simp;omega
    unfold jS;omega
   rw[<-hL]at g1 g2 g4 ⊢;obtain⟨ml,oL⟩:=ag L.length;rw[<-oL]at g1 g2 hLs ⊢;have HL:=AM hL;have yn:=AM oL;have G1:=AM g1;have G2:=AM g2;have G3:=AM g3;have G4:=AM g4;have hbase:V.heap.size<=W1.heap.size:=jd.size;clear hL oL g1 g2 g3 g4 dZ gQ;by_cases hc1:kx=k
   ·have JM:dV k t=t.subs:=by unfold dV;rw[if_pos (by rw[<-WA.out];exact hc1)]
    have hne:t.subs≠[]:=fun e=>by
     have h1:=(cI t (sD HFX)).2.2.2.2.2.2 (by rw[<-WA.out,hc1];exact hk);rw[e]at h1;simp at h1
    obtain⟨b2,fL,cs2,e2,q1,q2,q3,q4,q5,q6,q7⟩:=T1.out.acQ hne;subst e2;have aoi:nx<=1000:=by have:=zo t;have:=vZ t.subs;have:=HSX.out;omega
    have Q4:=AM q4;have Q5:=AM q5;have Q6:=AM q6;have Q7:=AM q7;have Zc:=AM JM;have HQ3:=AM q3;have hb1:((kx:Int)==k)=true:=by simp[hc1]
    clear JM hne q4 q5 q6 q7 q1 q2 q3 hc1;go_wp2_with (at_builtin;refine E_ ?_);refine AM ?_;refine eT rfl (DP 27) (DP 29) 95 rfl V.heap.size 97 iN (A' eG) 8 80 B' uE js jt ju rfl (by decide) (An ru ml rc) ml (bD cs) rfl G2 ⟨b2,fL,AF⟩ nx cx (bD cs2) rfl (fun o u ho=>by rw[Addr.add_mid];exact Q7 o u ho) (by rw[fO (fun c hc=>(Q5.out c hc).1),Q4.out,HQ3.out]) (fun u hu=>by obtain⟨c,hc,hu⟩:=List.mem_flatMap.1 hu;exact(Q5 c hc).2 u hu) (by unfold maxLen;omega) (by omega) hbase ?_;intro v' w' ho hg kA;have K9:DH (ae (· <V.heap.size) V w'):=AM (jd.tr (ae.aZ hg fun x (hx:x<V.heap.size)=>⟨ay hx hbase,fun e=>by have:=(G2.lt x e.symm).1;omega⟩));have R9:DH (cg V.heap.size F w' v' (L++t.subs)):=AM (cg.app (cs:=cs) (cs2:=cs2) WC hbase (by rw[<-yn.out];exact G1) (by rw[<-yn.out];exact G2) G3 G4 Q4 Q5 Q6 (by rw[<-yn.out, <-HQ3.out];exact ho) hg);obtain⟨va',vc',rfl⟩:=ownsRow_form ho;clear ho hg kA;go_wp2;go_roundw;case rel=>
     refine⟨j+1,by omega,by go_num,?_,K9⟩;rw[pM.out,Zc.out, <-HL.out];exact R9
    case measure=>simp[intOf];omega
   ·have hb1:((kx:Int)==k)=false:=by simp;omega
    by_cases hk3:k=3
    ·by_cases hx1:kx=1
     ·have JM:dV k t=[]:=by unfold dV;rw[if_neg (by rw[<-WA.out];exact hc1),if_pos ⟨hk3,by rw[<-WA.out];exact hx1⟩]
      have Zc:=AM JM;have hb3:((k:Int)==3)=true:=by simp[hk3]
      have Gb:((kx:Int)==1)=true:=by simp[hx1]
      have R9:DH (cg V.heap.size F W1 (An ru ml rc) L):=AM ⟨cs,by rw[<-yn.out];exact G1,by rw[<-yn.out];exact G2,G3,G4⟩;clear JM hx1 hk3 hc1;go_wp2;go_roundw;case rel=>
       refine⟨j+1,by omega,by go_num,?_,jd⟩;rw[pM.out,Zc.out, <-HL.out,List.append_nil];exact R9
      case measure=>simp[intOf];omega
     ·have hc2:¬ (k=3/\kx=1):=fun h=>hx1 h.2
      have hb3:((k:Int)==3)=true:=by simp[hk3]
      have Gb:((kx:Int)==1)=false:=by simp;omega
      clear hk3;have JM:dV k t=[t]:=by unfold dV;rw[if_neg (by rw[<-WA.out];exact hc1),if_neg (by rw[<-WA.out];exact hc2)]
      have Zc:=AM JM;clear JM;go_wp2_with (at_builtin;refine E_ ?_);refine AM ?_;refine jk ?_;intro W2 hW2;have B2:DH (ar W2 W1.heap.size (aq kx sx mx xx (An px nx cx)) 97):=by rw[hW2];exact AM (ar.new _ _ _)
      have E2:DH (Ext W1 W2):=by rw[hW2];exact AM ((Ext.refl _).alloc _)
      clear hW2;have hs2:W1.heap.size<=W2.heap.size:=E2.size;refine eT rfl (DP 18) (DP 20) 95 rfl V.heap.size 97 iN (A' eG) 8 80 B' uE js jt ju rfl (by decide) (An ru ml rc) ml (bD cs) rfl (ai G2 E2.below) ⟨W1.heap.size,0,AF⟩ 1 1 (aq kx sx mx xx (An px nx cx)).toList rfl (cC B2) rfl (cD _ _ _ _ _ _ _).2 (by unfold maxLen;omega) (by omega) (by omega) ?_;intro v' w' ho hg kA;have K9:DH (ae (· <V.heap.size) V w'):=AM ((jd.tr (E2.keeps.mono fun x (hx:x<V.heap.size)=>ay hx hbase)).tr (ae.aZ hg fun x (hx:x<V.heap.size)=>⟨by omega,fun e=>by have:=(G2.lt x e.symm).1;omega⟩));have R9:DH (cg V.heap.size F w' v' (L++ [t])):=AM (cg.acP (cs:=cs) (c:=aq kx sx mx xx (An px nx cx)) WC (by omega) (by rw[<-yn.out];exact G1) (by rw[<-yn.out];exact ai G2 E2.below) G3 (fun i c y hi hy=>(G4 i c y hi hy).keeps E2.keeps fun x hx=>ay (WC x hx) hbase) (cD _ _ _ _ _ _ _) (T1.out.keeps E2.keeps fun x hx=>ay (WC x hx) hbase) (by rw[<-yn.out];exact ho) hg);obtain⟨va',vc',rfl⟩:=ownsRow_form ho;clear ho hg kA;go_wp2;go_roundw;case rel=>
       refine⟨j+1,by omega,by go_num,?_,K9⟩;rw[pM.out,Zc.out, <-HL.out];exact R9
      case measure=>simp[intOf];omega
    ·have hc2:¬ (k=3/\kx=1):=fun h=>hk3 h.1
     have hb3:((k:Int)==3)=false:=by simp;omega
     have JM:dV k t=[t]:=by unfold dV;rw[if_neg (by rw[<-WA.out];exact hc1),if_neg (by rw[<-WA.out];exact hc2)]
     have Zc:=AM JM;clear JM;go_wp2_with (at_builtin;refine E_ ?_);refine AM ?_;refine jk ?_;intro W2 hW2;have B2:DH (ar W2 W1.heap.size (aq kx sx mx xx (An px nx cx)) 97):=by rw[hW2];exact AM (ar.new _ _ _)
     have E2:DH (Ext W1 W2):=by rw[hW2];exact AM ((Ext.refl _).alloc _)
     clear hW2;have hs2:W1.heap.size<=W2.heap.size:=E2.size;refine eT rfl (DP 18) (DP 20) 95 rfl V.heap.size 97 iN (A' eG) 8 80 B' uE js jt ju rfl (by decide) (An ru ml rc) ml (bD cs) rfl (ai G2 E2.below) ⟨W1.heap.size,0,AF⟩ 1 1 (aq kx sx mx xx (An px nx cx)).toList rfl (cC B2) rfl (cD _ _ _ _ _ _ _).2 (by unfold maxLen;omega) (by omega) (by omega) ?_;intro v' w' ho hg kA;have K9:DH (ae (· <V.heap.size) V w'):=AM ((jd.tr (E2.keeps.mono fun x (hx:x<V.heap.size)=>ay hx hbase)).tr (ae.aZ hg fun x (hx:x<V.heap.size)=>⟨by omega,fun e=>by have:=(G2.lt x e.symm).1;omega⟩));have R9:DH (cg V.heap.size F w' v' (L++ [t])):=AM (cg.acP (cs:=cs) (c:=aq kx sx mx xx (An px nx cx)) WC (by omega) (by rw[<-yn.out];exact G1) (by rw[<-yn.out];exact ai G2 E2.below) G3 (fun i c y hi hy=>(G4 i c y hi hy).keeps E2.keeps fun x hx=>ay (WC x hx) hbase) (cD _ _ _ _ _ _ _) (T1.out.keeps E2.keeps fun x hx=>ay (WC x hx) hbase) (by rw[<-yn.out];exact ho) hg);obtain⟨va',vc',rfl⟩:=ownsRow_form ho;clear ho hg kA;go_wp2;go_roundw;case rel=>
      refine⟨j+1,by omega,by go_num,?_,K9⟩;rw[pM.out,Zc.out, <-HL.out];exact R9
     case measure=>simp[intOf];omega
  ·obtain rfl:j=2:=by omega
   have kN:¬ ((2:Int)<2):=by omega
   have X9:DH (aa w wo):=AM (X0.below.trans (HX.mono fun x (hx:x<w.heap.size)=>by have:=qu.out;show x<V.heap.size;omega:ae (· <w.heap.size) V wo).below);have R9:=AM (R0.keeps HX R0.lt);have hjn:jS k a b 2=dV k a++dV k b:=by unfold jS;simp
   have XY:cr k a b=fH k (jS k a b 2):=by rw[hjn];rfl
   have uz:DH (J=fH k (jS k a b 2)):=AM (HJ.trans XY);clear HJ;obtain⟨L,hL⟩:=ag (jS k a b 2);rw[<-hL]at gQ uz ⊢;clear hjn XY hL HA HB FA FB SA SB;have hwV:w.heap.size+1+1<V.heap.size:=by have:=qu.out;omega
   match L,gQ,uz with
   | [],gQ,uz=>
    simp only[Ft];go_wp2_with (refine B_ rfl 97 (DP 6) (DP 44) rfl (w.heap.size+1+1) #[AI FG 1,AI Cd 0,AI Cd 0,AI Cd 0,AI Cd 0,AI DE 0,AI DE 0,An AF 0 0] rfl rfl 97 eG R9 (by kernel_rfl) rfl (by simp[NX]) ?_;refine E_ ?_);refine AM ?_;obtain⟨V3,cP⟩:=ag (wo.setRow (w.heap.size+1+1) #[AI FG 1,AI Cd 0,AI Cd 0,AI Cd 0,AI Cd 0,AI DE 0,AI DE 0,An AF 0 0]);rw[<-cP];have RR:DH (ar V3 (w.heap.size+1+1) #[AI FG 1,AI Cd 0,AI Cd 0,AI Cd 0,AI Cd 0,AI DE 0,AI DE 0,An AF 0 0] 97):=by rw[cP];exact AM R9.setRow
    have XX:aa w V3:=by rw[cP];exact X9.trans ((bG wo (w.heap.size+1+1) _).mono fun x (hx:x<w.heap.size)=>by show x≠_;omega:ae (· <w.heap.size) wo _).below
    clear cP;go_wp2;obtain⟨m0,m1,m2,m3,m4,m5,m6,m7⟩:=RR.eight;refine EV (v:=A' #[AI FG 1,AI Cd 0,AI Cd 0,AI Cd 0,AI Cd 0,AI DE 0,AI DE 0,An AF 0 0]) (by simp[results,I_,go_sem,m0,m1,m2,m3,m4,m5,m6,m7]) rfl ⟨_,rfl,?_,XX⟩;have e:=aH.leaf (fun x=>x<V3.heap.size/\(F x\/w.heap.size<=x)) V3 1 0 0 0 AF 0;rw[bP]at e;rw[uz.out];exact e
   | [x],gQ,uz=>
    simp only[D',Ft,F_];obtain⟨g,p',c',e1,_,q2,q3,q4,⟨f0,f1,f2,f3,f4,f5,f6,f7⟩,hr⟩:=gQ.elem (i:=0) (t:=x) rfl;subst e1;simp only[N',F_]at f0 f1 f2 f3 f4 f5 f6 f7;have HR:=AM hr;obtain⟨k1,mj⟩:=ag x.kind;obtain⟨nl,qE⟩:=ag x.subs.length;obtain⟨st,hst⟩:=ag x.set;obtain⟨tn,sK⟩:=ag x.mn;obtain⟨tx,J3⟩:=ag x.mx;rw[<-mj]at f0 HR;rw[<-hst]at f1 f2 f3 f4 HR;rw[<-sK]at f5 HR;rw[<-J3]at f6 HR;rw[<-qE]at f7 HR;clear hr mj qE hst sK J3;go_wp2_with (refine B_ rfl 97 (DP 6) (DP 49) rfl (w.heap.size+1+1) (aq k1 st tn tx (An p' nl c')) rfl rfl 97 eG R9 (cW _ _ _ _ _) rfl (kq _ _ _ _ _ _ _) ?_;refine E_ ?_);refine AM ?_;obtain⟨V3,cP⟩:=ag (wo.setRow (w.heap.size+1+1) (aq k1 st tn tx (An p' nl c')));rw[<-cP];have RR:DH (ar V3 (w.heap.size+1+1) (aq k1 st tn tx (An p' nl c')) 97):=by rw[cP];exact AM R9.setRow
    have KK:ae (· ≠w.heap.size+1+1) wo V3:=by rw[cP];exact bG _ _ _
    clear cP;go_wp2;obtain⟨m0,m1,m2,m3,m4,m5,m6,m7⟩:=RR.eight;refine EV (v:=A' (aq k1 st tn tx (An p' nl c'))) (by simp[results,I_,aq,go_sem,m0,m1,m2,m3,m4,m5,m6,m7]) rfl ⟨_,rfl,?_,X9.trans (KK.mono fun x (hx:x<w.heap.size)=>by show x≠_;omega:ae (· <w.heap.size) wo V3).below⟩;rw[uz.out];exact(HR.keeps (KK.mono fun y (hy:y<w.heap.size)=>by show y≠_;omega) hFF).mono fun y hy=>⟨by have:=hFF y hy;have:=KK.size;have:=R9.lt;omega,.inl hy⟩
   | x::y::l,gQ,uz=>
    obtain⟨ml,oL⟩:=ag ((x::y::l).length);have mE:2<=ml:=by rw[oL];simp
    rw[<-oL];rw[<-oL]at gQ;clear oL;have hd1:((ml:Int)==0)=false:=by simp;omega
    have Yp:((ml:Int)==1)=false:=by simp;omega
    go_wp2_with (refine B_ rfl 97 (DP 6) (DP 52) rfl (w.heap.size+1+1) #[AI FG k,AI Cd 0,AI Cd 0,AI Cd 0,AI Cd 0,AI DE 0,AI DE 0,An ru ml rc] rfl rfl 97 eG R9 (by kernel_rfl) rfl (by simp[NX]) ?_;refine E_ ?_)
    refine AM ?_;obtain⟨V3,cP⟩:=ag (wo.setRow (w.heap.size+1+1) #[AI FG k,AI Cd 0,AI Cd 0,AI Cd 0,AI Cd 0,AI DE 0,AI DE 0,An ru ml rc]);rw[<-cP];have RR:DH (ar V3 (w.heap.size+1+1) #[AI FG k,AI Cd 0,AI Cd 0,AI Cd 0,AI Cd 0,AI DE 0,AI DE 0,An ru ml rc] 97):=by rw[cP];exact AM R9.setRow
    have KK:ae (· ≠w.heap.size+1+1) wo V3:=by rw[cP];exact bG _ _ _
    clear cP;go_wp2;obtain⟨m0,m1,m2,m3,m4,m5,m6,m7⟩:=RR.eight;refine EV (v:=A' #[AI FG k,AI Cd 0,AI Cd 0,AI Cd 0,AI Cd 0,AI DE 0,AI DE 0,An ru ml rc]) (by simp[results,I_,go_sem,m0,m1,m2,m3,m4,m5,m6,m7]) rfl ⟨_,rfl,?_,X9.trans (KK.mono fun x (hx:x<w.heap.size)=>by show x≠_;omega:ae (· <w.heap.size) wo V3).below⟩;obtain⟨cs,g1,g2,g3,g4⟩:=gQ.out;have hrow:cg V.heap.size F V3 (An ru ml rc) (x::y::l):=⟨cs,g1,ak g2 KK fun z hz=>by have:=(g2.lt z hz).1;show z≠_;omega,g3,fun i c t hi ht=>(g4 i c t hi ht).keeps (KK.mono fun y (hy:y<w.heap.size)=>by show y≠_;omega) hFF⟩;have e:=(hrow.node (fun x hx=>by have:=hFF x hx;have:=KK.size;have:=R9.lt;omega) k 0 0 0).mono fun y hy=>(⟨hy.1,hy.2.imp id fun h=>by omega⟩:y<V3.heap.size/\(F y\/w.heap.size<=y))
    rw[bP]at e;rw[uz.out];exact e
def dM (w:By) (v:AT) (l:List (Nat×Nat×Nat)):Prop:=(v=An AF 0 0/\l=[])\/(∃ ad c,v=An (As ad) 0 c/\l=[])\/
 ∃ b off c,v=An (As ⟨b,off,AF⟩) l.length c/\b<w.heap.size/\l.length<=c/\l≠[]/\∀ (i:Nat) (s:Nat×Nat×Nat),l[i]? =As s->s.1<256/\s.2.1<256/\s.2.2<256/\w.cell? ⟨b,off+i*3,AF⟩=As (AI FG s.1)/\w.cell? ⟨b,off+i*3+1,AF⟩=As (AI FG s.2.1)/\w.cell? ⟨b,off+i*3+2,AF⟩=As (AI FG s.2.2)
theorem dM.below {w w':By} {v:AT} {l:List (Nat×Nat×Nat)} (h:dM w v l) (hk:aa w w'):dM w' v l:=by
 rcases h with h | h | ⟨b,off,c,hv,hb,hc,hl,h⟩
 ·exact .inl h
 ·exact .inr (.inl h)
 ·have hcell:∀ j,w'.cell? ⟨b,j,AF⟩=w.cell? ⟨b,j,AF⟩:=fun j=>(ae.aj hk fun _ h=>h:ae (· <w.heap.size) w w').cell (p:=⟨b,j,AF⟩) hb
  refine .inr (.inr ⟨b,off,c,hv,ay hb hk.size,hc,hl,fun i s hi=>?_⟩);rw[hcell,hcell,hcell];exact h i s hi
theorem Ie {cs:List (Array AT)} {i:Nat} (h:∀ c∈cs,c.size=8) (hi:i<cs.length) (u0 u1 u2 u3 u4 u5 u6 u7:AT): ((((((((bD cs).set (i*8) u0).set (i*8+1) u1).set (i*8+2) u2).set (i*8+3) u3).set (i*8+4) u4).set (i*8+5) u5).set (i*8+6) u6).set (i*8+7) u7=bD (cs.set i #[u0,u1,u2,u3,u4,u5,u6,u7]):=by
 have hlen:=fO h;have h':∀ c∈cs.set i #[u0,u1,u2,u3,u4,u5,u6,u7],c.size=8:=fun c hc=>by
  rcases Is hc with hc | rfl
  ·exact h c hc
  ·rfl
 have acU:=fO h';rw[C_]at acU;apply List.ext_getElem?;intro j;rcases G' j (cs.length*8)with hj | hj
 ·obtain⟨q,hq⟩:∃ q,(cs.set i #[u0,u1,u2,u3,u4,u5,u6,u7])[j/8]? =As q:=⟨_,aB (by rw[C_];omega)⟩
  have hs:=h' _ (ax hq);obtain⟨u,hu⟩:∃ u,q[j%8]? =As u:=⟨_,Array.getElem?_eq_getElem (show j%8<q.size by omega)⟩;have hr:=im h' hq hu;rw[show j/8*8+j%8=j by omega]at hr;rw[hr];rw[GB]at hq;by_cases he:i=j/8
  ·rw[if_pos he,if_pos hi]at hq
   cases hq
   have hm:j%8=0\/j%8=1\/j%8=2\/j%8=3\/j%8=4\/j%8=5\/j%8=6\/j%8=7:=by omega
   simp only[GB,C_,hlen];rcases hm with hm | hm | hm | hm | hm | hm | hm | hm<;>rw[hm]at hu<;>simp at hu<;>subst hu<;>(repeat (first | rw[if_neg (by omega)] | rw[if_pos (by omega)]))
  ·rw[if_neg he]at hq
   have hr2:=im h hq hu;rw[show j/8*8+j%8=j by omega]at hr2;simp only[GB]
   repeat rw[if_neg (by omega)]
   exact hr2
 ·rw[aT (by simp only[C_];omega),aT (by omega)]
theorem bT.fresh {base:Nat} {w w':By} {v':AT} {l:List RX} {cs:List (Array AT)} {k:Nat} {c:Array AT} {t:RX} (hk:k<=l.length) (h1:cs.length=l.length) (h3:∀ c∈cs,c.size=8/\∀ u∈c.toList,u.oneCell'=GO) (h4:∀ (i:Nat) (c:Array AT) (t:RX),cs[i]? =As c->l[i]? =As t->aH (fun x=>base<=x/\x<w.heap.size) w (A' c) t) (g3:c.size=8/\∀ u∈c.toList,u.oneCell'=GO) (g4:aH (fun x=>base<=x/\x<w.heap.size) w (A' c) t) (ho:w'.ownsRow base 97 8 v' (k+1) (bD (cs.take k)++c.toList)) (hx:aa w w') (hv:v'.ownBlock=As w.heap.size):bT base w' v' (l.take k++ [t]):=by
 have hlk:(l.take k++ [t]).length=k+1:=by rw[aJ,AS,FF hk];rfl
 have Yj:(cs.take k).length=k:=by rw[AS];omega
 have key:∀ (c:Array AT) (t:RX),aH (fun x=>base<=x/\x<w.heap.size) w (A' c) t->aH (fun x=>base<=x/\x<w'.heap.size/\v'.ownBlock≠As x) w' (A' c) t:=fun c t h=>
  (h.keeps (ae.aj hx fun _ h=>h:ae (· <w.heap.size) w w') fun _ h=>h.2).mono fun x h=>⟨h.1,ay h.2 hx.size,fun e=>by rw[hv]at e;cases e;exact Nat.lt_irrefl _ h.2⟩
 refine⟨cs.take k++ [c],by rw[hlk,aJ,Yj];rfl,?_,fun x hx=>?_,fun i x y hi hy=>?_⟩
 ·rw[hlk,lQ,show bD [c]=c.toList by unfold bD;simp];exact ho
 ·rcases IT.1 hx with hx | hx
  ·exact h3 x (C' hx)
  ·simp at hx;rw[hx];exact g3
 ·rcases G' i k with hik | hik
  ·rw[bH (by omega),K_,if_pos hik]at hi
   rw[bH (by rw[AS];omega),K_,if_pos hik]at hy;exact key x y (h4 i x y hi hy)
  ·have hl:=(AN.1 hy).1
   rw[hlk]at hl;obtain rfl:i=k:=by omega
   rw[cF (by omega),Yj,IN]at hi;rw[cF (by rw[AS];omega),AS,FF hk,IN]at hy;cases hi;cases hy;exact key _ _ g4
theorem bT.turned {base g cap:Nat} {w:By} {l:List RX} {cs:List (Array AT)} {i:Nat} {t:RX} {u0 u1 u2 u3 u4 u5 u6 u7:AT} (hi:i<l.length) (h1:cs.length=l.length) (h2:w.ownsRow base 97 8 (An (As ⟨g,0,AF⟩) l.length cap) l.length (bD cs)) (h3:∀ c∈cs,c.size=8/\∀ u∈c.toList,u.oneCell'=GO) (h4:∀ (i:Nat) (c:Array AT) (t:RX),cs[i]? =As c->l[i]? =As t->aH (fun x=>base<=x/\x<w.heap.size/\x≠g) w (A' c) t) (g3:∀ u∈ [u0,u1,u2,u3,u4,u5,u6,u7],u.oneCell'=GO) (g4:aH (fun x=>base<=x/\x<w.heap.size/\x≠g) w (A' #[u0,u1,u2,u3,u4,u5,u6,u7]) t): bT base ((((((((w.setCell ⟨g,i*8,AF⟩ u0).setCell ⟨g,i*8+1,AF⟩ u1).setCell ⟨g,i*8+2,AF⟩ u2).setCell ⟨g,i*8+3,AF⟩ u3).setCell ⟨g,i*8+4,AF⟩ u4).setCell ⟨g,i*8+5,AF⟩ u5).setCell ⟨g,i*8+6,AF⟩ u6).setCell ⟨g,i*8+7,AF⟩ u7) (An (As ⟨g,0,AF⟩) l.length cap) (l.set i t):=by
 have hk:ae (· ≠g) w ((((((((w.setCell ⟨g,i*8,AF⟩ u0).setCell ⟨g,i*8+1,AF⟩ u1).setCell ⟨g,i*8+2,AF⟩ u2).setCell ⟨g,i*8+3,AF⟩ u3).setCell ⟨g,i*8+4,AF⟩ u4).setCell ⟨g,i*8+5,AF⟩ u5).setCell ⟨g,i*8+6,AF⟩ u6).setCell ⟨g,i*8+7,AF⟩ u7):=
  ((((((((ae.refl _ _).setCell (fun e=>e rfl) _).setCell (fun e=>e rfl) _).setCell (fun e=>e rfl) _).setCell (fun e=>e rfl) _).setCell (fun e=>e rfl) _).setCell (fun e=>e rfl) _).setCell (fun e=>e rfl) _).setCell (fun e=>e rfl) _
 have key:∀ (c:Array AT) (t:RX),aH (fun x=>base<=x/\x<w.heap.size/\x≠g) w (A' c) t->aH (fun x=>base<=x/\x<((((((((w.setCell ⟨g,i*8,AF⟩ u0).setCell ⟨g,i*8+1,AF⟩ u1).setCell ⟨g,i*8+2,AF⟩ u2).setCell ⟨g,i*8+3,AF⟩ u3).setCell ⟨g,i*8+4,AF⟩ u4).setCell ⟨g,i*8+5,AF⟩ u5).setCell ⟨g,i*8+6,AF⟩ u6).setCell ⟨g,i*8+7,AF⟩ u7).heap.size/\(An (As ⟨g,0,AF⟩) l.length cap).ownBlock≠As x) _ (A' c) t:=fun c t h=>
  (h.keeps hk fun x hx=>hx.2.2).mono fun x hx=>⟨hx.1,ay hx.2.1 hk.size,fun e=>by cases e;exact hx.2.2 rfl⟩
 have r0:=(h2.stored (i*8) u0).1;have r1:=(r0.stored (i*8+1) u1).1;have r2:=(r1.stored (i*8+2) u2).1;have r3:=(r2.stored (i*8+3) u3).1;have r4:=(r3.stored (i*8+4) u4).1;have r5:=(r4.stored (i*8+5) u5).1;have r6:=(r5.stored (i*8+6) u6).1;have r7:=(r6.stored (i*8+7) u7).1;rw[Ie (fun c hc=>(h3 c hc).1) (by omega)]at r7;refine⟨cs.set i #[u0,u1,u2,u3,u4,u5,u6,u7],by simp[h1],by rw[C_];exact r7,fun c hc=>?_,fun j c x hj hx=>?_⟩
 ·rcases Is hc with hc | rfl
  ·exact h3 c hc
  ·exact⟨rfl,g3⟩
 ·rw[GB]at hj hx
  by_cases e:i=j
  ·rw[if_pos e]at hj hx
   subst e;rw[if_pos (by omega)]at hj;rw[if_pos hi]at hx;cases hj;cases hx;exact key _ _ g4
  ·rw[if_neg e]at hj hx
   exact key _ _ (h4 j c x hj hx)
theorem Ig {l:List (Nat×Nat×Nat)} {k:Nat} {s:Nat×Nat×Nat} (h:l[k]? =As s):iZ (l.take (k+1))=(iZ (l.take k)).step s:=by unfold iZ;rw[It,h,Ly];rfl
def Bn.tree (base:Nat) (t:RX):aU (Move Kx (fun _=>False)) where
 P:=fun v=>∃ p c,v=A' (aq t.kind t.set t.mn t.mx (An p t.subs.length c))
 H:=fun v W=>aH (fun x=>base<=x/\x<W.heap.size) W v t
 nU:=A' (aq t.kind t.set t.mn t.mx (An AF t.subs.length 0))
 pw:=⟨AF,0,rfl⟩
 st:=fun _ _ _ hm _ h=>(h.keeps (ae.aj hm.below fun _ h=>h) fun _ hx=>hx.2).mono fun _ hx=>⟨hx.1,ay hx.2 hm.size⟩
def Bn.box (base:Nat) (t:RX):aU (Move Kx (fun _=>False)) where
 P:=fun v=>∃ b,v=An (As ⟨b,0,AF⟩) 1 1
 H:=fun v W=>∀ b,v=An (As ⟨b,0,AF⟩) 1 1->∃ p c,ar W b (aq t.kind t.set t.mn t.mx (An p t.subs.length c)) 97/\aH (fun x=>base<=x/\x<W.heap.size) W (A' (aq t.kind t.set t.mn t.mx (An p t.subs.length c))) t
 nU:=An (As ⟨0,0,AF⟩) 1 1
 pw:=⟨0,rfl⟩
 st:=fun _ _ _ hm _ h b e=>by
  obtain⟨p,c,h1,h2⟩:=h b e;exact⟨p,c,h1.below hm.below h1.lt,(h2.keeps (ae.aj hm.below fun _ h=>h) fun _ hx=>hx.2).mono fun _ hx=>⟨hx.1,ay hx.2 hm.size⟩⟩
theorem bT.iK {base:Nat} {w:By} {a:Option M_} {n cap:Nat} {l:List RX} (h:bT base w (An a n cap) l) {i:Nat} {t:RX} (hi:l[i]? =As t): ∃ g p' c',a=As ⟨g,0,AF⟩/\n<=cap/\base<=g/\g<w.heap.size/\w.rangeAt g (i*8) (aq t.kind t.set t.mn t.mx (An p' t.subs.length c')).toList/\aH (fun x=>base<=x/\x<w.heap.size/\x≠g) w (A' (aq t.kind t.set t.mn t.mx (An p' t.subs.length c'))) t:=by
 obtain⟨g,p',c',e,_,h1,h2,h3,⟨f0,f1,f2,f3,f4,f5,f6,f7⟩,hr⟩:=h.elem hi;refine⟨g,p',c',e,h1,h2,h3,fun j v hj=>?_,hr⟩;have hl:=(AN.1 hj).1;have h8:(aq t.kind t.set t.mn t.mx (An p' t.subs.length c')).toList.length=8:=rfl;rw[h8]at hl;have hc:j=0\/j=1\/j=2\/j=3\/j=4\/j=5\/j=6\/j=7:=by omega
 rcases hc with rfl | rfl | rfl | rfl | rfl | rfl | rfl | rfl<;>cases hj<;>assumption
theorem tH {cs:List (Array AT)} {q j:Nat} {u:AT} (h:(bD (cs.take q))[j]? =As u):(bD cs)[j]? =As u:=by
 have e:bD cs=bD (cs.take q)++bD (cs.drop q):=by rw[<-lQ,I']
 rw[e,bH (AN.1 h).1];exact h
theorem wu {P:Program} {ops:Array Oper} {rest:List Oper} {op:Oper} {a:Act} {w:By} {Q:Exit->Act->By->Prop} (hw:Region.wanted op (yielded ops a.tmps)=GO) (ty:On) (x:Operand) (ho:op.op=.load ty x) (b o:Nat) (hx:a.eval x=.pointer (As ⟨b,o,AF⟩)) (cs:Array AT) (d:TypeDesc) (hc:w.rangeAt b o cs.toList) (hu:P.underlying ty=As d) (hd:d.isRow=GO) (hi:(P.info? ty).map (·.size)=As cs.size) (h:wpList P ops Q rest (a.put op.dst (A' cs)) w):wpList P ops Q (op::rest) a w:=
 mV hw fun _ hK=>wp_load_mid ty x ho b o hx cs.toList d hc hu hd (by rw[Array.length_toList];exact hi) (hK _ _ h)
theorem UW (a b:Int):(if(if a<b then b else a)<1 then(1:Int)else if a<b then b else a)=max (max a b) 1:=by
 by_cases h:a<b
 ·simp only[h,if_true];split<;>omega
 ·simp only[h,if_false];split<;>omega
theorem Mx (a b:Nat):1<=iq a b/\iq a b<=3/\max (max (eU a:Int) (jO a b)) 1=(iq a b:Int):=by unfold iq jO eU;split<;>omega
theorem rv {P:Program} {ops:Array Oper} {rest:List Oper} {o:Oper} {a:Act} {w:By} {Q:Exit->Act->By->Prop} {s x:Operand} {t t':On} (_:o.op=.call {callee:=.builtin .append,args:= #[s,x],argTypes:= #[t,t']}) (h:DH (wpList P ops Q (o::rest) a w)):wpList P ops Q (o::rest) a w:=h.out
theorem bT.push {base:Nat} {w w':By} {v v':AT} {l:List RX} {t:RX} {c:Array AT} {cs:List (Array AT)} (h1:cs.length=l.length) (h3:∀ c∈cs,c.size=8/\∀ u∈c.toList,u.oneCell'=GO) (h4:∀ (i:Nat) (c:Array AT) (t:RX),cs[i]? =As c->l[i]? =As t->aH (fun x=>base<=x/\x<w.heap.size/\v.ownBlock≠As x) w (A' c) t) (g3:c.size=8/\∀ u∈c.toList,u.oneCell'=GO) (g4:aH (fun x=>base<=x/\x<w.heap.size/\v.ownBlock≠As x) w (A' c) t) (ho:w'.ownsRow base 97 8 v' (l.length+1) (bD cs++c.toList)) (hg:w.grownBy w' v.ownBlock) (kA:v'.ownBlock=v.ownBlock\/v'.ownBlock=As w.heap.size):bT base w' v' (l++ [t]):=by
 refine bT.app (cs2:=[c]) h1 h3 h4 rfl (fun x hx=>by simp at hx;rw[hx];exact g3) (fun i x y hi hy=>?_) (by rw[show bD [c]=c.toList by unfold bD;simp];exact ho) hg kA;have hl:=(AN.1 hi).1;obtain rfl:i=0:=by simpa using hl
 cases hi
 cases hy
 exact g4
structure acV (P:Prop) where
 A:Prop
 B:Prop
 C:Prop
 D:Prop
 E:Prop
 G:Prop
 H:Prop
 Z:Prop
 out:A->B->C->D->E->G->H->Z->P
def ey (b off c:Nat) (l:List (Nat×Nat×Nat)) (w:By) (hb:b<w.heap.size) (hc:l.length<=c) (iE:l.length<=1000000000000000) (hS:∀ (i:Nat) (s:Nat×Nat×Nat),l[i]? =As s->s.1<256/\s.2.1<256/\s.2.2<256/\w.cell? ⟨b,off+i*3,AF⟩=As (AI FG s.1)/\w.cell? ⟨b,off+i*3+1,AF⟩=As (AI FG s.2.1)/\w.cell? ⟨b,off+i*3+2,AF⟩=As (AI FG s.2.2)): acV (ah 60 #[An (As ⟨b,off,AF⟩) l.length c] w fun e w'=>∃ u,e=GW u/\aH (· <w'.heap.size) w' u (gP l)/\aa w w'):=by
 have HS:=AM hS;clear hS;apply acV.mk;case out=>
  intro gA gB gC gD gE gG gH gZ;obtain⟨iN,uE,js,jt,ju⟩:=info_parts Tryz.Wy;obtain⟨R,hR⟩:=ag (gP l);rw[<-hR];have HR:=AM hR;obtain⟨n,hn⟩:=ag l.length;obtain⟨N,hN⟩:=ag (min n 25);have kf:min (n:Int) 25=(N:Int):=by omega
  have EA:N<=n:=by omega
  have oQ:N<=25:=by omega
  rw[<-hn]at hc iE ⊢;have EB:N<=c:=by omega
  have oO:=AM hn;have HN:=AM hN;clear hR hn hN;go_enter O',OR;go_wp2;refine aw ?_;intro V hV;have R0:DH (ar V w.heap.size eG 97):=by rw[hV];exact AM (ar.new _ _ _)
  have X0:DH (Ext w V):=by rw[hV];exact AM ((Ext.refl w).alloc _)
  have qu:DH (V.heap.size=w.heap.size+1):=AM (by rw[hV];simp);clear hV;go_loopw [3,4,5,22] (fun u x y i wr=>∃ k:Nat,k<=N/\i=AI DE k/\x=AI DE (iZ (l.take k)).mq/\y=AI DE (iZ (l.take k)).xH/\bT V.heap.size wr u (iZ (l.take k)).all/\ae (· <V.heap.size) V wr) (fun _ _ _ i _=>N-(intOf i).toNat);case atStart=>exact⟨0,by omega,rfl,rfl,rfl,bT.nil _ _,ae.refl _ _⟩
  case round=>
   obtain⟨k,hk,rfl,rfl,rfl,hrow,hx⟩:=hrel;obtain⟨wo,rfl⟩:=ag (wr:By);have HX:=AM hx;clear hx;by_cases hlt:k<N
   ·have ed:(k:Int)<N:=by omega
    obtain⟨⟨s0,s1,s2⟩,hsk⟩:∃ s,l[k]? =As s:=⟨_,aB (by have:=oO.out;omega)⟩;have hstep:=Ig hsk;have j5:=vM (l.take k);obtain⟨PP,Zd⟩:=ag (iZ (l.take k));rw[<-Zd]at hstep j5 hrow ⊢;have hlk:(l.take k).length<=25:=by rw[AS];omega
    obtain⟨Ih,Gc,Ii,c0,c1,c2⟩:=HS.out k _ hsk;dsimp only at Ih Gc Ii c0 c1 c2;have wc:∀ (o:Nat) (u:AT),w.cell? ⟨b,o,AF⟩=As u->wo.cell? ⟨b,o,AF⟩=As u:=fun o u h=>(HX.cell (p:=⟨b,o,AF⟩) (by have:=qu.out;show b<V.heap.size;omega)).trans ((X0.cell (p:=⟨b,o,AF⟩) hb).trans h)
    replace c0:=wc _ _ c0;replace c1:=wc _ _ c1;replace c2:=wc _ _ c2;obtain⟨ru,rc,rfl⟩:=hrow.form;obtain⟨m,hm⟩:=ag PP.all.length;have ry:m<=25:=by have:=j5.len;omega
    obtain⟨uf,huf⟩:=ag PP.mq;obtain⟨gr,hgr⟩:=ag PP.xH;have jT:uf<=16:=by have:=j5.zq;omega
    have HST:=AM hstep;have iM:=AM j5;have HM:=AM hm;have uk:=AM huf;have lB:=AM hgr;have Cu:=AM hlk;rw[<-hm]at hrow ⊢;rw[<-huf, <-hgr];have gQ:=AM hrow;clear hstep j5 hm huf hgr hlk hrow hsk Zd wc;go_upto_region 6 with fail
    refine aw ?_;intro W1 hW1;have B1:DH (ar W1 wo.heap.size #[AI FG s0,AI FG s1,AI FG s2] 185):=by rw[hW1];exact AM (ar.new _ _ _)
    have E1:DH (Ext wo W1):=by rw[hW1];exact AM ((Ext.refl wo).alloc _)
    clear hW1 c0 c1 c2;have dZ:=AM (gQ.below E1.below);have jd:DH (ae (· <V.heap.size) V W1):=AM (HX.tr (E1.keeps.mono fun x (hx:x<V.heap.size)=>ay hx HX.size));have d0:W1.cell? ⟨wo.heap.size,0,AF⟩=As (AI FG s0):=B1.cell 0;have d1:W1.cell? ⟨wo.heap.size,1,AF⟩=As (AI FG s1):=B1.cell 1;have d2:W1.cell? ⟨wo.heap.size,2,AF⟩=As (AI FG s2):=B1.cell 2;obtain⟨kd,hkd⟩:=ag (s0%12);have Gd:P_ (s0:Int) 12=(kd:Int):=by rw[D_ (by omega)];omega
    have kr:kd<12:=by omega
    have hbase:V.heap.size<=W1.heap.size:=jd.size;have yq:=AM hkd;clear hkd gQ E1 HX;by_cases hA:kd<4
    ·skip --CA
     rename_i wy wz wB zD zE zF zG zH;revert iN uE js jt ju R HR n iE hc N kf EA oQ EB oO HN wy wz wB V R0 X0 qu u7 u8 u9 u10 u11 u12 u23 u24 u25 u26 u27 u28 u29 u30 u31 u32 u33 u34 u35 u36 u37 u38 u39 u40 u41 u42 u43 u44 u45 u46 u47 u48 u49 u50 u51 u52 u53 u54 u55 u56 u57 u58 u59 u60 u61 u62 u63 u64 u65 u66 u67 u68 u69 u70 u71 u72 u73 u74 u75 u76 u77 u78 u79 u80 u81 u82 u83 u84 u85 u86 u87 u88 u89 u90 u91 u92 u93 u94 u95 u96 u97 u98 u99 u100 u101 u102 u103 u104 u105 u106 u107 u108 u109 u110 u111 u112 u113 u114 u115 u116 u117 u118 u119 u120 u121 u122 u123 u124 u125 u126 u127 u128 u129 u130 u131 u132 u133 u134 u135 u136 u137 u138 u139 u140 u141 u142 u143 u144 u145 u146 u147 u148 u149 u150 u151 u152 u153 u154 u155 u156 u157 u158 u159 u160 u161 u162 u163 u164 u165 u166 u167 u168 u169 u170 u171 u172 u173 u174 u175 u176 u177 u178 u179 u180 u181 u182 u183 u184 k hk wo hlt ed s0 s1 s2 PP Ih Gc Ii ru rc m ry uf gr jT HST iM HM uk lB Cu zD zE zF zG zH W1 B1 dZ jd d0 d1 d2 kd Gd kr hbase yq hA;exact gA
    ·by_cases hB:kd=4
     ·skip --CB
      rename_i wy wz wB zD zE zF zG zH;revert iN uE js jt ju R HR n iE hc N kf EA oQ EB oO HN wy wz wB V R0 X0 qu u7 u8 u9 u10 u11 u12 u23 u24 u25 u26 u27 u28 u29 u30 u31 u32 u33 u34 u35 u36 u37 u38 u39 u40 u41 u42 u43 u44 u45 u46 u47 u48 u49 u50 u51 u52 u53 u54 u55 u56 u57 u58 u59 u60 u61 u62 u63 u64 u65 u66 u67 u68 u69 u70 u71 u72 u73 u74 u75 u76 u77 u78 u79 u80 u81 u82 u83 u84 u85 u86 u87 u88 u89 u90 u91 u92 u93 u94 u95 u96 u97 u98 u99 u100 u101 u102 u103 u104 u105 u106 u107 u108 u109 u110 u111 u112 u113 u114 u115 u116 u117 u118 u119 u120 u121 u122 u123 u124 u125 u126 u127 u128 u129 u130 u131 u132 u133 u134 u135 u136 u137 u138 u139 u140 u141 u142 u143 u144 u145 u146 u147 u148 u149 u150 u151 u152 u153 u154 u155 u156 u157 u158 u159 u160 u161 u162 u163 u164 u165 u166 u167 u168 u169 u170 u171 u172 u173 u174 u175 u176 u177 u178 u179 u180 u181 u182 u183 u184 k hk wo hlt ed s0 s1 s2 PP Ih Gc Ii ru rc m ry uf gr jT HST iM HM uk lB Cu zD zE zF zG zH W1 B1 dZ jd d0 d1 d2 kd Gd kr hbase yq hA hB;exact gB
     ·by_cases hC:kd<7/\1<m
      ·skip --CC
       rename_i wy wz wB zD zE zF zG zH;revert iN uE js jt ju R HR n iE hc N kf EA oQ EB oO HN wy wz wB V R0 X0 qu u7 u8 u9 u10 u11 u12 u23 u24 u25 u26 u27 u28 u29 u30 u31 u32 u33 u34 u35 u36 u37 u38 u39 u40 u41 u42 u43 u44 u45 u46 u47 u48 u49 u50 u51 u52 u53 u54 u55 u56 u57 u58 u59 u60 u61 u62 u63 u64 u65 u66 u67 u68 u69 u70 u71 u72 u73 u74 u75 u76 u77 u78 u79 u80 u81 u82 u83 u84 u85 u86 u87 u88 u89 u90 u91 u92 u93 u94 u95 u96 u97 u98 u99 u100 u101 u102 u103 u104 u105 u106 u107 u108 u109 u110 u111 u112 u113 u114 u115 u116 u117 u118 u119 u120 u121 u122 u123 u124 u125 u126 u127 u128 u129 u130 u131 u132 u133 u134 u135 u136 u137 u138 u139 u140 u141 u142 u143 u144 u145 u146 u147 u148 u149 u150 u151 u152 u153 u154 u155 u156 u157 u158 u159 u160 u161 u162 u163 u164 u165 u166 u167 u168 u169 u170 u171 u172 u173 u174 u175 u176 u177 u178 u179 u180 u181 u182 u183 u184 k hk wo hlt ed s0 s1 s2 PP Ih Gc Ii ru rc m ry uf gr jT HST iM HM uk lB Cu zD zE zF zG zH W1 B1 dZ jd d0 d1 d2 kd Gd kr hbase yq hA hB hC;exact gC
      ·by_cases hD:kd<9/\1<m
       ·skip --CD
        rename_i wy wz wB zD zE zF zG zH;revert iN uE js jt ju R HR n iE hc N kf EA oQ EB oO HN wy wz wB V R0 X0 qu u7 u8 u9 u10 u11 u12 u23 u24 u25 u26 u27 u28 u29 u30 u31 u32 u33 u34 u35 u36 u37 u38 u39 u40 u41 u42 u43 u44 u45 u46 u47 u48 u49 u50 u51 u52 u53 u54 u55 u56 u57 u58 u59 u60 u61 u62 u63 u64 u65 u66 u67 u68 u69 u70 u71 u72 u73 u74 u75 u76 u77 u78 u79 u80 u81 u82 u83 u84 u85 u86 u87 u88 u89 u90 u91 u92 u93 u94 u95 u96 u97 u98 u99 u100 u101 u102 u103 u104 u105 u106 u107 u108 u109 u110 u111 u112 u113 u114 u115 u116 u117 u118 u119 u120 u121 u122 u123 u124 u125 u126 u127 u128 u129 u130 u131 u132 u133 u134 u135 u136 u137 u138 u139 u140 u141 u142 u143 u144 u145 u146 u147 u148 u149 u150 u151 u152 u153 u154 u155 u156 u157 u158 u159 u160 u161 u162 u163 u164 u165 u166 u167 u168 u169 u170 u171 u172 u173 u174 u175 u176 u177 u178 u179 u180 u181 u182 u183 u184 k hk wo hlt ed s0 s1 s2 PP Ih Gc Ii ru rc m ry uf gr jT HST iM HM uk lB Cu zD zE zF zG zH W1 B1 dZ jd d0 d1 d2 kd Gd kr hbase yq hA hB hC hD;exact gD
       ·by_cases hE:kd=9/\0<m/\gr<9
        ·skip --CE
         rename_i wy wz wB zD zE zF zG zH;revert iN uE js jt ju R HR n iE hc N kf EA oQ EB oO HN wy wz wB V R0 X0 qu u7 u8 u9 u10 u11 u12 u23 u24 u25 u26 u27 u28 u29 u30 u31 u32 u33 u34 u35 u36 u37 u38 u39 u40 u41 u42 u43 u44 u45 u46 u47 u48 u49 u50 u51 u52 u53 u54 u55 u56 u57 u58 u59 u60 u61 u62 u63 u64 u65 u66 u67 u68 u69 u70 u71 u72 u73 u74 u75 u76 u77 u78 u79 u80 u81 u82 u83 u84 u85 u86 u87 u88 u89 u90 u91 u92 u93 u94 u95 u96 u97 u98 u99 u100 u101 u102 u103 u104 u105 u106 u107 u108 u109 u110 u111 u112 u113 u114 u115 u116 u117 u118 u119 u120 u121 u122 u123 u124 u125 u126 u127 u128 u129 u130 u131 u132 u133 u134 u135 u136 u137 u138 u139 u140 u141 u142 u143 u144 u145 u146 u147 u148 u149 u150 u151 u152 u153 u154 u155 u156 u157 u158 u159 u160 u161 u162 u163 u164 u165 u166 u167 u168 u169 u170 u171 u172 u173 u174 u175 u176 u177 u178 u179 u180 u181 u182 u183 u184 k hk wo hlt ed s0 s1 s2 PP Ih Gc Ii ru rc m ry uf gr jT HST iM HM uk lB Cu zD zE zF zG zH W1 B1 dZ jd d0 d1 d2 kd Gd kr hbase yq hA hB hC hD hE;exact gE
        ·by_cases hG:9<kd/\0<m
         ·skip --CG
          rename_i wy wz wB zD zE zF zG zH;revert iN uE js jt ju R HR n iE hc N kf EA oQ EB oO HN wy wz wB V R0 X0 qu u7 u8 u9 u10 u11 u12 u23 u24 u25 u26 u27 u28 u29 u30 u31 u32 u33 u34 u35 u36 u37 u38 u39 u40 u41 u42 u43 u44 u45 u46 u47 u48 u49 u50 u51 u52 u53 u54 u55 u56 u57 u58 u59 u60 u61 u62 u63 u64 u65 u66 u67 u68 u69 u70 u71 u72 u73 u74 u75 u76 u77 u78 u79 u80 u81 u82 u83 u84 u85 u86 u87 u88 u89 u90 u91 u92 u93 u94 u95 u96 u97 u98 u99 u100 u101 u102 u103 u104 u105 u106 u107 u108 u109 u110 u111 u112 u113 u114 u115 u116 u117 u118 u119 u120 u121 u122 u123 u124 u125 u126 u127 u128 u129 u130 u131 u132 u133 u134 u135 u136 u137 u138 u139 u140 u141 u142 u143 u144 u145 u146 u147 u148 u149 u150 u151 u152 u153 u154 u155 u156 u157 u158 u159 u160 u161 u162 u163 u164 u165 u166 u167 u168 u169 u170 u171 u172 u173 u174 u175 u176 u177 u178 u179 u180 u181 u182 u183 u184 k hk wo hlt ed s0 s1 s2 PP Ih Gc Ii ru rc m ry uf gr jT HST iM HM uk lB Cu zD zE zF zG zH W1 B1 dZ jd d0 d1 d2 kd Gd kr hbase yq hA hB hC hD hE hG;exact gG
         ·have EC:PP.step (s0,s1,s2)=PP:=by
           unfold dp.step;dsimp only;rw[<-yq.out, <-HM.out, <-lB.out,if_neg hA,if_neg hB,if_neg hC,if_neg hD,if_neg hE,if_neg (fun h=>hG ⟨h.1,h.2.1⟩)]
          have mz:=AM EC;clear EC;have a1:¬ ((kd:Int)<4):=by omega
          have a2:((kd:Int)==4)=false:=by simp;omega
          rename_i wy wz wB zD zE zF zG zH;revert iN uE js jt ju R HR n iE hc N kf EA oQ EB oO HN wy wz wB V R0 X0 qu u7 u8 u9 u10 u11 u12 u23 u24 u25 u26 u27 u28 u29 u30 u31 u32 u33 u34 u35 u36 u37 u38 u39 u40 u41 u42 u43 u44 u45 u46 u47 u48 u49 u50 u51 u52 u53 u54 u55 u56 u57 u58 u59 u60 u61 u62 u63 u64 u65 u66 u67 u68 u69 u70 u71 u72 u73 u74 u75 u76 u77 u78 u79 u80 u81 u82 u83 u84 u85 u86 u87 u88 u89 u90 u91 u92 u93 u94 u95 u96 u97 u98 u99 u100 u101 u102 u103 u104 u105 u106 u107 u108 u109 u110 u111 u112 u113 u114 u115 u116 u117 u118 u119 u120 u121 u122 u123 u124 u125 u126 u127 u128 u129 u130 u131 u132 u133 u134 u135 u136 u137 u138 u139 u140 u141 u142 u143 u144 u145 u146 u147 u148 u149 u150 u151 u152 u153 u154 u155 u156 u157 u158 u159 u160 u161 u162 u163 u164 u165 u166 u167 u168 u169 u170 u171 u172 u173 u174 u175 u176 u177 u178 u179 u180 u181 u182 u183 u184 k hk wo hlt ed s0 s1 s2 PP Ih Gc Ii ru rc m ry uf gr jT HST iM HM uk lB Cu zD zE zF zG zH W1 B1 dZ jd d0 d1 d2 kd Gd kr hbase yq hA hB hC hD hE hG mz a1 a2;exact gH
   ·obtain rfl:k=N:=by omega
    have Cq:¬ ((k:Int)<k):=by omega
    rename_i wy wz wB;revert iN uE js jt ju R HR n iE hc oO wy wz wB V R0 X0 qu u3 u7 u8 u9 u10 u11 u12 u23 u24 u25 u26 u27 u28 u29 u30 u31 u32 u33 u34 u35 u36 u37 u38 u39 u40 u41 u42 u43 u44 u45 u46 u47 u48 u49 u50 u51 u52 u53 u54 u55 u56 u57 u58 u59 u60 u61 u62 u63 u64 u65 u66 u67 u68 u69 u70 u71 u72 u73 u74 u75 u76 u77 u78 u79 u80 u81 u82 u83 u84 u85 u86 u87 u88 u89 u90 u91 u92 u93 u94 u95 u96 u97 u98 u99 u100 u101 u102 u103 u104 u105 u106 u107 u108 u109 u110 u111 u112 u113 u114 u115 u116 u117 u118 u119 u120 u121 u122 u123 u124 u125 u126 u127 u128 u129 u130 u131 u132 u133 u134 u135 u136 u137 u138 u139 u140 u141 u142 u143 u144 u145 u146 u147 u148 u149 u150 u151 u152 u153 u154 u155 u156 u157 u158 u159 u160 u161 u162 u163 u164 u165 u166 u167 u168 u169 u170 u171 u172 u173 u174 u175 u176 u177 u178 u179 u180 u181 u182 u183 u184 k wo hrow HX kf EA oQ EB HN hk hlt Cq;exact gZ
theorem QU (b off c:Nat) (l:List (Nat×Nat×Nat)) (w:By) (hb:b<w.heap.size) (hc:l.length<=c) (iE:l.length<=1000000000000000) (hS:∀ (i:Nat) (s:Nat×Nat×Nat),l[i]? =As s->s.1<256/\s.2.1<256/\s.2.2<256/\w.cell? ⟨b,off+i*3,AF⟩=As (AI FG s.1)/\w.cell? ⟨b,off+i*3+1,AF⟩=As (AI FG s.2.1)/\w.cell? ⟨b,off+i*3+2,AF⟩=As (AI FG s.2.2)):(ey b off c l w hb hc iE hS).A:=by
 have HS:=AM hS;intro iN uE js jt ju R HR n iE hc N kf EA oQ EB oO HN wy wz wB V R0 X0 qu
 intros
 rename_i k hk wo hlt ed s0 s1 s2 PP Ih Gc Ii ru rc m ry uf gr jT HST iM HM uk lB Cu zD zE zF zG zH W1 B1 dZ jd d0 d1 d2 kd Gd kr hbase yq hA;have a1:(kd:Int)<4:=by omega
 have hst:PP.step (s0,s1,s2)=⟨PP.all++ [nE s1],PP.mq,PP.xH⟩:=by unfold dp.step;dsimp only;rw[<-yq.out,if_pos hA];unfold dp.put;rw[O_,GS]
 have mz:=AM hst;clear hst hA;go_wp2_with fail
 refine(yo s1 Gc W1).mono ?_;rintro e W2 ⟨str,rfl,hstr,hx2⟩;have acW:=AM hstr;have hl7:(dU s1).length<=1000000:=by
  have q:∀ r:Nat,([[97],[98],[97,98],[97],[98],[99],[97,98,99],[98,99],[10],[0,255],[97],[98]].getD r []:List Nat).length<=3:=fun r=>by
   rcases G' r 12 with h | h
   ·have hc:r=0\/r=1\/r=2\/r=3\/r=4\/r=5\/r=6\/r=7\/r=8\/r=9\/r=10\/r=11:=by omega
    rcases hc with rfl | rfl | rfl | rfl | rfl | rfl | rfl | rfl | rfl | rfl | rfl | rfl<;>decide
   ·rw[bB,aT (by simpa using h)];decide
  unfold dU;exact L7 (q _) (by decide)
 have ED:=AM (dZ.below hx2);have gh:DH (ae (· <V.heap.size) V W2):=AM (jd.tr (ae.aj hx2 fun x (hx:x<V.heap.size)=>ay hx hbase));clear hx2 hstr;go_wp2_with fail
 refine(nM str _ acW hl7 W2).mono ?_;rintro e W3 ⟨rfl,hx3⟩;obtain⟨S,hS⟩:=ag (pK fun c=>(dU s1).contains c);rw[<-hS];have od:nE s1=.nd 2 S 0 0 []:=by unfold nE;rw[<-hS]
 rw[od]at mz;have QV:=AM (ED.below hx3);have nX:DH (ae (· <V.heap.size) V W3):=AM (gh.tr (ae.aj hx3 fun x (hx:x<V.heap.size)=>ay hx gh.size));have hb3:V.heap.size<=W3.heap.size:=nX.size;clear hS od hx3 dZ ED gh d0 d1 d2 B1 hl7 acW;unfold aq;go_wp2_with (at_builtin;refine rv rfl ?_);refine AM ?_;refine jk ?_;intro W4 JY;have B4:DH (ar W4 W3.heap.size (aq 2 S 0 0 (An AF 0 0)) 97):=by rw[JY];exact AM (ar.new _ _ _)
 have E4:DH (Ext W3 W4):=by rw[JY];exact AM ((Ext.refl _).alloc _)
 clear JY;have QX:=AM (QV.below E4.below);have Hq:W3.heap.size<=W4.heap.size:=E4.size;obtain⟨cs,g1,g2,g3,g4⟩:=QX.out;rw[<-HM.out]at g1 g2;have G1:=AM g1;have G2:=AM g2;have G3:=AM g3;have G4:=AM g4;clear g1 g2 g3 g4 QX QV;refine eT rfl (DP 34) (DP 39) 95 rfl V.heap.size 97 iN (A' eG) 8 80 B' uE js jt ju rfl (by decide) (An ru m rc) m (bD cs) rfl G2 ⟨W3.heap.size,0,AF⟩ 1 1 (aq 2 S 0 0 (An AF 0 0)).toList rfl (cC B4) rfl (cD _ _ _ _ _ _ _).2 (by unfold maxLen;omega) (by omega) (by omega) ?_;intro v' w' ho hg kA;have K9:DH (ae (· <V.heap.size) V w'):=AM ((nX.tr (E4.keeps.mono fun x (hx:x<V.heap.size)=>ay hx hb3)).tr (ae.aZ hg fun x (hx:x<V.heap.size)=>⟨by omega,fun e=>by have:=(G2.lt x e.symm).1;omega⟩));have R9:DH (bT V.heap.size w' v' (PP.all++ [.nd 2 S 0 0 []])):=AM (bT.push (cs:=cs) (c:=aq 2 S 0 0 (An AF 0 0)) (by rw[<-HM.out];exact G1) G3 G4 (cD _ _ _ _ _ _ _) (aH.leaf _ _ _ _ _ _ _ _) (by rw[<-HM.out];exact ho) hg kA);obtain⟨va',vc',rfl⟩:=ownsRow_form ho;clear ho hg kA;go_wp2;go_roundw;case rel=>
  refine⟨k+1,by omega,by go_num,by rw[HST.out,mz.out, <-uk.out],by rw[HST.out,mz.out, <-lB.out],by rw[HST.out,mz.out];exact R9,K9⟩
 case measure=>simp[intOf];omega
theorem QY (b off c:Nat) (l:List (Nat×Nat×Nat)) (w:By) (hb:b<w.heap.size) (hc:l.length<=c) (iE:l.length<=1000000000000000) (hS:∀ (i:Nat) (s:Nat×Nat×Nat),l[i]? =As s->s.1<256/\s.2.1<256/\s.2.2<256/\w.cell? ⟨b,off+i*3,AF⟩=As (AI FG s.1)/\w.cell? ⟨b,off+i*3+1,AF⟩=As (AI FG s.2.1)/\w.cell? ⟨b,off+i*3+2,AF⟩=As (AI FG s.2.2)):(ey b off c l w hb hc iE hS).B:=by
 have HS:=AM hS;intro iN uE js jt ju R HR n iE hc N kf EA oQ EB oO HN wy wz wB V R0 X0 qu
 intros
 rename_i k hk wo hlt ed s0 s1 s2 PP Ih Gc Ii ru rc m ry uf gr jT HST iM HM uk lB Cu zD zE zF zG zH W1 B1 dZ jd d0 d1 d2 kd Gd kr hbase yq hA hB;have a1:¬ ((kd:Int)<4):=by omega
 have a2:((kd:Int)==4)=true:=by simp[hB]
 have hst:PP.step (s0,s1,s2)=⟨PP.all++ [.nd 1 0 0 0 []],PP.mq,PP.xH⟩:=by unfold dp.step;dsimp only;rw[<-yq.out,if_neg hA,if_pos hB];unfold dp.put;rw[O_,GS];rfl
 have mz:=AM hst;clear hst hA hB;go_wp2_with (at_builtin;refine rv rfl ?_);refine AM ?_;clear d0 d1 d2 B1;refine jk ?_;intro W4 JY;have B4:DH (ar W4 W1.heap.size (aq 1 0 0 0 (An AF 0 0)) 97):=by rw[JY,bP];exact AM (ar.new _ _ _)
 have E4:DH (Ext W1 W4):=by rw[JY];exact AM ((Ext.refl _).alloc _)
 clear JY;have QV:=dZ;have nX:=jd;have hb3:=hbase;have QX:=AM (QV.below E4.below);have Hq:W1.heap.size<=W4.heap.size:=E4.size;obtain⟨cs,g1,g2,g3,g4⟩:=QX.out;rw[<-HM.out]at g1 g2;have G1:=AM g1;have G2:=AM g2;have G3:=AM g3;have G4:=AM g4;clear g1 g2 g3 g4 QX QV;refine eT rfl (DP 44) (DP 46) 95 rfl V.heap.size 97 iN (A' eG) 8 80 B' uE js jt ju rfl (by decide) (An ru m rc) m (bD cs) rfl G2 ⟨W1.heap.size,0,AF⟩ 1 1 (aq 1 0 0 0 (An AF 0 0)).toList rfl (cC B4) rfl (cD _ _ _ _ _ _ _).2 (by unfold maxLen;omega) (by omega) (by omega) ?_;intro v' w' ho hg kA;have K9:DH (ae (· <V.heap.size) V w'):=AM ((nX.tr (E4.keeps.mono fun x (hx:x<V.heap.size)=>ay hx hb3)).tr (ae.aZ hg fun x (hx:x<V.heap.size)=>⟨by omega,fun e=>by have:=(G2.lt x e.symm).1;omega⟩));have R9:DH (bT V.heap.size w' v' (PP.all++ [.nd 1 0 0 0 []])):=AM (bT.push (cs:=cs) (c:=aq 1 0 0 0 (An AF 0 0)) (by rw[<-HM.out];exact G1) G3 G4 (cD _ _ _ _ _ _ _) (aH.leaf _ _ _ _ _ _ _ _) (by rw[<-HM.out];exact ho) hg kA);obtain⟨va',vc',rfl⟩:=ownsRow_form ho;clear ho hg kA;go_wp2;go_roundw;case rel=>
  refine⟨k+1,by omega,by go_num,by rw[HST.out,mz.out, <-uk.out],by rw[HST.out,mz.out, <-lB.out],by rw[HST.out,mz.out];exact R9,K9⟩
 case measure=>simp[intOf];omega
theorem QZ (b off c:Nat) (l:List (Nat×Nat×Nat)) (w:By) (hb:b<w.heap.size) (hc:l.length<=c) (iE:l.length<=1000000000000000) (hS:∀ (i:Nat) (s:Nat×Nat×Nat),l[i]? =As s->s.1<256/\s.2.1<256/\s.2.2<256/\w.cell? ⟨b,off+i*3,AF⟩=As (AI FG s.1)/\w.cell? ⟨b,off+i*3+1,AF⟩=As (AI FG s.2.1)/\w.cell? ⟨b,off+i*3+2,AF⟩=As (AI FG s.2.2)):(ey b off c l w hb hc iE hS).C:=by
 have HS:=AM hS;intro iN uE js jt ju R HR n iE hc N kf EA oQ EB oO HN wy wz wB V R0 X0 qu
 intros
 rename_i k hk wo hlt ed s0 s1 s2 PP Ih Gc Ii ru rc m ry uf gr jT HST iM HM uk lB Cu zD zE zF zG zH W1 B1 dZ jd d0 d1 d2 kd Gd kr hbase yq hA hB hC;have a1:¬ ((kd:Int)<4):=by omega
 have a2:((kd:Int)==4)=false:=by simp;omega
 have a3:(kd:Int)<7:=by omega
 have a4:(1:Int)<m:=by omega
 obtain⟨q,hq⟩:=ag (m-2);obtain⟨r,hr⟩:=ag (m-1);have hw2:DE.wrap ((m:Int)-2)=(q:Int):=by rw[Bm _ (by omega)];omega
 have hw1:DE.wrap ((m:Int)-1)=(r:Int):=by rw[Bm _ (by omega)];omega
 have hqm:q<m:=by omega
 have UX:r<m:=by omega
 have hqi:(q:Int)<m:=by omega
 have hri:(r:Int)<m:=by omega
 have hx2:PP.all[q]? =As PP.gO:=by unfold dp.gO;rw[<-HM.out, <-hq];exact bn _ (by rw[<-HM.out];exact hqm)
 have hx1:PP.all[r]? =As PP.last:=by unfold dp.last;rw[<-HM.out, <-hr];exact bn _ (by rw[<-HM.out];exact UX)
 have f2:PP.gO.fine/\PP.gO.size<=1000:=⟨iM.fine _ (ax hx2),by have:=oA (ax hx2);have:=iM.size;have:=Cu.out;omega⟩;have f1:PP.last.fine/\PP.last.size<=1000:=⟨iM.fine _ (ax hx1),by have:=oA (ax hx1);have:=iM.size;have:=Cu.out;omega⟩;have hst:PP.step (s0,s1,s2)=⟨PP.all.take q++ [cr 3 PP.gO PP.last],PP.mq,PP.xH⟩:=by unfold dp.step;dsimp only;rw[<-yq.out, <-HM.out,if_neg hA,if_neg hB,if_pos hC];unfold dp.put;rw[<-HM.out, <-hq]
 obtain⟨y2,hy2⟩:=ag PP.gO;obtain⟨y1,J4⟩:=ag PP.last;rw[<-hy2]at hx2 f2 hst;rw[<-J4]at hx1 f1 hst;obtain⟨JJ,Tr⟩:=ag (cr 3 y2 y1);rw[<-Tr]at hst;have mz:=AM hst;obtain⟨g,p2,c2,e9,mD,hgb,xJ,rg2,t2⟩:=dZ.iK hx2;subst e9;obtain⟨g',p1,c1,e9,_,_,_,WD,t1⟩:=dZ.iK hx1;cases e9;have Pj:q<=rc:=by omega
 have ahs:(q:Int)<=rc:=by omega
 have F2:=AM f2;have F1:=AM f1;have Zn:=AM rg2;have Q8:=AM WD;have T2:=AM t2;have T1:=AM t1;have HJJ:=AM Tr;have HQ:=AM hq;clear hst hx2 hx1 f2 f1 rg2 WD t2 t1 hy2 J4 Tr hq hr hA hB hC;obtain⟨ka,hka⟩:=ag y2.kind;obtain⟨na,UU⟩:=ag y2.subs.length;obtain⟨sa,Jw⟩:=ag y2.set;obtain⟨ma,Mw⟩:=ag y2.mn;obtain⟨xa,Wz⟩:=ag y2.mx;obtain⟨kb,hkb⟩:=ag y1.kind;obtain⟨nb,uY⟩:=ag y1.subs.length;obtain⟨sb,mi⟩:=ag y1.set;obtain⟨mb,pC⟩:=ag y1.mn;obtain⟨xb,Ez⟩:=ag y1.mx;rw[<-hka, <-UU, <-Jw, <-Mw, <-Wz]at Zn T2;rw[<-hkb, <-uY, <-mi, <-pC, <-Ez]at Q8 T1;clear hka UU Jw Mw Wz hkb uY mi pC Ez;have CJ:DH (∀ W,Move Kx (fun _=>False) W1 W->ah 106 #[AI FG 3,A' (aq ka sa ma xa (An p2 na c2)),A' (aq kb sb mb xb (An p1 nb c1))] W fun e w'=>∃ u,e=GW u/\aH (fun x=>V.heap.size<=x/\x<w'.heap.size) w' u JJ/\aa W w'):=AM fun W hW=>by
  have J5:ae (· <W1.heap.size) W1 W:=ae.aj hW.below fun _ h=>h
  rw[HJJ.out];refine(lV (fun x=>V.heap.size<=x/\x<W1.heap.size) 3 (.inl rfl) _ _ y2 y1 F2.1 F1.1 F2.2 F1.2 W (fun x hx=>ay hx.2 hW.size) ((T2.keeps J5 fun x hx=>hx.2.1).mono fun x hx=>⟨hx.1,hx.2.1⟩) ((T1.out.keeps J5 fun x hx=>hx.2.1).mono fun x hx=>⟨hx.1,hx.2.1⟩)).mono ?_;rintro e w' ⟨u,he,hu,hb⟩;exact⟨u,he,hu.mono fun x hx=>⟨by have:=hW.size;have:=hbase;rcases hx.2 with h | h;exact h.1;omega,hx.1⟩,hb⟩
 clear F2 F1 T2 T1;go_upto_region 13 with fail
 refine aI Kx (fun _=>False) (by kernel_rfl) 18 [0,0,2,0,8,31,0,0,128,448,960,0,0,4096,14336,30720,65472,131008,262143,524287] (fun i=>i==16 || i==17 || i==18) (by kernel_rfl) (fun i=>if i=16 then Bn.tree V.heap.size JJ else if i=17 then Bn.box V.heap.size JJ else aU.any _) ?_;intro C hC hne;have HC:=AM hC;clear hC d0 d1 d2
 repeat (refine au (fun K hK=>?_);first | (refine bL rfl ?_;try go_simp;refine hK _ _ ?_;clear hK K) | (refine bJ rfl rfl ?_;unfold az;go_simp;refine hK _ _ ?_;clear hK K))
 refine au (fun K hK=>?_);refine Db rfl rfl (A' (aq ka sa ma xa (An p2 na c2))) (fun W hW hN=>have hM:=(HC.out W).1 hW;ja 97 (DP 64) rfl (g) (q*8) rfl (aq ka sa ma xa (An p2 na c2)) _ (fB Zn (ae.aj hM.below fun _ h=>h:ae (· <W1.heap.size) W1 W) xJ) A_ rfl (cW _ _ _ _ _)) ?_;go_simp;refine hK _ _ ?_;clear hK K
 repeat (refine au (fun K hK=>?_);first | (refine bL rfl ?_;try go_simp;refine hK _ _ ?_;clear hK K) | (refine bJ rfl rfl ?_;unfold az;go_simp;refine hK _ _ ?_;clear hK K))
 refine au (fun K hK=>?_);refine Db rfl rfl (A' (aq kb sb mb xb (An p1 nb c1))) (fun W hW hN=>have hM:=(HC.out W).1 hW;ja 97 (DP 69) rfl (g) (r*8) rfl (aq kb sb mb xb (An p1 nb c1)) _ (fB Q8 (ae.aj hM.below fun _ h=>h:ae (· <W1.heap.size) W1 W) xJ) A_ rfl (cW _ _ _ _ _)) ?_;go_simp;refine hK _ _ ?_;clear hK K;refine au (fun K hK=>?_);refine bS rfl rfl (Bn.tree V.heap.size JJ) rfl (fun W hW hN=>?_) (fun v hv=>?_)
 ·have hM:=(HC.out W).1 hW
  clear hW hN hK K;go_simp;refine bA ((CJ W hM).mono ?_);rintro e w2 ⟨u,rfl,ht,hx⟩;exact⟨_,rfl,Move.aj hx,ht.form,ht⟩
 obtain⟨pj,cj,rfl⟩:=hv;unfold aq;go_simp;refine hK _ _ ?_;clear hK K;refine au (fun K hK=>?_);refine bS rfl rfl (Bn.box V.heap.size JJ) rfl (fun W hW hN=>?_) (fun v hv=>?_)
 ·have hM:=(HC.out W).1 hW
  have hT:aH (fun x=>V.heap.size<=x/\x<W.heap.size) W (A' (aq JJ.kind JJ.set JJ.mn JJ.mx (An pj JJ.subs.length cj))) JJ:=hN.at 0 rfl (by kernel_rfl);have HT:=AM hT;clear hW hN hK K hT;go_simp;exact⟨Move.ext ((Ext.refl _).alloc _),⟨_,rfl⟩,fun b hb=>by cases hb;exact⟨_,_,ar.new _ _ _,(HT.keeps ((Ext.refl _).alloc _).keeps fun _ hx=>hx.2).mono fun x hx=>by simp;omega⟩⟩
 obtain⟨bz,rfl⟩:=hv;go_simp;refine hK _ _ ?_;clear hK K;refine bC (fun W hW hH=>?_);have hM:=(HC.out W).1 hW;obtain⟨pz,cz,hbz,hjz⟩:∃ p c,ar W bz (aq JJ.kind JJ.set JJ.mn JJ.mx (An p JJ.subs.length c)) 97/\aH (fun x=>V.heap.size<=x/\x<W.heap.size) W (A' (aq JJ.kind JJ.set JJ.mn JJ.mx (An p JJ.subs.length c))) JJ:=(hH _ (ax (show _=As _ from rfl:_[0]? =As _))) bz rfl;have BZ:=AM hbz;have TZ:=AM hjz;have Q9:=AM (dZ.below hM.below);have Zo:DH (ae (· <V.heap.size) V W):=AM (jd.tr (ae.aj hM.below fun x (hx:x<V.heap.size)=>ay hx hbase));have Zp:V.heap.size<=W.heap.size:=Zo.size;clear hM hW hH HC hne hbz hjz dZ jd Zn Q8 CJ;obtain⟨cs,g1,g2,g3,g4⟩:=Q9.out;rw[<-HM.out]at g2;have hcs:(cs.take q).length=q:=by rw[AS,g1, <-HM.out];omega
 refine jN rfl (DP 60) (DP 72) 95 rfl V.heap.size 97 iN (A' eG) 8 80 B' uE js jt ju rfl (by decide) ⟨g,0,AF⟩ q (bD (cs.take q)) rfl (by rw[fO fun c hc=>(g3 c (C' hc)).1,hcs]) (fun j u hj=>g2.cells (g:=g) rfl _ _ (tH hj)) ⟨bz,0,AF⟩ 1 1 (aq JJ.kind JJ.set JJ.mn JJ.mx (An pz JJ.subs.length cz)).toList rfl (cC BZ) rfl (by decide) (by unfold maxLen;omega) (by omega) Zp ?_;intro v' w' ho hx hv';have R9:DH (bT V.heap.size w' v' (PP.all.take q++ [JJ])):=AM (bT.fresh (cs:=cs) (c:=aq JJ.kind JJ.set JJ.mn JJ.mx (An pz JJ.subs.length cz)) (by rw[<-HM.out];omega) g1 g3 (fun i c t hi ht=>(g4 i c t hi ht).mono fun x hx=>⟨hx.1,hx.2.1⟩) (cD _ _ _ _ _ _ _) TZ ho hx hv');have K9:DH (ae (· <V.heap.size) V w'):=AM (Zo.tr (ae.aj hx fun x (hx:x<V.heap.size)=>ay hx Zp));obtain⟨va',vc',rfl⟩:=ownsRow_form ho;clear ho hx hv' g1 g2 g3 g4 hcs Q9 BZ TZ Zo;go_wp2;go_roundw;case rel=>
  refine⟨k+1,by omega,by go_num,by rw[HST.out,mz.out, <-uk.out],by rw[HST.out,mz.out, <-lB.out],?_,K9⟩;rw[HST.out,mz.out];have e8:(PP.all.take q++ [JJ]).length=q+1:=by rw[aJ,AS, <-HM.out];simp;omega
  exact R9
 case measure=>simp[intOf];omega
theorem Ra (b off c:Nat) (l:List (Nat×Nat×Nat)) (w:By) (hb:b<w.heap.size) (hc:l.length<=c) (iE:l.length<=1000000000000000) (hS:∀ (i:Nat) (s:Nat×Nat×Nat),l[i]? =As s->s.1<256/\s.2.1<256/\s.2.2<256/\w.cell? ⟨b,off+i*3,AF⟩=As (AI FG s.1)/\w.cell? ⟨b,off+i*3+1,AF⟩=As (AI FG s.2.1)/\w.cell? ⟨b,off+i*3+2,AF⟩=As (AI FG s.2.2)):(ey b off c l w hb hc iE hS).D:=by
 have HS:=AM hS;intro iN uE js jt ju R HR n iE hc N kf EA oQ EB oO HN wy wz wB V R0 X0 qu
 intros
 rename_i k hk wo hlt ed s0 s1 s2 PP Ih Gc Ii ru rc m ry uf gr jT HST iM HM uk lB Cu zD zE zF zG zH W1 B1 dZ jd d0 d1 d2 kd Gd kr hbase yq hA hB hC hD;have a1:¬ ((kd:Int)<4):=by omega
 have a2:((kd:Int)==4)=false:=by simp;omega
 have a3:¬ ((kd:Int)<7):=by omega
 have a4:(1:Int)<m:=by omega
 have a5:(kd:Int)<9:=by omega
 obtain⟨q,hq⟩:=ag (m-2);obtain⟨r,hr⟩:=ag (m-1);have hw2:DE.wrap ((m:Int)-2)=(q:Int):=by rw[Bm _ (by omega)];omega
 have hw1:DE.wrap ((m:Int)-1)=(r:Int):=by rw[Bm _ (by omega)];omega
 have hqm:q<m:=by omega
 have UX:r<m:=by omega
 have hqi:(q:Int)<m:=by omega
 have hri:(r:Int)<m:=by omega
 have hx2:PP.all[q]? =As PP.gO:=by unfold dp.gO;rw[<-HM.out, <-hq];exact bn _ (by rw[<-HM.out];exact hqm)
 have hx1:PP.all[r]? =As PP.last:=by unfold dp.last;rw[<-HM.out, <-hr];exact bn _ (by rw[<-HM.out];exact UX)
 have f2:PP.gO.fine/\PP.gO.size<=1000:=⟨iM.fine _ (ax hx2),by have:=oA (ax hx2);have:=iM.size;have:=Cu.out;omega⟩;have f1:PP.last.fine/\PP.last.size<=1000:=⟨iM.fine _ (ax hx1),by have:=oA (ax hx1);have:=iM.size;have:=Cu.out;omega⟩;have hst:PP.step (s0,s1,s2)=⟨PP.all.take q++ [cr 4 PP.gO PP.last],PP.mq,PP.xH⟩:=by unfold dp.step;dsimp only;rw[<-yq.out, <-HM.out,if_neg hA,if_neg hB,if_neg hC,if_pos hD];unfold dp.put;rw[<-HM.out, <-hq]
 obtain⟨y2,hy2⟩:=ag PP.gO;obtain⟨y1,J4⟩:=ag PP.last;rw[<-hy2]at hx2 f2 hst;rw[<-J4]at hx1 f1 hst;obtain⟨JJ,Tr⟩:=ag (cr 4 y2 y1);rw[<-Tr]at hst;have mz:=AM hst;obtain⟨g,p2,c2,e9,mD,hgb,xJ,rg2,t2⟩:=dZ.iK hx2;subst e9;obtain⟨g',p1,c1,e9,_,_,_,WD,t1⟩:=dZ.iK hx1;cases e9;have Pj:q<=rc:=by omega
 have ahs:(q:Int)<=rc:=by omega
 have F2:=AM f2;have F1:=AM f1;have Zn:=AM rg2;have Q8:=AM WD;have T2:=AM t2;have T1:=AM t1;have HJJ:=AM Tr;have HQ:=AM hq;clear hst hx2 hx1 f2 f1 rg2 WD t2 t1 hy2 J4 Tr hq hr hA hB hC hD;obtain⟨ka,hka⟩:=ag y2.kind;obtain⟨na,UU⟩:=ag y2.subs.length;obtain⟨sa,Jw⟩:=ag y2.set;obtain⟨ma,Mw⟩:=ag y2.mn;obtain⟨xa,Wz⟩:=ag y2.mx;obtain⟨kb,hkb⟩:=ag y1.kind;obtain⟨nb,uY⟩:=ag y1.subs.length;obtain⟨sb,mi⟩:=ag y1.set;obtain⟨mb,pC⟩:=ag y1.mn;obtain⟨xb,Ez⟩:=ag y1.mx;rw[<-hka, <-UU, <-Jw, <-Mw, <-Wz]at Zn T2;rw[<-hkb, <-uY, <-mi, <-pC, <-Ez]at Q8 T1;clear hka UU Jw Mw Wz hkb uY mi pC Ez;have CJ:DH (∀ W,Move Kx (fun _=>False) W1 W->ah 106 #[AI FG 4,A' (aq ka sa ma xa (An p2 na c2)),A' (aq kb sb mb xb (An p1 nb c1))] W fun e w'=>∃ u,e=GW u/\aH (fun x=>V.heap.size<=x/\x<w'.heap.size) w' u JJ/\aa W w'):=AM fun W hW=>by
  have J5:ae (· <W1.heap.size) W1 W:=ae.aj hW.below fun _ h=>h
  rw[HJJ.out];refine(lV (fun x=>V.heap.size<=x/\x<W1.heap.size) 4 (.inr rfl) _ _ y2 y1 F2.1 F1.1 F2.2 F1.2 W (fun x hx=>ay hx.2 hW.size) ((T2.keeps J5 fun x hx=>hx.2.1).mono fun x hx=>⟨hx.1,hx.2.1⟩) ((T1.out.keeps J5 fun x hx=>hx.2.1).mono fun x hx=>⟨hx.1,hx.2.1⟩)).mono ?_;rintro e w' ⟨u,he,hu,hb⟩;exact⟨u,he,hu.mono fun x hx=>⟨by have:=hW.size;have:=hbase;rcases hx.2 with h | h;exact h.1;omega,hx.1⟩,hb⟩
 clear F2 F1 T2 T1;go_upto_region 15 with fail
 refine aI Kx (fun _=>False) (by kernel_rfl) 18 [0,0,2,0,8,31,0,0,128,448,960,0,0,4096,14336,30720,65472,131008,262143,524287] (fun i=>i==16 || i==17 || i==18) (by kernel_rfl) (fun i=>if i=16 then Bn.tree V.heap.size JJ else if i=17 then Bn.box V.heap.size JJ else aU.any _) ?_;intro C hC hne;have HC:=AM hC;clear hC d0 d1 d2
 repeat (refine au (fun K hK=>?_);first | (refine bL rfl ?_;try go_simp;refine hK _ _ ?_;clear hK K) | (refine bJ rfl rfl ?_;unfold az;go_simp;refine hK _ _ ?_;clear hK K))
 refine au (fun K hK=>?_);refine Db rfl rfl (A' (aq ka sa ma xa (An p2 na c2))) (fun W hW hN=>have hM:=(HC.out W).1 hW;ja 97 (DP 90) rfl (g) (q*8) rfl (aq ka sa ma xa (An p2 na c2)) _ (fB Zn (ae.aj hM.below fun _ h=>h:ae (· <W1.heap.size) W1 W) xJ) A_ rfl (cW _ _ _ _ _)) ?_;go_simp;refine hK _ _ ?_;clear hK K
 repeat (refine au (fun K hK=>?_);first | (refine bL rfl ?_;try go_simp;refine hK _ _ ?_;clear hK K) | (refine bJ rfl rfl ?_;unfold az;go_simp;refine hK _ _ ?_;clear hK K))
 refine au (fun K hK=>?_);refine Db rfl rfl (A' (aq kb sb mb xb (An p1 nb c1))) (fun W hW hN=>have hM:=(HC.out W).1 hW;ja 97 (DP 95) rfl (g) (r*8) rfl (aq kb sb mb xb (An p1 nb c1)) _ (fB Q8 (ae.aj hM.below fun _ h=>h:ae (· <W1.heap.size) W1 W) xJ) A_ rfl (cW _ _ _ _ _)) ?_;go_simp;refine hK _ _ ?_;clear hK K;refine au (fun K hK=>?_);refine bS rfl rfl (Bn.tree V.heap.size JJ) rfl (fun W hW hN=>?_) (fun v hv=>?_)
 ·have hM:=(HC.out W).1 hW
  clear hW hN hK K;go_simp;refine bA ((CJ W hM).mono ?_);rintro e w2 ⟨u,rfl,ht,hx⟩;exact⟨_,rfl,Move.aj hx,ht.form,ht⟩
 obtain⟨pj,cj,rfl⟩:=hv;unfold aq;go_simp;refine hK _ _ ?_;clear hK K;refine au (fun K hK=>?_);refine bS rfl rfl (Bn.box V.heap.size JJ) rfl (fun W hW hN=>?_) (fun v hv=>?_)
 ·have hM:=(HC.out W).1 hW
  have hT:aH (fun x=>V.heap.size<=x/\x<W.heap.size) W (A' (aq JJ.kind JJ.set JJ.mn JJ.mx (An pj JJ.subs.length cj))) JJ:=hN.at 0 rfl (by kernel_rfl);have HT:=AM hT;clear hW hN hK K hT;go_simp;exact⟨Move.ext ((Ext.refl _).alloc _),⟨_,rfl⟩,fun b hb=>by cases hb;exact⟨_,_,ar.new _ _ _,(HT.keeps ((Ext.refl _).alloc _).keeps fun _ hx=>hx.2).mono fun x hx=>by simp;omega⟩⟩
 obtain⟨bz,rfl⟩:=hv;go_simp;refine hK _ _ ?_;clear hK K;refine bC (fun W hW hH=>?_);have hM:=(HC.out W).1 hW;obtain⟨pz,cz,hbz,hjz⟩:∃ p c,ar W bz (aq JJ.kind JJ.set JJ.mn JJ.mx (An p JJ.subs.length c)) 97/\aH (fun x=>V.heap.size<=x/\x<W.heap.size) W (A' (aq JJ.kind JJ.set JJ.mn JJ.mx (An p JJ.subs.length c))) JJ:=(hH _ (ax (show _=As _ from rfl:_[0]? =As _))) bz rfl;have BZ:=AM hbz;have TZ:=AM hjz;have Q9:=AM (dZ.below hM.below);have Zo:DH (ae (· <V.heap.size) V W):=AM (jd.tr (ae.aj hM.below fun x (hx:x<V.heap.size)=>ay hx hbase));have Zp:V.heap.size<=W.heap.size:=Zo.size;clear hM hW hH HC hne hbz hjz dZ jd Zn Q8 CJ;obtain⟨cs,g1,g2,g3,g4⟩:=Q9.out;rw[<-HM.out]at g2;have hcs:(cs.take q).length=q:=by rw[AS,g1, <-HM.out];omega
 refine jN rfl (DP 86) (DP 98) 95 rfl V.heap.size 97 iN (A' eG) 8 80 B' uE js jt ju rfl (by decide) ⟨g,0,AF⟩ q (bD (cs.take q)) rfl (by rw[fO fun c hc=>(g3 c (C' hc)).1,hcs]) (fun j u hj=>g2.cells (g:=g) rfl _ _ (tH hj)) ⟨bz,0,AF⟩ 1 1 (aq JJ.kind JJ.set JJ.mn JJ.mx (An pz JJ.subs.length cz)).toList rfl (cC BZ) rfl (by decide) (by unfold maxLen;omega) (by omega) Zp ?_;intro v' w' ho hx hv';have R9:DH (bT V.heap.size w' v' (PP.all.take q++ [JJ])):=AM (bT.fresh (cs:=cs) (c:=aq JJ.kind JJ.set JJ.mn JJ.mx (An pz JJ.subs.length cz)) (by rw[<-HM.out];omega) g1 g3 (fun i c t hi ht=>(g4 i c t hi ht).mono fun x hx=>⟨hx.1,hx.2.1⟩) (cD _ _ _ _ _ _ _) TZ ho hx hv');have K9:DH (ae (· <V.heap.size) V w'):=AM (Zo.tr (ae.aj hx fun x (hx:x<V.heap.size)=>ay hx Zp));obtain⟨va',vc',rfl⟩:=ownsRow_form ho;clear ho hx hv' g1 g2 g3 g4 hcs Q9 BZ TZ Zo;go_wp2;go_roundw;case rel=>
  refine⟨k+1,by omega,by go_num,by rw[HST.out,mz.out, <-uk.out],by rw[HST.out,mz.out, <-lB.out],?_,K9⟩;rw[HST.out,mz.out];have e8:(PP.all.take q++ [JJ]).length=q+1:=by rw[aJ,AS, <-HM.out];simp;omega
  exact R9
 case measure=>simp[intOf];omega
theorem Rb (b off c:Nat) (l:List (Nat×Nat×Nat)) (w:By) (hb:b<w.heap.size) (hc:l.length<=c) (iE:l.length<=1000000000000000) (hS:∀ (i:Nat) (s:Nat×Nat×Nat),l[i]? =As s->s.1<256/\s.2.1<256/\s.2.2<256/\w.cell? ⟨b,off+i*3,AF⟩=As (AI FG s.1)/\w.cell? ⟨b,off+i*3+1,AF⟩=As (AI FG s.2.1)/\w.cell? ⟨b,off+i*3+2,AF⟩=As (AI FG s.2.2)):(ey b off c l w hb hc iE hS).E:=by
 have HS:=AM hS;intro iN uE js jt ju R HR n iE hc N kf EA oQ EB oO HN wy wz wB V R0 X0 qu
 intros
 rename_i k hk wo hlt ed s0 s1 s2 PP Ih Gc Ii ru rc m ry uf gr jT HST iM HM uk lB Cu zD zE zF zG zH W1 B1 dZ jd d0 d1 d2 kd Gd kr hbase yq hA hB hC hD hE;have a1:¬ ((kd:Int)<4):=by omega
 have a2:((kd:Int)==4)=false:=by simp;omega
 have a3:¬ ((kd:Int)<7):=by omega
 have a5:¬ ((kd:Int)<9):=by omega
 have a6:((kd:Int)==9)=true:=by simp[hE.1]
 have a8:(0:Int)<m:=by omega
 have a9:(gr:Int)<9:=by omega
 obtain⟨r,hr⟩:=ag (m-1);have hw1:DE.wrap ((m:Int)-1)=(r:Int):=by rw[Bm _ (by omega)];omega
 have UX:r<m:=by omega
 have hri:(r:Int)<m:=by omega
 have hx1:PP.all[r]? =As PP.last:=by unfold dp.last;rw[<-HM.out, <-hr];exact bn _ (by rw[<-HM.out];exact UX)
 obtain⟨y1,J4⟩:=ag PP.last;rw[<-J4]at hx1;have hst:PP.step (s0,s1,s2)=⟨PP.all.take r++ [.nd 6 0 0 0 [y1]],PP.mq,PP.xH+1⟩:=by unfold dp.step;dsimp only;rw[<-yq.out, <-HM.out, <-lB.out,if_neg hA,if_neg hB,if_neg hC,if_neg hD,if_pos hE];unfold dp.put;rw[<-HM.out, <-hr, <-J4]
 have mz:=AM hst;clear hst J4 hA hB hC hD hE;obtain⟨g,p1,c1,e9,Ts,mD,hgb,xJ,⟨f0,f1,f2,f3,f4,f5,f6,f7⟩,t1⟩:=dZ.elem hx1;subst e9;have T1:=AM t1;clear t1;obtain⟨kb,hkb⟩:=ag y1.kind;obtain⟨nb,uY⟩:=ag y1.subs.length;obtain⟨sb,mi⟩:=ag y1.set;obtain⟨mb,pC⟩:=ag y1.mn;obtain⟨xb,Ez⟩:=ag y1.mx;rw[<-hkb]at f0;rw[<-mi]at f1 f2 f3 f4;rw[<-pC]at f5;rw[<-Ez]at f6;rw[<-uY]at f7;rw[<-hkb, <-uY, <-mi, <-pC, <-Ez]at T1;have HKB:=AM hkb;have aht:=AM hx1;have XU:=AM hr;clear hkb uY mi pC Ez hx1 hr Ts;have hgw:DE.wrap ((gr:Int)+1)=((gr+1:Nat):Int):=by rw[Bm _ (by omega)];omega
 go_wp2_with fail
 refine(Ey _ y1 (fun x=>V.heap.size<=x/\x<W1.heap.size/\x≠g) W1 (fun x hx=>hx.2.1) T1.out).mono ?_;rintro e W2 ⟨u,rfl,hu,hx2⟩;have HU:=AM hu;obtain⟨pu,cu,rfl⟩:=hu.form;have ED:=AM (dZ.below hx2);have gh:DH (ae (· <V.heap.size) V W2):=AM (jd.tr (ae.aj hx2 fun x (hx:x<V.heap.size)=>ay hx hbase));obtain⟨cs,q1,q2,q3,q4⟩:=ED.out;rw[<-HM.out]at q2;have kc:∀ (o:Nat) (v:AT),W1.cell? ⟨g,o,AF⟩=As v->W2.cell? ⟨g,o,AF⟩=As v:=fun o v h=>((ae.aj hx2 fun _ h=>h:ae (· <W1.heap.size) W1 W2).cell (p:=⟨g,o,AF⟩) xJ).trans h
 replace f0:=kc _ _ f0;replace f1:=kc _ _ f1;replace f2:=kc _ _ f2;replace f3:=kc _ _ f3;replace f4:=kc _ _ f4;replace f5:=kc _ _ f5;replace f6:=kc _ _ f6;replace f7:=kc _ _ f7;have z0:W2.frozen? ⟨g,r*8,AF⟩=false:=q2.frozenAt _;have z1:W2.frozen? ⟨g,r*8+1,AF⟩=false:=q2.frozenAt _;have z2:W2.frozen? ⟨g,r*8+2,AF⟩=false:=q2.frozenAt _;have z3:W2.frozen? ⟨g,r*8+3,AF⟩=false:=q2.frozenAt _;have z4:W2.frozen? ⟨g,r*8+4,AF⟩=false:=q2.frozenAt _;have z5:W2.frozen? ⟨g,r*8+5,AF⟩=false:=q2.frozenAt _;have z6:W2.frozen? ⟨g,r*8+6,AF⟩=false:=q2.frozenAt _;have z7:W2.frozen? ⟨g,r*8+7,AF⟩=false:=q2.frozenAt _;have Q1:=AM q1;have Q2:=AM q2;have Q3:=AM q3;have Q4:=AM q4;have ahu:V.heap.size<=g:=hgb;have hs2:W1.heap.size<=W2.heap.size:=hx2.size;clear hu hx2 kc q1 q2 q3 q4 ED dZ jd d0 d1 d2 B1;simp only[RX.kind,RX.set,RX.mn,RX.mx,RX.subs,D',Ft,F_]at HU ⊢;unfold aq;go_upto_region 18 with fail
 refine aw ?_;intro W3 hW3;have K3:DH (ae (· ≠g) W2 W3):=by rw[hW3];exact AM (((((((((ae.refl _ _).setCell (fun e=>e rfl) _).setCell (fun e=>e rfl) _).setCell (fun e=>e rfl) _).setCell (fun e=>e rfl) _).setCell (fun e=>e rfl) _).setCell (fun e=>e rfl) _).setCell (fun e=>e rfl) _).setCell (fun e=>e rfl) _)
 have R9:DH (bT V.heap.size W3 (An (As ⟨g,0,AF⟩) m rc) (PP.all.set r (.nd 6 0 0 0 [y1]))):=by
  rw[hW3,HM.out];refine AM (bT.turned (by rw[<-HM.out];exact UX) Q1 (by rw[<-HM.out];exact Q2) Q3 (fun i c t hi ht=>(Q4 i c t hi ht).mono fun x hx=>⟨hx.1,hx.2.1,fun e=>hx.2.2 (by rw[e];rfl)⟩) ?_ ?_)
  ·exact(cD _ _ _ _ _ _ _).2
  ·exact HU.mono fun x hx=>⟨by rcases hx.2 with h | h;exact h.1;omega,hx.1,fun e=>by rcases hx.2 with h | h;exact h.2.2 e;omega⟩
 have K9:DH (ae (· <V.heap.size) V W3):=AM (gh.tr (K3.mono fun x (hx:x<V.heap.size)=>by show x≠g;omega));clear hW3 f0 f1 f2 f3 f4 f5 f6 f7 z0 z1 z2 z3 z4 z5 z6 z7 Q1 Q2 Q3 Q4 HU gh K3;have oM:PP.all.set r (.nd 6 0 0 0 [y1])=PP.all.take r++ [.nd 6 0 0 0 [y1]]:=by
  have e:=kZ (l:=PP.all) (by rw[<-HM.out];omega);rw[<-HM.out, <-XU.out]at e
  conv=>lhs;rw[e]
  rw[J_ _ _ (by rw[AS];omega),AS,FF (by rw[<-HM.out];omega),IN];rfl
 have GK:=AM oM;clear oM;go_wp2;go_roundw;case rel=>
  refine⟨k+1,by omega,by go_num,?_,?_,?_,K9⟩
  ·have e7:(iZ (l.take (k+1))).mq=uf:=by rw[HST.out,mz.out];exact uk.symm
   rw[e7]
   try rfl
   try go_num
  ·have e7:(iZ (l.take (k+1))).xH=gr+1:=by rw[HST.out,mz.out];rw[lB.out]
   rw[e7]
   try rfl
   try go_num
  ·rw[HST.out,mz.out, <-GK.out]
   have e8:(PP.all.set r (.nd 6 0 0 0 [y1])).length=m:=by rw[C_];exact HM.symm
   exact R9
 case measure=>simp[intOf];omega
theorem Rc (b off c:Nat) (l:List (Nat×Nat×Nat)) (w:By) (hb:b<w.heap.size) (hc:l.length<=c) (iE:l.length<=1000000000000000) (hS:∀ (i:Nat) (s:Nat×Nat×Nat),l[i]? =As s->s.1<256/\s.2.1<256/\s.2.2<256/\w.cell? ⟨b,off+i*3,AF⟩=As (AI FG s.1)/\w.cell? ⟨b,off+i*3+1,AF⟩=As (AI FG s.2.1)/\w.cell? ⟨b,off+i*3+2,AF⟩=As (AI FG s.2.2)):(ey b off c l w hb hc iE hS).G:=by
 have HS:=AM hS;intro iN uE js jt ju R HR n iE hc N kf EA oQ EB oO HN wy wz wB V R0 X0 qu
 intros
 rename_i k hk wo hlt ed s0 s1 s2 PP Ih Gc Ii ru rc m ry uf gr jT HST iM HM uk lB Cu zD zE zF zG zH W1 B1 dZ jd d0 d1 d2 kd Gd kr hbase yq hA hB hC hD hE hG;have a1:¬ ((kd:Int)<4):=by omega
 have a2:((kd:Int)==4)=false:=by simp;omega
 have a3:¬ ((kd:Int)<7):=by omega
 have a5:¬ ((kd:Int)<9):=by omega
 have a6:((kd:Int)==9)=false:=by simp;omega
 have a7:(9:Int)<kd:=by omega
 have a8:(0:Int)<m:=by omega
 obtain⟨r,hr⟩:=ag (m-1);have hw1:DE.wrap ((m:Int)-1)=(r:Int):=by rw[Bm _ (by omega)];omega
 have UX:r<m:=by omega
 have hri:(r:Int)<m:=by omega
 have hx1:PP.all[r]? =As PP.last:=by unfold dp.last;rw[<-HM.out, <-hr];exact bn _ (by rw[<-HM.out];exact UX)
 obtain⟨y1,J4⟩:=ag PP.last;rw[<-J4]at hx1;have EC:PP.step (s0,s1,s2)=if 9<kd/\0<m/\y1.kind≠1 then(if PP.mq*iq s1 s2<=16 then⟨PP.put 1 (.nd 5 0 (eU s1) (jO s1 s2) [y1]),PP.mq*iq s1 s2,PP.xH⟩else PP)else PP:=by unfold dp.step;dsimp only;rw[<-yq.out, <-HM.out,if_neg hA,if_neg hB,if_neg hC,if_neg hD, <-lB.out,if_neg hE, <-J4]
 obtain⟨g,p1,c1,e9,Ts,mD,hgb,xJ,⟨f0,f1,f2,f3,f4,f5,f6,f7⟩,t1⟩:=dZ.elem hx1;subst e9;have T1:=AM t1;clear t1;obtain⟨kb,hkb⟩:=ag y1.kind;obtain⟨nb,uY⟩:=ag y1.subs.length;obtain⟨sb,mi⟩:=ag y1.set;obtain⟨mb,pC⟩:=ag y1.mn;obtain⟨xb,Ez⟩:=ag y1.mx;rw[<-hkb]at f0;rw[<-mi]at f1 f2 f3 f4;rw[<-pC]at f5;rw[<-Ez]at f6;rw[<-uY]at f7;rw[<-hkb, <-uY, <-mi, <-pC, <-Ez]at T1;have HKB:=AM hkb;have aht:=AM hx1;have XU:=AM hr;clear hkb uY mi pC Ez hx1 hr Ts;have WD:W1.rangeAt g (r*8) (aq kb sb mb xb (An p1 nb c1)).toList:=fun j v hj=>by
  have hl:=(AN.1 hj).1;have h8:(aq kb sb mb xb (An p1 nb c1)).toList.length=8:=rfl;rw[h8]at hl;have hc:j=0\/j=1\/j=2\/j=3\/j=4\/j=5\/j=6\/j=7:=by omega
  rcases hc with rfl | rfl | rfl | rfl | rfl | rfl | rfl | rfl<;>cases hj<;>assumption
 have Q8:=AM WD;clear WD;by_cases mj:kb=1
 ·have b0:((kb:Int)==1)=true:=by simp[mj]
  have b0':((kb:Int) != 1)=false:=by simp[mj]
  have hst:PP.step (s0,s1,s2)=PP:=by rw[EC,if_neg (fun h=>h.2.2 (by rw[<-HKB.out];exact mj))]
  have mz:=AM hst;clear hst EC J4 hA hB hC hD hE hG mj;go_wp2;go_roundw;case rel=>
   refine⟨k+1,by omega,by go_num,by rw[HST.out,mz.out, <-uk.out],by rw[HST.out,mz.out, <-lB.out],by rw[HST.out,mz.out];exact dZ,jd⟩
  case measure=>simp[intOf];omega
 ·have b0:((kb:Int)==1)=false:=by simp;omega
  have b0':((kb:Int) != 1)=true:=by simp;omega
  rw[if_pos ⟨hG.1,hG.2,by rw[<-HKB.out];exact mj⟩]at EC;have ac1:=AM EC;obtain⟨n3,Ga⟩:=ag (s1%3);obtain⟨m4,tG⟩:=ag (s2%4);have aom:n3<3:=by omega
  have aon:m4<4:=by omega
  have aoo:P_ (s1:Int) 3=(n3:Int):=by rw[D_ (by omega)];omega
  have aop:P_ (s2:Int) 4=(m4:Int):=by rw[D_ (by omega)];omega
  have aoq:DE.wrap (n3:Int)=(n3:Int):=Bm _ (by omega);have aor:DE.wrap (m4:Int)=(m4:Int):=Bm _ (by omega);have Lk:=Mx s1 s2;obtain⟨T,Tb⟩:=ag (iq s1 s2);have HTS:DH (max (max (eU s1:Int) (jO s1 s2)) 1=(iq s1 s2:Int)):=AM Lk.2.2;have ahv:1<=T/\T<=3:=by omega
  obtain⟨UT,hUT⟩:=ag (uf*T);have aot:(uf:Int)*(T:Int)=(UT:Int):=by rw[hUT];simp
  have akw:UT<=48:=by rw[hUT];exact L7 (N_ jT ahv.2) (by decide)
  have aou:DE.wrap ((UT:Nat):Int)=(UT:Int):=Bm _ (by omega);have HN3:=AM Ga;have YQ:=AM tG;have UY:=AM Tb;have HUT:=AM hUT;clear EC J4 hA hB hC hD hE hG mj Ga tG Lk Tb hUT;go_upto_region 20 with fail
  refine aI Kx (fun _=>False) (by kernel_rfl) 9 [0,1,3,7,0,16,48,112,15,511] (fun i=>i==99) (by kernel_rfl) (fun _=>aU.any _) ?_;intro C hC hne;have HC:=AM hC;have q1:=aD hC (p:=⟨wo.heap.size,1,AF⟩) B1.lt (fun h=>h) d1;have q2:=aD hC (p:=⟨wo.heap.size,2,AF⟩) B1.lt (fun h=>h) d2;clear hC
  repeat (refine au (fun K hK=>?_);first | (refine bL rfl ?_;try go_simp;refine hK _ _ ?_;clear hK K) | (refine bJ rfl rfl ?_;unfold az;go_simp;refine hK _ _ ?_;clear hK K))
  refine bC (fun W hW hH=>?_);have hM:=(HC.out W).1 hW;have J5:ae (· <W1.heap.size) W1 W:=ae.aj hM.below fun _ h=>h
  have dZ:=AM (dZ.below hM.below);have jd:DH (ae (· <V.heap.size) V W):=AM (jd.tr (J5.mono fun x (hx:x<V.heap.size)=>ay hx hbase));have nI:W1.heap.size<=W.heap.size:=hM.size;have hbase:V.heap.size<=W.heap.size:=jd.size;have T1:DH (aH (fun x=>V.heap.size<=x/\x<W.heap.size/\x≠g) W (A' (aq kb sb mb xb (An p1 nb c1))) y1):=AM ((T1.out.keeps J5 fun x hx=>hx.2.1).mono fun x hx=>⟨hx.1,by have:=hx.2.1;omega,hx.2.2⟩);have Q8:=AM (fB Q8 J5 xJ);have kw:∀ (o:Nat) (v:AT),W1.cell? ⟨g,o,AF⟩=As v->W.cell? ⟨g,o,AF⟩=As v:=fun o v h=>(J5.cell (p:=⟨g,o,AF⟩) xJ).trans h
  replace f0:=kw _ _ f0;replace f1:=kw _ _ f1;replace f2:=kw _ _ f2;replace f3:=kw _ _ f3;replace f4:=kw _ _ f4;replace f5:=kw _ _ f5;replace f6:=kw _ _ f6;replace f7:=kw _ _ f7;have xJ:g<W.heap.size:=by omega
  clear hM J5 kw hW hH HC hne q1 q2 d0 d1 d2 B1;obtain⟨mv,Ox⟩:=ag (jO s1 s2:Int);have ac2:mv=if m4<n3\/m4=0\/(n3=1/\m4=1)then-1 else(m4:Int):=by rw[Ox];unfold jO eU;rw[<-HN3.out, <-YQ.out]
  have HMV:=AM Ox;have ac3:=AM ac2;clear Ox ac2;go_upto_region 21 with fail
  go_cut [161] from 147 to 161 (fun b wx=>b=Q_ (decide (m4<n3\/m4=0\/(n3=1/\m4=1)))/\wx=W)
  case first=>
   by_cases b1:m4<n3
   ·have b1i:(m4:Int)<n3:=by omega
    have D:=AM (decide_eq_true (.inl b1:m4<n3\/m4=0\/(n3=1/\m4=1)));clear b1;go_wp2_with fail
    go_meet
    exact⟨by rw[D.out],rfl⟩
   ·have b1i:¬ ((m4:Int)<n3):=by omega
    by_cases b2:m4=0
    ·have b2i:((m4:Int)==0)=true:=by simp[b2]
     have D:=AM (decide_eq_true (.inr (.inl b2):m4<n3\/m4=0\/(n3=1/\m4=1)));clear b1 b2;go_wp2_with fail
     go_meet
     exact⟨by rw[D.out],rfl⟩
    ·have b2i:((m4:Int)==0)=false:=by simp;omega
     by_cases b3:n3=1
     ·have b3i:((n3:Int)==1)=true:=by simp[b3]
      by_cases b4:m4=1
      ·have b4i:((m4:Int)==1)=true:=by simp[b4]
       have D:=AM (decide_eq_true (.inr (.inr ⟨b3,b4⟩):m4<n3\/m4=0\/(n3=1/\m4=1)));clear b1 b2 b3 b4;go_wp2_with fail
       go_meet
       exact⟨by rw[D.out],rfl⟩
      ·have b4i:((m4:Int)==1)=false:=by simp;omega
       have D:=AM (decide_eq_false (by omega:¬ (m4<n3\/m4=0\/(n3=1/\m4=1))));clear b1 b2 b3 b4;go_wp2_with fail
       go_meet
       exact⟨by rw[D.out],rfl⟩
     ·have b3i:((n3:Int)==1)=false:=by simp;omega
      have D:=AM (decide_eq_false (by omega:¬ (m4<n3\/m4=0\/(n3=1/\m4=1))));clear b1 b2 b3;go_wp2_with fail
      go_meet
      exact⟨by rw[D.out],rfl⟩
  case rest=>
  obtain⟨rfl,hwc⟩:=hcut;replace hwc:=hwc.symm;subst hwc
  go_upto_if 161 with fail
  go_cut [11] from 161 to 161 (fun x wx=>x=AI DE mv/\wx=W)
  case first=>
   by_cases e:m4<n3\/m4=0\/(n3=1/\m4=1)
   ·have d:=decide_eq_true e
    go_wp2_with fail
    go_meet
    exact⟨by rw[ac3.out,if_pos e],rfl⟩
   ·have d:=decide_eq_false e
    go_wp2_with fail
    go_meet
    exact⟨by rw[ac3.out,if_neg e],rfl⟩
  case rest=>
  obtain⟨rfl,hwc⟩:=hcut;replace hwc:=hwc.symm;subst hwc;have hT3:=HTS.out;rw[<-HMV.out]at hT3;have ac4:max (max (n3:Int) mv) 1=(T:Int):=by rw[HN3.out,UY.out];exact hT3
  have UM:=(UW (n3:Int) mv).trans ac4;have Zq:DH (jO s1 s2=mv):=AM HMV.symm;clear hT3 ac4;by_cases Dy:UT<=16
  ·have Qb:(UT:Int)<=16:=by omega
   have hst:PP.step (s0,s1,s2)=⟨PP.all.take r++ [.nd 5 0 (n3:Int) mv [y1]],UT,PP.xH⟩:=by
    rw[ac1.out,if_pos (by rw[<-UY.out, <-uk.out, <-HUT.out];exact Dy),Zq.out];have e1:((eU s1:Nat):Int)=(n3:Int):=by unfold eU;rw[HN3.out]
    rw[e1, <-UY.out, <-uk.out, <-HUT.out];unfold dp.put;rw[<-HM.out, <-XU.out]
   have mz:=AM hst;clear hst Dy;go_wp2_with (first | (refine wu rfl 97 (DP 178) rfl g (r*8) rfl (aq kb sb mb xb (An p1 nb c1)) _ Q8 A_ rfl (cW _ _ _ _ _) ?_) | (go_at_call 108;refine E_ ?_));refine AM ?_;refine(Mv _ y1 (n3:Int) mv (fun x=>V.heap.size<=x/\x<W.heap.size/\x≠g) W (fun x hx=>hx.2.1) T1.out).mono ?_;rintro e W2 ⟨u,rfl,hu,hx2⟩;have HU:=AM hu;obtain⟨pu,cu,rfl⟩:=hu.form;have ED:=AM (dZ.below hx2);have gh:DH (ae (· <V.heap.size) V W2):=AM (jd.tr (ae.aj hx2 fun x (hx:x<V.heap.size)=>ay hx hbase));obtain⟨cs,q1,q2,q3,q4⟩:=ED.out;rw[<-HM.out]at q2;have kc:∀ (o:Nat) (v:AT),W.cell? ⟨g,o,AF⟩=As v->W2.cell? ⟨g,o,AF⟩=As v:=fun o v h=>((ae.aj hx2 fun _ h=>h:ae (· <W.heap.size) W W2).cell (p:=⟨g,o,AF⟩) xJ).trans h
   replace f0:=kc _ _ f0;replace f1:=kc _ _ f1;replace f2:=kc _ _ f2;replace f3:=kc _ _ f3;replace f4:=kc _ _ f4;replace f5:=kc _ _ f5;replace f6:=kc _ _ f6;replace f7:=kc _ _ f7;have z0:W2.frozen? ⟨g,r*8,AF⟩=false:=q2.frozenAt _;have z1:W2.frozen? ⟨g,r*8+1,AF⟩=false:=q2.frozenAt _;have z2:W2.frozen? ⟨g,r*8+2,AF⟩=false:=q2.frozenAt _;have z3:W2.frozen? ⟨g,r*8+3,AF⟩=false:=q2.frozenAt _;have z4:W2.frozen? ⟨g,r*8+4,AF⟩=false:=q2.frozenAt _;have z5:W2.frozen? ⟨g,r*8+5,AF⟩=false:=q2.frozenAt _;have z6:W2.frozen? ⟨g,r*8+6,AF⟩=false:=q2.frozenAt _;have z7:W2.frozen? ⟨g,r*8+7,AF⟩=false:=q2.frozenAt _;have Q1:=AM q1;have Q2:=AM q2;have Q3:=AM q3;have Q4:=AM q4;have ahu:V.heap.size<=g:=hgb;have hs2:W.heap.size<=W2.heap.size:=hx2.size;clear hu hx2 kc q1 q2 q3 q4 ED dZ jd;simp only[RX.kind,RX.set,RX.mn,RX.mx,RX.subs,D',Ft,F_]at HU ⊢;unfold aq;go_upto_region 27 with fail
   refine aw ?_;intro W3 hW3;have K3:DH (ae (· ≠g) W2 W3):=by rw[hW3];exact AM (((((((((ae.refl _ _).setCell (fun e=>e rfl) _).setCell (fun e=>e rfl) _).setCell (fun e=>e rfl) _).setCell (fun e=>e rfl) _).setCell (fun e=>e rfl) _).setCell (fun e=>e rfl) _).setCell (fun e=>e rfl) _).setCell (fun e=>e rfl) _)
   have R9:DH (bT V.heap.size W3 (An (As ⟨g,0,AF⟩) m rc) (PP.all.set r (.nd 5 0 (n3:Int) mv [y1]))):=by
    rw[hW3,HM.out];refine AM (bT.turned (by rw[<-HM.out];exact UX) Q1 (by rw[<-HM.out];exact Q2) Q3 (fun i c t hi ht=>(Q4 i c t hi ht).mono fun x hx=>⟨hx.1,hx.2.1,fun e=>hx.2.2 (by rw[e];rfl)⟩) ?_ ?_)
    ·exact(cD _ _ _ _ _ _ _).2
    ·exact HU.mono fun x hx=>⟨by rcases hx.2 with h | h;exact h.1;omega,hx.1,fun e=>by rcases hx.2 with h | h;exact h.2.2 e;omega⟩
   have K9:DH (ae (· <V.heap.size) V W3):=AM (gh.tr (K3.mono fun x (hx:x<V.heap.size)=>by show x≠g;omega));clear hW3 f0 f1 f2 f3 f4 f5 f6 f7 z0 z1 z2 z3 z4 z5 z6 z7 Q1 Q2 Q3 Q4 HU gh K3;have oM:PP.all.set r (.nd 5 0 (n3:Int) mv [y1])=PP.all.take r++ [.nd 5 0 (n3:Int) mv [y1]]:=by
    have e:=kZ (l:=PP.all) (by rw[<-HM.out];omega);rw[<-HM.out, <-XU.out]at e
    conv=>lhs;rw[e]
    rw[J_ _ _ (by rw[AS];omega),AS,FF (by rw[<-HM.out];omega),IN];rfl
   have GK:=AM oM;clear oM;go_wp2;go_roundw;case rel=>
    refine⟨k+1,by omega,by go_num,?_,?_,?_,K9⟩
    ·have e7:(iZ (l.take (k+1))).mq=UT:=by rw[HST.out,mz.out]
     rw[e7]
     try rfl
     try go_num
    ·have e7:(iZ (l.take (k+1))).xH=gr:=by rw[HST.out,mz.out];exact lB.symm
     rw[e7]
     try rfl
     try go_num
    ·rw[HST.out,mz.out, <-GK.out]
     have e8:(PP.all.set r (.nd 5 0 (n3:Int) mv [y1])).length=m:=by rw[C_];exact HM.symm
     exact R9
   case measure=>simp[intOf];omega
  ·have Qb:¬ ((UT:Int)<=16):=by omega
   have hst:PP.step (s0,s1,s2)=PP:=by rw[ac1.out,if_neg (by rw[<-UY.out, <-uk.out, <-HUT.out];exact Dy)]
   have mz:=AM hst;clear hst Dy;go_wp2;go_roundw;case rel=>
    refine⟨k+1,by omega,by go_num,by rw[HST.out,mz.out, <-uk.out],by rw[HST.out,mz.out, <-lB.out],by rw[HST.out,mz.out];exact dZ,jd⟩
   case measure=>simp[intOf];omega
theorem Re (b off c:Nat) (l:List (Nat×Nat×Nat)) (w:By) (hb:b<w.heap.size) (hc:l.length<=c) (iE:l.length<=1000000000000000) (hS:∀ (i:Nat) (s:Nat×Nat×Nat),l[i]? =As s->s.1<256/\s.2.1<256/\s.2.2<256/\w.cell? ⟨b,off+i*3,AF⟩=As (AI FG s.1)/\w.cell? ⟨b,off+i*3+1,AF⟩=As (AI FG s.2.1)/\w.cell? ⟨b,off+i*3+2,AF⟩=As (AI FG s.2.2)):(ey b off c l w hb hc iE hS).H:=by
 have HS:=AM hS;intro iN uE js jt ju R HR n iE hc N kf EA oQ EB oO HN wy wz wB V R0 X0 qu
 intros
 rename_i k hk wo hlt ed s0 s1 s2 PP Ih Gc Ii ru rc m ry uf gr jT HST iM HM uk lB Cu zD zE zF zG zH W1 B1 dZ jd d0 d1 d2 kd Gd kr hbase yq hA hB hC hD hE hG mz a1 a2;go_upto_region 12 with fail
 go_cut [48] from 49 to 54 (fun x wx=>x=Q_ Kx/\wx=W1)
 case first=>
  by_cases hq:kd<7
  ·have a3:(kd:Int)<7:=by omega
   have a4:¬ ((1:Int)<m):=by omega
   go_wp2_with fail
   go_meet
   exact⟨rfl,rfl⟩
  ·have a3:¬ ((kd:Int)<7):=by omega
   go_wp2_with fail
   go_meet
   exact⟨rfl,rfl⟩
 case rest=>
 obtain⟨rfl,hwc⟩:=hcut;replace hwc:=hwc.symm;subst hwc;go_upto_region 14 with fail
 go_cut [74] from 75 to 80 (fun x wx=>x=Q_ Kx/\wx=W1)
 case first=>
  by_cases hq:kd<9
  ·have a3:(kd:Int)<9:=by omega
   have a4:¬ ((1:Int)<m):=by omega
   go_wp2_with fail
   go_meet
   exact⟨rfl,rfl⟩
  ·have a3:¬ ((kd:Int)<9):=by omega
   go_wp2_with fail
   go_meet
   exact⟨rfl,rfl⟩
 case rest=>
 obtain⟨rfl,hwc⟩:=hcut;replace hwc:=hwc.symm;subst hwc;go_upto_region 16 with fail
 go_cut [100] from 101 to 110 (fun x wx=>x=Q_ Kx/\wx=W1)
 case first=>
  by_cases hq:kd=9
  ·have a6:((kd:Int)==9)=true:=by simp[hq]
   by_cases h0:0<m
   ·have a8:(0:Int)<m:=by omega
    have a9:¬ ((gr:Int)<9):=by omega
    clear hq;go_wp2_with fail
    go_meet
    exact⟨rfl,rfl⟩
   ·have a8:¬ ((0:Int)<m):=by omega
    clear hq;go_wp2_with fail
    go_meet
    exact⟨rfl,rfl⟩
  ·have a6:((kd:Int)==9)=false:=by simp;omega
   go_wp2_with fail
   go_meet
   exact⟨rfl,rfl⟩
 case rest=>
 obtain⟨rfl,hwc⟩:=hcut;replace hwc:=hwc.symm;subst hwc;go_upto_region 19 with fail
 go_cut [123] from 124 to 138 (fun x wx=>x=Q_ Kx/\wx=W1)
 case first=>
  by_cases hq:9<kd
  ·have a7:(9:Int)<kd:=by omega
   have a8:¬ ((0:Int)<m):=by omega
   go_wp2_with fail
   go_meet
   exact⟨rfl,rfl⟩
  ·have a7:¬ ((9:Int)<kd):=by omega
   go_wp2_with fail
   go_meet
   exact⟨rfl,rfl⟩
 case rest=>
 obtain⟨rfl,hwc⟩:=hcut;replace hwc:=hwc.symm;subst hwc;go_wp2;go_roundw;case rel=>
  refine⟨k+1,by omega,by go_num,by rw[HST.out,mz.out, <-uk.out],by rw[HST.out,mz.out, <-lB.out],by rw[HST.out,mz.out];exact dZ,jd⟩
 case measure=>simp[intOf];omega
theorem Rf (b off c:Nat) (l:List (Nat×Nat×Nat)) (w:By) (hb:b<w.heap.size) (hc:l.length<=c) (iE:l.length<=1000000000000000) (hS:∀ (i:Nat) (s:Nat×Nat×Nat),l[i]? =As s->s.1<256/\s.2.1<256/\s.2.2<256/\w.cell? ⟨b,off+i*3,AF⟩=As (AI FG s.1)/\w.cell? ⟨b,off+i*3+1,AF⟩=As (AI FG s.2.1)/\w.cell? ⟨b,off+i*3+2,AF⟩=As (AI FG s.2.2)):(ey b off c l w hb hc iE hS).Z:=by
 have HS:=AM hS;intro iN uE js jt ju R HR n iE hc oO wy wz wB V R0 X0 qu u3
 intros
 rename_i k wo hrow HX kf EA oQ EB HN hk hlt Cq;obtain⟨PP,Zd⟩:=ag (iZ (l.take k));rw[<-Zd]at hrow ⊢;have er:l.take k=l.take 25:=by
  rw[HN.out,oO.out];rcases Nat.le_total l.length 25 with h | h
  ·rw[FF h,GS,List.take_of_length_le h]
  ·rw[Nat.min_eq_right h]
 have j5:=vM (l.take 25);have Mt:R=acf PP.all:=by rw[HR.out,Zd,er];rfl
 rw[<-er, <-Zd]at j5;have hfA:=j5.fine;have hsA:RX.sizes PP.all<=25:=L7 j5.size (by rw[AS];omega);obtain⟨ru,rc,rfl⟩:=hrow.form;have gQ:=AM hrow;obtain⟨A,hA⟩:=ag PP.all;rw[<-hA]at gQ hfA hsA Mt ⊢;have HFA:=AM hfA;have HSA:=AM hsA;have iz:=AM Mt;clear hrow hfA hsA Mt j5 er Zd hA;have hwV:w.heap.size<V.heap.size:=by have:=qu.out;omega
 have hVo:V.heap.size<=wo.heap.size:=HX.size;have X9:DH (aa w wo):=AM (X0.below.trans (HX.mono fun x (hx:x<w.heap.size)=>by show x<V.heap.size;omega:ae (· <w.heap.size) V wo).below);have R9:=AM (R0.keeps HX R0.lt);match A,gQ,HFA,HSA,iz with
 | [],gQ,HFA,HSA,iz=>
  simp only[Ft];go_wp2_with fail
  refine(nM _ [97] rfl (by decide) wo).mono ?_;rintro e w2 ⟨rfl,hx2⟩;obtain⟨S,hS⟩:=ag (pK fun c=>([97]:List Nat).contains c);rw[<-hS];have od:R=.nd 2 S 0 0 []:=by rw[iz.out,hS];rfl
  have R2:=AM (R9.below hx2 R9.lt);have X2:DH (aa w w2):=AM (X9.trans (hx2.mono X9.size));clear hS hx2;go_wp2_with (refine B_ rfl 97 (DP 2) (DP 188) rfl w.heap.size (aq 2 S 0 0 (An AF 0 0)) rfl rfl 97 eG R2 (cW _ _ _ _ _) rfl (kq _ _ _ _ _ _ _) ?_;refine E_ ?_);refine AM ?_;obtain⟨V3,cP⟩:=ag (w2.setRow w.heap.size (aq 2 S 0 0 (An AF 0 0)));rw[<-cP];have RR:DH (ar V3 w.heap.size (aq 2 S 0 0 (An AF 0 0)) 97):=by rw[cP];exact AM R2.setRow
  have KK:ae (· ≠w.heap.size) w2 V3:=by rw[cP];exact bG _ _ _
  clear cP;go_wp2;obtain⟨m0,m1,m2,m3,m4,m5,m6,m7⟩:=RR.eight;refine EV (v:=A' (aq 2 S 0 0 (An AF 0 0))) (by simp[results,H_,aq,go_sem,m0,m1,m2,m3,m4,m5,m6,m7]) rfl ⟨_,rfl,?_,X2.trans (KK.mono fun x (hx:x<w.heap.size)=>by show x≠_;omega:ae (· <w.heap.size) w2 V3).below⟩;rw[od];exact aH.leaf _ _ _ _ _ _ _ _
 | x::r,gQ,HFA,HSA,iz=>
  obtain⟨m,hm⟩:=ag ((x::r).length);have rO:m=r.length+1:=by rw[hm];rfl
  have aoz:m<=25:=by have:=vZ (x::r);have:=HSA.out;omega
  rw[<-hm]at gQ ⊢;obtain⟨g,p1,c1,e9,Ts,mD,hgb,xJ,⟨f0,f1,f2,f3,f4,f5,f6,f7⟩,t1⟩:=gQ.elem (i:=0) (t:=x) rfl;clear Ts;subst e9;simp only[N',F_]at f0 f1 f2 f3 f4 f5 f6 f7;have T1:=AM t1;have nZ:(0:Int)<m:=by omega
  have lA:(1:Int)<=m:=by omega
  have mE:1<=m:=by omega
  have hc2:1<=rc:=by omega
  have hc3:(1:Int)<=rc:=by omega
  have pC:((m:Int)==0)=false:=by simp;omega
  have HMR:=AM rO;clear t1 hm rO;go_upto_region 31 with fail
  refine aw ?_;intro W1 hW1;have B13:DH (ar W1 wo.heap.size (aq x.kind x.set x.mn x.mx (An p1 x.subs.length c1)) 97):=by rw[hW1];exact AM (ar.new _ _ _)
  have E1:DH (Ext wo W1):=by rw[hW1];exact AM ((Ext.refl wo).alloc _)
  clear hW1 f0 f1 f2 f3 f4 f5 f6 f7;by_cases hrc:rc=1
  ·skip --Y3a
   obtain rfl:m=1:=by omega
   subst hrc;have hr0:r=[]:=G_ (by have:=HMR.out;omega);have HTR:R=x:=by rw[iz.out,hr0];rfl
   have T2:DH (aH (fun y=>V.heap.size<=y/\y<W1.heap.size) W1 (A' (aq x.kind x.set x.mn x.mx (An p1 x.subs.length c1))) x):=AM ((T1.out.keeps E1.keeps fun y hy=>hy.2.1).mono fun y hy=>⟨hy.1,by have:=hy.2.1;have:=E1.size;omega⟩);have X1:DH (aa w W1):=AM (X9.trans (E1.below.mono X9.size));have R1:=AM (R9.ext E1);clear T1 X9 R9 hr0 gQ;go_wp2;go_loopw [195] (fun i wr=>i=AI DE 0/\wr=W1) (fun _ _=>0);case atStart=>exact⟨rfl,rfl⟩
   case round=>
    obtain⟨rfl,hwr⟩:=hrel;replace hwr:=hwr.symm;subst hwr;go_wp2_with (first | (refine aY rfl 97 (DP 13) rfl wo.heap.size rfl (aq x.kind x.set x.mn x.mx (An p1 x.subs.length c1)) _ B13.range A_ rfl (cW _ _ _ _ _) ?_) | (refine B_ rfl 97 (DP 2) (DP 203) rfl w.heap.size (aq x.kind x.set x.mn x.mx (An p1 x.subs.length c1)) rfl rfl 97 eG R1 (cW _ _ _ _ _) rfl (kq _ _ _ _ _ _ _) ?_;refine E_ ?_));refine AM ?_;obtain⟨V3,cP⟩:=ag (W1.setRow w.heap.size (aq x.kind x.set x.mn x.mx (An p1 x.subs.length c1)));rw[<-cP];have RR:DH (ar V3 w.heap.size (aq x.kind x.set x.mn x.mx (An p1 x.subs.length c1)) 97):=by rw[cP];exact AM R1.setRow
    have KK:ae (· ≠w.heap.size) W1 V3:=by rw[cP];exact bG _ _ _
    clear cP;go_wp2;obtain⟨m0,m1,m2,m3,m4,m5,m6,m7⟩:=RR.eight;refine EV (v:=A' (aq x.kind x.set x.mn x.mx (An p1 x.subs.length c1))) (by simp[results,H_,aq,go_sem,m0,m1,m2,m3,m4,m5,m6,m7]) rfl ⟨_,rfl,?_,X1.trans (KK.mono fun z (hz:z<w.heap.size)=>by show z≠_;omega:ae (· <w.heap.size) W1 V3).below⟩;rw[HTR];exact(T2.keeps KK fun z hz=>by have:=hz.1;show z≠_;omega).mono fun z hz=>ay hz.2 KK.size
  have aoA:1<rc:=by omega
  have aoB:(1:Int)<rc:=by omega
  have aoC:rc-1≠0:=by omega
  have aoD:¬ (rc=1):=hrc;have aoE:¬ ((rc:Int)=1):=by omega
  have aoF:¬ (rc<=1):=by omega
  go_wp2;obtain⟨J0,hJ0⟩:=ag wo.heap.size;have hJ1:J0<W1.heap.size:=by rw[hJ0];exact B13.lt
  have HJ0:=AM hJ0;have dZ:=AM (gQ.below E1.below);have T2:DH (aH (fun y=>V.heap.size<=y/\y<W1.heap.size/\y≠J0) W1 (A' (aq x.kind x.set x.mn x.mx (An p1 x.subs.length c1))) x):=AM ((T1.out.keeps E1.keeps fun y hy=>hy.2.1).mono fun y hy=>⟨hy.1,by have:=hy.2.1;have:=E1.size;omega,fun e=>by have:=hy.2.1;omega⟩);have X1:DH (aa w W1):=AM (X9.trans (E1.below.mono X9.size));have R1:=AM (R9.ext E1);have hgJ:g<J0:=by omega
  have hRJ:w.heap.size<J0:=by omega
  rw[<-hJ0]at B13 ⊢;clear T1 X9 R9 hJ0;go_loopw [195] (fun i wr=>∃ (j:Nat) (t:RX) (p':Option M_) (c':Nat),j<=r.length/\i=AI DE j/\t=(r.take j).foldl (cr 4) x/\ar wr J0 (aq t.kind t.set t.mn t.mx (An p' t.subs.length c')) 97/\aH (fun y=>V.heap.size<=y/\y<wr.heap.size/\y≠J0) wr (A' (aq t.kind t.set t.mn t.mx (An p' t.subs.length c'))) t/\ae (fun y=>y<W1.heap.size/\y≠J0) W1 wr) (fun i _=>r.length-(intOf i).toNat);case atStart=>exact⟨0,x,p1,c1,by omega,rfl,rfl,B13,T2,ae.refl _ _⟩
  case round=>
   obtain⟨j,t,p',c',hj,rfl,ht,hB,hT,hK⟩:=hrel;obtain⟨w5,rfl⟩:=ag (wr:By);have HB:=AM hB;have HT:=AM hT;have HK:=AM hK;have UY:=AM ht;clear hB hT hK ht;have hR:=HMR.out;by_cases hlt:j<r.length
   ·obtain⟨y,hy⟩:∃ y,r[j]? =As y:=⟨_,aB hlt⟩
    have hyA:(x::r)[j+1]? =As y:=by simpa using hy
    have hK2:ae (fun y=>y<J0) wo w5:=(E1.keeps.mono fun y (hy:y<J0)=>by have:=HJ0.out;show y<wo.heap.size;omega).tr (HK.mono fun y (hy:y<J0)=>⟨by omega,by omega⟩);obtain⟨g',p2,c2,e9,Ts,akA,hgb',aoH,⟨f0,f1,f2,f3,f4,f5,f6,f7⟩,t2⟩:=gQ.elem hyA;cases e9;clear Ts;have kc:∀ (o:Nat) (v:AT),wo.cell? ⟨g,o,AF⟩=As v->w5.cell? ⟨g,o,AF⟩=As v:=fun o v h=>(hK2.cell (p:=⟨g,o,AF⟩) hgJ).trans h
    have fx:∀ (o:Nat) (v:AT),wo.cell? ⟨g,(j+1)*8+o,AF⟩=As v->w5.cell? ⟨g,8+j*8+o,AF⟩=As v:=fun o v h=>by
     have:=kc _ _ h;rwa[show(j+1)*8+o=8+j*8+o by omega]at this
    have e0:=fx 0 _ f0;have e1:=fx 1 _ f1;have e2:=fx 2 _ f2;have e3:=fx 3 _ f3;have e4:=fx 4 _ f4;have e5:=fx 5 _ f5;have e6:=fx 6 _ f6;have e7:=fx 7 _ f7;simp only[Nat.add_zero]at e0;have T2':DH (aH (fun y=>V.heap.size<=y/\y<w5.heap.size/\y≠J0) w5 (A' (aq y.kind y.set y.mn y.mx (An p2 y.subs.length c2))) y):=AM ((t2.keeps hK2 fun y hy=>by have:=HJ0.out;have:=hy.2.1;show y<J0;omega).mono fun y hy=>⟨hy.1,by have:=hy.2.1;have:=hK2.size;omega,fun e=>by have:=hy.2.1;have:=HJ0.out;omega⟩);have jA:(j:Int)<m-1:=by omega
    clear f0 f1 f2 f3 f4 f5 f6 f7 kc fx;have hyf:y.fine:=HFA.out y (bM _ (ax hy));have Uf:y.size<=1000:=by have:=oA (bM x (ax hy));have:=HSA.out;omega
    have hff:=pX (r.take j) x (HFA x (bu ..)) fun z hz=>HFA z (bM _ (C' hz))
    have htf:t.fine:=by rw[UY.out];exact hff.1
    have Lk:t.size<=1000:=by
     have h1:=hff.2.1;rw[<-UY.out]at h1;have h2:=et (r.take j) (r.drop j);rw[I']at h2;have h3:=HSA.out;rw[RX.sizes]at h3;have h4:(r.take j).length<=25:=by rw[AS];omega
     omega
    have sK:(r.take (j+1)).foldl (cr 4) x=cr 4 t y:=by rw[It,hy,Ly, <-UY.out];rfl
    have HTN:=AM sK;have CJ:DH (∀ W,aa w5 W->ah 106 #[AI FG 4,A' (aq t.kind t.set t.mn t.mx (An p' t.subs.length c')),A' (aq y.kind y.set y.mn y.mx (An p2 y.subs.length c2))] W fun e w'=>∃ u,e=GW u/\aH (fun z=>z<w'.heap.size/\((V.heap.size<=z/\z<w5.heap.size/\z≠J0)\/W.heap.size<=z)) w' u (cr 4 t y)/\aa W w'):=AM fun W hW=>by
     have J5:ae (· <w5.heap.size) w5 W:=ae.aj hW fun _ h=>h
     exact lV (fun z=>V.heap.size<=z/\z<w5.heap.size/\z≠J0) 4 (.inr rfl) _ _ t y htf hyf Lk Uf W (fun z hz=>ay hz.2.1 hW.size) (HT.keeps J5 fun z hz=>hz.2.1) (T2'.keeps J5 fun z hz=>hz.2.1)
    obtain⟨JJ,Tr⟩:=ag (cr 4 t y);rw[<-Tr]at CJ HTN;clear hyf Uf hff htf Lk sK Tr hy hyA;clear hR;go_upto_region 34 with fail
    refine aw ?_;intro W6 rW;have B15:DH (ar W6 w5.heap.size (aq y.kind y.set y.mn y.mx (An p2 y.subs.length c2)) 97):=by rw[rW];exact AM (ar.new _ _ _)
    have E6:DH (Ext w5 W6):=by rw[rW];exact AM ((Ext.refl w5).alloc _)
    clear rW e0 e1 e2 e3 e4 e5 e6 e7;have B6:=AM (HB.ext E6);have CJ6:=AM (CJ.out W6 E6.below);have hJ5:J0<w5.heap.size:=HB.lt;have h56:w5.heap.size<=W6.heap.size:=E6.size;clear CJ;go_wp2_with (first | (refine aY rfl 97 (DP 13) rfl J0 rfl (aq t.kind t.set t.mn t.mx (An p' t.subs.length c')) _ B6.range A_ rfl (cW _ _ _ _ _) ?_) | (refine aY rfl 97 (DP 15) rfl w5.heap.size rfl (aq y.kind y.set y.mn y.mx (An p2 y.subs.length c2)) _ B15.range A_ rfl (cW _ _ _ _ _) ?_) | (go_at_call 106;refine E_ ?_));refine AM ?_;refine CJ6.mono ?_;rintro e w7 ⟨u,rfl,hu,hx7⟩;obtain⟨pu,cu,rfl⟩:=hu.form;have HU:=AM hu;have B7:=AM (B6.below hx7 B6.lt);have K7:DH (ae (· <w5.heap.size) w5 w7):=AM (E6.keeps.tr (ae.aj hx7 fun z (hz:z<w5.heap.size)=>ay hz h56));clear hu hx7 B6 B15 CJ6;go_wp2_with (refine B_ rfl 97 (DP 13) (DP 201) rfl J0 (aq JJ.kind JJ.set JJ.mn JJ.mx (An pu JJ.subs.length cu)) rfl rfl 97 (aq t.kind t.set t.mn t.mx (An p' t.subs.length c')) B7 (cW _ _ _ _ _) rfl (kq _ _ _ _ _ _ _) ?_;refine E_ ?_);refine AM ?_;obtain⟨W8,WE⟩:=ag (w7.setRow J0 (aq JJ.kind JJ.set JJ.mn JJ.mx (An pu JJ.subs.length cu)));rw[<-WE];have B8:DH (ar W8 J0 (aq JJ.kind JJ.set JJ.mn JJ.mx (An pu JJ.subs.length cu)) 97):=by rw[WE];exact AM B7.setRow
    have K8:DH (ae (· ≠J0) w7 W8):=by rw[WE];exact AM (bG _ _ _)
    clear WE;go_wp2;go_roundw;case rel=>
     have q1:aH (fun z=>V.heap.size<=z/\z<W8.heap.size/\z≠J0) W8 (A' (aq JJ.kind JJ.set JJ.mn JJ.mx (An pu JJ.subs.length cu))) JJ:=(HU.keeps K8 fun z hz=>by(rcases hz.2 with h | h;exact h.2.2;show z≠J0;omega)).mono fun z hz=>⟨by(rcases hz.2 with h | h;exact h.1;omega),ay hz.1 K8.size,by(rcases hz.2 with h | h;exact h.2.2;omega)⟩
     have YR:=HK.size;exact⟨j+1,JJ,pu,cu,by omega,by go_num,HTN.symm,B8,q1,HK.tr ((K7.mono fun z (hz:z<W1.heap.size/\z≠J0)=>by have:=hz.1;show z<w5.heap.size;omega).tr (K8.mono fun z (hz:z<W1.heap.size/\z≠J0)=>hz.2))⟩
    case measure=>simp[intOf];omega
   ·skip --Yd
    obtain rfl:j=r.length:=by omega
    have jA:¬ ((r.length:Int)<m-1):=by omega
    have htR:R=t:=by rw[iz.out,UY.out,GS];rfl
    have HTR:=AM htR;have hRl:w.heap.size<W1.heap.size:=R1.lt;have R5:=AM (R1.keeps HK ⟨R1.lt,by omega⟩);have X5:DH (aa w w5):=AM (X1.trans (HK.mono fun z (hz:z<w.heap.size)=>⟨by omega,by omega⟩:ae (· <w.heap.size) W1 w5).below);clear hR htR;go_wp2_with (first | (refine aY rfl 97 (DP 13) rfl J0 rfl (aq t.kind t.set t.mn t.mx (An p' t.subs.length c')) _ HB.range A_ rfl (cW _ _ _ _ _) ?_) | (refine B_ rfl 97 (DP 2) (DP 203) rfl w.heap.size (aq t.kind t.set t.mn t.mx (An p' t.subs.length c')) rfl rfl 97 eG R5 (cW _ _ _ _ _) rfl (kq _ _ _ _ _ _ _) ?_;refine E_ ?_));refine AM ?_;obtain⟨V3,cP⟩:=ag (w5.setRow w.heap.size (aq t.kind t.set t.mn t.mx (An p' t.subs.length c')));rw[<-cP];have RR:DH (ar V3 w.heap.size (aq t.kind t.set t.mn t.mx (An p' t.subs.length c')) 97):=by rw[cP];exact AM R5.setRow
    have KK:ae (· ≠w.heap.size) w5 V3:=by rw[cP];exact bG _ _ _
    clear cP;go_wp2;obtain⟨m0,m1,m2,m3,m4,m5,m6,m7⟩:=RR.eight;refine EV (v:=A' (aq t.kind t.set t.mn t.mx (An p' t.subs.length c'))) (by simp[results,H_,aq,go_sem,m0,m1,m2,m3,m4,m5,m6,m7]) rfl ⟨_,rfl,?_,X5.trans (KK.mono fun z (hz:z<w.heap.size)=>by show z≠_;omega:ae (· <w.heap.size) w5 V3).below⟩;rw[HTR.out];exact(HT.keeps KK fun z hz=>by have:=hz.1;show z≠_;omega).mono fun z hz=>ay hz.2.1 KK.size
theorem EF (b off c:Nat) (l:List (Nat×Nat×Nat)) (w:By) (hb:b<w.heap.size) (hc:l.length<=c) (iE:l.length<=1000000000000000) (hS:∀ (i:Nat) (s:Nat×Nat×Nat),l[i]? =As s->s.1<256/\s.2.1<256/\s.2.2<256/\w.cell? ⟨b,off+i*3,AF⟩=As (AI FG s.1)/\w.cell? ⟨b,off+i*3+1,AF⟩=As (AI FG s.2.1)/\w.cell? ⟨b,off+i*3+2,AF⟩=As (AI FG s.2.2)): ah 60 #[An (As ⟨b,off,AF⟩) l.length c] w fun e w'=>∃ u,e=GW u/\aH (· <w'.heap.size) w' u (gP l)/\aa w w':=
 (ey b off c l w hb hc iE hS).out (QU b off c l w hb hc iE hS) (QY b off c l w hb hc iE hS) (QZ b off c l w hb hc iE hS) (Ra b off c l w hb hc iE hS) (Rb b off c l w hb hc iE hS) (Rc b off c l w hb hc iE hS) (Re b off c l w hb hc iE hS) (Rf b off c l w hb hc iE hS)
theorem wC (p:Option M_) (c:Nat) (w:By): ah 60 #[An p 0 c] w fun e w'=>∃ u,e=GW u/\aH (· <w'.heap.size) w' u (gP [])/\aa w w':=by
 go_enter O',OR
 have kf:min (0:Int) 25=0:=by decide
 go_wp2;refine aw ?_;intro V hV;have R0:DH (ar V w.heap.size eG 97):=by rw[hV];exact AM (ar.new _ _ _)
 have X0:DH (aa w V):=by rw[hV];exact AM ((Ext.refl w).alloc _).below
 clear hV;go_loopw [3,4,5,22] (fun u x y i wr=>u=An AF 0 0/\x=AI DE 1/\y=AI DE 0/\i=AI DE 0/\wr=V) (fun _ _ _ _ _=>0);case atStart=>exact⟨rfl,rfl,rfl,rfl,rfl⟩
 case round=>
  obtain⟨rfl,rfl,rfl,rfl,hwr⟩:=hrel;replace hwr:=hwr.symm;subst hwr;go_wp2_with fail
  refine(nM _ [97] rfl (by decide) V).mono ?_;rintro e w2 ⟨rfl,hx2⟩;obtain⟨S,hS⟩:=ag (pK fun c=>([97]:List Nat).contains c);rw[<-hS];have od:gP []=.nd 2 S 0 0 []:=by rw[hS];rfl
  have R2:=AM (R0.below hx2 R0.lt);have X2:DH (aa w w2):=AM (X0.trans (hx2.mono X0.size));clear hS hx2;go_wp2_with (refine B_ rfl 97 (DP 2) (DP 188) rfl w.heap.size (aq 2 S 0 0 (An AF 0 0)) rfl rfl 97 eG R2 (cW _ _ _ _ _) rfl (kq _ _ _ _ _ _ _) ?_;refine E_ ?_);refine AM ?_;obtain⟨V3,cP⟩:=ag (w2.setRow w.heap.size (aq 2 S 0 0 (An AF 0 0)));rw[<-cP];have RR:DH (ar V3 w.heap.size (aq 2 S 0 0 (An AF 0 0)) 97):=by rw[cP];exact AM R2.setRow
  have KK:ae (· ≠w.heap.size) w2 V3:=by rw[cP];exact bG _ _ _
  clear cP;go_wp2;obtain⟨m0,m1,m2,m3,m4,m5,m6,m7⟩:=RR.eight;refine EV (v:=A' (aq 2 S 0 0 (An AF 0 0))) (by simp[results,H_,aq,go_sem,m0,m1,m2,m3,m4,m5,m6,m7]) rfl ⟨_,rfl,?_,X2.trans (KK.mono fun x (hx:x<w.heap.size)=>by show x≠_;omega:ae (· <w.heap.size) w2 V3).below⟩;rw[od];exact aH.leaf _ _ _ _ _ _ _ _
theorem dM.form {w:By} {v:AT} {l:List (Nat×Nat×Nat)} (h:dM w v l):∃ a c,v=An a l.length c:=by
 rcases h with⟨rfl,rfl⟩ | ⟨ad,c,rfl,rfl⟩ | ⟨b,off,c,rfl,_⟩
 ·exact⟨_,_,rfl⟩
 ·exact⟨_,_,rfl⟩
 ·exact⟨_,_,rfl⟩
theorem Ij (v:AT) (l:List (Nat×Nat×Nat)) (iE:l.length<=1000000000000000) (w:By) (h:dM w v l): ah 60 #[v] w fun e w'=>∃ u,e=GW u/\aH (· <w'.heap.size) w' u (gP l)/\aa w w':=by
 rcases h with⟨rfl,rfl⟩ | ⟨ad,c,rfl,rfl⟩ | ⟨b,off,c,rfl,hb,hc,_,h⟩
 ·exact wC AF 0 w
 ·exact wC (As ad) c w
 ·exact EF b off c l w hb hc iE h
end
section
open Go Go.ChangeShapes Go.WideShapes Go.ChangeAt Go.RowKit Go.Deep
section
variable {H:Type} {enc:On×AT→H} {W:By}
theorem rz {t e:On} {fuel:Nat} {a:Option M_} {n c:Nat} {x:DataW H×List P'} (ht:Bs.underlying t=As (.slice e)) (hb:1<=Bs.bytesOf e) (h:H' enc Bs W 0 (fun _=>GO) GO fuel t [An a n c]=As x) (hs:∀ m∈x.1.weights Bs t,m<=reachBytes):n<=1000000000000000:=by
 rcases open_slice ht h with⟨hcs,_⟩ | ⟨a',len,cap,m,k,D,Pl,hcs,_,_,_,_,rfl,_⟩
 ·have:An a n c=An AF 0 0:=by simpa using hcs
  cases this
  omega
 ·have:An a n c=An (As a') len cap:=by simpa using hcs
  cases this
  have h1:=hs ((((DS n).map D).length+((DS (m-n)).map fun j=>D (n+j)).length)*Bs.bytesOf e) (by simp[DataW.weights,ht]);have h2:n*1<=(((DS n).map D).length+((DS (m-n)).map fun j=>D (n+j)).length)*Bs.bytesOf e:=N_ (by simp) hb;unfold reachBytes at h1;omega
theorem rA {t:On} (ht:Bs.underlying t=As (.int FG)) {fuel:Nat} {c:AT} {y:DataW H×List P'} (h:H' enc Bs W 0 (fun _=>GO) GO fuel t [c]=As y):∃ n:Nat,c=AI FG n/\n<256:=by
 obtain⟨z,hz,_,hw⟩:=DataW.trod_int ht h;obtain rfl:c=AI FG z:=by simpa using hz
 have:=Du hw;exact⟨z.toNat,by rw[Int.toNat_of_nonneg this.1],by omega⟩
theorem EG {fuel:Nat} {v:AT} {y:DataW H×List P'} (h:H' enc Bs W 0 (fun _=>GO) GO fuel 116 [v]=As y) (hz:∀ m∈y.1.weights Bs 116,m<=reachBytes): ∃ l:List (Nat×Nat×Nat),dM W v l/\l.length<=1000000000000000:=by
 have hb3:1<=Bs.bytesOf 185:=by
  have:Bs.bytesOf 185=3:=by kernel_rfl
  omega
 have h0:=h;rcases open_slice Lo h with⟨hcs,_⟩ | ⟨a,len,cap,m,n,D,Pl,hcs,_,hl,hm,tX,_,hi⟩
 ·obtain rfl:v=An AF 0 0:=by simpa using hcs
  exact⟨[],.inl ⟨rfl,rfl⟩,by simp⟩
 ·obtain rfl:v=An (As a) len cap:=by simpa using hcs
  have Tt:=rz Lo hb3 h0 hz;have hc:Bs.cellsOf 185=3:=by kernel_rfl
  rw[hc]at hi;rw[if_pos rfl]at tX;rcases Nat.eq_zero_or_pos len with h1 | h1
  ·subst h1
   exact⟨[],.inr (.inl ⟨a,cap,rfl,rfl⟩),by simp⟩
  ·obtain⟨b,off,spot⟩:=a
   have el:∀ i,i<len->∃ s:Nat×Nat×Nat,(s.1<256/\s.2.1<256/\s.2.2<256)/\W.cell? ((⟨b,off,spot⟩:M_).add (i*3))=As (AI FG s.1)/\W.cell? (((⟨b,off,spot⟩:M_).add (i*3)).add 1)=As (AI FG s.2.1)/\W.cell? (((⟨b,off,spot⟩:M_).add (i*3)).add 2)=As (AI FG s.2.2):=fun i fT=>by
    obtain⟨cs',h2,h3⟩:=hi i (by omega);obtain⟨_,ym,hat⟩:=World.cells?_some h2;match cs',ym with
    | [c0,c1,c2],_=>
    obtain⟨y0,y1,y2,k,_,_,t0,t1,t2⟩:=trod_struct3 Tryz.underlying185 h3;obtain⟨n0,rfl,q0⟩:=rA Iv (show H' enc Bs W 0 (fun _=>GO) GO k 5 [c0]=As y0 from t0);obtain⟨n1,rfl,q1⟩:=rA Iv (show H' enc Bs W 0 (fun _=>GO) GO k 5 [c1]=As y1 from t1);obtain⟨n2,rfl,q2⟩:=rA Iv (show H' enc Bs W 0 (fun _=>GO) GO k 5 [c2]=As y2 from t2);have g0:=hat 0 (by decide);have g1:=hat 1 (by decide);have g2:=hat 2 (by decide);refine⟨(n0,n1,n2),⟨q0,q1,q2⟩,?_,g1,g2⟩;have e:∀ A:M_,A.add 0=A:=fun A=>by simp[Addr.add]
    rwa[e]at g0
   have hspot:spot=none:=by obtain⟨s,_,g0,_⟩:=el 0 h1;simpa[Addr.add]using World.cell?_spot g0
   subst hspot;have hb:b<W.heap.size:=by
    obtain⟨s,_,g0,_⟩:=el 0 h1;rw[nC]at g0;exact vI g0
   obtain⟨S,hS⟩:=choose_lt (α:=Nat×Nat×Nat) (p:=fun i s=>s.1<256/\s.2.1<256/\s.2.2<256/\W.cell? ⟨b,off+i*3,AF⟩=As (AI FG s.1)/\W.cell? ⟨b,off+i*3+1,AF⟩=As (AI FG s.2.1)/\W.cell? ⟨b,off+i*3+2,AF⟩=As (AI FG s.2.2)) (n:=len) (fun i fT=>by
    obtain⟨s,⟨q0,q1,q2⟩,g0,g1,g2⟩:=el i fT;rw[nC]at g0 g1 g2;rw[nC]at g1 g2
    exact⟨s,q0,q1,q2,g0,g1,g2⟩)
   refine⟨(DS len).map S,.inr (.inr ⟨b,off,cap,by simp,hb,by simpa using hl,?_,fun i s TK=>?_⟩),by simpa using Tt⟩
   ·intro e
    have:=congrArg List.length e;simp at this;omega
   ·simp only[aN,Option.map_eq_some_iff,Ob]at TK
    obtain⟨k,⟨hk,rfl⟩,rfl⟩:=TK;simp at hk ⊢;exact hS i hk
end
end
section
open Go Go.RowKit
section
variable {κ:Type} [DecidableEq κ]
def bQ (key:Nat->κ):Nat->List κ
 | 0=>[]
 | n+1=>if key n∈bQ key n then bQ key n else bQ key n++ [key n]
def dC (key:Nat->κ) (n s:Nat):Nat:=(bQ key n).idxOf (key s)
def dK (key:Nat->κ) (n:Nat):Nat:=(bQ key n).length
theorem mem_keys {key:Nat->κ} {x:κ} :∀ {n:Nat},x∈bQ key n↔ ∃ s,s<n/\key s=x
 | 0=>by simp[bQ]
 | n+1=>by
  rw[bQ];split
  ·rename_i h
   rw[mem_keys];constructor
   ·rintro⟨s,h1,h2⟩;exact⟨s,by omega,h2⟩
   ·rintro⟨s,h1,h2⟩
    by_cases e:s=n
    ·subst e
     exact mem_keys.1 (h2▸h)
    ·exact⟨s,by omega,h2⟩
  ·rw[IT,mem_keys,Lw]
   constructor
   ·rintro(⟨s,h1,h2⟩ | h)
    ·exact⟨s,by omega,h2⟩
    ·exact⟨n,by omega,h.symm⟩
   ·rintro⟨s,h1,h2⟩
    by_cases e:s=n
    ·subst e;exact .inr h2.symm
    ·exact .inl ⟨s,by omega,h2⟩
theorem lW (key:Nat->κ):∀ n,(bQ key n).Nodup
 | 0=>List.nodup_nil
 | n+1=>by
  rw[bQ];split
  ·exact lW key n
  ·rename_i h
   rw[List.nodup_append];refine⟨lW key n,by simp,fun a ha b hb=>?_⟩;rw[Lw.1 hb];exact fun e=>h (e▸ha)
theorem EH {key:Nat→κ} {m:Nat} :∀ {n:Nat},m≤n→∃ r,bQ key n=bQ key m++r
  | 0, h => ⟨[], by obtain rfl : m = 0 := by omega
                    simp⟩
  | n + 1, h => by
    by_cases e : m = n + 1
    · exact ⟨[], by rw [e]; simp⟩
    · obtain ⟨r, hr⟩ := EH (key := key) (m := m) (n := n) (by omega)
      rw[bQ];split
      · exact⟨r,hr⟩
      · exact⟨r++ [key n],by rw[hr,List.append_assoc]⟩
theorem rB (key:Nat->κ):∀ n,dK key n<=n
 | 0=>aF _
 | n+1=>by
  have h:=rB key n;unfold dK at h ⊢;rw[bQ];split
  ·omega
  ·rw[aJ,List.length_singleton];omega
theorem wD {key:Nat->κ} {n s:Nat} (hs:s<n):dC key n s<dK key n:=List.idxOf_lt_length_of_mem (mem_keys.2 ⟨s,hs,rfl⟩)
theorem J6 {key:Nat->κ} {n s:Nat} (hs:s<n):(bQ key n)[dC key n s]? =As (key s):=by have h:=wD (key:=key) hs;rw[aB h];congr 1;exact List.getElem_idxOf h
theorem ez {key:Nat->κ} {n s t:Nat} (hs:s<n) (ht:t<n):dC key n s=dC key n t↔key s=key t:=by
 constructor
 ·intro h
  have h1:=J6 (key:=key) hs;rw[h,J6 ht]at h1;exact(Option.some.inj h1).symm
 ·intro h
  unfold dC;rw[h]
theorem UZ {key:Nat->κ} {m n s:Nat} (hs:s<m) (hm:m<=n):dC key n s=dC key m s:=by obtain⟨r,hr⟩:=EH (key:=key) hm;unfold dC;rw[hr,L_,if_pos (mem_keys.2 ⟨s,hs,rfl⟩)]
theorem lC {key:Nat->κ} {n s:Nat} (hs:s<n):dC key n s=if key s∈bQ key s then(bQ key s).idxOf (key s)else(bQ key s).length:=by
 rw[UZ (m:=s+1) (by omega) (by omega)];unfold dC;rw[bQ];split
 ·rfl
 ·rename_i h
  rw[L_,if_neg h];simp
theorem U0 {key:Nat->κ} {n b:Nat} (hb:b<dK key n):∃ s,s<n/\dC key n s=b:=by obtain⟨s,hs,e⟩:=mem_keys.1 (List.getElem_mem (l:=bQ key n) hb);refine⟨s,hs,?_⟩;unfold dC;rw[e];exact(lW key n).idxOf_getElem b hb
end
theorem rC {κ κ':Type} [DecidableEq κ] [DecidableEq κ'] {k:Nat->κ} {k':Nat->κ'} {n:Nat} (h:∀ s t,s<n->t<n->k' s=k' t->k s=k t):dK k n<=dK k' n/\(dK k n=dK k' n->∀ s t,s<n->t<n->k s=k t->k' s=k' t):=by
 -- the numbers by k' of the first ones of each number by k
 have pick:∀ b,b<dK k n->∃ s,s<n/\dC k n s=b:=fun b hb=>U0 hb
 let f:Nat->Nat:=fun b=>if hb:b<dK k n then(pick b hb).choose else 0
 have hf:∀ b,b<dK k n->f b<n/\dC k n (f b)=b:=fun b hb=>by
  show(if hb:b<dK k n then(pick b hb).choose else 0)<n/\dC k n (if hb:b<dK k n then(pick b hb).choose else 0)=b;rw[dif_pos hb];exact(pick b hb).choose_spec
 have inj:∀ a b,a<dK k n->b<dK k n->dC k' n (f a)=dC k' n (f b)->a=b:=fun a b ha hb e=>by
  obtain⟨a1,a2⟩:=hf a ha;obtain⟨b1,b2⟩:=hf b hb;have e1:=h _ _ a1 b1 ((ez a1 b1).1 e);rw[<-a2, <-b2];exact(ez a1 b1).2 e1
 have VI:((DS (dK k n)).map fun b=>dC k' n (f b)).Nodup:=by rw[If,List.pairwise_map];refine(If.1 List.nodup_range).imp_of_mem fun {a b} ha hb hne e=>hne (inj a b (D0.1 ha) (D0.1 hb) e)
 have hlt:∀ x∈(DS (dK k n)).map fun b=>dC k' n (f b),x<dK k' n:=fun x hx=>by
  obtain⟨b,hb,rfl⟩:=IF.1 hx;exact wD (hf b (D0.1 hb)).1
 have hle:dK k n<=dK k' n:=by have:=nw (dK k' n) _ VI hlt;rwa[aP,MY]at this
 refine⟨hle,fun he s t hs ht hk=>?_⟩
 -- each number by k' is that of a first one
 have cover:∀ x,x<dK k' n->∃ b,b<dK k n/\dC k' n (f b)=x:=fun x hx=>by
  refine Classical.byContradiction fun hno=>?_
  have ahE:(x::(DS (dK k n)).map fun b=>dC k' n (f b)).Nodup:=List.nodup_cons.2 ⟨fun hm=>by
   obtain⟨b,hb,e⟩:=IF.1 hm
   exact hno ⟨b,D0.1 hb,e⟩,VI⟩
  have:=nw (dK k' n) _ ahE fun y hy=>by
   rcases List.mem_cons.1 hy with rfl | hy
   ·exact hx
   ·exact hlt y hy
  rw[D',aP,MY]at this;omega
 have at':∀ u,u<n->dC k' n (f (dC k n u))=dC k' n u:=fun u hu=>by
  obtain⟨b,hb,e⟩:=cover _ (wD (key:=k') hu);obtain⟨b1,b2⟩:=hf b hb;have e1:=h _ _ b1 hu ((ez b1 hu).1 e);have e2:b=dC k n u:=by rw[<-b2];exact(ez b1 hu).2 e1
  rw[<-e2,e]
 have e1:=at' s hs;have e2:=at' t ht;rw[(ez hs ht).2 hk]at e1;exact(ez hs ht).1 (e1.symm.trans e2)
theorem J7 {l:List Int} (h:qQ l=GO):∀ k,k<l.length->(k:Int)<=l.getD k 0/\l.getD k 0<=255:=by
 unfold qQ at h;rw[List.all_eq_true]at h;intro k;induction k with
 | zero=>
  intro hk;have:=h 0 (by simpa using hk);unfold td mZ at this;simp at this;refine⟨?_,?_⟩<;>simp at* <;>omega
 | succ k ih=>
  intro hk;have h1:=ih (by omega);have:=h (k+1) (by simpa using hk);unfold td mZ at this;rw[if_neg (by omega),Bool.and_eq_true,decide_eq_true_eq,decide_eq_true_eq,Nat.add_sub_cancel]at this
  push_cast
  omega
end
end Go.Proofs.YtjgccapbphadjaaGreatDoor
