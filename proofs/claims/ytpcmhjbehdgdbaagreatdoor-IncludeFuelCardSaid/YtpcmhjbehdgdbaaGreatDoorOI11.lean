/- The law's Made of small steps: its block Z. Printed by wip/gen/made08.py. -/
import Derived.Test.YtpcmhjbehdgdbaaGreatDoorOI10
set_option maxRecDepth 100000
set_option maxHeartbeats 16000000
open Go.Lib (hid)
namespace Go.Proofs.YtpcmhjbehdgdbaaGreatDoor
open Go Go.RowKit Go.Shelf Go.Maps
theorem Tryz.P9:(Tryz.prog.info? 40).map (fun i=>(i.zero,i.size,i.bytes))=some (some (.agg eL),8,80):=by kernel_rfl
def jK (k:Nat) (a b:RX) (i:Nat):List RX:=([a,b].take i).flatMap (dO k)
def cw (base:Nat) (F:Nat->Prop) (w:World) (v:Value) (l:List RX):Prop:=∃ cs:List (Array Value),cs.length=l.length/\w.ownsRow base 40 8 v l.length (bC cs)/\(∀ c∈cs,c.size=8/\∀ u∈c.toList,u.oneCell'=true)/\
 ∀ (i:Nat) (c:Array Value) (t:RX),cs[i]? =some c->l[i]? =some t->aH F w (.agg c) t
theorem cw.nil (base:Nat) (F:Nat->Prop) (w:World):cw base F w (.slice none 0 0) []:=⟨[],rfl,World.ownsRow_nil _ _ _ _,(fun _ h=>nomatch h),fun i c t h=>by simp at h⟩
theorem cw.form {base:Nat} {F:Nat->Prop} {w:World} {v:Value} {l:List RX} (h:cw base F w v l):∃ a c,v=.slice a l.length c:=by obtain⟨cs,h1,h2,h3,h4⟩:=h;exact ownsRow_form h2
theorem cw.below {base:Nat} {F:Nat->Prop} {w w':World} {v:Value} {l:List RX} (h:cw base F w v l) (hF:∀ x,F x->x<w.heap.size) (hk:aa w w'):cw base F w' v l:=by obtain⟨cs,h1,h2,h3,h4⟩:=h;exact⟨cs,h1,ay h2 hk,h3,fun i c t hi ht=>(h4 i c t hi ht).keeps (ae.ai hk fun _ h=>h:ae (· <w.heap.size) w w') hF⟩
theorem cw.node {base:Nat} {F:Nat->Prop} {w:World} {v:Value} {l:List RX} (h:cw base F w v l) (hF:∀ x,F x->x<w.heap.size) (k:Nat) (s:BS) (mn mx:Int):aH (fun x=>x<w.heap.size/\(F x\/base<=x)) w (.agg (aj k s mn mx v)) (.nd k s mn mx l):=by
 obtain⟨cs,h1,h2,h3,h4⟩:=h;rcases h2.2 with⟨rfl,e2⟩ | ⟨g,cap,cur,rfl,e2,e3,e4,e5,_⟩
 ·have hl:l=[]:=List.eq_nil_of_length_eq_zero e2
  subst hl;exact .leaf _ _ _ _ _ _ _ _
 ·have hg:=(h2.lt g rfl).2
  refine .mk k s mn mx l _ g 0 cap (fun i=>.agg (cs.getD i #[])) (fun e=>⟨_,_,by rw[e];rfl⟩) (fun _=>⟨rfl,⟨hg,.inr e2⟩,hg,e4⟩) (fun i t hi=>?_) (fun i t hi=>?_)
  ·have iR:=(List.getElem?_eq_some_iff.1 hi).1
   obtain⟨c,hc⟩:∃ c,cs[i]? =some c:=⟨_,aC (by omega)⟩;refine⟨c,by rw[cq,hc];rfl,fun j u hj=>?_⟩;have:=h2.cells (g:=g) rfl _ _ (im (fun c hc=>(h3 c hc).1) hc hj);rw[Addr.add_mid]at this;rw[Nat.zero_add];simpa using this
  ·have iR:=(List.getElem?_eq_some_iff.1 hi).1
   obtain⟨c,hc⟩:∃ c,cs[i]? =some c:=⟨_,aC (by omega)⟩;have:=h4 i c t hc hi;rw[cq,hc];exact this.mono fun x hx=>⟨hF x hx,.inl hx⟩
theorem cw.app {base:Nat} {F:Nat->Prop} {w w':World} {v v':Value} {l l2:List RX} {cs cs2:List (Array Value)} (hF:∀ x,F x->x<base) (hb:base<=w.heap.size) (h1:cs.length=l.length) (h2:w.ownsRow base 40 8 v l.length (bC cs)) (h3:∀ c∈cs,c.size=8/\∀ u∈c.toList,u.oneCell'=true) (h4:∀ (i:Nat) (c:Array Value) (t:RX),cs[i]? =some c->l[i]? =some t->aH F w (.agg c) t) (g1:cs2.length=l2.length) (g3:∀ c∈cs2,c.size=8/\∀ u∈c.toList,u.oneCell'=true) (g4:∀ (i:Nat) (c:Array Value) (t:RX),cs2[i]? =some c->l2[i]? =some t->aH F w (.agg c) t) (ho:w'.ownsRow base 40 8 v' (l.length+l2.length) (bC cs++bC cs2)) (hg:w.grownBy w' v.ownBlock):cw base F w' v' (l++l2):=by
 have key:∀ (c:Array Value) (t:RX),aH F w (.agg c) t->aH F w' (.agg c) t:=fun c t h=>
  h.keeps (ae.bA hg fun x (hx:F x)=>⟨aw (hF x hx) hb,fun e=>by have:=(h2.lt x e.symm).1;have:=hF x hx;omega⟩) fun x hx=>hx
 refine⟨cs++cs2,by simp[h1,g1],by rw[aQ,lJ];exact ho,fun c hc=>(List.mem_append.1 hc).elim (h3 c) (g3 c),fun i c t hi ht=>?_⟩;rcases Nat.lt_or_ge i l.length with iR | iR
 ·rw[bJ (by omega)]at hi ht
  exact key c t (h4 i c t hi ht)
 ·rw[cZ (by omega)]at hi ht
  rw[h1]at hi;exact key c t (g4 _ c t hi ht)
theorem cw.abB {base:Nat} {F:Nat->Prop} {w w':World} {v v':Value} {l:List RX} {t:RX} {c:Array Value} {cs:List (Array Value)} (hF:∀ x,F x->x<base) (hb:base<=w.heap.size) (h1:cs.length=l.length) (h2:w.ownsRow base 40 8 v l.length (bC cs)) (h3:∀ c∈cs,c.size=8/\∀ u∈c.toList,u.oneCell'=true) (h4:∀ (i:Nat) (c:Array Value) (t:RX),cs[i]? =some c->l[i]? =some t->aH F w (.agg c) t) (g3:c.size=8/\∀ u∈c.toList,u.oneCell'=true) (g4:aH F w (.agg c) t) (ho:w'.ownsRow base 40 8 v' (l.length+1) (bC cs++c.toList)) (hg:w.grownBy w' v.ownBlock):cw base F w' v' (l++ [t]):=by
 refine cw.app (cs2:=[c]) hF hb h1 h2 h3 h4 rfl (fun x hx=>by simp at hx;rw[hx];exact g3) (fun i x y hi hy=>?_) (by rw[show bC [c]=c.toList by unfold bC;simp];exact ho) hg;have hl:=(List.getElem?_eq_some_iff.1 hi).1;obtain rfl:i=0:=by simpa using hl
 cases hi
 cases hy
 exact g4
theorem cw.elem {base:Nat} {F:Nat->Prop} {w:World} {a:Option Addr} {n cap:Nat} {l:List RX} (h:cw base F w (.slice a n cap) l) {i:Nat} {t:RX} (hi:l[i]? =some t): ∃ g p' c',a=some ⟨g,0,none⟩/\n=l.length/\n<=cap/\base<=g/\g<w.heap.size/\ (w.cell? ⟨g,i*8,none⟩=some (.int .u8 t.kind)/\w.cell? ⟨g,i*8+1,none⟩=some (.int .u64 (wd t.set 0).toNat)/\w.cell? ⟨g,i*8+2,none⟩=some (.int .u64 (wd t.set 1).toNat)/\w.cell? ⟨g,i*8+3,none⟩=some (.int .u64 (wd t.set 2).toNat)/\w.cell? ⟨g,i*8+4,none⟩=some (.int .u64 (wd t.set 3).toNat)/\w.cell? ⟨g,i*8+5,none⟩=some (.int .i64 t.mn)/\w.cell? ⟨g,i*8+6,none⟩=some (.int .i64 t.mx)/\w.cell? ⟨g,i*8+7,none⟩=some (.slice p' t.subs.length c'))/\ aH F w (.agg (aj t.kind t.set t.mn t.mx (.slice p' t.subs.length c'))) t:=by
 obtain⟨cs,h1,h2,h3,h4⟩:=h;have iR:=(List.getElem?_eq_some_iff.1 hi).1;obtain⟨c,hc⟩:∃ c,cs[i]? =some c:=⟨_,aC (by omega)⟩;have hr:=h4 i c t hc hi;obtain⟨p',c',e⟩:=hr.form;injection e with e
 subst e;rcases h2.2 with⟨e1,e2⟩ | ⟨g,cap',cur,e1,e2,e3,e4,e5,_⟩
 ·exfalso;omega
 ·injection e1 with a1 a2 a3
  subst a1 a2 a3;have hlt:=h2.lt g rfl;have ce:∀ (j:Nat) (u:Value),(aj t.kind t.set t.mn t.mx (.slice p' t.subs.length c'))[j]? =some u->w.cell? ⟨g,i*8+j,none⟩=some u:=fun j u hj=>by
   have:=h2.cells (g:=g) rfl _ _ (im (fun c hc=>(h3 c hc).1) hc hj);rw[Addr.add_mid]at this;simpa using this
  exact⟨g,p',c',rfl,rfl,e4,hlt.1,hlt.2,⟨ce 0 _ rfl,ce 1 _ rfl,ce 2 _ rfl,ce 3 _ rfl,ce 4 _ rfl,ce 5 _ rfl,ce 6 _ rfl,ce 7 _ rfl⟩,hr⟩
theorem Hc {cs:List (Array Value)} {j:Nat} {u:Value} (h:∀ c∈cs,c.size=8) (hj:(bC cs)[j]? =some u):∃ c,cs[j/8]? =some c/\c[j%8]? =some u:=by have hl:=(List.getElem?_eq_some_iff.1 hj).1;rw[fV h]at hl;have hc:cs[j/8]? =some (cs[j/8]'(by omega)):=aC (by omega);have hs:=h _ (aA hc);have hu:(cs[j/8]'(by omega))[j%8]? =some ((cs[j/8]'(by omega))[j%8]'(by omega)):=Array.getElem?_eq_getElem (by omega);have:=im h hc hu;rw[show j/8*8+j%8=j by omega,hj]at this;exact⟨_,hc,by rw[hu, <-Option.some.inj this]⟩
theorem aH.agi {F:Nat->Prop} {w:World} {k n c:Nat} {s:BS} {mn mx:Int} {p:Option Addr} {l:List RX} (h:aH F w (.agg (aj k s mn mx (.slice p n c))) (.nd k s mn mx l)) (hl:l≠[]): ∃ b off cs,p=some ⟨b,off,none⟩/\F b/\b<w.heap.size/\n=l.length/\cs.length=l.length/\(∀ c∈cs,c.size=8/\∀ u∈c.toList,u.oneCell'=true)/\(∀ (i:Nat) (c:Array Value) (t:RX),cs[i]? =some c->l[i]? =some t->aH F w (.agg c) t)/\∀ (j:Nat) (u:Value),(bC cs)[j]? =some u->w.cell? ⟨b,off+j,none⟩=some u:=by
 obtain⟨t0,ht0⟩:∃ t,l[0]? =some t:=by
  cases l with
  | nil=>exact absurd rfl hl
  | cons x l=>exact⟨x,rfl⟩
 obtain⟨b,off,p',c',rfl,hb,rV,jW,_,_⟩:=h.elem ht0;have hn:n=l.length:=by obtain⟨p2,c2,e⟩:=h.form;simp[aj,RX.subs,RX.kind,RX.set,RX.mn,RX.mx]at e;exact e.2.1
 have key:∀ i:Nat,∃ c:Array Value,∀ t,l[i]? =some t->(c.size=8/\∀ u∈c.toList,u.oneCell'=true)/\aH F w (.agg c) t/\∀ (o:Nat) (u:Value),c[o]? =some u->w.cell? ⟨b,off+i*8+o,none⟩=some u:=fun i=>by
  rcases e:l[i]? with _ | t
  ·exact⟨#[],fun t h=>by cases h⟩
  ·obtain⟨b2,tW,p2,c2,e2,_,_,_,⟨f0,f1,f2,f3,f4,f5,f6,f7⟩,hr⟩:=h.elem e
   cases e2
   refine⟨aj t.kind t.set t.mn t.mx (.slice p2 t.subs.length c2),fun t' ht'=>?_⟩;cases ht';refine⟨cH _ _ _ _ _ _ _,hr,fun o u ho=>?_⟩;have hol:=(Array.getElem?_eq_some_iff.1 ho).1;have h8:(aj t.kind t.set t.mn t.mx (.slice p2 t.subs.length c2)).size=8:=rfl;rw[h8]at hol;have hc:o=0\/o=1\/o=2\/o=3\/o=4\/o=5\/o=6\/o=7:=by omega
   rcases hc with rfl | rfl | rfl | rfl | rfl | rfl | rfl | rfl<;>cases ho<;>assumption
 refine⟨b,off,(List.range l.length).map fun i=>Classical.choose (key i),rfl,hb,rV,hn,by simp,fun c hc=>?_,fun i c t hi ht=>?_,fun j u hj=>?_⟩
 ·obtain⟨i,hi,rfl⟩:=List.mem_map.1 hc
  have iR:=List.mem_range.1 hi;exact(Classical.choose_spec (key i) _ (aC iR)).1
 ·have iR:=(List.getElem?_eq_some_iff.1 ht).1
  rw[bH,List.getElem?_range iR]at hi;cases hi;exact(Classical.choose_spec (key i) t ht).2.1
 ·obtain⟨c,hc,hu⟩:=Hc (fun c hc=>by
   obtain⟨i,hi,rfl⟩:=List.mem_map.1 hc
   exact(Classical.choose_spec (key i) _ (aC (List.mem_range.1 hi))).1.1) hj
  rw[bH]at hc;have iR:j/8<l.length:=by
   rcases Nat.lt_or_ge (j/8) l.length with h | h
   ·exact h
   ·rw[dD (by simpa using h)]at hc;cases hc
  rw[List.getElem?_range iR]at hc;cases hc;have:=(Classical.choose_spec (key (j/8)) _ (aC iR)).2.2 _ _ hu;rw[show off+j/8*8+j%8=off+j by omega]at this;exact this
theorem aH.abC {F:Nat->Prop} {w:World} {k n c:Nat} {s:BS} {mn mx:Int} {p:Option Addr} {t:RX} (h:aH F w (.agg (aj k s mn mx (.slice p n c))) t) (hl:t.subs≠[]): ∃ b off cs,p=some ⟨b,off,none⟩/\F b/\b<w.heap.size/\n=t.subs.length/\cs.length=t.subs.length/\(∀ c∈cs,c.size=8/\∀ u∈c.toList,u.oneCell'=true)/\(∀ (i:Nat) (c:Array Value) (x:RX),cs[i]? =some c->t.subs[i]? =some x->aH F w (.agg c) x)/\∀ (j:Nat) (u:Value),(bC cs)[j]? =some u->w.cell? ⟨b,off+j,none⟩=some u:=by
 obtain⟨p',c',e⟩:=h.form;rw[e]at h;have e7:Value.slice p n c=.slice p' t.subs.length c':=by
  injection e with e
  have:=congrArg (fun a:Array Value=>a[7]?) e;simpa[aj]using this
 injection e7 with a1 a2 a3
 subst a1 a2 a3;cases t with
 | nd k s mn mx l=>exact h.agi hl
theorem lQ (F:Nat->Prop) (k:Nat) (hk:k=3\/k=4) (va vb:Value) (a b:RX) (ha:a.fine) (hb:b.fine) (Rj:a.size<=1000) (ql:b.size<=1000) (w:World) (Zp:∀ x,F x->x<w.heap.size) (hva:aH F w va a) (hvb:aH F w vb b): ag 35 #[.int .u8 k,va,vb] w fun e w'=>∃ u,e=.returned u/\aH (fun x=>x<w'.heap.size/\(F x\/w.heap.size<=x)) w' u (bU k a b)/\aa w w':=by
 obtain⟨iN,sA,iw,iy,iE⟩:=info_parts Tryz.P9;obtain⟨J,hJ⟩:=ah (bU k a b);rw[<-hJ];have HJ:=hid hJ;clear hJ;obtain⟨pa,ca,rfl⟩:=hva.form;obtain⟨pb,cb,rfl⟩:=hvb.form;have HA:=hid hva;have HB:=hid hvb;have FA:=hid ha;have FB:=hid hb;have SA:=hid Rj;have SB:=hid ql;obtain⟨ka,hka⟩:=ah a.kind;obtain⟨na,Tx⟩:=ah a.subs.length;obtain⟨sa,abD⟩:=ah a.set;obtain⟨ma,Qa⟩:=ah a.mn;obtain⟨xa,U6⟩:=ah a.mx;obtain⟨kb,hkb⟩:=ah b.kind;obtain⟨nb,rz⟩:=ah b.subs.length;obtain⟨sb,abE⟩:=ah b.set;obtain⟨mb,tY⟩:=ah b.mn;obtain⟨xb,Fu⟩:=ah b.mx;rw[<-hka, <-Tx, <-abD, <-Qa, <-U6]at HA ⊢;rw[<-hkb, <-rz, <-abE, <-tY, <-Fu]at HB ⊢;have HKA:=hid hka;have HNA:=hid Tx;have HKB:=hid hkb;have VM:=hid rz;clear hva hvb ha hb Rj ql hka Tx abD Qa U6 hkb rz abE tY Fu;unfold aj;go_enter Tryz.func35,Tryz.ntmps35;go_wp2;refine ax ?_;intro V hV;have R0:Hid (aq V (w.heap.size+1+1) eL 40):=by rw[hV];exact hid ((aq.at (aq.new _ _ _) (by simp)).alloc _)
 have L0:Hid (aq V (w.heap.size+1+1+1) #[.int .u8 ka,.int .u64 (wd sa 0).toNat,.int .u64 (wd sa 1).toNat,.int .u64 (wd sa 2).toNat,.int .u64 (wd sa 3).toNat,.int .i64 ma,.int .i64 xa,.slice pa na ca,.int .u8 kb,.int .u64 (wd sb 0).toNat,.int .u64 (wd sb 1).toNat,.int .u64 (wd sb 2).toNat,.int .u64 (wd sb 3).toNat,.int .i64 mb,.int .i64 xb,.slice pb nb cb] 40):=by rw[hV];exact hid (aq.at (aq.new _ _ _) (by simp))
 have X0:Hid (Ext w V):=by rw[hV];exact hid (((((Ext.refl w).alloc _).alloc _).alloc _).alloc _)
 have uH:V.heap.size=w.heap.size+1+1+1+1:=by rw[hV];simp
 have rA:=hid uH;clear hV uH;go_loopw [7,14] (fun u i wr=>∃ j:Nat,j<=2/\i=.int .i64 j/\cw V.heap.size F wr u (jK k a b j)/\ae (· <V.heap.size) V wr) (fun _ i _=>2-(intOf i).toNat);case atStart=>exact⟨0,by omega,rfl,cw.nil _ _ _,ae.refl _ _⟩
 case round=>
  obtain⟨j,hj,rfl,hrow,hx⟩:=hrel;obtain⟨wo,rfl⟩:=ah (wr:World);have gO:=hid hrow;have HX:=hid hx;obtain⟨ru,rc,rfl⟩:=hrow.form;clear hrow hx;by_cases hlt:j<2
  ·have lY:(j:Int)<2:=by omega
   obtain⟨t,kx,nx,sx,mx,xx,px,cx,htj,e0,e1,e2,e3,e4,e5,e6,e7,hT,hkx,Ag,hfx,xn⟩:∃ (t:RX) (kx nx:Nat) (sx:BS) (mx xx:Int) (px:Option Addr) (cx:Nat),[a,b][j]? =some t/\wo.cell? ⟨w.heap.size+1+1+1,j*8,none⟩=some (.int .u8 kx)/\wo.cell? ⟨w.heap.size+1+1+1,j*8+1,none⟩=some (.int .u64 (wd sx 0).toNat)/\wo.cell? ⟨w.heap.size+1+1+1,j*8+2,none⟩=some (.int .u64 (wd sx 1).toNat)/\wo.cell? ⟨w.heap.size+1+1+1,j*8+3,none⟩=some (.int .u64 (wd sx 2).toNat)/\wo.cell? ⟨w.heap.size+1+1+1,j*8+4,none⟩=some (.int .u64 (wd sx 3).toNat)/\wo.cell? ⟨w.heap.size+1+1+1,j*8+5,none⟩=some (.int .i64 mx)/\wo.cell? ⟨w.heap.size+1+1+1,j*8+6,none⟩=some (.int .i64 xx)/\wo.cell? ⟨w.heap.size+1+1+1,j*8+7,none⟩=some (.slice px nx cx)/\aH F w (.agg (aj kx sx mx xx (.slice px nx cx))) t/\kx=t.kind/\nx=t.subs.length/\t.fine/\t.size<=1000:=by
    have LB:=L0.keeps HX L0.lt;have VQ:j=0\/j=1:=by omega
    rcases VQ with rfl | rfl
    ·exact⟨a,ka,na,sa,ma,xa,pa,ca,rfl,LB.cell 0,LB.cell 1,LB.cell 2,LB.cell 3,LB.cell 4,LB.cell 5,LB.cell 6,LB.cell 7,HA,HKA,HNA,FA,SA⟩
    ·exact⟨b,kb,nb,sb,mb,xb,pb,cb,rfl,LB.cell 8,LB.cell 9,LB.cell 10,LB.cell 11,LB.cell 12,LB.cell 13,LB.cell 14,LB.cell 15,HB,HKB,VM,FB,SB⟩
   have dT:jK k a b (j+1)=jK k a b j++dO k t:=by unfold jK;rw[List.take_add_one,htj,List.flatMap_append];simp
   have jg:=hid dT;have HT:=hid hT;have HFX:=hid hfx;have Pd:=hid xn;have Wj:=hid Ag;have U7:=hid hkx;clear htj dT hT hfx xn Ag hkx;go_upto_region 6 with fail
   refine ax ?_;intro W1 hW1;have N1:Hid (aq W1 wo.heap.size (aj kx sx mx xx (.slice px nx cx)) 40):=by rw[hW1];exact hid (aq.new _ _ _)
   have E1:Hid (Ext wo W1):=by rw[hW1];exact hid ((Ext.refl wo).alloc _)
   clear hW1 e0 e1 e2 e3 e4 e5 e6 e7;have hF8:∀ x,x<w.heap.size->x<V.heap.size:=fun x hx=>by have:=rA.out;omega
   have U8:∀ x,F x->x<V.heap.size:=fun x hx=>hF8 x (Zp x hx)
   have eu:=hid (gO.below (fun x hx=>aw (U8 x hx) HX.size) E1.below);have jU:Hid (ae (· <V.heap.size) V W1):=hid (HX.tr (E1.keeps.mono fun x (hx:x<V.heap.size)=>aw hx HX.size));have T1:Hid (aH F W1 (.agg (aj kx sx mx xx (.slice px nx cx))) t):=hid (HT.keeps (X0.keeps.tr (jU.mono hF8)) Zp);have f0:W1.cell? ⟨wo.heap.size,0,none⟩=some (.int .u8 kx):=N1.cell 0;have f1:W1.cell? ⟨wo.heap.size,1,none⟩=some (.int .u64 (wd sx 0).toNat):=N1.cell 1;have f2:W1.cell? ⟨wo.heap.size,2,none⟩=some (.int .u64 (wd sx 1).toNat):=N1.cell 2;have f3:W1.cell? ⟨wo.heap.size,3,none⟩=some (.int .u64 (wd sx 2).toNat):=N1.cell 3;have f4:W1.cell? ⟨wo.heap.size,4,none⟩=some (.int .u64 (wd sx 3).toNat):=N1.cell 4;have f5:W1.cell? ⟨wo.heap.size,5,none⟩=some (.int .i64 mx):=N1.cell 5;have f6:W1.cell? ⟨wo.heap.size,6,none⟩=some (.int .i64 xx):=N1.cell 6;have f7:W1.cell? ⟨wo.heap.size,7,none⟩=some (.slice px nx cx):=N1.cell 7;obtain⟨cs,g1,g2,g3,g4⟩:=eu.out;obtain⟨L,hL⟩:=ah (jK k a b j);have hLs:L.length<=2000:=by
    have q:∀ (l:List RX),(∀ x∈l,x.fine/\x.size<=1000)->l.length<=2->(l.flatMap (dO k)).length<=1000*l.length:=fun l=>by
     induction l with
     | nil=>intro _ _;simp
     | cons x l ih=>
      intro hl h2;have i1:=ih (fun y hy=>hl y (cd _ hy)) (by simp at h2;omega);have i2:=(pF hk (hl x (bL ..)).1).2.1;have i3:=wy (dO k x);have i4:=(hl x (bL ..)).2;rw[List.flatMap_cons,aQ,List.length_cons];omega
    rw[hL]
    have i5:=q ([a,b].take j) (fun x hx=>by
     have:=List.mem_of_mem_take hx;simp at this;rcases this with rfl | rfl
     ·exact⟨FA,SA⟩
     ·exact⟨FB,SB⟩) (by rw[List.length_take];simp;omega)
    have:([a,b].take j).length<=2:=by rw[List.length_take];simp;omega
    unfold jK;omega
   rw[<-hL]at g1 g2 g4 ⊢;obtain⟨ml,uq⟩:=ah L.length;rw[<-uq]at g1 g2 hLs ⊢;have HL:=hid hL;have xR:=hid uq;have G1:=hid g1;have G2:=hid g2;have G3:=hid g3;have G4:=hid g4;have hbase:V.heap.size<=W1.heap.size:=jU.size;clear hL uq g1 g2 g3 g4 eu gO;by_cases hc1:kx=k
   ·have Ja:dO k t=t.subs:=by unfold dO;rw[if_pos (by rw[<-U7.out];exact hc1)]
    have hne:t.subs≠[]:=fun e=>by
     have h1:=(cL t (si HFX)).2.2.2.2.2.2 (by rw[<-U7.out,hc1];exact hk);rw[e]at h1;simp at h1
    obtain⟨b2,tW,cs2,e2,q1,q2,q3,q4,q5,q6,q7⟩:=T1.out.abC hne;subst e2;have amO:nx<=1000:=by have:=zf t;have:=wy t.subs;have:=Pd.out;omega
    have Q4:=hid q4;have Q5:=hid q5;have Q6:=hid q6;have Q7:=hid q7;have Xn:=hid Ja;have HQ3:=hid q3;have hb1:((kx:Int)==k)=true:=by simp[hc1]
    clear Ja hne q4 q5 q6 q7 q1 q2 q3 hc1;go_wp2_with (at_builtin;refine Hid.out ?_);refine hid ?_;refine fq rfl (.tmp 27) (.tmp 29) 38 rfl V.heap.size 40 iN (.agg eL) 8 80 Tryz.underlying38 sA iw iy iE rfl (by decide) (.slice ru ml rc) ml (bC cs) rfl G2 ⟨b2,tW,none⟩ nx cx (bC cs2) rfl (fun o u ho=>by rw[Addr.add_mid];exact Q7 o u ho) (by rw[fV (fun c hc=>(Q5.out c hc).1),Q4.out,HQ3.out]) (fun u hu=>by obtain⟨c,hc,hu⟩:=List.mem_flatMap.1 hu;exact(Q5 c hc).2 u hu) (by unfold maxLen;omega) (by omega) hbase ?_;intro v' w' ho hg kh;have K9:Hid (ae (· <V.heap.size) V w'):=hid (jU.tr (ae.bA hg fun x (hx:x<V.heap.size)=>⟨aw hx hbase,fun e=>by have:=(G2.lt x e.symm).1;omega⟩));have R9:Hid (cw V.heap.size F w' v' (L++t.subs)):=hid (cw.app (cs:=cs) (cs2:=cs2) U8 hbase (by rw[<-xR.out];exact G1) (by rw[<-xR.out];exact G2) G3 G4 Q4 Q5 Q6 (by rw[<-xR.out, <-HQ3.out];exact ho) hg);obtain⟨Zq,Zr,rfl⟩:=ownsRow_form ho;clear ho hg kh;go_wp2;go_roundw;case rel=>
     refine⟨j+1,by omega,by go_num,?_,K9⟩;rw[jg.out,Xn.out, <-HL.out];exact R9
    case measure=>simp[intOf];omega
   ·have hb1:((kx:Int)==k)=false:=by simp;omega
    by_cases hk3:k=3
    ·by_cases hx1:kx=1
     ·have Ja:dO k t=[]:=by unfold dO;rw[if_neg (by rw[<-U7.out];exact hc1),if_pos ⟨hk3,by rw[<-U7.out];exact hx1⟩]
      have Xn:=hid Ja;have hb3:((k:Int)==3)=true:=by simp[hk3]
      have hb5:((kx:Int)==1)=true:=by simp[hx1]
      have R9:Hid (cw V.heap.size F W1 (.slice ru ml rc) L):=hid ⟨cs,by rw[<-xR.out];exact G1,by rw[<-xR.out];exact G2,G3,G4⟩;clear Ja hx1 hk3 hc1;go_wp2;go_roundw;case rel=>
       refine⟨j+1,by omega,by go_num,?_,jU⟩;rw[jg.out,Xn.out, <-HL.out,List.append_nil];exact R9
      case measure=>simp[intOf];omega
     ·have hc2:¬ (k=3/\kx=1):=fun h=>hx1 h.2
      have hb3:((k:Int)==3)=true:=by simp[hk3]
      have hb5:((kx:Int)==1)=false:=by simp;omega
      clear hk3;have Ja:dO k t=[t]:=by unfold dO;rw[if_neg (by rw[<-U7.out];exact hc1),if_neg (by rw[<-U7.out];exact hc2)]
      have Xn:=hid Ja;clear Ja;go_wp2_with (at_builtin;refine Hid.out ?_);refine hid ?_;refine gP ?_;intro W2 hW2;have B2:Hid (aq W2 W1.heap.size (aj kx sx mx xx (.slice px nx cx)) 40):=by rw[hW2];exact hid (aq.new _ _ _)
      have E2:Hid (Ext W1 W2):=by rw[hW2];exact hid ((Ext.refl _).alloc _)
      clear hW2;have hs2:W1.heap.size<=W2.heap.size:=E2.size;refine fq rfl (.tmp 18) (.tmp 20) 38 rfl V.heap.size 40 iN (.agg eL) 8 80 Tryz.underlying38 sA iw iy iE rfl (by decide) (.slice ru ml rc) ml (bC cs) rfl (ay G2 E2.below) ⟨W1.heap.size,0,none⟩ 1 1 (aj kx sx mx xx (.slice px nx cx)).toList rfl (bQ B2) rfl (cH _ _ _ _ _ _ _).2 (by unfold maxLen;omega) (by omega) (by omega) ?_;intro v' w' ho hg kh;have K9:Hid (ae (· <V.heap.size) V w'):=hid ((jU.tr (E2.keeps.mono fun x (hx:x<V.heap.size)=>aw hx hbase)).tr (ae.bA hg fun x (hx:x<V.heap.size)=>⟨by omega,fun e=>by have:=(G2.lt x e.symm).1;omega⟩));have R9:Hid (cw V.heap.size F w' v' (L++ [t])):=hid (cw.abB (cs:=cs) (c:=aj kx sx mx xx (.slice px nx cx)) U8 (by omega) (by rw[<-xR.out];exact G1) (by rw[<-xR.out];exact ay G2 E2.below) G3 (fun i c y hi hy=>(G4 i c y hi hy).keeps E2.keeps fun x hx=>aw (U8 x hx) hbase) (cH _ _ _ _ _ _ _) (T1.out.keeps E2.keeps fun x hx=>aw (U8 x hx) hbase) (by rw[<-xR.out];exact ho) hg);obtain⟨Zq,Zr,rfl⟩:=ownsRow_form ho;clear ho hg kh;go_wp2;go_roundw;case rel=>
       refine⟨j+1,by omega,by go_num,?_,K9⟩;rw[jg.out,Xn.out, <-HL.out];exact R9
      case measure=>simp[intOf];omega
    ·have hc2:¬ (k=3/\kx=1):=fun h=>hk3 h.1
     have hb3:((k:Int)==3)=false:=by simp;omega
     have Ja:dO k t=[t]:=by unfold dO;rw[if_neg (by rw[<-U7.out];exact hc1),if_neg (by rw[<-U7.out];exact hc2)]
     have Xn:=hid Ja;clear Ja;go_wp2_with (at_builtin;refine Hid.out ?_);refine hid ?_;refine gP ?_;intro W2 hW2;have B2:Hid (aq W2 W1.heap.size (aj kx sx mx xx (.slice px nx cx)) 40):=by rw[hW2];exact hid (aq.new _ _ _)
     have E2:Hid (Ext W1 W2):=by rw[hW2];exact hid ((Ext.refl _).alloc _)
     clear hW2;have hs2:W1.heap.size<=W2.heap.size:=E2.size;refine fq rfl (.tmp 18) (.tmp 20) 38 rfl V.heap.size 40 iN (.agg eL) 8 80 Tryz.underlying38 sA iw iy iE rfl (by decide) (.slice ru ml rc) ml (bC cs) rfl (ay G2 E2.below) ⟨W1.heap.size,0,none⟩ 1 1 (aj kx sx mx xx (.slice px nx cx)).toList rfl (bQ B2) rfl (cH _ _ _ _ _ _ _).2 (by unfold maxLen;omega) (by omega) (by omega) ?_;intro v' w' ho hg kh;have K9:Hid (ae (· <V.heap.size) V w'):=hid ((jU.tr (E2.keeps.mono fun x (hx:x<V.heap.size)=>aw hx hbase)).tr (ae.bA hg fun x (hx:x<V.heap.size)=>⟨by omega,fun e=>by have:=(G2.lt x e.symm).1;omega⟩));have R9:Hid (cw V.heap.size F w' v' (L++ [t])):=hid (cw.abB (cs:=cs) (c:=aj kx sx mx xx (.slice px nx cx)) U8 (by omega) (by rw[<-xR.out];exact G1) (by rw[<-xR.out];exact ay G2 E2.below) G3 (fun i c y hi hy=>(G4 i c y hi hy).keeps E2.keeps fun x hx=>aw (U8 x hx) hbase) (cH _ _ _ _ _ _ _) (T1.out.keeps E2.keeps fun x hx=>aw (U8 x hx) hbase) (by rw[<-xR.out];exact ho) hg);obtain⟨Zq,Zr,rfl⟩:=ownsRow_form ho;clear ho hg kh;go_wp2;go_roundw;case rel=>
      refine⟨j+1,by omega,by go_num,?_,K9⟩;rw[jg.out,Xn.out, <-HL.out];exact R9
     case measure=>simp[intOf];omega
  ·obtain rfl:j=2:=by omega
   have fC:¬ ((2:Int)<2):=by omega
   have X9:Hid (aa w wo):=hid (X0.below.trans (HX.mono fun x (hx:x<w.heap.size)=>by have:=rA.out;show x<V.heap.size;omega:ae (· <w.heap.size) V wo).below);have R9:=hid (R0.keeps HX R0.lt);have UI:jK k a b 2=dO k a++dO k b:=by unfold jK;simp
   have VQ:bU k a b=eY k (jK k a b 2):=by rw[UI];rfl
   have mD:Hid (J=eY k (jK k a b 2)):=hid (HJ.trans VQ);clear HJ;obtain⟨L,hL⟩:=ah (jK k a b 2);rw[<-hL]at gO mD ⊢;clear UI VQ hL HA HB FA FB SA SB;have hwV:w.heap.size+1+1<V.heap.size:=by have:=rA.out;omega
   match L,gO,mD with
   | [],gO,mD=>
    simp only[List.length_nil];go_wp2_with (refine wpList_store_row rfl 40 (.tmp 6) (.tmp 44) rfl (w.heap.size+1+1) #[.int .u8 1,.int .u64 0,.int .u64 0,.int .u64 0,.int .u64 0,.int .i64 0,.int .i64 0,.slice none 0 0] rfl rfl 40 eL R9 (by kernel_rfl) rfl (by simp[Value.oneCell']) ?_;refine Hid.out ?_);refine hid ?_;obtain⟨V3,cD⟩:=ah (wo.setRow (w.heap.size+1+1) #[.int .u8 1,.int .u64 0,.int .u64 0,.int .u64 0,.int .u64 0,.int .i64 0,.int .i64 0,.slice none 0 0]);rw[<-cD];have RR:Hid (aq V3 (w.heap.size+1+1) #[.int .u8 1,.int .u64 0,.int .u64 0,.int .u64 0,.int .u64 0,.int .i64 0,.int .i64 0,.slice none 0 0] 40):=by rw[cD];exact hid R9.setRow
    have XX:aa w V3:=by rw[cD];exact X9.trans ((bn wo (w.heap.size+1+1) _).mono fun x (hx:x<w.heap.size)=>by show x≠_;omega:ae (· <w.heap.size) wo _).below
    clear cD;go_wp2;obtain⟨m0,m1,m2,m3,m4,m5,m6,m7⟩:=RR.eight;refine bodyPost_ret (v:=.agg #[.int .u8 1,.int .u64 0,.int .u64 0,.int .u64 0,.int .u64 0,.int .i64 0,.int .i64 0,.slice none 0 0]) (by simp[results,Tryz.results35,go_sem,m0,m1,m2,m3,m4,m5,m6,m7]) rfl ⟨_,rfl,?_,XX⟩;have e:=aH.leaf (fun x=>x<V3.heap.size/\(F x\/w.heap.size<=x)) V3 1 0 0 0 none 0;rw[eG]at e;rw[mD.out];exact e
   | [x],gO,mD=>
    simp only[List.length_cons,List.length_nil,Nat.zero_add];obtain⟨g,p',c',e1,_,q2,q3,q4,⟨f0,f1,f2,f3,f4,f5,f6,f7⟩,hr⟩:=gO.elem (i:=0) (t:=x) rfl;subst e1;simp only[Nat.zero_mul,Nat.zero_add]at f0 f1 f2 f3 f4 f5 f6 f7;have HR:=hid hr;obtain⟨k1,sP⟩:=ah x.kind;obtain⟨nl,gW⟩:=ah x.subs.length;obtain⟨st,hst⟩:=ah x.set;obtain⟨tn,jP⟩:=ah x.mn;obtain⟨tx,lO⟩:=ah x.mx;rw[<-sP]at f0 HR;rw[<-hst]at f1 f2 f3 f4 HR;rw[<-jP]at f5 HR;rw[<-lO]at f6 HR;rw[<-gW]at f7 HR;clear hr sP gW hst jP lO;go_wp2_with (refine wpList_store_row rfl 40 (.tmp 6) (.tmp 49) rfl (w.heap.size+1+1) (aj k1 st tn tx (.slice p' nl c')) rfl rfl 40 eL R9 (cO _ _ _ _ _) rfl (j9 _ _ _ _ _ _ _) ?_;refine Hid.out ?_);refine hid ?_;obtain⟨V3,cD⟩:=ah (wo.setRow (w.heap.size+1+1) (aj k1 st tn tx (.slice p' nl c')));rw[<-cD];have RR:Hid (aq V3 (w.heap.size+1+1) (aj k1 st tn tx (.slice p' nl c')) 40):=by rw[cD];exact hid R9.setRow
    have KK:ae (· ≠w.heap.size+1+1) wo V3:=by rw[cD];exact bn _ _ _
    clear cD;go_wp2;obtain⟨m0,m1,m2,m3,m4,m5,m6,m7⟩:=RR.eight;refine bodyPost_ret (v:=.agg (aj k1 st tn tx (.slice p' nl c'))) (by simp[results,Tryz.results35,aj,go_sem,m0,m1,m2,m3,m4,m5,m6,m7]) rfl ⟨_,rfl,?_,X9.trans (KK.mono fun x (hx:x<w.heap.size)=>by show x≠_;omega:ae (· <w.heap.size) wo V3).below⟩;rw[mD.out];exact(HR.keeps (KK.mono fun y (hy:y<w.heap.size)=>by show y≠_;omega) Zp).mono fun y hy=>⟨by have:=Zp y hy;have:=KK.size;have:=R9.lt;omega,.inl hy⟩
   | x::y::l,gO,mD=>
    obtain⟨ml,uq⟩:=ah ((x::y::l).length);have yB:2<=ml:=by rw[uq];simp
    rw[<-uq];rw[<-uq]at gO;clear uq;have hd1:((ml:Int)==0)=false:=by simp;omega
    have WE:((ml:Int)==1)=false:=by simp;omega
    go_wp2_with (refine wpList_store_row rfl 40 (.tmp 6) (.tmp 52) rfl (w.heap.size+1+1) #[.int .u8 k,.int .u64 0,.int .u64 0,.int .u64 0,.int .u64 0,.int .i64 0,.int .i64 0,.slice ru ml rc] rfl rfl 40 eL R9 (by kernel_rfl) rfl (by simp[Value.oneCell']) ?_;refine Hid.out ?_)
    refine hid ?_;obtain⟨V3,cD⟩:=ah (wo.setRow (w.heap.size+1+1) #[.int .u8 k,.int .u64 0,.int .u64 0,.int .u64 0,.int .u64 0,.int .i64 0,.int .i64 0,.slice ru ml rc]);rw[<-cD];have RR:Hid (aq V3 (w.heap.size+1+1) #[.int .u8 k,.int .u64 0,.int .u64 0,.int .u64 0,.int .u64 0,.int .i64 0,.int .i64 0,.slice ru ml rc] 40):=by rw[cD];exact hid R9.setRow
    have KK:ae (· ≠w.heap.size+1+1) wo V3:=by rw[cD];exact bn _ _ _
    clear cD;go_wp2;obtain⟨m0,m1,m2,m3,m4,m5,m6,m7⟩:=RR.eight;refine bodyPost_ret (v:=.agg #[.int .u8 k,.int .u64 0,.int .u64 0,.int .u64 0,.int .u64 0,.int .i64 0,.int .i64 0,.slice ru ml rc]) (by simp[results,Tryz.results35,go_sem,m0,m1,m2,m3,m4,m5,m6,m7]) rfl ⟨_,rfl,?_,X9.trans (KK.mono fun x (hx:x<w.heap.size)=>by show x≠_;omega:ae (· <w.heap.size) wo V3).below⟩;obtain⟨cs,g1,g2,g3,g4⟩:=gO.out;have hrow:cw V.heap.size F V3 (.slice ru ml rc) (x::y::l):=⟨cs,g1,au g2 KK fun z hz=>by have:=(g2.lt z hz).1;show z≠_;omega,g3,fun i c t hi ht=>(g4 i c t hi ht).keeps (KK.mono fun y (hy:y<w.heap.size)=>by show y≠_;omega) Zp⟩;have e:=(hrow.node (fun x hx=>by have:=Zp x hx;have:=KK.size;have:=R9.lt;omega) k 0 0 0).mono fun y hy=>(⟨hy.1,hy.2.imp id fun h=>by omega⟩:y<V3.heap.size/\(F y\/w.heap.size<=y))
    rw[eG]at e;rw[mD.out];exact e
def iC (w:World) (v:Value) (l:List (Nat×Nat×Nat)):Prop:=(v=.slice none 0 0/\l=[])\/(∃ ad c,v=.slice (some ad) 0 c/\l=[])\/
 ∃ b off c,v=.slice (some ⟨b,off,none⟩) l.length c/\b<w.heap.size/\l.length<=c/\l≠[]/\∀ (i:Nat) (s:Nat×Nat×Nat),l[i]? =some s->s.1<256/\s.2.1<256/\s.2.2<256/\w.cell? ⟨b,off+i*3,none⟩=some (.int .u8 s.1)/\w.cell? ⟨b,off+i*3+1,none⟩=some (.int .u8 s.2.1)/\w.cell? ⟨b,off+i*3+2,none⟩=some (.int .u8 s.2.2)
theorem iC.below {w w':World} {v:Value} {l:List (Nat×Nat×Nat)} (h:iC w v l) (hk:aa w w'):iC w' v l:=by
 rcases h with h | h | ⟨b,off,c,hv,hb,hc,hl,h⟩
 ·exact .inl h
 ·exact .inr (.inl h)
 ·have hcell:∀ j,w'.cell? ⟨b,j,none⟩=w.cell? ⟨b,j,none⟩:=fun j=>(ae.ai hk fun _ h=>h:ae (· <w.heap.size) w w').cell (p:=⟨b,j,none⟩) hb
  refine .inr (.inr ⟨b,off,c,hv,aw hb hk.size,hc,hl,fun i s hi=>?_⟩);rw[hcell,hcell,hcell];exact h i s hi
theorem Hd {cs:List (Array Value)} {i:Nat} (h:∀ c∈cs,c.size=8) (hi:i<cs.length) (u0 u1 u2 u3 u4 u5 u6 u7:Value): ((((((((bC cs).set (i*8) u0).set (i*8+1) u1).set (i*8+2) u2).set (i*8+3) u3).set (i*8+4) u4).set (i*8+5) u5).set (i*8+6) u6).set (i*8+7) u7=bC (cs.set i #[u0,u1,u2,u3,u4,u5,u6,u7]):=by
 have hlen:=fV h;have h':∀ c∈cs.set i #[u0,u1,u2,u3,u4,u5,u6,u7],c.size=8:=fun c hc=>by
  rcases List.mem_or_eq_of_mem_set hc with hc | rfl
  ·exact h c hc
  ·rfl
 have abG:=fV h';rw[List.length_set]at abG;apply List.ext_getElem?;intro j;rcases Nat.lt_or_ge j (cs.length*8)with hj | hj
 ·obtain⟨q,hq⟩:∃ q,(cs.set i #[u0,u1,u2,u3,u4,u5,u6,u7])[j/8]? =some q:=⟨_,aC (by rw[List.length_set];omega)⟩
  have hs:=h' _ (aA hq);obtain⟨u,hu⟩:∃ u,q[j%8]? =some u:=⟨_,Array.getElem?_eq_getElem (show j%8<q.size by omega)⟩;have hr:=im h' hq hu;rw[show j/8*8+j%8=j by omega]at hr;rw[hr];rw[List.getElem?_set]at hq;by_cases he:i=j/8
  ·rw[if_pos he,if_pos hi]at hq
   cases hq
   have hm:j%8=0\/j%8=1\/j%8=2\/j%8=3\/j%8=4\/j%8=5\/j%8=6\/j%8=7:=by omega
   simp only[List.getElem?_set,List.length_set,hlen];rcases hm with hm | hm | hm | hm | hm | hm | hm | hm<;>rw[hm]at hu<;>simp at hu<;>subst hu<;>(repeat (first | rw[if_neg (by omega)] | rw[if_pos (by omega)]))
  ·rw[if_neg he]at hq
   have hr2:=im h hq hu;rw[show j/8*8+j%8=j by omega]at hr2;simp only[List.getElem?_set]
   repeat rw[if_neg (by omega)]
   exact hr2
 ·rw[dD (by simp only[List.length_set];omega),dD (by omega)]
theorem bT.fresh {base:Nat} {w w':World} {v':Value} {l:List RX} {cs:List (Array Value)} {k:Nat} {c:Array Value} {t:RX} (hk:k<=l.length) (h1:cs.length=l.length) (h3:∀ c∈cs,c.size=8/\∀ u∈c.toList,u.oneCell'=true) (h4:∀ (i:Nat) (c:Array Value) (t:RX),cs[i]? =some c->l[i]? =some t->aH (fun x=>base<=x/\x<w.heap.size) w (.agg c) t) (g3:c.size=8/\∀ u∈c.toList,u.oneCell'=true) (g4:aH (fun x=>base<=x/\x<w.heap.size) w (.agg c) t) (ho:w'.ownsRow base 40 8 v' (k+1) (bC (cs.take k)++c.toList)) (hx:aa w w') (hv:v'.ownBlock=some w.heap.size):bT base w' v' (l.take k++ [t]):=by
 have hlk:(l.take k++ [t]).length=k+1:=by rw[aQ,List.length_take,Nat.min_eq_left hk];rfl
 have Mw:(cs.take k).length=k:=by rw[List.length_take];omega
 have key:∀ (c:Array Value) (t:RX),aH (fun x=>base<=x/\x<w.heap.size) w (.agg c) t->aH (fun x=>base<=x/\x<w'.heap.size/\v'.ownBlock≠some x) w' (.agg c) t:=fun c t h=>
  (h.keeps (ae.ai hx fun _ h=>h:ae (· <w.heap.size) w w') fun _ h=>h.2).mono fun x h=>⟨h.1,aw h.2 hx.size,fun e=>by rw[hv]at e;cases e;exact Nat.lt_irrefl _ h.2⟩
 refine⟨cs.take k++ [c],by rw[hlk,aQ,Mw];rfl,?_,fun x hx=>?_,fun i x y hi hy=>?_⟩
 ·rw[hlk,lJ,show bC [c]=c.toList by unfold bC;simp];exact ho
 ·rcases List.mem_append.1 hx with hx | hx
  ·exact h3 x (List.mem_of_mem_take hx)
  ·simp at hx;rw[hx];exact g3
 ·rcases Nat.lt_or_ge i k with hik | hik
  ·rw[bJ (by omega),List.getElem?_take,if_pos hik]at hi
   rw[bJ (by rw[List.length_take];omega),List.getElem?_take,if_pos hik]at hy;exact key x y (h4 i x y hi hy)
  ·have hl:=(List.getElem?_eq_some_iff.1 hy).1
   rw[hlk]at hl;obtain rfl:i=k:=by omega
   rw[cZ (by omega),Mw,Nat.sub_self]at hi;rw[cZ (by rw[List.length_take];omega),List.length_take,Nat.min_eq_left hk,Nat.sub_self]at hy;cases hi;cases hy;exact key _ _ g4
theorem bT.turned {base g cap:Nat} {w:World} {l:List RX} {cs:List (Array Value)} {i:Nat} {t:RX} {u0 u1 u2 u3 u4 u5 u6 u7:Value} (hi:i<l.length) (h1:cs.length=l.length) (h2:w.ownsRow base 40 8 (.slice (some ⟨g,0,none⟩) l.length cap) l.length (bC cs)) (h3:∀ c∈cs,c.size=8/\∀ u∈c.toList,u.oneCell'=true) (h4:∀ (i:Nat) (c:Array Value) (t:RX),cs[i]? =some c->l[i]? =some t->aH (fun x=>base<=x/\x<w.heap.size/\x≠g) w (.agg c) t) (g3:∀ u∈ [u0,u1,u2,u3,u4,u5,u6,u7],u.oneCell'=true) (g4:aH (fun x=>base<=x/\x<w.heap.size/\x≠g) w (.agg #[u0,u1,u2,u3,u4,u5,u6,u7]) t): bT base ((((((((w.setCell ⟨g,i*8,none⟩ u0).setCell ⟨g,i*8+1,none⟩ u1).setCell ⟨g,i*8+2,none⟩ u2).setCell ⟨g,i*8+3,none⟩ u3).setCell ⟨g,i*8+4,none⟩ u4).setCell ⟨g,i*8+5,none⟩ u5).setCell ⟨g,i*8+6,none⟩ u6).setCell ⟨g,i*8+7,none⟩ u7) (.slice (some ⟨g,0,none⟩) l.length cap) (l.set i t):=by
 have hk:ae (· ≠g) w ((((((((w.setCell ⟨g,i*8,none⟩ u0).setCell ⟨g,i*8+1,none⟩ u1).setCell ⟨g,i*8+2,none⟩ u2).setCell ⟨g,i*8+3,none⟩ u3).setCell ⟨g,i*8+4,none⟩ u4).setCell ⟨g,i*8+5,none⟩ u5).setCell ⟨g,i*8+6,none⟩ u6).setCell ⟨g,i*8+7,none⟩ u7):=
  ((((((((ae.refl _ _).setCell (fun e=>e rfl) _).setCell (fun e=>e rfl) _).setCell (fun e=>e rfl) _).setCell (fun e=>e rfl) _).setCell (fun e=>e rfl) _).setCell (fun e=>e rfl) _).setCell (fun e=>e rfl) _).setCell (fun e=>e rfl) _
 have key:∀ (c:Array Value) (t:RX),aH (fun x=>base<=x/\x<w.heap.size/\x≠g) w (.agg c) t->aH (fun x=>base<=x/\x<((((((((w.setCell ⟨g,i*8,none⟩ u0).setCell ⟨g,i*8+1,none⟩ u1).setCell ⟨g,i*8+2,none⟩ u2).setCell ⟨g,i*8+3,none⟩ u3).setCell ⟨g,i*8+4,none⟩ u4).setCell ⟨g,i*8+5,none⟩ u5).setCell ⟨g,i*8+6,none⟩ u6).setCell ⟨g,i*8+7,none⟩ u7).heap.size/\(Value.slice (some ⟨g,0,none⟩) l.length cap).ownBlock≠some x) _ (.agg c) t:=fun c t h=>
  (h.keeps hk fun x hx=>hx.2.2).mono fun x hx=>⟨hx.1,aw hx.2.1 hk.size,fun e=>by cases e;exact hx.2.2 rfl⟩
 have r0:=(h2.stored (i*8) u0).1;have r1:=(r0.stored (i*8+1) u1).1;have r2:=(r1.stored (i*8+2) u2).1;have r3:=(r2.stored (i*8+3) u3).1;have r4:=(r3.stored (i*8+4) u4).1;have r5:=(r4.stored (i*8+5) u5).1;have r6:=(r5.stored (i*8+6) u6).1;have r7:=(r6.stored (i*8+7) u7).1;rw[Hd (fun c hc=>(h3 c hc).1) (by omega)]at r7;refine⟨cs.set i #[u0,u1,u2,u3,u4,u5,u6,u7],by simp[h1],by rw[List.length_set];exact r7,fun c hc=>?_,fun j c x hj hx=>?_⟩
 ·rcases List.mem_or_eq_of_mem_set hc with hc | rfl
  ·exact h3 c hc
  ·exact⟨rfl,g3⟩
 ·rw[List.getElem?_set]at hj hx
  by_cases e:i=j
  ·rw[if_pos e]at hj hx
   subst e;rw[if_pos (by omega)]at hj;rw[if_pos hi]at hx;cases hj;cases hx;exact key _ _ g4
  ·rw[if_neg e]at hj hx
   exact key _ _ (h4 j c x hj hx)
theorem He {l:List (Nat×Nat×Nat)} {k:Nat} {s:Nat×Nat×Nat} (h:l[k]? =some s):hZ (l.take (k+1))=(hZ (l.take k)).step s:=by unfold hZ;rw[List.take_add_one,h,List.foldl_append];rfl
def A8.tree (base:Nat) (t:RX):aR (Move false (fun _=>False)) where
 P:=fun v=>∃ p c,v=.agg (aj t.kind t.set t.mn t.mx (.slice p t.subs.length c))
 H:=fun v W=>aH (fun x=>base<=x/\x<W.heap.size) W v t
 mo:=.agg (aj t.kind t.set t.mn t.mx (.slice none t.subs.length 0))
 pw:=⟨none,0,rfl⟩
 st:=fun _ _ _ hm _ h=>(h.keeps (ae.ai hm.below fun _ h=>h) fun _ hx=>hx.2).mono fun _ hx=>⟨hx.1,aw hx.2 hm.size⟩
def A8.box (base:Nat) (t:RX):aR (Move false (fun _=>False)) where
 P:=fun v=>∃ b,v=.slice (some ⟨b,0,none⟩) 1 1
 H:=fun v W=>∀ b,v=.slice (some ⟨b,0,none⟩) 1 1->∃ p c,aq W b (aj t.kind t.set t.mn t.mx (.slice p t.subs.length c)) 40/\aH (fun x=>base<=x/\x<W.heap.size) W (.agg (aj t.kind t.set t.mn t.mx (.slice p t.subs.length c))) t
 mo:=.slice (some ⟨0,0,none⟩) 1 1
 pw:=⟨0,rfl⟩
 st:=fun _ _ _ hm _ h b e=>by
  obtain⟨p,c,h1,h2⟩:=h b e;exact⟨p,c,h1.below hm.below h1.lt,(h2.keeps (ae.ai hm.below fun _ h=>h) fun _ hx=>hx.2).mono fun _ hx=>⟨hx.1,aw hx.2 hm.size⟩⟩
theorem bT.kJ {base:Nat} {w:World} {a:Option Addr} {n cap:Nat} {l:List RX} (h:bT base w (.slice a n cap) l) {i:Nat} {t:RX} (hi:l[i]? =some t): ∃ g p' c',a=some ⟨g,0,none⟩/\n<=cap/\base<=g/\g<w.heap.size/\w.rangeAt g (i*8) (aj t.kind t.set t.mn t.mx (.slice p' t.subs.length c')).toList/\aH (fun x=>base<=x/\x<w.heap.size/\x≠g) w (.agg (aj t.kind t.set t.mn t.mx (.slice p' t.subs.length c'))) t:=by
 obtain⟨g,p',c',e,_,h1,h2,h3,⟨f0,f1,f2,f3,f4,f5,f6,f7⟩,hr⟩:=h.elem hi;refine⟨g,p',c',e,h1,h2,h3,fun j v hj=>?_,hr⟩;have hl:=(List.getElem?_eq_some_iff.1 hj).1;have h8:(aj t.kind t.set t.mn t.mx (.slice p' t.subs.length c')).toList.length=8:=rfl;rw[h8]at hl;have hc:j=0\/j=1\/j=2\/j=3\/j=4\/j=5\/j=6\/j=7:=by omega
 rcases hc with rfl | rfl | rfl | rfl | rfl | rfl | rfl | rfl<;>cases hj<;>assumption
theorem tH {cs:List (Array Value)} {q j:Nat} {u:Value} (h:(bC (cs.take q))[j]? =some u):(bC cs)[j]? =some u:=by
 have e:bC cs=bC (cs.take q)++bC (cs.drop q):=by rw[<-lJ,List.take_append_drop]
 rw[e,bJ (List.getElem?_eq_some_iff.1 h).1];exact h
theorem wE {P:Program} {ops:Array Oper} {rest:List Oper} {op:Oper} {a:Act} {w:World} {Q:Exit->Act->World->Prop} (hw:Region.wanted op (yielded ops a.tmps)=true) (ty:TypeId) (x:Operand) (ho:op.op=.load ty x) (b o:Nat) (hx:a.eval x=.pointer (some ⟨b,o,none⟩)) (cs:Array Value) (d:TypeDesc) (hc:w.rangeAt b o cs.toList) (hu:P.underlying ty=some d) (hd:d.isRow=true) (hi:(P.info? ty).map (·.size)=some cs.size) (h:wpList P ops Q rest (a.put op.dst (.agg cs)) w):wpList P ops Q (op::rest) a w:=
 mO hw fun _ hK=>wp_load_mid ty x ho b o hx cs.toList d hc hu hd (by rw[Array.length_toList];exact hi) (hK _ _ h)
theorem Ty (a b:Int):(if(if a<b then b else a)<1 then(1:Int)else if a<b then b else a)=max (max a b) 1:=by
 by_cases h:a<b
 ·simp only[h,if_true];split<;>omega
 ·simp only[h,if_false];split<;>omega
theorem LD (a b:Nat):1<=iq a b/\iq a b<=3/\max (max (eo a:Int) (gY a b)) 1=(iq a b:Int):=by unfold iq gY eo;split<;>omega
theorem lR {P:Program} {ops:Array Oper} {rest:List Oper} {o:Oper} {a:Act} {w:World} {Q:Exit->Act->World->Prop} {s x:Operand} {t t':TypeId} (_:o.op=.call {callee:=.builtin .append,args:= #[s,x],argTypes:= #[t,t']}) (h:Hid (wpList P ops Q (o::rest) a w)):wpList P ops Q (o::rest) a w:=h.out
theorem bT.push {base:Nat} {w w':World} {v v':Value} {l:List RX} {t:RX} {c:Array Value} {cs:List (Array Value)} (h1:cs.length=l.length) (h3:∀ c∈cs,c.size=8/\∀ u∈c.toList,u.oneCell'=true) (h4:∀ (i:Nat) (c:Array Value) (t:RX),cs[i]? =some c->l[i]? =some t->aH (fun x=>base<=x/\x<w.heap.size/\v.ownBlock≠some x) w (.agg c) t) (g3:c.size=8/\∀ u∈c.toList,u.oneCell'=true) (g4:aH (fun x=>base<=x/\x<w.heap.size/\v.ownBlock≠some x) w (.agg c) t) (ho:w'.ownsRow base 40 8 v' (l.length+1) (bC cs++c.toList)) (hg:w.grownBy w' v.ownBlock) (kh:v'.ownBlock=v.ownBlock\/v'.ownBlock=some w.heap.size):bT base w' v' (l++ [t]):=by
 refine bT.app (cs2:=[c]) h1 h3 h4 rfl (fun x hx=>by simp at hx;rw[hx];exact g3) (fun i x y hi hy=>?_) (by rw[show bC [c]=c.toList by unfold bC;simp];exact ho) hg kh;have hl:=(List.getElem?_eq_some_iff.1 hi).1;obtain rfl:i=0:=by simpa using hl
 cases hi
 cases hy
 exact g4
structure abH (P:Prop) where
 A:Prop
 B:Prop
 C:Prop
 D:Prop
 E:Prop
 G:Prop
 H:Prop
 Z:Prop
 out:A->B->C->D->E->G->H->Z->P
def eH (b off c:Nat) (l:List (Nat×Nat×Nat)) (w:World) (hb:b<w.heap.size) (hc:l.length<=c) (iG:l.length<=1000000000000000) (hS:∀ (i:Nat) (s:Nat×Nat×Nat),l[i]? =some s->s.1<256/\s.2.1<256/\s.2.2<256/\w.cell? ⟨b,off+i*3,none⟩=some (.int .u8 s.1)/\w.cell? ⟨b,off+i*3+1,none⟩=some (.int .u8 s.2.1)/\w.cell? ⟨b,off+i*3+2,none⟩=some (.int .u8 s.2.2)): abH (ag 19 #[.slice (some ⟨b,off,none⟩) l.length c] w fun e w'=>∃ u,e=.returned u/\aH (fun x=>w.heap.size<=x/\x<w'.heap.size) w' u (fI l)/\aa w w'):=by
 have HS:=hid hS;clear hS;apply abH.mk;case out=>
  intro gA gB gC gD gE gG gH gZ;obtain⟨iN,sA,iw,iy,iE⟩:=info_parts Tryz.P9;obtain⟨R,hR⟩:=ah (fI l);rw[<-hR];have HR:=hid hR;obtain⟨n,hn⟩:=ah l.length;obtain⟨N,hN⟩:=ah (min n 25);have lS:min (n:Int) 25=(N:Int):=by omega
  have En:N<=n:=by omega
  have oy:N<=25:=by omega
  rw[<-hn]at hc iG ⊢;have Eo:N<=c:=by omega
  have nY:=hid hn;have HN:=hid hN;clear hR hn hN;go_enter Tryz.func19,Tryz.ntmps19;go_wp2;refine ax ?_;intro V hV;have R0:Hid (aq V w.heap.size eL 40):=by rw[hV];exact hid (aq.new _ _ _)
  have X0:Hid (Ext w V):=by rw[hV];exact hid ((Ext.refl w).alloc _)
  have rA:Hid (V.heap.size=w.heap.size+1):=hid (by rw[hV];simp);clear hV;go_loopw [3,4,5,22] (fun u x y i wr=>∃ k:Nat,k<=N/\i=.int .i64 k/\x=.int .i64 (hZ (l.take k)).l9/\y=.int .i64 (hZ (l.take k)).pX/\bT V.heap.size wr u (hZ (l.take k)).all/\ae (· <V.heap.size) V wr) (fun _ _ _ i _=>N-(intOf i).toNat);case atStart=>exact⟨0,by omega,rfl,rfl,rfl,bT.nil _ _,ae.refl _ _⟩
  case round=>
   obtain⟨k,hk,rfl,rfl,rfl,hrow,hx⟩:=hrel;obtain⟨wo,rfl⟩:=ah (wr:World);have HX:=hid hx;clear hx;by_cases hlt:k<N
   ·have eT:(k:Int)<N:=by omega
    obtain⟨⟨s0,s1,s2⟩,hsk⟩:∃ s,l[k]? =some s:=⟨_,aC (by have:=nY.out;omega)⟩;have hstep:=He hsk;have ry:=vR (l.take k);obtain⟨PP,Xo⟩:=ah (hZ (l.take k));rw[<-Xo]at hstep ry hrow ⊢;have hlk:(l.take k).length<=25:=by rw[List.length_take];omega
    obtain⟨Hf,Fv,Hg,c0,c1,c2⟩:=HS.out k _ hsk;dsimp only at Hf Fv Hg c0 c1 c2;have wc:∀ (o:Nat) (u:Value),w.cell? ⟨b,o,none⟩=some u->wo.cell? ⟨b,o,none⟩=some u:=fun o u h=>(HX.cell (p:=⟨b,o,none⟩) (by have:=rA.out;show b<V.heap.size;omega)).trans ((X0.cell (p:=⟨b,o,none⟩) hb).trans h)
    replace c0:=wc _ _ c0;replace c1:=wc _ _ c1;replace c2:=wc _ _ c2;obtain⟨ru,rc,rfl⟩:=hrow.form;obtain⟨m,hm⟩:=ah PP.all.length;have qU:m<=25:=by have:=ry.len;omega
    obtain⟨uf,Zd⟩:=ah PP.l9;obtain⟨gr,hgr⟩:=ah PP.pX;have jL:uf<=16:=by have:=ry.zg;omega
    have HST:=hid hstep;have mf:=hid ry;have HM:=hid hm;have ug:=hid Zd;have pP:=hid hgr;have xq:=hid hlk;rw[<-hm]at hrow ⊢;rw[<-Zd, <-hgr];have gO:=hid hrow;clear hstep ry hm Zd hgr hlk hrow hsk Xo wc;go_upto_region 6 with fail
    refine ax ?_;intro W1 hW1;have B1:Hid (aq W1 wo.heap.size #[.int .u8 s0,.int .u8 s1,.int .u8 s2] 90):=by rw[hW1];exact hid (aq.new _ _ _)
    have E1:Hid (Ext wo W1):=by rw[hW1];exact hid ((Ext.refl wo).alloc _)
    clear hW1 c0 c1 c2;have eu:=hid (gO.below E1.below);have jU:Hid (ae (· <V.heap.size) V W1):=hid (HX.tr (E1.keeps.mono fun x (hx:x<V.heap.size)=>aw hx HX.size));have d0:W1.cell? ⟨wo.heap.size,0,none⟩=some (.int .u8 s0):=B1.cell 0;have d1:W1.cell? ⟨wo.heap.size,1,none⟩=some (.int .u8 s1):=B1.cell 1;have d2:W1.cell? ⟨wo.heap.size,2,none⟩=some (.int .u8 s2):=B1.cell 2;obtain⟨kd,Wy⟩:=ah (s0%12);have Ji:Int.tmod (s0:Int) 12=(kd:Int):=by rw[Int.tmod_eq_emod_of_nonneg (by omega)];omega
    have kf:kd<12:=by omega
    have hbase:V.heap.size<=W1.heap.size:=jU.size;have xZ:=hid Wy;clear Wy gO E1 HX;by_cases hA:kd<4
    ·skip --CA
     rename_i wF wG wH zr zt zu zv zw;revert iN sA iw iy iE R HR n iG hc N lS En oy Eo nY HN wF wG wH V R0 X0 rA u7 u8 u9 u10 u11 u12 u23 u24 u25 u26 u27 u28 u29 u30 u31 u32 u33 u34 u35 u36 u37 u38 u39 u40 u41 u42 u43 u44 u45 u46 u47 u48 u49 u50 u51 u52 u53 u54 u55 u56 u57 u58 u59 u60 u61 u62 u63 u64 u65 u66 u67 u68 u69 u70 u71 u72 u73 u74 u75 u76 u77 u78 u79 u80 u81 u82 u83 u84 u85 u86 u87 u88 u89 u90 u91 u92 u93 u94 u95 u96 u97 u98 u99 u100 u101 u102 u103 u104 u105 u106 u107 u108 u109 u110 u111 u112 u113 u114 u115 u116 u117 u118 u119 u120 u121 u122 u123 u124 u125 u126 u127 u128 u129 u130 u131 u132 u133 u134 u135 u136 u137 u138 u139 u140 u141 u142 u143 u144 u145 u146 u147 u148 u149 u150 u151 u152 u153 u154 u155 u156 u157 u158 u159 u160 u161 u162 u163 u164 u165 u166 u167 u168 u169 u170 u171 u172 u173 u174 u175 u176 u177 u178 u179 u180 u181 u182 u183 u184 k hk wo hlt eT s0 s1 s2 PP Hf Fv Hg ru rc m qU uf gr jL HST mf HM ug pP xq zr zt zu zv zw W1 B1 eu jU d0 d1 d2 kd Ji kf hbase xZ hA;exact gA
    ·by_cases hB:kd=4
     ·skip --CB
      rename_i wF wG wH zr zt zu zv zw;revert iN sA iw iy iE R HR n iG hc N lS En oy Eo nY HN wF wG wH V R0 X0 rA u7 u8 u9 u10 u11 u12 u23 u24 u25 u26 u27 u28 u29 u30 u31 u32 u33 u34 u35 u36 u37 u38 u39 u40 u41 u42 u43 u44 u45 u46 u47 u48 u49 u50 u51 u52 u53 u54 u55 u56 u57 u58 u59 u60 u61 u62 u63 u64 u65 u66 u67 u68 u69 u70 u71 u72 u73 u74 u75 u76 u77 u78 u79 u80 u81 u82 u83 u84 u85 u86 u87 u88 u89 u90 u91 u92 u93 u94 u95 u96 u97 u98 u99 u100 u101 u102 u103 u104 u105 u106 u107 u108 u109 u110 u111 u112 u113 u114 u115 u116 u117 u118 u119 u120 u121 u122 u123 u124 u125 u126 u127 u128 u129 u130 u131 u132 u133 u134 u135 u136 u137 u138 u139 u140 u141 u142 u143 u144 u145 u146 u147 u148 u149 u150 u151 u152 u153 u154 u155 u156 u157 u158 u159 u160 u161 u162 u163 u164 u165 u166 u167 u168 u169 u170 u171 u172 u173 u174 u175 u176 u177 u178 u179 u180 u181 u182 u183 u184 k hk wo hlt eT s0 s1 s2 PP Hf Fv Hg ru rc m qU uf gr jL HST mf HM ug pP xq zr zt zu zv zw W1 B1 eu jU d0 d1 d2 kd Ji kf hbase xZ hA hB;exact gB
     ·by_cases hC:kd<7/\1<m
      ·skip --CC
       rename_i wF wG wH zr zt zu zv zw;revert iN sA iw iy iE R HR n iG hc N lS En oy Eo nY HN wF wG wH V R0 X0 rA u7 u8 u9 u10 u11 u12 u23 u24 u25 u26 u27 u28 u29 u30 u31 u32 u33 u34 u35 u36 u37 u38 u39 u40 u41 u42 u43 u44 u45 u46 u47 u48 u49 u50 u51 u52 u53 u54 u55 u56 u57 u58 u59 u60 u61 u62 u63 u64 u65 u66 u67 u68 u69 u70 u71 u72 u73 u74 u75 u76 u77 u78 u79 u80 u81 u82 u83 u84 u85 u86 u87 u88 u89 u90 u91 u92 u93 u94 u95 u96 u97 u98 u99 u100 u101 u102 u103 u104 u105 u106 u107 u108 u109 u110 u111 u112 u113 u114 u115 u116 u117 u118 u119 u120 u121 u122 u123 u124 u125 u126 u127 u128 u129 u130 u131 u132 u133 u134 u135 u136 u137 u138 u139 u140 u141 u142 u143 u144 u145 u146 u147 u148 u149 u150 u151 u152 u153 u154 u155 u156 u157 u158 u159 u160 u161 u162 u163 u164 u165 u166 u167 u168 u169 u170 u171 u172 u173 u174 u175 u176 u177 u178 u179 u180 u181 u182 u183 u184 k hk wo hlt eT s0 s1 s2 PP Hf Fv Hg ru rc m qU uf gr jL HST mf HM ug pP xq zr zt zu zv zw W1 B1 eu jU d0 d1 d2 kd Ji kf hbase xZ hA hB hC;exact gC
      ·by_cases hD:kd<9/\1<m
       ·skip --CD
        rename_i wF wG wH zr zt zu zv zw;revert iN sA iw iy iE R HR n iG hc N lS En oy Eo nY HN wF wG wH V R0 X0 rA u7 u8 u9 u10 u11 u12 u23 u24 u25 u26 u27 u28 u29 u30 u31 u32 u33 u34 u35 u36 u37 u38 u39 u40 u41 u42 u43 u44 u45 u46 u47 u48 u49 u50 u51 u52 u53 u54 u55 u56 u57 u58 u59 u60 u61 u62 u63 u64 u65 u66 u67 u68 u69 u70 u71 u72 u73 u74 u75 u76 u77 u78 u79 u80 u81 u82 u83 u84 u85 u86 u87 u88 u89 u90 u91 u92 u93 u94 u95 u96 u97 u98 u99 u100 u101 u102 u103 u104 u105 u106 u107 u108 u109 u110 u111 u112 u113 u114 u115 u116 u117 u118 u119 u120 u121 u122 u123 u124 u125 u126 u127 u128 u129 u130 u131 u132 u133 u134 u135 u136 u137 u138 u139 u140 u141 u142 u143 u144 u145 u146 u147 u148 u149 u150 u151 u152 u153 u154 u155 u156 u157 u158 u159 u160 u161 u162 u163 u164 u165 u166 u167 u168 u169 u170 u171 u172 u173 u174 u175 u176 u177 u178 u179 u180 u181 u182 u183 u184 k hk wo hlt eT s0 s1 s2 PP Hf Fv Hg ru rc m qU uf gr jL HST mf HM ug pP xq zr zt zu zv zw W1 B1 eu jU d0 d1 d2 kd Ji kf hbase xZ hA hB hC hD;exact gD
       ·by_cases hE:kd=9/\0<m/\gr<9
        ·skip --CE
         rename_i wF wG wH zr zt zu zv zw;revert iN sA iw iy iE R HR n iG hc N lS En oy Eo nY HN wF wG wH V R0 X0 rA u7 u8 u9 u10 u11 u12 u23 u24 u25 u26 u27 u28 u29 u30 u31 u32 u33 u34 u35 u36 u37 u38 u39 u40 u41 u42 u43 u44 u45 u46 u47 u48 u49 u50 u51 u52 u53 u54 u55 u56 u57 u58 u59 u60 u61 u62 u63 u64 u65 u66 u67 u68 u69 u70 u71 u72 u73 u74 u75 u76 u77 u78 u79 u80 u81 u82 u83 u84 u85 u86 u87 u88 u89 u90 u91 u92 u93 u94 u95 u96 u97 u98 u99 u100 u101 u102 u103 u104 u105 u106 u107 u108 u109 u110 u111 u112 u113 u114 u115 u116 u117 u118 u119 u120 u121 u122 u123 u124 u125 u126 u127 u128 u129 u130 u131 u132 u133 u134 u135 u136 u137 u138 u139 u140 u141 u142 u143 u144 u145 u146 u147 u148 u149 u150 u151 u152 u153 u154 u155 u156 u157 u158 u159 u160 u161 u162 u163 u164 u165 u166 u167 u168 u169 u170 u171 u172 u173 u174 u175 u176 u177 u178 u179 u180 u181 u182 u183 u184 k hk wo hlt eT s0 s1 s2 PP Hf Fv Hg ru rc m qU uf gr jL HST mf HM ug pP xq zr zt zu zv zw W1 B1 eu jU d0 d1 d2 kd Ji kf hbase xZ hA hB hC hD hE;exact gE
        ·by_cases hG:9<kd/\0<m
         ·skip --CG
          rename_i wF wG wH zr zt zu zv zw;revert iN sA iw iy iE R HR n iG hc N lS En oy Eo nY HN wF wG wH V R0 X0 rA u7 u8 u9 u10 u11 u12 u23 u24 u25 u26 u27 u28 u29 u30 u31 u32 u33 u34 u35 u36 u37 u38 u39 u40 u41 u42 u43 u44 u45 u46 u47 u48 u49 u50 u51 u52 u53 u54 u55 u56 u57 u58 u59 u60 u61 u62 u63 u64 u65 u66 u67 u68 u69 u70 u71 u72 u73 u74 u75 u76 u77 u78 u79 u80 u81 u82 u83 u84 u85 u86 u87 u88 u89 u90 u91 u92 u93 u94 u95 u96 u97 u98 u99 u100 u101 u102 u103 u104 u105 u106 u107 u108 u109 u110 u111 u112 u113 u114 u115 u116 u117 u118 u119 u120 u121 u122 u123 u124 u125 u126 u127 u128 u129 u130 u131 u132 u133 u134 u135 u136 u137 u138 u139 u140 u141 u142 u143 u144 u145 u146 u147 u148 u149 u150 u151 u152 u153 u154 u155 u156 u157 u158 u159 u160 u161 u162 u163 u164 u165 u166 u167 u168 u169 u170 u171 u172 u173 u174 u175 u176 u177 u178 u179 u180 u181 u182 u183 u184 k hk wo hlt eT s0 s1 s2 PP Hf Fv Hg ru rc m qU uf gr jL HST mf HM ug pP xq zr zt zu zv zw W1 B1 eu jU d0 d1 d2 kd Ji kf hbase xZ hA hB hC hD hE hG;exact gG
         ·have Ep:PP.step (s0,s1,s2)=PP:=by
           unfold cM.step;dsimp only;rw[<-xZ.out, <-HM.out, <-pP.out,if_neg hA,if_neg hB,if_neg hC,if_neg hD,if_neg hE,if_neg (fun h=>hG ⟨h.1,h.2.1⟩)]
          have mj:=hid Ep;clear Ep;have a1:¬ ((kd:Int)<4):=by omega
          have a2:((kd:Int)==4)=false:=by simp;omega
          rename_i wF wG wH zr zt zu zv zw;revert iN sA iw iy iE R HR n iG hc N lS En oy Eo nY HN wF wG wH V R0 X0 rA u7 u8 u9 u10 u11 u12 u23 u24 u25 u26 u27 u28 u29 u30 u31 u32 u33 u34 u35 u36 u37 u38 u39 u40 u41 u42 u43 u44 u45 u46 u47 u48 u49 u50 u51 u52 u53 u54 u55 u56 u57 u58 u59 u60 u61 u62 u63 u64 u65 u66 u67 u68 u69 u70 u71 u72 u73 u74 u75 u76 u77 u78 u79 u80 u81 u82 u83 u84 u85 u86 u87 u88 u89 u90 u91 u92 u93 u94 u95 u96 u97 u98 u99 u100 u101 u102 u103 u104 u105 u106 u107 u108 u109 u110 u111 u112 u113 u114 u115 u116 u117 u118 u119 u120 u121 u122 u123 u124 u125 u126 u127 u128 u129 u130 u131 u132 u133 u134 u135 u136 u137 u138 u139 u140 u141 u142 u143 u144 u145 u146 u147 u148 u149 u150 u151 u152 u153 u154 u155 u156 u157 u158 u159 u160 u161 u162 u163 u164 u165 u166 u167 u168 u169 u170 u171 u172 u173 u174 u175 u176 u177 u178 u179 u180 u181 u182 u183 u184 k hk wo hlt eT s0 s1 s2 PP Hf Fv Hg ru rc m qU uf gr jL HST mf HM ug pP xq zr zt zu zv zw W1 B1 eu jU d0 d1 d2 kd Ji kf hbase xZ hA hB hC hD hE hG mj a1 a2;exact gH
   ·obtain rfl:k=N:=by omega
    have yQ:¬ ((k:Int)<k):=by omega
    rename_i wF wG wH;revert iN sA iw iy iE R HR n iG hc nY wF wG wH V R0 X0 rA u3 u7 u8 u9 u10 u11 u12 u23 u24 u25 u26 u27 u28 u29 u30 u31 u32 u33 u34 u35 u36 u37 u38 u39 u40 u41 u42 u43 u44 u45 u46 u47 u48 u49 u50 u51 u52 u53 u54 u55 u56 u57 u58 u59 u60 u61 u62 u63 u64 u65 u66 u67 u68 u69 u70 u71 u72 u73 u74 u75 u76 u77 u78 u79 u80 u81 u82 u83 u84 u85 u86 u87 u88 u89 u90 u91 u92 u93 u94 u95 u96 u97 u98 u99 u100 u101 u102 u103 u104 u105 u106 u107 u108 u109 u110 u111 u112 u113 u114 u115 u116 u117 u118 u119 u120 u121 u122 u123 u124 u125 u126 u127 u128 u129 u130 u131 u132 u133 u134 u135 u136 u137 u138 u139 u140 u141 u142 u143 u144 u145 u146 u147 u148 u149 u150 u151 u152 u153 u154 u155 u156 u157 u158 u159 u160 u161 u162 u163 u164 u165 u166 u167 u168 u169 u170 u171 u172 u173 u174 u175 u176 u177 u178 u179 u180 u181 u182 u183 u184 k wo hrow HX lS En oy Eo HN hk hlt yQ;exact gZ
theorem Qb (b off c:Nat) (l:List (Nat×Nat×Nat)) (w:World) (hb:b<w.heap.size) (hc:l.length<=c) (iG:l.length<=1000000000000000) (hS:∀ (i:Nat) (s:Nat×Nat×Nat),l[i]? =some s->s.1<256/\s.2.1<256/\s.2.2<256/\w.cell? ⟨b,off+i*3,none⟩=some (.int .u8 s.1)/\w.cell? ⟨b,off+i*3+1,none⟩=some (.int .u8 s.2.1)/\w.cell? ⟨b,off+i*3+2,none⟩=some (.int .u8 s.2.2)):(eH b off c l w hb hc iG hS).A:=by
 have HS:=hid hS;intro iN sA iw iy iE R HR n iG hc N lS En oy Eo nY HN wF wG wH V R0 X0 rA
 intros
 rename_i k hk wo hlt eT s0 s1 s2 PP Hf Fv Hg ru rc m qU uf gr jL HST mf HM ug pP xq zr zt zu zv zw W1 B1 eu jU d0 d1 d2 kd Ji kf hbase xZ hA;have a1:(kd:Int)<4:=by omega
 have hst:PP.step (s0,s1,s2)=⟨PP.all++ [lK s1],PP.l9,PP.pX⟩:=by unfold cM.step;dsimp only;rw[<-xZ.out,if_pos hA];unfold cM.put;rw[Nat.sub_zero,List.take_length]
 have mj:=hid hst;clear hst hA;go_wp2_with fail
 refine(xY s1 Fv W1).mono ?_;rintro e W2 ⟨str,rfl,Qc,hx2⟩;have abI:=hid Qc;have hl7:(ei s1).length<=1000000:=by
  have q:∀ r:Nat,([[97],[98],[97,98],[97],[98],[99],[97,98,99],[98,99],[10],[0,255],[97],[98]].getD r []:List Nat).length<=3:=fun r=>by
   rcases Nat.lt_or_ge r 12 with h | h
   ·have hc:r=0\/r=1\/r=2\/r=3\/r=4\/r=5\/r=6\/r=7\/r=8\/r=9\/r=10\/r=11:=by omega
    rcases hc with rfl | rfl | rfl | rfl | rfl | rfl | rfl | rfl | rfl | rfl | rfl | rfl<;>decide
   ·rw[cq,dD (by simpa using h)];decide
  unfold ei;exact Nat.le_trans (q _) (by decide)
 have Er:=hid (eu.below hx2);have eW:Hid (ae (· <V.heap.size) V W2):=hid (jU.tr (ae.ai hx2 fun x (hx:x<V.heap.size)=>aw hx hbase));clear hx2 Qc;go_wp2_with fail
 refine(nA str _ abI hl7 W2).mono ?_;rintro e W3 ⟨rfl,hx3⟩;obtain⟨S,hS⟩:=ah (oo fun c=>(ei s1).contains c);rw[<-hS];have oG:lK s1=.nd 2 S 0 0 []:=by unfold lK;rw[<-hS]
 rw[oG]at mj;have Qd:=hid (Er.below hx3);have oZ:Hid (ae (· <V.heap.size) V W3):=hid (eW.tr (ae.ai hx3 fun x (hx:x<V.heap.size)=>aw hx eW.size));have hb3:V.heap.size<=W3.heap.size:=oZ.size;clear hS oG hx3 eu Er eW d0 d1 d2 B1 hl7 abI;unfold aj;go_wp2_with (at_builtin;refine lR rfl ?_);refine hid ?_;refine gP ?_;intro W4 ML;have B4:Hid (aq W4 W3.heap.size (aj 2 S 0 0 (.slice none 0 0)) 40):=by rw[ML];exact hid (aq.new _ _ _)
 have E4:Hid (Ext W3 W4):=by rw[ML];exact hid ((Ext.refl _).alloc _)
 clear ML;have Qe:=hid (Qd.below E4.below);have UJ:W3.heap.size<=W4.heap.size:=E4.size;obtain⟨cs,g1,g2,g3,g4⟩:=Qe.out;rw[<-HM.out]at g1 g2;have G1:=hid g1;have G2:=hid g2;have G3:=hid g3;have G4:=hid g4;clear g1 g2 g3 g4 Qe Qd;refine fq rfl (.tmp 34) (.tmp 39) 38 rfl V.heap.size 40 iN (.agg eL) 8 80 Tryz.underlying38 sA iw iy iE rfl (by decide) (.slice ru m rc) m (bC cs) rfl G2 ⟨W3.heap.size,0,none⟩ 1 1 (aj 2 S 0 0 (.slice none 0 0)).toList rfl (bQ B4) rfl (cH _ _ _ _ _ _ _).2 (by unfold maxLen;omega) (by omega) (by omega) ?_;intro v' w' ho hg kh;have K9:Hid (ae (· <V.heap.size) V w'):=hid ((oZ.tr (E4.keeps.mono fun x (hx:x<V.heap.size)=>aw hx hb3)).tr (ae.bA hg fun x (hx:x<V.heap.size)=>⟨by omega,fun e=>by have:=(G2.lt x e.symm).1;omega⟩));have R9:Hid (bT V.heap.size w' v' (PP.all++ [.nd 2 S 0 0 []])):=hid (bT.push (cs:=cs) (c:=aj 2 S 0 0 (.slice none 0 0)) (by rw[<-HM.out];exact G1) G3 G4 (cH _ _ _ _ _ _ _) (aH.leaf _ _ _ _ _ _ _ _) (by rw[<-HM.out];exact ho) hg kh);obtain⟨Zq,Zr,rfl⟩:=ownsRow_form ho;clear ho hg kh;go_wp2;go_roundw;case rel=>
  refine⟨k+1,by omega,by go_num,by rw[HST.out,mj.out, <-ug.out],by rw[HST.out,mj.out, <-pP.out],by rw[HST.out,mj.out];exact R9,K9⟩
 case measure=>simp[intOf];omega
theorem Qf (b off c:Nat) (l:List (Nat×Nat×Nat)) (w:World) (hb:b<w.heap.size) (hc:l.length<=c) (iG:l.length<=1000000000000000) (hS:∀ (i:Nat) (s:Nat×Nat×Nat),l[i]? =some s->s.1<256/\s.2.1<256/\s.2.2<256/\w.cell? ⟨b,off+i*3,none⟩=some (.int .u8 s.1)/\w.cell? ⟨b,off+i*3+1,none⟩=some (.int .u8 s.2.1)/\w.cell? ⟨b,off+i*3+2,none⟩=some (.int .u8 s.2.2)):(eH b off c l w hb hc iG hS).B:=by
 have HS:=hid hS;intro iN sA iw iy iE R HR n iG hc N lS En oy Eo nY HN wF wG wH V R0 X0 rA
 intros
 rename_i k hk wo hlt eT s0 s1 s2 PP Hf Fv Hg ru rc m qU uf gr jL HST mf HM ug pP xq zr zt zu zv zw W1 B1 eu jU d0 d1 d2 kd Ji kf hbase xZ hA hB;have a1:¬ ((kd:Int)<4):=by omega
 have a2:((kd:Int)==4)=true:=by simp[hB]
 have hst:PP.step (s0,s1,s2)=⟨PP.all++ [.nd 1 0 0 0 []],PP.l9,PP.pX⟩:=by unfold cM.step;dsimp only;rw[<-xZ.out,if_neg hA,if_pos hB];unfold cM.put;rw[Nat.sub_zero,List.take_length];rfl
 have mj:=hid hst;clear hst hA hB;go_wp2_with (at_builtin;refine lR rfl ?_);refine hid ?_;clear d0 d1 d2 B1;refine gP ?_;intro W4 ML;have B4:Hid (aq W4 W1.heap.size (aj 1 0 0 0 (.slice none 0 0)) 40):=by rw[ML,eG];exact hid (aq.new _ _ _)
 have E4:Hid (Ext W1 W4):=by rw[ML];exact hid ((Ext.refl _).alloc _)
 clear ML;have Qd:=eu;have oZ:=jU;have hb3:=hbase;have Qe:=hid (Qd.below E4.below);have UJ:W1.heap.size<=W4.heap.size:=E4.size;obtain⟨cs,g1,g2,g3,g4⟩:=Qe.out;rw[<-HM.out]at g1 g2;have G1:=hid g1;have G2:=hid g2;have G3:=hid g3;have G4:=hid g4;clear g1 g2 g3 g4 Qe Qd;refine fq rfl (.tmp 44) (.tmp 46) 38 rfl V.heap.size 40 iN (.agg eL) 8 80 Tryz.underlying38 sA iw iy iE rfl (by decide) (.slice ru m rc) m (bC cs) rfl G2 ⟨W1.heap.size,0,none⟩ 1 1 (aj 1 0 0 0 (.slice none 0 0)).toList rfl (bQ B4) rfl (cH _ _ _ _ _ _ _).2 (by unfold maxLen;omega) (by omega) (by omega) ?_;intro v' w' ho hg kh;have K9:Hid (ae (· <V.heap.size) V w'):=hid ((oZ.tr (E4.keeps.mono fun x (hx:x<V.heap.size)=>aw hx hb3)).tr (ae.bA hg fun x (hx:x<V.heap.size)=>⟨by omega,fun e=>by have:=(G2.lt x e.symm).1;omega⟩));have R9:Hid (bT V.heap.size w' v' (PP.all++ [.nd 1 0 0 0 []])):=hid (bT.push (cs:=cs) (c:=aj 1 0 0 0 (.slice none 0 0)) (by rw[<-HM.out];exact G1) G3 G4 (cH _ _ _ _ _ _ _) (aH.leaf _ _ _ _ _ _ _ _) (by rw[<-HM.out];exact ho) hg kh);obtain⟨Zq,Zr,rfl⟩:=ownsRow_form ho;clear ho hg kh;go_wp2;go_roundw;case rel=>
  refine⟨k+1,by omega,by go_num,by rw[HST.out,mj.out, <-ug.out],by rw[HST.out,mj.out, <-pP.out],by rw[HST.out,mj.out];exact R9,K9⟩
 case measure=>simp[intOf];omega
theorem Qg (b off c:Nat) (l:List (Nat×Nat×Nat)) (w:World) (hb:b<w.heap.size) (hc:l.length<=c) (iG:l.length<=1000000000000000) (hS:∀ (i:Nat) (s:Nat×Nat×Nat),l[i]? =some s->s.1<256/\s.2.1<256/\s.2.2<256/\w.cell? ⟨b,off+i*3,none⟩=some (.int .u8 s.1)/\w.cell? ⟨b,off+i*3+1,none⟩=some (.int .u8 s.2.1)/\w.cell? ⟨b,off+i*3+2,none⟩=some (.int .u8 s.2.2)):(eH b off c l w hb hc iG hS).C:=by
 have HS:=hid hS;intro iN sA iw iy iE R HR n iG hc N lS En oy Eo nY HN wF wG wH V R0 X0 rA
 intros
 rename_i k hk wo hlt eT s0 s1 s2 PP Hf Fv Hg ru rc m qU uf gr jL HST mf HM ug pP xq zr zt zu zv zw W1 B1 eu jU d0 d1 d2 kd Ji kf hbase xZ hA hB hC;have a1:¬ ((kd:Int)<4):=by omega
 have a2:((kd:Int)==4)=false:=by simp;omega
 have a3:(kd:Int)<7:=by omega
 have a4:(1:Int)<m:=by omega
 obtain⟨q,hq⟩:=ah (m-2);obtain⟨r,hr⟩:=ah (m-1);have hw2:IntKind.i64.wrap ((m:Int)-2)=(q:Int):=by rw[IntWalk.i64_in _ (by omega)];omega
 have GN:IntKind.i64.wrap ((m:Int)-1)=(r:Int):=by rw[IntWalk.i64_in _ (by omega)];omega
 have hqm:q<m:=by omega
 have Tz:r<m:=by omega
 have YY:(q:Int)<m:=by omega
 have hri:(r:Int)<m:=by omega
 have hx2:PP.all[q]? =some PP.fH:=by unfold cM.fH;rw[<-HM.out, <-hq];exact bB _ (by rw[<-HM.out];exact hqm)
 have hx1:PP.all[r]? =some PP.last:=by unfold cM.last;rw[<-HM.out, <-hr];exact bB _ (by rw[<-HM.out];exact Tz)
 have f2:PP.fH.fine/\PP.fH.size<=1000:=⟨mf.fine _ (aA hx2),by have:=nZ (aA hx2);have:=mf.size;have:=xq.out;omega⟩;have f1:PP.last.fine/\PP.last.size<=1000:=⟨mf.fine _ (aA hx1),by have:=nZ (aA hx1);have:=mf.size;have:=xq.out;omega⟩;have hst:PP.step (s0,s1,s2)=⟨PP.all.take q++ [bU 3 PP.fH PP.last],PP.l9,PP.pX⟩:=by unfold cM.step;dsimp only;rw[<-xZ.out, <-HM.out,if_neg hA,if_neg hB,if_pos hC];unfold cM.put;rw[<-HM.out, <-hq]
 obtain⟨y2,Qh⟩:=ah PP.fH;obtain⟨y1,ya⟩:=ah PP.last;rw[<-Qh]at hx2 f2 hst;rw[<-ya]at hx1 f1 hst;obtain⟨JJ,Rw⟩:=ah (bU 3 y2 y1);rw[<-Rw]at hst;have mj:=hid hst;obtain⟨g,p2,c2,e9,jW,hgb,Fs,rg2,t2⟩:=eu.kJ hx2;subst e9;obtain⟨g',p1,c1,e9,_,_,_,U9,t1⟩:=eu.kJ hx1;cases e9;have zZ:q<=rc:=by omega
 have agm:(q:Int)<=rc:=by omega
 have F2:=hid f2;have F1:=hid f1;have Xy:=hid rg2;have Qi:=hid U9;have T2:=hid t2;have T1:=hid t1;have YH:=hid Rw;have HQ:=hid hq;clear hst hx2 hx1 f2 f1 rg2 U9 t2 t1 Qh ya Rw hq hr hA hB hC;obtain⟨ka,hka⟩:=ah y2.kind;obtain⟨na,Tx⟩:=ah y2.subs.length;obtain⟨sa,Rj⟩:=ah y2.set;obtain⟨ma,Qa⟩:=ah y2.mn;obtain⟨xa,U6⟩:=ah y2.mx;obtain⟨kb,hkb⟩:=ah y1.kind;obtain⟨nb,rz⟩:=ah y1.subs.length;obtain⟨sb,ql⟩:=ah y1.set;obtain⟨mb,tY⟩:=ah y1.mn;obtain⟨xb,Fu⟩:=ah y1.mx;rw[<-hka, <-Tx, <-Rj, <-Qa, <-U6]at Xy T2;rw[<-hkb, <-rz, <-ql, <-tY, <-Fu]at Qi T1;clear hka Tx Rj Qa U6 hkb rz ql tY Fu;have CJ:Hid (∀ W,Move false (fun _=>False) W1 W->ag 35 #[.int .u8 3,.agg (aj ka sa ma xa (.slice p2 na c2)),.agg (aj kb sb mb xb (.slice p1 nb c1))] W fun e w'=>∃ u,e=.returned u/\aH (fun x=>V.heap.size<=x/\x<w'.heap.size) w' u JJ/\aa W w'):=hid fun W hW=>by
  have Jj:ae (· <W1.heap.size) W1 W:=ae.ai hW.below fun _ h=>h
  rw[YH.out];refine(lQ (fun x=>V.heap.size<=x/\x<W1.heap.size) 3 (.inl rfl) _ _ y2 y1 F2.1 F1.1 F2.2 F1.2 W (fun x hx=>aw hx.2 hW.size) ((T2.keeps Jj fun x hx=>hx.2.1).mono fun x hx=>⟨hx.1,hx.2.1⟩) ((T1.out.keeps Jj fun x hx=>hx.2.1).mono fun x hx=>⟨hx.1,hx.2.1⟩)).mono ?_;rintro e w' ⟨u,he,hu,hb⟩;exact⟨u,he,hu.mono fun x hx=>⟨by have:=hW.size;have:=hbase;rcases hx.2 with h | h;exact h.1;omega,hx.1⟩,hb⟩
 clear F2 F1 T2 T1;go_upto_region 13 with fail
 refine aM false (fun _=>False) (by kernel_rfl) 18 [0,0,2,0,8,31,0,0,128,448,960,0,0,4096,14336,30720,65472,131008,262143,524287] (fun i=>i==16 || i==17 || i==18) (by kernel_rfl) (fun i=>if i=16 then A8.tree V.heap.size JJ else if i=17 then A8.box V.heap.size JJ else aR.any _) ?_;intro C hC hne;have HC:=hid hC;clear hC d0 d1 d2
 repeat (refine ak (fun K hK=>?_);first | (refine cQ rfl ?_;try go_simp;refine hK _ _ ?_;clear hK K) | (refine bV rfl rfl ?_;unfold aB;go_simp;refine hK _ _ ?_;clear hK K))
 refine ak (fun K hK=>?_);refine gJ rfl rfl (.agg (aj ka sa ma xa (.slice p2 na c2))) (fun W hW hN=>have hM:=(HC.out W).1 hW;aO 40 (.tmp 64) rfl (g) (q*8) rfl (aj ka sa ma xa (.slice p2 na c2)) _ (aI Xy (ae.ai hM.below fun _ h=>h:ae (· <W1.heap.size) W1 W) Fs) Tryz.underlying40 rfl (cO _ _ _ _ _)) ?_;go_simp;refine hK _ _ ?_;clear hK K
 repeat (refine ak (fun K hK=>?_);first | (refine cQ rfl ?_;try go_simp;refine hK _ _ ?_;clear hK K) | (refine bV rfl rfl ?_;unfold aB;go_simp;refine hK _ _ ?_;clear hK K))
 refine ak (fun K hK=>?_);refine gJ rfl rfl (.agg (aj kb sb mb xb (.slice p1 nb c1))) (fun W hW hN=>have hM:=(HC.out W).1 hW;aO 40 (.tmp 69) rfl (g) (r*8) rfl (aj kb sb mb xb (.slice p1 nb c1)) _ (aI Qi (ae.ai hM.below fun _ h=>h:ae (· <W1.heap.size) W1 W) Fs) Tryz.underlying40 rfl (cO _ _ _ _ _)) ?_;go_simp;refine hK _ _ ?_;clear hK K;refine ak (fun K hK=>?_);refine bS rfl rfl (A8.tree V.heap.size JJ) rfl (fun W hW hN=>?_) (fun v hv=>?_)
 ·have hM:=(HC.out W).1 hW
  clear hW hN hK K;go_simp;refine bu ((CJ W hM).mono ?_);rintro e w2 ⟨u,rfl,ht,hx⟩;exact⟨_,rfl,Move.ai hx,ht.form,ht⟩
 obtain⟨pj,cj,rfl⟩:=hv;unfold aj;go_simp;refine hK _ _ ?_;clear hK K;refine ak (fun K hK=>?_);refine bS rfl rfl (A8.box V.heap.size JJ) rfl (fun W hW hN=>?_) (fun v hv=>?_)
 ·have hM:=(HC.out W).1 hW
  have hT:aH (fun x=>V.heap.size<=x/\x<W.heap.size) W (.agg (aj JJ.kind JJ.set JJ.mn JJ.mx (.slice pj JJ.subs.length cj))) JJ:=hN.at 0 rfl (by kernel_rfl);have HT:=hid hT;clear hW hN hK K hT;go_simp;exact⟨Move.ext ((Ext.refl _).alloc _),⟨_,rfl⟩,fun b hb=>by cases hb;exact⟨_,_,aq.new _ _ _,(HT.keeps ((Ext.refl _).alloc _).keeps fun _ hx=>hx.2).mono fun x hx=>by simp;omega⟩⟩
 obtain⟨bz,rfl⟩:=hv;go_simp;refine hK _ _ ?_;clear hK K;refine cg (fun W hW hH=>?_);have hM:=(HC.out W).1 hW;obtain⟨pz,cz,Zc,hjz⟩:∃ p c,aq W bz (aj JJ.kind JJ.set JJ.mn JJ.mx (.slice p JJ.subs.length c)) 40/\aH (fun x=>V.heap.size<=x/\x<W.heap.size) W (.agg (aj JJ.kind JJ.set JJ.mn JJ.mx (.slice p JJ.subs.length c))) JJ:=(hH _ (aA (show _=some _ from rfl:_[0]? =some _))) bz rfl;have BZ:=hid Zc;have TZ:=hid hjz;have Qj:=hid (eu.below hM.below);have Xz:Hid (ae (· <V.heap.size) V W):=hid (jU.tr (ae.ai hM.below fun x (hx:x<V.heap.size)=>aw hx hbase));have Zs:V.heap.size<=W.heap.size:=Xz.size;clear hM hW hH HC hne Zc hjz eu jU Xy Qi CJ;obtain⟨cs,g1,g2,g3,g4⟩:=Qj.out;rw[<-HM.out]at g2;have hcs:(cs.take q).length=q:=by rw[List.length_take,g1, <-HM.out];omega
 refine nu rfl (.tmp 60) (.tmp 72) 38 rfl V.heap.size 40 iN (.agg eL) 8 80 Tryz.underlying38 sA iw iy iE rfl (by decide) ⟨g,0,none⟩ q (bC (cs.take q)) rfl (by rw[fV fun c hc=>(g3 c (List.mem_of_mem_take hc)).1,hcs]) (fun j u hj=>g2.cells (g:=g) rfl _ _ (tH hj)) ⟨bz,0,none⟩ 1 1 (aj JJ.kind JJ.set JJ.mn JJ.mx (.slice pz JJ.subs.length cz)).toList rfl (bQ BZ) rfl (by decide) (by unfold maxLen;omega) (by omega) Zs ?_;intro v' w' ho hx hv';have R9:Hid (bT V.heap.size w' v' (PP.all.take q++ [JJ])):=hid (bT.fresh (cs:=cs) (c:=aj JJ.kind JJ.set JJ.mn JJ.mx (.slice pz JJ.subs.length cz)) (by rw[<-HM.out];omega) g1 g3 (fun i c t hi ht=>(g4 i c t hi ht).mono fun x hx=>⟨hx.1,hx.2.1⟩) (cH _ _ _ _ _ _ _) TZ ho hx hv');have K9:Hid (ae (· <V.heap.size) V w'):=hid (Xz.tr (ae.ai hx fun x (hx:x<V.heap.size)=>aw hx Zs));obtain⟨Zq,Zr,rfl⟩:=ownsRow_form ho;clear ho hx hv' g1 g2 g3 g4 hcs Qj BZ TZ Xz;go_wp2;go_roundw;case rel=>
  refine⟨k+1,by omega,by go_num,by rw[HST.out,mj.out, <-ug.out],by rw[HST.out,mj.out, <-pP.out],?_,K9⟩;rw[HST.out,mj.out];have e8:(PP.all.take q++ [JJ]).length=q+1:=by rw[aQ,List.length_take, <-HM.out];simp;omega
  exact R9
 case measure=>simp[intOf];omega
theorem Qk (b off c:Nat) (l:List (Nat×Nat×Nat)) (w:World) (hb:b<w.heap.size) (hc:l.length<=c) (iG:l.length<=1000000000000000) (hS:∀ (i:Nat) (s:Nat×Nat×Nat),l[i]? =some s->s.1<256/\s.2.1<256/\s.2.2<256/\w.cell? ⟨b,off+i*3,none⟩=some (.int .u8 s.1)/\w.cell? ⟨b,off+i*3+1,none⟩=some (.int .u8 s.2.1)/\w.cell? ⟨b,off+i*3+2,none⟩=some (.int .u8 s.2.2)):(eH b off c l w hb hc iG hS).D:=by
 have HS:=hid hS;intro iN sA iw iy iE R HR n iG hc N lS En oy Eo nY HN wF wG wH V R0 X0 rA
 intros
 rename_i k hk wo hlt eT s0 s1 s2 PP Hf Fv Hg ru rc m qU uf gr jL HST mf HM ug pP xq zr zt zu zv zw W1 B1 eu jU d0 d1 d2 kd Ji kf hbase xZ hA hB hC hD;have a1:¬ ((kd:Int)<4):=by omega
 have a2:((kd:Int)==4)=false:=by simp;omega
 have a3:¬ ((kd:Int)<7):=by omega
 have a4:(1:Int)<m:=by omega
 have a5:(kd:Int)<9:=by omega
 obtain⟨q,hq⟩:=ah (m-2);obtain⟨r,hr⟩:=ah (m-1);have hw2:IntKind.i64.wrap ((m:Int)-2)=(q:Int):=by rw[IntWalk.i64_in _ (by omega)];omega
 have GN:IntKind.i64.wrap ((m:Int)-1)=(r:Int):=by rw[IntWalk.i64_in _ (by omega)];omega
 have hqm:q<m:=by omega
 have Tz:r<m:=by omega
 have YY:(q:Int)<m:=by omega
 have hri:(r:Int)<m:=by omega
 have hx2:PP.all[q]? =some PP.fH:=by unfold cM.fH;rw[<-HM.out, <-hq];exact bB _ (by rw[<-HM.out];exact hqm)
 have hx1:PP.all[r]? =some PP.last:=by unfold cM.last;rw[<-HM.out, <-hr];exact bB _ (by rw[<-HM.out];exact Tz)
 have f2:PP.fH.fine/\PP.fH.size<=1000:=⟨mf.fine _ (aA hx2),by have:=nZ (aA hx2);have:=mf.size;have:=xq.out;omega⟩;have f1:PP.last.fine/\PP.last.size<=1000:=⟨mf.fine _ (aA hx1),by have:=nZ (aA hx1);have:=mf.size;have:=xq.out;omega⟩;have hst:PP.step (s0,s1,s2)=⟨PP.all.take q++ [bU 4 PP.fH PP.last],PP.l9,PP.pX⟩:=by unfold cM.step;dsimp only;rw[<-xZ.out, <-HM.out,if_neg hA,if_neg hB,if_neg hC,if_pos hD];unfold cM.put;rw[<-HM.out, <-hq]
 obtain⟨y2,Qh⟩:=ah PP.fH;obtain⟨y1,ya⟩:=ah PP.last;rw[<-Qh]at hx2 f2 hst;rw[<-ya]at hx1 f1 hst;obtain⟨JJ,Rw⟩:=ah (bU 4 y2 y1);rw[<-Rw]at hst;have mj:=hid hst;obtain⟨g,p2,c2,e9,jW,hgb,Fs,rg2,t2⟩:=eu.kJ hx2;subst e9;obtain⟨g',p1,c1,e9,_,_,_,U9,t1⟩:=eu.kJ hx1;cases e9;have zZ:q<=rc:=by omega
 have agm:(q:Int)<=rc:=by omega
 have F2:=hid f2;have F1:=hid f1;have Xy:=hid rg2;have Qi:=hid U9;have T2:=hid t2;have T1:=hid t1;have YH:=hid Rw;have HQ:=hid hq;clear hst hx2 hx1 f2 f1 rg2 U9 t2 t1 Qh ya Rw hq hr hA hB hC hD;obtain⟨ka,hka⟩:=ah y2.kind;obtain⟨na,Tx⟩:=ah y2.subs.length;obtain⟨sa,Rj⟩:=ah y2.set;obtain⟨ma,Qa⟩:=ah y2.mn;obtain⟨xa,U6⟩:=ah y2.mx;obtain⟨kb,hkb⟩:=ah y1.kind;obtain⟨nb,rz⟩:=ah y1.subs.length;obtain⟨sb,ql⟩:=ah y1.set;obtain⟨mb,tY⟩:=ah y1.mn;obtain⟨xb,Fu⟩:=ah y1.mx;rw[<-hka, <-Tx, <-Rj, <-Qa, <-U6]at Xy T2;rw[<-hkb, <-rz, <-ql, <-tY, <-Fu]at Qi T1;clear hka Tx Rj Qa U6 hkb rz ql tY Fu;have CJ:Hid (∀ W,Move false (fun _=>False) W1 W->ag 35 #[.int .u8 4,.agg (aj ka sa ma xa (.slice p2 na c2)),.agg (aj kb sb mb xb (.slice p1 nb c1))] W fun e w'=>∃ u,e=.returned u/\aH (fun x=>V.heap.size<=x/\x<w'.heap.size) w' u JJ/\aa W w'):=hid fun W hW=>by
  have Jj:ae (· <W1.heap.size) W1 W:=ae.ai hW.below fun _ h=>h
  rw[YH.out];refine(lQ (fun x=>V.heap.size<=x/\x<W1.heap.size) 4 (.inr rfl) _ _ y2 y1 F2.1 F1.1 F2.2 F1.2 W (fun x hx=>aw hx.2 hW.size) ((T2.keeps Jj fun x hx=>hx.2.1).mono fun x hx=>⟨hx.1,hx.2.1⟩) ((T1.out.keeps Jj fun x hx=>hx.2.1).mono fun x hx=>⟨hx.1,hx.2.1⟩)).mono ?_;rintro e w' ⟨u,he,hu,hb⟩;exact⟨u,he,hu.mono fun x hx=>⟨by have:=hW.size;have:=hbase;rcases hx.2 with h | h;exact h.1;omega,hx.1⟩,hb⟩
 clear F2 F1 T2 T1;go_upto_region 15 with fail
 refine aM false (fun _=>False) (by kernel_rfl) 18 [0,0,2,0,8,31,0,0,128,448,960,0,0,4096,14336,30720,65472,131008,262143,524287] (fun i=>i==16 || i==17 || i==18) (by kernel_rfl) (fun i=>if i=16 then A8.tree V.heap.size JJ else if i=17 then A8.box V.heap.size JJ else aR.any _) ?_;intro C hC hne;have HC:=hid hC;clear hC d0 d1 d2
 repeat (refine ak (fun K hK=>?_);first | (refine cQ rfl ?_;try go_simp;refine hK _ _ ?_;clear hK K) | (refine bV rfl rfl ?_;unfold aB;go_simp;refine hK _ _ ?_;clear hK K))
 refine ak (fun K hK=>?_);refine gJ rfl rfl (.agg (aj ka sa ma xa (.slice p2 na c2))) (fun W hW hN=>have hM:=(HC.out W).1 hW;aO 40 (.tmp 90) rfl (g) (q*8) rfl (aj ka sa ma xa (.slice p2 na c2)) _ (aI Xy (ae.ai hM.below fun _ h=>h:ae (· <W1.heap.size) W1 W) Fs) Tryz.underlying40 rfl (cO _ _ _ _ _)) ?_;go_simp;refine hK _ _ ?_;clear hK K
 repeat (refine ak (fun K hK=>?_);first | (refine cQ rfl ?_;try go_simp;refine hK _ _ ?_;clear hK K) | (refine bV rfl rfl ?_;unfold aB;go_simp;refine hK _ _ ?_;clear hK K))
 refine ak (fun K hK=>?_);refine gJ rfl rfl (.agg (aj kb sb mb xb (.slice p1 nb c1))) (fun W hW hN=>have hM:=(HC.out W).1 hW;aO 40 (.tmp 95) rfl (g) (r*8) rfl (aj kb sb mb xb (.slice p1 nb c1)) _ (aI Qi (ae.ai hM.below fun _ h=>h:ae (· <W1.heap.size) W1 W) Fs) Tryz.underlying40 rfl (cO _ _ _ _ _)) ?_;go_simp;refine hK _ _ ?_;clear hK K;refine ak (fun K hK=>?_);refine bS rfl rfl (A8.tree V.heap.size JJ) rfl (fun W hW hN=>?_) (fun v hv=>?_)
 ·have hM:=(HC.out W).1 hW
  clear hW hN hK K;go_simp;refine bu ((CJ W hM).mono ?_);rintro e w2 ⟨u,rfl,ht,hx⟩;exact⟨_,rfl,Move.ai hx,ht.form,ht⟩
 obtain⟨pj,cj,rfl⟩:=hv;unfold aj;go_simp;refine hK _ _ ?_;clear hK K;refine ak (fun K hK=>?_);refine bS rfl rfl (A8.box V.heap.size JJ) rfl (fun W hW hN=>?_) (fun v hv=>?_)
 ·have hM:=(HC.out W).1 hW
  have hT:aH (fun x=>V.heap.size<=x/\x<W.heap.size) W (.agg (aj JJ.kind JJ.set JJ.mn JJ.mx (.slice pj JJ.subs.length cj))) JJ:=hN.at 0 rfl (by kernel_rfl);have HT:=hid hT;clear hW hN hK K hT;go_simp;exact⟨Move.ext ((Ext.refl _).alloc _),⟨_,rfl⟩,fun b hb=>by cases hb;exact⟨_,_,aq.new _ _ _,(HT.keeps ((Ext.refl _).alloc _).keeps fun _ hx=>hx.2).mono fun x hx=>by simp;omega⟩⟩
 obtain⟨bz,rfl⟩:=hv;go_simp;refine hK _ _ ?_;clear hK K;refine cg (fun W hW hH=>?_);have hM:=(HC.out W).1 hW;obtain⟨pz,cz,Zc,hjz⟩:∃ p c,aq W bz (aj JJ.kind JJ.set JJ.mn JJ.mx (.slice p JJ.subs.length c)) 40/\aH (fun x=>V.heap.size<=x/\x<W.heap.size) W (.agg (aj JJ.kind JJ.set JJ.mn JJ.mx (.slice p JJ.subs.length c))) JJ:=(hH _ (aA (show _=some _ from rfl:_[0]? =some _))) bz rfl;have BZ:=hid Zc;have TZ:=hid hjz;have Qj:=hid (eu.below hM.below);have Xz:Hid (ae (· <V.heap.size) V W):=hid (jU.tr (ae.ai hM.below fun x (hx:x<V.heap.size)=>aw hx hbase));have Zs:V.heap.size<=W.heap.size:=Xz.size;clear hM hW hH HC hne Zc hjz eu jU Xy Qi CJ;obtain⟨cs,g1,g2,g3,g4⟩:=Qj.out;rw[<-HM.out]at g2;have hcs:(cs.take q).length=q:=by rw[List.length_take,g1, <-HM.out];omega
 refine nu rfl (.tmp 86) (.tmp 98) 38 rfl V.heap.size 40 iN (.agg eL) 8 80 Tryz.underlying38 sA iw iy iE rfl (by decide) ⟨g,0,none⟩ q (bC (cs.take q)) rfl (by rw[fV fun c hc=>(g3 c (List.mem_of_mem_take hc)).1,hcs]) (fun j u hj=>g2.cells (g:=g) rfl _ _ (tH hj)) ⟨bz,0,none⟩ 1 1 (aj JJ.kind JJ.set JJ.mn JJ.mx (.slice pz JJ.subs.length cz)).toList rfl (bQ BZ) rfl (by decide) (by unfold maxLen;omega) (by omega) Zs ?_;intro v' w' ho hx hv';have R9:Hid (bT V.heap.size w' v' (PP.all.take q++ [JJ])):=hid (bT.fresh (cs:=cs) (c:=aj JJ.kind JJ.set JJ.mn JJ.mx (.slice pz JJ.subs.length cz)) (by rw[<-HM.out];omega) g1 g3 (fun i c t hi ht=>(g4 i c t hi ht).mono fun x hx=>⟨hx.1,hx.2.1⟩) (cH _ _ _ _ _ _ _) TZ ho hx hv');have K9:Hid (ae (· <V.heap.size) V w'):=hid (Xz.tr (ae.ai hx fun x (hx:x<V.heap.size)=>aw hx Zs));obtain⟨Zq,Zr,rfl⟩:=ownsRow_form ho;clear ho hx hv' g1 g2 g3 g4 hcs Qj BZ TZ Xz;go_wp2;go_roundw;case rel=>
  refine⟨k+1,by omega,by go_num,by rw[HST.out,mj.out, <-ug.out],by rw[HST.out,mj.out, <-pP.out],?_,K9⟩;rw[HST.out,mj.out];have e8:(PP.all.take q++ [JJ]).length=q+1:=by rw[aQ,List.length_take, <-HM.out];simp;omega
  exact R9
 case measure=>simp[intOf];omega
theorem Ql (b off c:Nat) (l:List (Nat×Nat×Nat)) (w:World) (hb:b<w.heap.size) (hc:l.length<=c) (iG:l.length<=1000000000000000) (hS:∀ (i:Nat) (s:Nat×Nat×Nat),l[i]? =some s->s.1<256/\s.2.1<256/\s.2.2<256/\w.cell? ⟨b,off+i*3,none⟩=some (.int .u8 s.1)/\w.cell? ⟨b,off+i*3+1,none⟩=some (.int .u8 s.2.1)/\w.cell? ⟨b,off+i*3+2,none⟩=some (.int .u8 s.2.2)):(eH b off c l w hb hc iG hS).E:=by
 have HS:=hid hS;intro iN sA iw iy iE R HR n iG hc N lS En oy Eo nY HN wF wG wH V R0 X0 rA
 intros
 rename_i k hk wo hlt eT s0 s1 s2 PP Hf Fv Hg ru rc m qU uf gr jL HST mf HM ug pP xq zr zt zu zv zw W1 B1 eu jU d0 d1 d2 kd Ji kf hbase xZ hA hB hC hD hE;have a1:¬ ((kd:Int)<4):=by omega
 have a2:((kd:Int)==4)=false:=by simp;omega
 have a3:¬ ((kd:Int)<7):=by omega
 have a5:¬ ((kd:Int)<9):=by omega
 have a6:((kd:Int)==9)=true:=by simp[hE.1]
 have a8:(0:Int)<m:=by omega
 have a9:(gr:Int)<9:=by omega
 obtain⟨r,hr⟩:=ah (m-1);have GN:IntKind.i64.wrap ((m:Int)-1)=(r:Int):=by rw[IntWalk.i64_in _ (by omega)];omega
 have Tz:r<m:=by omega
 have hri:(r:Int)<m:=by omega
 have hx1:PP.all[r]? =some PP.last:=by unfold cM.last;rw[<-HM.out, <-hr];exact bB _ (by rw[<-HM.out];exact Tz)
 obtain⟨y1,ya⟩:=ah PP.last;rw[<-ya]at hx1;have hst:PP.step (s0,s1,s2)=⟨PP.all.take r++ [.nd 6 0 0 0 [y1]],PP.l9,PP.pX+1⟩:=by unfold cM.step;dsimp only;rw[<-xZ.out, <-HM.out, <-pP.out,if_neg hA,if_neg hB,if_neg hC,if_neg hD,if_pos hE];unfold cM.put;rw[<-HM.out, <-hr, <-ya]
 have mj:=hid hst;clear hst ya hA hB hC hD hE;obtain⟨g,p1,c1,e9,XC,jW,hgb,Fs,⟨f0,f1,f2,f3,f4,f5,f6,f7⟩,t1⟩:=eu.elem hx1;subst e9;have T1:=hid t1;clear t1;obtain⟨kb,hkb⟩:=ah y1.kind;obtain⟨nb,rz⟩:=ah y1.subs.length;obtain⟨sb,ql⟩:=ah y1.set;obtain⟨mb,tY⟩:=ah y1.mn;obtain⟨xb,Fu⟩:=ah y1.mx;rw[<-hkb]at f0;rw[<-ql]at f1 f2 f3 f4;rw[<-tY]at f5;rw[<-Fu]at f6;rw[<-rz]at f7;rw[<-hkb, <-rz, <-ql, <-tY, <-Fu]at T1;have HKB:=hid hkb;have agn:=hid hx1;have Sg:=hid hr;clear hkb rz ql tY Fu hx1 hr XC;have hgw:IntKind.i64.wrap ((gr:Int)+1)=((gr+1:Nat):Int):=by rw[IntWalk.i64_in _ (by omega)];omega
 go_wp2_with fail
 refine(Em _ y1 (fun x=>V.heap.size<=x/\x<W1.heap.size/\x≠g) W1 (fun x hx=>hx.2.1) T1.out).mono ?_;rintro e W2 ⟨u,rfl,hu,hx2⟩;have HU:=hid hu;obtain⟨pu,cu,rfl⟩:=hu.form;have Er:=hid (eu.below hx2);have eW:Hid (ae (· <V.heap.size) V W2):=hid (jU.tr (ae.ai hx2 fun x (hx:x<V.heap.size)=>aw hx hbase));obtain⟨cs,q1,q2,q3,q4⟩:=Er.out;rw[<-HM.out]at q2;have kc:∀ (o:Nat) (v:Value),W1.cell? ⟨g,o,none⟩=some v->W2.cell? ⟨g,o,none⟩=some v:=fun o v h=>((ae.ai hx2 fun _ h=>h:ae (· <W1.heap.size) W1 W2).cell (p:=⟨g,o,none⟩) Fs).trans h
 replace f0:=kc _ _ f0;replace f1:=kc _ _ f1;replace f2:=kc _ _ f2;replace f3:=kc _ _ f3;replace f4:=kc _ _ f4;replace f5:=kc _ _ f5;replace f6:=kc _ _ f6;replace f7:=kc _ _ f7;have z0:W2.frozen? ⟨g,r*8,none⟩=false:=q2.frozenAt _;have z1:W2.frozen? ⟨g,r*8+1,none⟩=false:=q2.frozenAt _;have z2:W2.frozen? ⟨g,r*8+2,none⟩=false:=q2.frozenAt _;have z3:W2.frozen? ⟨g,r*8+3,none⟩=false:=q2.frozenAt _;have z4:W2.frozen? ⟨g,r*8+4,none⟩=false:=q2.frozenAt _;have z5:W2.frozen? ⟨g,r*8+5,none⟩=false:=q2.frozenAt _;have z6:W2.frozen? ⟨g,r*8+6,none⟩=false:=q2.frozenAt _;have z7:W2.frozen? ⟨g,r*8+7,none⟩=false:=q2.frozenAt _;have Q1:=hid q1;have Q2:=hid q2;have Q3:=hid q3;have Q4:=hid q4;have ago:V.heap.size<=g:=hgb;have hs2:W1.heap.size<=W2.heap.size:=hx2.size;clear hu hx2 kc q1 q2 q3 q4 Er eu jU d0 d1 d2 B1;simp only[RX.kind,RX.set,RX.mn,RX.mx,RX.subs,List.length_cons,List.length_nil,Nat.zero_add]at HU ⊢;unfold aj;go_upto_region 18 with fail
 refine ax ?_;intro W3 hW3;have K3:Hid (ae (· ≠g) W2 W3):=by rw[hW3];exact hid (((((((((ae.refl _ _).setCell (fun e=>e rfl) _).setCell (fun e=>e rfl) _).setCell (fun e=>e rfl) _).setCell (fun e=>e rfl) _).setCell (fun e=>e rfl) _).setCell (fun e=>e rfl) _).setCell (fun e=>e rfl) _).setCell (fun e=>e rfl) _)
 have R9:Hid (bT V.heap.size W3 (.slice (some ⟨g,0,none⟩) m rc) (PP.all.set r (.nd 6 0 0 0 [y1]))):=by
  rw[hW3,HM.out];refine hid (bT.turned (by rw[<-HM.out];exact Tz) Q1 (by rw[<-HM.out];exact Q2) Q3 (fun i c t hi ht=>(Q4 i c t hi ht).mono fun x hx=>⟨hx.1,hx.2.1,fun e=>hx.2.2 (by rw[e];rfl)⟩) ?_ ?_)
  ·exact(cH _ _ _ _ _ _ _).2
  ·exact HU.mono fun x hx=>⟨by rcases hx.2 with h | h;exact h.1;omega,hx.1,fun e=>by rcases hx.2 with h | h;exact h.2.2 e;omega⟩
 have K9:Hid (ae (· <V.heap.size) V W3):=hid (eW.tr (K3.mono fun x (hx:x<V.heap.size)=>by show x≠g;omega));clear hW3 f0 f1 f2 f3 f4 f5 f6 f7 z0 z1 z2 z3 z4 z5 z6 z7 Q1 Q2 Q3 Q4 HU eW K3;have rM:PP.all.set r (.nd 6 0 0 0 [y1])=PP.all.take r++ [.nd 6 0 0 0 [y1]]:=by
  have e:=jm (l:=PP.all) (by rw[<-HM.out];omega);rw[<-HM.out, <-Sg.out]at e
  conv=>lhs;rw[e]
  rw[List.set_append_right _ _ (by rw[List.length_take];omega),List.length_take,Nat.min_eq_left (by rw[<-HM.out];omega),Nat.sub_self];rfl
 have NM:=hid rM;clear rM;go_wp2;go_roundw;case rel=>
  refine⟨k+1,by omega,by go_num,?_,?_,?_,K9⟩
  ·have e7:(hZ (l.take (k+1))).l9=uf:=by rw[HST.out,mj.out];exact ug.symm
   rw[e7]
   try rfl
   try go_num
  ·have e7:(hZ (l.take (k+1))).pX=gr+1:=by rw[HST.out,mj.out];rw[pP.out]
   rw[e7]
   try rfl
   try go_num
  ·rw[HST.out,mj.out, <-NM.out]
   have e8:(PP.all.set r (.nd 6 0 0 0 [y1])).length=m:=by rw[List.length_set];exact HM.symm
   exact R9
 case measure=>simp[intOf];omega
theorem Qm (b off c:Nat) (l:List (Nat×Nat×Nat)) (w:World) (hb:b<w.heap.size) (hc:l.length<=c) (iG:l.length<=1000000000000000) (hS:∀ (i:Nat) (s:Nat×Nat×Nat),l[i]? =some s->s.1<256/\s.2.1<256/\s.2.2<256/\w.cell? ⟨b,off+i*3,none⟩=some (.int .u8 s.1)/\w.cell? ⟨b,off+i*3+1,none⟩=some (.int .u8 s.2.1)/\w.cell? ⟨b,off+i*3+2,none⟩=some (.int .u8 s.2.2)):(eH b off c l w hb hc iG hS).G:=by
 have HS:=hid hS;intro iN sA iw iy iE R HR n iG hc N lS En oy Eo nY HN wF wG wH V R0 X0 rA
 intros
 rename_i k hk wo hlt eT s0 s1 s2 PP Hf Fv Hg ru rc m qU uf gr jL HST mf HM ug pP xq zr zt zu zv zw W1 B1 eu jU d0 d1 d2 kd Ji kf hbase xZ hA hB hC hD hE hG;have a1:¬ ((kd:Int)<4):=by omega
 have a2:((kd:Int)==4)=false:=by simp;omega
 have a3:¬ ((kd:Int)<7):=by omega
 have a5:¬ ((kd:Int)<9):=by omega
 have a6:((kd:Int)==9)=false:=by simp;omega
 have a7:(9:Int)<kd:=by omega
 have a8:(0:Int)<m:=by omega
 obtain⟨r,hr⟩:=ah (m-1);have GN:IntKind.i64.wrap ((m:Int)-1)=(r:Int):=by rw[IntWalk.i64_in _ (by omega)];omega
 have Tz:r<m:=by omega
 have hri:(r:Int)<m:=by omega
 have hx1:PP.all[r]? =some PP.last:=by unfold cM.last;rw[<-HM.out, <-hr];exact bB _ (by rw[<-HM.out];exact Tz)
 obtain⟨y1,ya⟩:=ah PP.last;rw[<-ya]at hx1;have Ep:PP.step (s0,s1,s2)=if 9<kd/\0<m/\y1.kind≠1 then(if PP.l9*iq s1 s2<=16 then⟨PP.put 1 (.nd 5 0 (eo s1) (gY s1 s2) [y1]),PP.l9*iq s1 s2,PP.pX⟩else PP)else PP:=by unfold cM.step;dsimp only;rw[<-xZ.out, <-HM.out,if_neg hA,if_neg hB,if_neg hC,if_neg hD, <-pP.out,if_neg hE, <-ya]
 obtain⟨g,p1,c1,e9,XC,jW,hgb,Fs,⟨f0,f1,f2,f3,f4,f5,f6,f7⟩,t1⟩:=eu.elem hx1;subst e9;have T1:=hid t1;clear t1;obtain⟨kb,hkb⟩:=ah y1.kind;obtain⟨nb,rz⟩:=ah y1.subs.length;obtain⟨sb,ql⟩:=ah y1.set;obtain⟨mb,tY⟩:=ah y1.mn;obtain⟨xb,Fu⟩:=ah y1.mx;rw[<-hkb]at f0;rw[<-ql]at f1 f2 f3 f4;rw[<-tY]at f5;rw[<-Fu]at f6;rw[<-rz]at f7;rw[<-hkb, <-rz, <-ql, <-tY, <-Fu]at T1;have HKB:=hid hkb;have agn:=hid hx1;have Sg:=hid hr;clear hkb rz ql tY Fu hx1 hr XC;have U9:W1.rangeAt g (r*8) (aj kb sb mb xb (.slice p1 nb c1)).toList:=fun j v hj=>by
  have hl:=(List.getElem?_eq_some_iff.1 hj).1;have h8:(aj kb sb mb xb (.slice p1 nb c1)).toList.length=8:=rfl;rw[h8]at hl;have hc:j=0\/j=1\/j=2\/j=3\/j=4\/j=5\/j=6\/j=7:=by omega
  rcases hc with rfl | rfl | rfl | rfl | rfl | rfl | rfl | rfl<;>cases hj<;>assumption
 have Qi:=hid U9;clear U9;by_cases sP:kb=1
 ·have b0:((kb:Int)==1)=true:=by simp[sP]
  have b0':((kb:Int) != 1)=false:=by simp[sP]
  have hst:PP.step (s0,s1,s2)=PP:=by rw[Ep,if_neg (fun h=>h.2.2 (by rw[<-HKB.out];exact sP))]
  have mj:=hid hst;clear hst Ep ya hA hB hC hD hE hG sP;go_wp2;go_roundw;case rel=>
   refine⟨k+1,by omega,by go_num,by rw[HST.out,mj.out, <-ug.out],by rw[HST.out,mj.out, <-pP.out],by rw[HST.out,mj.out];exact eu,jU⟩
  case measure=>simp[intOf];omega
 ·have b0:((kb:Int)==1)=false:=by simp;omega
  have b0':((kb:Int) != 1)=true:=by simp;omega
  rw[if_pos ⟨hG.1,hG.2,by rw[<-HKB.out];exact sP⟩]at Ep;have abM:=hid Ep;obtain⟨n3,KC⟩:=ah (s1%3);obtain⟨m4,Cf⟩:=ah (s2%4);have amS:n3<3:=by omega
  have amT:m4<4:=by omega
  have amU:Int.tmod (s1:Int) 3=(n3:Int):=by rw[Int.tmod_eq_emod_of_nonneg (by omega)];omega
  have amV:Int.tmod (s2:Int) 4=(m4:Int):=by rw[Int.tmod_eq_emod_of_nonneg (by omega)];omega
  have amW:IntKind.i64.wrap (n3:Int)=(n3:Int):=IntWalk.i64_in _ (by omega);have amX:IntKind.i64.wrap (m4:Int)=(m4:Int):=IntWalk.i64_in _ (by omega);have Mt:=LD s1 s2;obtain⟨T,Re⟩:=ah (iq s1 s2);have HTS:Hid (max (max (eo s1:Int) (gY s1 s2)) 1=(iq s1 s2:Int)):=hid Mt.2.2;have agp:1<=T/\T<=3:=by omega
  obtain⟨UT,hUT⟩:=ah (uf*T);have amZ:(uf:Int)*(T:Int)=(UT:Int):=by rw[hUT];simp
  have ajp:UT<=48:=by rw[hUT];exact Nat.le_trans (Nat.mul_le_mul jL agp.2) (by decide)
  have am0:IntKind.i64.wrap ((UT:Nat):Int)=(UT:Int):=IntWalk.i64_in _ (by omega);have Zf:=hid KC;have Xd:=hid Cf;have TA:=hid Re;have HUT:=hid hUT;clear Ep ya hA hB hC hD hE hG sP KC Cf Mt Re hUT;go_upto_region 20 with fail
  refine aM false (fun _=>False) (by kernel_rfl) 9 [0,1,3,7,0,16,48,112,15,511] (fun i=>i==99) (by kernel_rfl) (fun _=>aR.any _) ?_;intro C hC hne;have HC:=hid hC;have q1:=aF hC (p:=⟨wo.heap.size,1,none⟩) B1.lt (fun h=>h) d1;have q2:=aF hC (p:=⟨wo.heap.size,2,none⟩) B1.lt (fun h=>h) d2;clear hC
  repeat (refine ak (fun K hK=>?_);first | (refine cQ rfl ?_;try go_simp;refine hK _ _ ?_;clear hK K) | (refine bV rfl rfl ?_;unfold aB;go_simp;refine hK _ _ ?_;clear hK K))
  refine cg (fun W hW hH=>?_);have hM:=(HC.out W).1 hW;have Jj:ae (· <W1.heap.size) W1 W:=ae.ai hM.below fun _ h=>h
  have eu:=hid (eu.below hM.below);have jU:Hid (ae (· <V.heap.size) V W):=hid (jU.tr (Jj.mono fun x (hx:x<V.heap.size)=>aw hx hbase));have xo:W1.heap.size<=W.heap.size:=hM.size;have hbase:V.heap.size<=W.heap.size:=jU.size;have T1:Hid (aH (fun x=>V.heap.size<=x/\x<W.heap.size/\x≠g) W (.agg (aj kb sb mb xb (.slice p1 nb c1))) y1):=hid ((T1.out.keeps Jj fun x hx=>hx.2.1).mono fun x hx=>⟨hx.1,by have:=hx.2.1;omega,hx.2.2⟩);have Qi:=hid (aI Qi Jj Fs);have kw:∀ (o:Nat) (v:Value),W1.cell? ⟨g,o,none⟩=some v->W.cell? ⟨g,o,none⟩=some v:=fun o v h=>(Jj.cell (p:=⟨g,o,none⟩) Fs).trans h
  replace f0:=kw _ _ f0;replace f1:=kw _ _ f1;replace f2:=kw _ _ f2;replace f3:=kw _ _ f3;replace f4:=kw _ _ f4;replace f5:=kw _ _ f5;replace f6:=kw _ _ f6;replace f7:=kw _ _ f7;have Fs:g<W.heap.size:=by omega
  clear hM Jj kw hW hH HC hne q1 q2 d0 d1 d2 B1;obtain⟨mv,Nk⟩:=ah (gY s1 s2:Int);have abN:mv=if m4<n3\/m4=0\/(n3=1/\m4=1)then-1 else(m4:Int):=by rw[Nk];unfold gY eo;rw[<-Zf.out, <-Xd.out]
  have HMV:=hid Nk;have abO:=hid abN;clear Nk abN;go_upto_region 21 with fail
  go_cut [161] from 147 to 161 (fun b wx=>b=.bool (decide (m4<n3\/m4=0\/(n3=1/\m4=1)))/\wx=W)
  case first=>
   by_cases b1:m4<n3
   ·have b1i:(m4:Int)<n3:=by omega
    have D:=hid (decide_eq_true (.inl b1:m4<n3\/m4=0\/(n3=1/\m4=1)));clear b1;go_wp2_with fail
    go_meet
    exact⟨by rw[D.out],rfl⟩
   ·have b1i:¬ ((m4:Int)<n3):=by omega
    by_cases b2:m4=0
    ·have b2i:((m4:Int)==0)=true:=by simp[b2]
     have D:=hid (decide_eq_true (.inr (.inl b2):m4<n3\/m4=0\/(n3=1/\m4=1)));clear b1 b2;go_wp2_with fail
     go_meet
     exact⟨by rw[D.out],rfl⟩
    ·have b2i:((m4:Int)==0)=false:=by simp;omega
     by_cases b3:n3=1
     ·have b3i:((n3:Int)==1)=true:=by simp[b3]
      by_cases b4:m4=1
      ·have b4i:((m4:Int)==1)=true:=by simp[b4]
       have D:=hid (decide_eq_true (.inr (.inr ⟨b3,b4⟩):m4<n3\/m4=0\/(n3=1/\m4=1)));clear b1 b2 b3 b4;go_wp2_with fail
       go_meet
       exact⟨by rw[D.out],rfl⟩
      ·have b4i:((m4:Int)==1)=false:=by simp;omega
       have D:=hid (decide_eq_false (by omega:¬ (m4<n3\/m4=0\/(n3=1/\m4=1))));clear b1 b2 b3 b4;go_wp2_with fail
       go_meet
       exact⟨by rw[D.out],rfl⟩
     ·have b3i:((n3:Int)==1)=false:=by simp;omega
      have D:=hid (decide_eq_false (by omega:¬ (m4<n3\/m4=0\/(n3=1/\m4=1))));clear b1 b2 b3;go_wp2_with fail
      go_meet
      exact⟨by rw[D.out],rfl⟩
  case rest=>
  obtain⟨rfl,hwc⟩:=hcut;replace hwc:=hwc.symm;subst hwc
  go_upto_if 161 with fail
  go_cut [11] from 161 to 161 (fun x wx=>x=.int .i64 mv/\wx=W)
  case first=>
   by_cases e:m4<n3\/m4=0\/(n3=1/\m4=1)
   ·have d:=decide_eq_true e
    go_wp2_with fail
    go_meet
    exact⟨by rw[abO.out,if_pos e],rfl⟩
   ·have d:=decide_eq_false e
    go_wp2_with fail
    go_meet
    exact⟨by rw[abO.out,if_neg e],rfl⟩
  case rest=>
  obtain⟨rfl,hwc⟩:=hcut;replace hwc:=hwc.symm;subst hwc;have hT3:=HTS.out;rw[<-HMV.out]at hT3;have abP:max (max (n3:Int) mv) 1=(T:Int):=by rw[Zf.out,TA.out];exact hT3
  have Ts:=(Ty (n3:Int) mv).trans abP;have HMX:Hid (gY s1 s2=mv):=hid HMV.symm;clear hT3 abP;by_cases Di:UT<=16
  ·have Fp:(UT:Int)<=16:=by omega
   have hst:PP.step (s0,s1,s2)=⟨PP.all.take r++ [.nd 5 0 (n3:Int) mv [y1]],UT,PP.pX⟩:=by
    rw[abM.out,if_pos (by rw[<-TA.out, <-ug.out, <-HUT.out];exact Di),HMX.out];have e1:((eo s1:Nat):Int)=(n3:Int):=by unfold eo;rw[Zf.out]
    rw[e1, <-TA.out, <-ug.out, <-HUT.out];unfold cM.put;rw[<-HM.out, <-Sg.out]
   have mj:=hid hst;clear hst Di;go_wp2_with (first | (refine wE rfl 40 (.tmp 178) rfl g (r*8) rfl (aj kb sb mb xb (.slice p1 nb c1)) _ Qi Tryz.underlying40 rfl (cO _ _ _ _ _) ?_) | (go_at_call 37;refine Hid.out ?_));refine hid ?_;refine(LC _ y1 (n3:Int) mv (fun x=>V.heap.size<=x/\x<W.heap.size/\x≠g) W (fun x hx=>hx.2.1) T1.out).mono ?_;rintro e W2 ⟨u,rfl,hu,hx2⟩;have HU:=hid hu;obtain⟨pu,cu,rfl⟩:=hu.form;have Er:=hid (eu.below hx2);have eW:Hid (ae (· <V.heap.size) V W2):=hid (jU.tr (ae.ai hx2 fun x (hx:x<V.heap.size)=>aw hx hbase));obtain⟨cs,q1,q2,q3,q4⟩:=Er.out;rw[<-HM.out]at q2;have kc:∀ (o:Nat) (v:Value),W.cell? ⟨g,o,none⟩=some v->W2.cell? ⟨g,o,none⟩=some v:=fun o v h=>((ae.ai hx2 fun _ h=>h:ae (· <W.heap.size) W W2).cell (p:=⟨g,o,none⟩) Fs).trans h
   replace f0:=kc _ _ f0;replace f1:=kc _ _ f1;replace f2:=kc _ _ f2;replace f3:=kc _ _ f3;replace f4:=kc _ _ f4;replace f5:=kc _ _ f5;replace f6:=kc _ _ f6;replace f7:=kc _ _ f7;have z0:W2.frozen? ⟨g,r*8,none⟩=false:=q2.frozenAt _;have z1:W2.frozen? ⟨g,r*8+1,none⟩=false:=q2.frozenAt _;have z2:W2.frozen? ⟨g,r*8+2,none⟩=false:=q2.frozenAt _;have z3:W2.frozen? ⟨g,r*8+3,none⟩=false:=q2.frozenAt _;have z4:W2.frozen? ⟨g,r*8+4,none⟩=false:=q2.frozenAt _;have z5:W2.frozen? ⟨g,r*8+5,none⟩=false:=q2.frozenAt _;have z6:W2.frozen? ⟨g,r*8+6,none⟩=false:=q2.frozenAt _;have z7:W2.frozen? ⟨g,r*8+7,none⟩=false:=q2.frozenAt _;have Q1:=hid q1;have Q2:=hid q2;have Q3:=hid q3;have Q4:=hid q4;have ago:V.heap.size<=g:=hgb;have hs2:W.heap.size<=W2.heap.size:=hx2.size;clear hu hx2 kc q1 q2 q3 q4 Er eu jU;simp only[RX.kind,RX.set,RX.mn,RX.mx,RX.subs,List.length_cons,List.length_nil,Nat.zero_add]at HU ⊢;unfold aj;go_upto_region 27 with fail
   refine ax ?_;intro W3 hW3;have K3:Hid (ae (· ≠g) W2 W3):=by rw[hW3];exact hid (((((((((ae.refl _ _).setCell (fun e=>e rfl) _).setCell (fun e=>e rfl) _).setCell (fun e=>e rfl) _).setCell (fun e=>e rfl) _).setCell (fun e=>e rfl) _).setCell (fun e=>e rfl) _).setCell (fun e=>e rfl) _).setCell (fun e=>e rfl) _)
   have R9:Hid (bT V.heap.size W3 (.slice (some ⟨g,0,none⟩) m rc) (PP.all.set r (.nd 5 0 (n3:Int) mv [y1]))):=by
    rw[hW3,HM.out];refine hid (bT.turned (by rw[<-HM.out];exact Tz) Q1 (by rw[<-HM.out];exact Q2) Q3 (fun i c t hi ht=>(Q4 i c t hi ht).mono fun x hx=>⟨hx.1,hx.2.1,fun e=>hx.2.2 (by rw[e];rfl)⟩) ?_ ?_)
    ·exact(cH _ _ _ _ _ _ _).2
    ·exact HU.mono fun x hx=>⟨by rcases hx.2 with h | h;exact h.1;omega,hx.1,fun e=>by rcases hx.2 with h | h;exact h.2.2 e;omega⟩
   have K9:Hid (ae (· <V.heap.size) V W3):=hid (eW.tr (K3.mono fun x (hx:x<V.heap.size)=>by show x≠g;omega));clear hW3 f0 f1 f2 f3 f4 f5 f6 f7 z0 z1 z2 z3 z4 z5 z6 z7 Q1 Q2 Q3 Q4 HU eW K3;have rM:PP.all.set r (.nd 5 0 (n3:Int) mv [y1])=PP.all.take r++ [.nd 5 0 (n3:Int) mv [y1]]:=by
    have e:=jm (l:=PP.all) (by rw[<-HM.out];omega);rw[<-HM.out, <-Sg.out]at e
    conv=>lhs;rw[e]
    rw[List.set_append_right _ _ (by rw[List.length_take];omega),List.length_take,Nat.min_eq_left (by rw[<-HM.out];omega),Nat.sub_self];rfl
   have NM:=hid rM;clear rM;go_wp2;go_roundw;case rel=>
    refine⟨k+1,by omega,by go_num,?_,?_,?_,K9⟩
    ·have e7:(hZ (l.take (k+1))).l9=UT:=by rw[HST.out,mj.out]
     rw[e7]
     try rfl
     try go_num
    ·have e7:(hZ (l.take (k+1))).pX=gr:=by rw[HST.out,mj.out];exact pP.symm
     rw[e7]
     try rfl
     try go_num
    ·rw[HST.out,mj.out, <-NM.out]
     have e8:(PP.all.set r (.nd 5 0 (n3:Int) mv [y1])).length=m:=by rw[List.length_set];exact HM.symm
     exact R9
   case measure=>simp[intOf];omega
  ·have Fp:¬ ((UT:Int)<=16):=by omega
   have hst:PP.step (s0,s1,s2)=PP:=by rw[abM.out,if_neg (by rw[<-TA.out, <-ug.out, <-HUT.out];exact Di)]
   have mj:=hid hst;clear hst Di;go_wp2;go_roundw;case rel=>
    refine⟨k+1,by omega,by go_num,by rw[HST.out,mj.out, <-ug.out],by rw[HST.out,mj.out, <-pP.out],by rw[HST.out,mj.out];exact eu,jU⟩
   case measure=>simp[intOf];omega
theorem Qo (b off c:Nat) (l:List (Nat×Nat×Nat)) (w:World) (hb:b<w.heap.size) (hc:l.length<=c) (iG:l.length<=1000000000000000) (hS:∀ (i:Nat) (s:Nat×Nat×Nat),l[i]? =some s->s.1<256/\s.2.1<256/\s.2.2<256/\w.cell? ⟨b,off+i*3,none⟩=some (.int .u8 s.1)/\w.cell? ⟨b,off+i*3+1,none⟩=some (.int .u8 s.2.1)/\w.cell? ⟨b,off+i*3+2,none⟩=some (.int .u8 s.2.2)):(eH b off c l w hb hc iG hS).H:=by
 have HS:=hid hS;intro iN sA iw iy iE R HR n iG hc N lS En oy Eo nY HN wF wG wH V R0 X0 rA
 intros
 rename_i k hk wo hlt eT s0 s1 s2 PP Hf Fv Hg ru rc m qU uf gr jL HST mf HM ug pP xq zr zt zu zv zw W1 B1 eu jU d0 d1 d2 kd Ji kf hbase xZ hA hB hC hD hE hG mj a1 a2;go_upto_region 12 with fail
 go_cut [48] from 49 to 54 (fun x wx=>x=.bool false/\wx=W1)
 case first=>
  by_cases hq:kd<7
  ·have a3:(kd:Int)<7:=by omega
   have a4:¬ ((1:Int)<m):=by omega
   go_wp2_with fail
   go_meet
   exact⟨rfl,rfl⟩
  ·have a3:¬ ((kd:Int)<7):=by omega
   go_wp2_with fail
   go_meet
   exact⟨rfl,rfl⟩
 case rest=>
 obtain⟨rfl,hwc⟩:=hcut;replace hwc:=hwc.symm;subst hwc;go_upto_region 14 with fail
 go_cut [74] from 75 to 80 (fun x wx=>x=.bool false/\wx=W1)
 case first=>
  by_cases hq:kd<9
  ·have a3:(kd:Int)<9:=by omega
   have a4:¬ ((1:Int)<m):=by omega
   go_wp2_with fail
   go_meet
   exact⟨rfl,rfl⟩
  ·have a3:¬ ((kd:Int)<9):=by omega
   go_wp2_with fail
   go_meet
   exact⟨rfl,rfl⟩
 case rest=>
 obtain⟨rfl,hwc⟩:=hcut;replace hwc:=hwc.symm;subst hwc;go_upto_region 16 with fail
 go_cut [100] from 101 to 110 (fun x wx=>x=.bool false/\wx=W1)
 case first=>
  by_cases hq:kd=9
  ·have a6:((kd:Int)==9)=true:=by simp[hq]
   by_cases h0:0<m
   ·have a8:(0:Int)<m:=by omega
    have a9:¬ ((gr:Int)<9):=by omega
    clear hq;go_wp2_with fail
    go_meet
    exact⟨rfl,rfl⟩
   ·have a8:¬ ((0:Int)<m):=by omega
    clear hq;go_wp2_with fail
    go_meet
    exact⟨rfl,rfl⟩
  ·have a6:((kd:Int)==9)=false:=by simp;omega
   go_wp2_with fail
   go_meet
   exact⟨rfl,rfl⟩
 case rest=>
 obtain⟨rfl,hwc⟩:=hcut;replace hwc:=hwc.symm;subst hwc;go_upto_region 19 with fail
 go_cut [123] from 124 to 138 (fun x wx=>x=.bool false/\wx=W1)
 case first=>
  by_cases hq:9<kd
  ·have a7:(9:Int)<kd:=by omega
   have a8:¬ ((0:Int)<m):=by omega
   go_wp2_with fail
   go_meet
   exact⟨rfl,rfl⟩
  ·have a7:¬ ((9:Int)<kd):=by omega
   go_wp2_with fail
   go_meet
   exact⟨rfl,rfl⟩
 case rest=>
 obtain⟨rfl,hwc⟩:=hcut;replace hwc:=hwc.symm;subst hwc;go_wp2;go_roundw;case rel=>
  refine⟨k+1,by omega,by go_num,by rw[HST.out,mj.out, <-ug.out],by rw[HST.out,mj.out, <-pP.out],by rw[HST.out,mj.out];exact eu,jU⟩
 case measure=>simp[intOf];omega
theorem Qp (b off c:Nat) (l:List (Nat×Nat×Nat)) (w:World) (hb:b<w.heap.size) (hc:l.length<=c) (iG:l.length<=1000000000000000) (hS:∀ (i:Nat) (s:Nat×Nat×Nat),l[i]? =some s->s.1<256/\s.2.1<256/\s.2.2<256/\w.cell? ⟨b,off+i*3,none⟩=some (.int .u8 s.1)/\w.cell? ⟨b,off+i*3+1,none⟩=some (.int .u8 s.2.1)/\w.cell? ⟨b,off+i*3+2,none⟩=some (.int .u8 s.2.2)):(eH b off c l w hb hc iG hS).Z:=by
 have HS:=hid hS;intro iN sA iw iy iE R HR n iG hc nY wF wG wH V R0 X0 rA u3
 intros
 rename_i k wo hrow HX lS En oy Eo HN hk hlt yQ;obtain⟨PP,Xo⟩:=ah (hZ (l.take k));rw[<-Xo]at hrow ⊢;have dT:l.take k=l.take 25:=by
  rw[HN.out,nY.out];rcases Nat.le_total l.length 25 with h | h
  ·rw[Nat.min_eq_left h,List.take_length,List.take_of_length_le h]
  ·rw[Nat.min_eq_right h]
 have ry:=vR (l.take 25);have Lv:R=aa6 PP.all:=by rw[HR.out,Xo,dT];rfl
 rw[<-dT, <-Xo]at ry;have hfA:=ry.fine;have hsA:RX.sizes PP.all<=25:=Nat.le_trans ry.size (by rw[List.length_take];omega);obtain⟨ru,rc,rfl⟩:=hrow.form;have gO:=hid hrow;obtain⟨A,hA⟩:=ah PP.all;rw[<-hA]at gO hfA hsA Lv ⊢;have Zt:=hid hfA;have Zu:=hid hsA;have gN:=hid Lv;clear hrow hfA hsA Lv ry dT Xo hA;have hwV:w.heap.size<V.heap.size:=by have:=rA.out;omega
 have YQ:V.heap.size<=wo.heap.size:=HX.size;have X9:Hid (aa w wo):=hid (X0.below.trans (HX.mono fun x (hx:x<w.heap.size)=>by show x<V.heap.size;omega:ae (· <w.heap.size) V wo).below);have R9:=hid (R0.keeps HX R0.lt);match A,gO,Zt,Zu,gN with
 | [],gO,Zt,Zu,gN=>
  simp only[List.length_nil];go_wp2_with fail
  refine(nA _ [97] rfl (by decide) wo).mono ?_;rintro e w2 ⟨rfl,hx2⟩;obtain⟨S,hS⟩:=ah (oo fun c=>([97]:List Nat).contains c);rw[<-hS];have oG:R=.nd 2 S 0 0 []:=by rw[gN.out,hS];rfl
  have R2:=hid (R9.below hx2 R9.lt);have X2:Hid (aa w w2):=hid (X9.trans (hx2.mono X9.size));clear hS hx2;go_wp2_with (refine wpList_store_row rfl 40 (.tmp 2) (.tmp 188) rfl w.heap.size (aj 2 S 0 0 (.slice none 0 0)) rfl rfl 40 eL R2 (cO _ _ _ _ _) rfl (j9 _ _ _ _ _ _ _) ?_;refine Hid.out ?_);refine hid ?_;obtain⟨V3,cD⟩:=ah (w2.setRow w.heap.size (aj 2 S 0 0 (.slice none 0 0)));rw[<-cD];have RR:Hid (aq V3 w.heap.size (aj 2 S 0 0 (.slice none 0 0)) 40):=by rw[cD];exact hid R2.setRow
  have KK:ae (· ≠w.heap.size) w2 V3:=by rw[cD];exact bn _ _ _
  clear cD;go_wp2;obtain⟨m0,m1,m2,m3,m4,m5,m6,m7⟩:=RR.eight;refine bodyPost_ret (v:=.agg (aj 2 S 0 0 (.slice none 0 0))) (by simp[results,Tryz.results19,aj,go_sem,m0,m1,m2,m3,m4,m5,m6,m7]) rfl ⟨_,rfl,?_,X2.trans (KK.mono fun x (hx:x<w.heap.size)=>by show x≠_;omega:ae (· <w.heap.size) w2 V3).below⟩;rw[oG];exact aH.leaf _ _ _ _ _ _ _ _
 | x::r,gO,Zt,Zu,gN=>
  obtain⟨m,hm⟩:=ah ((x::r).length);have Zb:m=r.length+1:=by rw[hm];rfl
  have am5:m<=25:=by have:=wy (x::r);have:=Zu.out;omega
  rw[<-hm]at gO ⊢;obtain⟨g,p1,c1,e9,XC,jW,hgb,Fs,⟨f0,f1,f2,f3,f4,f5,f6,f7⟩,t1⟩:=gO.elem (i:=0) (t:=x) rfl;clear XC;subst e9;simp only[Nat.zero_mul,Nat.zero_add]at f0 f1 f2 f3 f4 f5 f6 f7;have T1:=hid t1;have YF:(0:Int)<m:=by omega
  have U5:(1:Int)<=m:=by omega
  have yB:1<=m:=by omega
  have hc2:1<=rc:=by omega
  have hc3:(1:Int)<=rc:=by omega
  have tY:((m:Int)==0)=false:=by simp;omega
  have HMR:=hid Zb;clear t1 hm Zb;go_upto_region 31 with fail
  refine ax ?_;intro W1 hW1;have B13:Hid (aq W1 wo.heap.size (aj x.kind x.set x.mn x.mx (.slice p1 x.subs.length c1)) 40):=by rw[hW1];exact hid (aq.new _ _ _)
  have E1:Hid (Ext wo W1):=by rw[hW1];exact hid ((Ext.refl wo).alloc _)
  clear hW1 f0 f1 f2 f3 f4 f5 f6 f7;by_cases hrc:rc=1
  ·skip --Y3a
   obtain rfl:m=1:=by omega
   subst hrc;have hr0:r=[]:=List.eq_nil_of_length_eq_zero (by have:=HMR.out;omega);have HTR:R=x:=by rw[gN.out,hr0];rfl
   have T2:Hid (aH (fun y=>V.heap.size<=y/\y<W1.heap.size) W1 (.agg (aj x.kind x.set x.mn x.mx (.slice p1 x.subs.length c1))) x):=hid ((T1.out.keeps E1.keeps fun y hy=>hy.2.1).mono fun y hy=>⟨hy.1,by have:=hy.2.1;have:=E1.size;omega⟩);have X1:Hid (aa w W1):=hid (X9.trans (E1.below.mono X9.size));have R1:=hid (R9.ext E1);clear T1 X9 R9 hr0 gO;go_wp2;go_loopw [195] (fun i wr=>i=.int .i64 0/\wr=W1) (fun _ _=>0);case atStart=>exact⟨rfl,rfl⟩
   case round=>
    obtain⟨rfl,hwr⟩:=hrel;replace hwr:=hwr.symm;subst hwr;go_wp2_with (first | (refine aJ rfl 40 (.tmp 13) rfl wo.heap.size rfl (aj x.kind x.set x.mn x.mx (.slice p1 x.subs.length c1)) _ B13.range Tryz.underlying40 rfl (cO _ _ _ _ _) ?_) | (refine wpList_store_row rfl 40 (.tmp 2) (.tmp 203) rfl w.heap.size (aj x.kind x.set x.mn x.mx (.slice p1 x.subs.length c1)) rfl rfl 40 eL R1 (cO _ _ _ _ _) rfl (j9 _ _ _ _ _ _ _) ?_;refine Hid.out ?_));refine hid ?_;obtain⟨V3,cD⟩:=ah (W1.setRow w.heap.size (aj x.kind x.set x.mn x.mx (.slice p1 x.subs.length c1)));rw[<-cD];have RR:Hid (aq V3 w.heap.size (aj x.kind x.set x.mn x.mx (.slice p1 x.subs.length c1)) 40):=by rw[cD];exact hid R1.setRow
    have KK:ae (· ≠w.heap.size) W1 V3:=by rw[cD];exact bn _ _ _
    clear cD;go_wp2;obtain⟨m0,m1,m2,m3,m4,m5,m6,m7⟩:=RR.eight;refine bodyPost_ret (v:=.agg (aj x.kind x.set x.mn x.mx (.slice p1 x.subs.length c1))) (by simp[results,Tryz.results19,aj,go_sem,m0,m1,m2,m3,m4,m5,m6,m7]) rfl ⟨_,rfl,?_,X1.trans (KK.mono fun z (hz:z<w.heap.size)=>by show z≠_;omega:ae (· <w.heap.size) W1 V3).below⟩;rw[HTR];exact(T2.keeps KK fun z hz=>by have:=hz.1;show z≠_;omega).mono fun z hz=>⟨by have:=hz.1;omega,aw hz.2 KK.size⟩
  have am6:1<rc:=by omega
  have am7:(1:Int)<rc:=by omega
  have am8:rc-1≠0:=by omega
  have am9:¬ (rc=1):=hrc;have ana:¬ ((rc:Int)=1):=by omega
  have anb:¬ (rc<=1):=by omega
  go_wp2;obtain⟨J0,hJ0⟩:=ah wo.heap.size;have hJ1:J0<W1.heap.size:=by rw[hJ0];exact B13.lt
  have HJ0:=hid hJ0;have eu:=hid (gO.below E1.below);have T2:Hid (aH (fun y=>V.heap.size<=y/\y<W1.heap.size/\y≠J0) W1 (.agg (aj x.kind x.set x.mn x.mx (.slice p1 x.subs.length c1))) x):=hid ((T1.out.keeps E1.keeps fun y hy=>hy.2.1).mono fun y hy=>⟨hy.1,by have:=hy.2.1;have:=E1.size;omega,fun e=>by have:=hy.2.1;omega⟩);have X1:Hid (aa w W1):=hid (X9.trans (E1.below.mono X9.size));have R1:=hid (R9.ext E1);have hgJ:g<J0:=by omega
  have hRJ:w.heap.size<J0:=by omega
  rw[<-hJ0]at B13 ⊢;clear T1 X9 R9 hJ0;go_loopw [195] (fun i wr=>∃ (j:Nat) (t:RX) (p':Option Addr) (c':Nat),j<=r.length/\i=.int .i64 j/\t=(r.take j).foldl (bU 4) x/\aq wr J0 (aj t.kind t.set t.mn t.mx (.slice p' t.subs.length c')) 40/\aH (fun y=>V.heap.size<=y/\y<wr.heap.size/\y≠J0) wr (.agg (aj t.kind t.set t.mn t.mx (.slice p' t.subs.length c'))) t/\ae (fun y=>y<W1.heap.size/\y≠J0) W1 wr) (fun i _=>r.length-(intOf i).toNat);case atStart=>exact⟨0,x,p1,c1,by omega,rfl,rfl,B13,T2,ae.refl _ _⟩
  case round=>
   obtain⟨j,t,p',c',hj,rfl,ht,hB,hT,hK⟩:=hrel;obtain⟨w5,rfl⟩:=ah (wr:World);have HB:=hid hB;have HT:=hid hT;have HK:=hid hK;have TA:=hid ht;clear hB hT hK ht;have hR:=HMR.out;by_cases hlt:j<r.length
   ·obtain⟨y,hy⟩:∃ y,r[j]? =some y:=⟨_,aC hlt⟩
    have hyA:(x::r)[j+1]? =some y:=by simpa using hy
    have hK2:ae (fun y=>y<J0) wo w5:=(E1.keeps.mono fun y (hy:y<J0)=>by have:=HJ0.out;show y<wo.heap.size;omega).tr (HK.mono fun y (hy:y<J0)=>⟨by omega,by omega⟩);obtain⟨g',p2,c2,e9,XC,ajt,hgb',anf,⟨f0,f1,f2,f3,f4,f5,f6,f7⟩,t2⟩:=gO.elem hyA;cases e9;clear XC;have kc:∀ (o:Nat) (v:Value),wo.cell? ⟨g,o,none⟩=some v->w5.cell? ⟨g,o,none⟩=some v:=fun o v h=>(hK2.cell (p:=⟨g,o,none⟩) hgJ).trans h
    have fx:∀ (o:Nat) (v:Value),wo.cell? ⟨g,(j+1)*8+o,none⟩=some v->w5.cell? ⟨g,8+j*8+o,none⟩=some v:=fun o v h=>by
     have:=kc _ _ h;rwa[show(j+1)*8+o=8+j*8+o by omega]at this
    have e0:=fx 0 _ f0;have e1:=fx 1 _ f1;have e2:=fx 2 _ f2;have e3:=fx 3 _ f3;have e4:=fx 4 _ f4;have e5:=fx 5 _ f5;have e6:=fx 6 _ f6;have e7:=fx 7 _ f7;simp only[Nat.add_zero]at e0;have T2':Hid (aH (fun y=>V.heap.size<=y/\y<w5.heap.size/\y≠J0) w5 (.agg (aj y.kind y.set y.mn y.mx (.slice p2 y.subs.length c2))) y):=hid ((t2.keeps hK2 fun y hy=>by have:=HJ0.out;have:=hy.2.1;show y<J0;omega).mono fun y hy=>⟨hy.1,by have:=hy.2.1;have:=hK2.size;omega,fun e=>by have:=hy.2.1;have:=HJ0.out;omega⟩);have lY:(j:Int)<m-1:=by omega
    clear f0 f1 f2 f3 f4 f5 f6 f7 kc fx;have hyf:y.fine:=Zt.out y (cd _ (aA hy));have JV:y.size<=1000:=by have:=nZ (cd x (aA hy));have:=Zu.out;omega
    have hff:=pG (r.take j) x (Zt x (bL ..)) fun z hz=>Zt z (cd _ (List.mem_of_mem_take hz))
    have htf:t.fine:=by rw[TA.out];exact hff.1
    have Mt:t.size<=1000:=by
     have h1:=hff.2.1;rw[<-TA.out]at h1;have h2:=eD (r.take j) (r.drop j);rw[List.take_append_drop]at h2;have h3:=Zu.out;rw[RX.sizes]at h3;have h4:(r.take j).length<=25:=by rw[List.length_take];omega
     omega
    have jP:(r.take (j+1)).foldl (bU 4) x=bU 4 t y:=by rw[List.take_add_one,hy,List.foldl_append, <-TA.out];rfl
    have HTN:=hid jP;have CJ:Hid (∀ W,aa w5 W->ag 35 #[.int .u8 4,.agg (aj t.kind t.set t.mn t.mx (.slice p' t.subs.length c')),.agg (aj y.kind y.set y.mn y.mx (.slice p2 y.subs.length c2))] W fun e w'=>∃ u,e=.returned u/\aH (fun z=>z<w'.heap.size/\((V.heap.size<=z/\z<w5.heap.size/\z≠J0)\/W.heap.size<=z)) w' u (bU 4 t y)/\aa W w'):=hid fun W hW=>by
     have Jj:ae (· <w5.heap.size) w5 W:=ae.ai hW fun _ h=>h
     exact lQ (fun z=>V.heap.size<=z/\z<w5.heap.size/\z≠J0) 4 (.inr rfl) _ _ t y htf hyf Mt JV W (fun z hz=>aw hz.2.1 hW.size) (HT.keeps Jj fun z hz=>hz.2.1) (T2'.keeps Jj fun z hz=>hz.2.1)
    obtain⟨JJ,Rw⟩:=ah (bU 4 t y);rw[<-Rw]at CJ HTN;clear hyf JV hff htf Mt jP Rw hy hyA;clear hR;go_upto_region 34 with fail
    refine ax ?_;intro W6 uu;have B15:Hid (aq W6 w5.heap.size (aj y.kind y.set y.mn y.mx (.slice p2 y.subs.length c2)) 40):=by rw[uu];exact hid (aq.new _ _ _)
    have E6:Hid (Ext w5 W6):=by rw[uu];exact hid ((Ext.refl w5).alloc _)
    clear uu e0 e1 e2 e3 e4 e5 e6 e7;have B6:=hid (HB.ext E6);have CJ6:=hid (CJ.out W6 E6.below);have hJ5:J0<w5.heap.size:=HB.lt;have h56:w5.heap.size<=W6.heap.size:=E6.size;clear CJ;go_wp2_with (first | (refine aJ rfl 40 (.tmp 13) rfl J0 rfl (aj t.kind t.set t.mn t.mx (.slice p' t.subs.length c')) _ B6.range Tryz.underlying40 rfl (cO _ _ _ _ _) ?_) | (refine aJ rfl 40 (.tmp 15) rfl w5.heap.size rfl (aj y.kind y.set y.mn y.mx (.slice p2 y.subs.length c2)) _ B15.range Tryz.underlying40 rfl (cO _ _ _ _ _) ?_) | (go_at_call 35;refine Hid.out ?_));refine hid ?_;refine CJ6.mono ?_;rintro e w7 ⟨u,rfl,hu,hx7⟩;obtain⟨pu,cu,rfl⟩:=hu.form;have HU:=hid hu;have B7:=hid (B6.below hx7 B6.lt);have K7:Hid (ae (· <w5.heap.size) w5 w7):=hid (E6.keeps.tr (ae.ai hx7 fun z (hz:z<w5.heap.size)=>aw hz h56));clear hu hx7 B6 B15 CJ6;go_wp2_with (refine wpList_store_row rfl 40 (.tmp 13) (.tmp 201) rfl J0 (aj JJ.kind JJ.set JJ.mn JJ.mx (.slice pu JJ.subs.length cu)) rfl rfl 40 (aj t.kind t.set t.mn t.mx (.slice p' t.subs.length c')) B7 (cO _ _ _ _ _) rfl (j9 _ _ _ _ _ _ _) ?_;refine Hid.out ?_);refine hid ?_;obtain⟨W8,hW8⟩:=ah (w7.setRow J0 (aj JJ.kind JJ.set JJ.mn JJ.mx (.slice pu JJ.subs.length cu)));rw[<-hW8];have B8:Hid (aq W8 J0 (aj JJ.kind JJ.set JJ.mn JJ.mx (.slice pu JJ.subs.length cu)) 40):=by rw[hW8];exact hid B7.setRow
    have K8:Hid (ae (· ≠J0) w7 W8):=by rw[hW8];exact hid (bn _ _ _)
    clear hW8;go_wp2;go_roundw;case rel=>
     have q1:aH (fun z=>V.heap.size<=z/\z<W8.heap.size/\z≠J0) W8 (.agg (aj JJ.kind JJ.set JJ.mn JJ.mx (.slice pu JJ.subs.length cu))) JJ:=(HU.keeps K8 fun z hz=>by(rcases hz.2 with h | h;exact h.2.2;show z≠J0;omega)).mono fun z hz=>⟨by(rcases hz.2 with h | h;exact h.1;omega),aw hz.1 K8.size,by(rcases hz.2 with h | h;exact h.2.2;omega)⟩
     have UX:=HK.size;exact⟨j+1,JJ,pu,cu,by omega,by go_num,HTN.symm,B8,q1,HK.tr ((K7.mono fun z (hz:z<W1.heap.size/\z≠J0)=>by have:=hz.1;show z<w5.heap.size;omega).tr (K8.mono fun z (hz:z<W1.heap.size/\z≠J0)=>hz.2))⟩
    case measure=>simp[intOf];omega
   ·skip --Yd
    obtain rfl:j=r.length:=by omega
    have lY:¬ ((r.length:Int)<m-1):=by omega
    have htR:R=t:=by rw[gN.out,TA.out,List.take_length];rfl
    have HTR:=hid htR;have hRl:w.heap.size<W1.heap.size:=R1.lt;have R5:=hid (R1.keeps HK ⟨R1.lt,by omega⟩);have X5:Hid (aa w w5):=hid (X1.trans (HK.mono fun z (hz:z<w.heap.size)=>⟨by omega,by omega⟩:ae (· <w.heap.size) W1 w5).below);clear hR htR;go_wp2_with (first | (refine aJ rfl 40 (.tmp 13) rfl J0 rfl (aj t.kind t.set t.mn t.mx (.slice p' t.subs.length c')) _ HB.range Tryz.underlying40 rfl (cO _ _ _ _ _) ?_) | (refine wpList_store_row rfl 40 (.tmp 2) (.tmp 203) rfl w.heap.size (aj t.kind t.set t.mn t.mx (.slice p' t.subs.length c')) rfl rfl 40 eL R5 (cO _ _ _ _ _) rfl (j9 _ _ _ _ _ _ _) ?_;refine Hid.out ?_));refine hid ?_;obtain⟨V3,cD⟩:=ah (w5.setRow w.heap.size (aj t.kind t.set t.mn t.mx (.slice p' t.subs.length c')));rw[<-cD];have RR:Hid (aq V3 w.heap.size (aj t.kind t.set t.mn t.mx (.slice p' t.subs.length c')) 40):=by rw[cD];exact hid R5.setRow
    have KK:ae (· ≠w.heap.size) w5 V3:=by rw[cD];exact bn _ _ _
    clear cD;go_wp2;obtain⟨m0,m1,m2,m3,m4,m5,m6,m7⟩:=RR.eight;refine bodyPost_ret (v:=.agg (aj t.kind t.set t.mn t.mx (.slice p' t.subs.length c'))) (by simp[results,Tryz.results19,aj,go_sem,m0,m1,m2,m3,m4,m5,m6,m7]) rfl ⟨_,rfl,?_,X5.trans (KK.mono fun z (hz:z<w.heap.size)=>by show z≠_;omega:ae (· <w.heap.size) w5 V3).below⟩;rw[HTR.out];exact(HT.keeps KK fun z hz=>by have:=hz.1;show z≠_;omega).mono fun z hz=>⟨by have:=hz.1;omega,aw hz.2.1 KK.size⟩
end Go.Proofs.YtpcmhjbehdgdbaaGreatDoor
