/- The law's Made of small steps. Printed by wip/gen/made08.py. -/
import Derived.Test.YtjgccapbphadjaaGreatDoorOM13
set_option maxRecDepth 100000
set_option maxHeartbeats 16000000
open Go.Lib (hid)
namespace Go.Proofs.YtjgccapbphadjaaGreatDoor
open Go Go.RowKit Go.Shelf Go.Maps
theorem Tryz.Wu:(Tryz.prog.info? 97).map (fun i=>(i.zero,i.size,i.bytes))=some (some (.agg eM),8,80):=by kernel_rfl
def jT (k:Nat) (a b:RX) (i:Nat):List RX:=([a,b].take i).flatMap (dY k)
def ct (base:Nat) (F:Nat->Prop) (w:World) (v:Value) (l:List RX):Prop:=∃ cs:List (Array Value),cs.length=l.length/\w.ownsRow base 97 8 v l.length (bC cs)/\(∀ c∈cs,c.size=8/\∀ u∈c.toList,u.oneCell'=true)/\
 ∀ (i:Nat) (c:Array Value) (t:RX),cs[i]? =some c->l[i]? =some t->aJ F w (.agg c) t
theorem ct.nil (base:Nat) (F:Nat->Prop) (w:World):ct base F w (.slice none 0 0) []:=⟨[],rfl,World.ownsRow_nil _ _ _ _,(fun _ h=>nomatch h),fun i c t h=>by simp at h⟩
theorem ct.form {base:Nat} {F:Nat->Prop} {w:World} {v:Value} {l:List RX} (h:ct base F w v l):∃ a c,v=.slice a l.length c:=by obtain⟨cs,h1,h2,h3,h4⟩:=h;exact ownsRow_form h2
theorem ct.below {base:Nat} {F:Nat->Prop} {w w':World} {v:Value} {l:List RX} (h:ct base F w v l) (hF:∀ x,F x->x<w.heap.size) (hk:aa w w'):ct base F w' v l:=by obtain⟨cs,h1,h2,h3,h4⟩:=h;exact⟨cs,h1,aj h2 hk,h3,fun i c t hi ht=>(h4 i c t hi ht).keeps (ae.ak hk fun _ h=>h:ae (· <w.heap.size) w w') hF⟩
theorem ct.node {base:Nat} {F:Nat->Prop} {w:World} {v:Value} {l:List RX} (h:ct base F w v l) (hF:∀ x,F x->x<w.heap.size) (k:Nat) (s:BS) (mn mx:Int):aJ (fun x=>x<w.heap.size/\(F x\/base<=x)) w (.agg (aq k s mn mx v)) (.nd k s mn mx l):=by
 obtain⟨cs,h1,h2,h3,h4⟩:=h;rcases h2.2 with⟨rfl,e2⟩ | ⟨g,cap,cur,rfl,e2,e3,e4,e5,_⟩
 ·have hl:l=[]:=List.eq_nil_of_length_eq_zero e2
  subst hl;exact .leaf _ _ _ _ _ _ _ _
 ·have hg:=(h2.lt g rfl).2
  refine .mk k s mn mx l _ g 0 cap (fun i=>.agg (cs.getD i #[])) (fun e=>⟨_,_,by rw[e];rfl⟩) (fun _=>⟨rfl,⟨hg,.inr e2⟩,hg,e4⟩) (fun i t hi=>?_) (fun i t hi=>?_)
  ·have gL:=(List.getElem?_eq_some_iff.1 hi).1
   obtain⟨c,hc⟩:∃ c,cs[i]? =some c:=⟨_,az (by omega)⟩;refine⟨c,by rw[bh,hc];rfl,fun j u hj=>?_⟩;have:=h2.cells (g:=g) rfl _ _ (iE (fun c hc=>(h3 c hc).1) hc hj);rw[Addr.add_mid]at this;rw[Nat.zero_add];simpa using this
  ·have gL:=(List.getElem?_eq_some_iff.1 hi).1
   obtain⟨c,hc⟩:∃ c,cs[i]? =some c:=⟨_,az (by omega)⟩;have:=h4 i c t hc hi;rw[bh,hc];exact this.mono fun x hx=>⟨hF x hx,.inl hx⟩
theorem ct.app {base:Nat} {F:Nat->Prop} {w w':World} {v v':Value} {l l2:List RX} {cs cs2:List (Array Value)} (hF:∀ x,F x->x<base) (hb:base<=w.heap.size) (h1:cs.length=l.length) (h2:w.ownsRow base 97 8 v l.length (bC cs)) (h3:∀ c∈cs,c.size=8/\∀ u∈c.toList,u.oneCell'=true) (h4:∀ (i:Nat) (c:Array Value) (t:RX),cs[i]? =some c->l[i]? =some t->aJ F w (.agg c) t) (g1:cs2.length=l2.length) (g3:∀ c∈cs2,c.size=8/\∀ u∈c.toList,u.oneCell'=true) (g4:∀ (i:Nat) (c:Array Value) (t:RX),cs2[i]? =some c->l2[i]? =some t->aJ F w (.agg c) t) (ho:w'.ownsRow base 97 8 v' (l.length+l2.length) (bC cs++bC cs2)) (hg:w.grownBy w' v.ownBlock):ct base F w' v' (l++l2):=by
 have key:∀ (c:Array Value) (t:RX),aJ F w (.agg c) t->aJ F w' (.agg c) t:=fun c t h=>
  h.keeps (ae.bw hg fun x (hx:F x)=>⟨aA (hF x hx) hb,fun e=>by have:=(h2.lt x e.symm).1;have:=hF x hx;omega⟩) fun x hx=>hx
 refine⟨cs++cs2,by simp[h1,g1],by rw[aG,lU];exact ho,fun c hc=>(List.mem_append.1 hc).elim (h3 c) (g3 c),fun i c t hi ht=>?_⟩;rcases Nat.lt_or_ge i l.length with gL | gL
 ·rw[bJ (by omega)]at hi ht
  exact key c t (h4 i c t hi ht)
 ·rw[cH (by omega)]at hi ht
  rw[h1]at hi;exact key c t (g4 _ c t hi ht)
theorem ct.acp {base:Nat} {F:Nat->Prop} {w w':World} {v v':Value} {l:List RX} {t:RX} {c:Array Value} {cs:List (Array Value)} (hF:∀ x,F x->x<base) (hb:base<=w.heap.size) (h1:cs.length=l.length) (h2:w.ownsRow base 97 8 v l.length (bC cs)) (h3:∀ c∈cs,c.size=8/\∀ u∈c.toList,u.oneCell'=true) (h4:∀ (i:Nat) (c:Array Value) (t:RX),cs[i]? =some c->l[i]? =some t->aJ F w (.agg c) t) (g3:c.size=8/\∀ u∈c.toList,u.oneCell'=true) (g4:aJ F w (.agg c) t) (ho:w'.ownsRow base 97 8 v' (l.length+1) (bC cs++c.toList)) (hg:w.grownBy w' v.ownBlock):ct base F w' v' (l++ [t]):=by
 refine ct.app (cs2:=[c]) hF hb h1 h2 h3 h4 rfl (fun x hx=>by simp at hx;rw[hx];exact g3) (fun i x y hi hy=>?_) (by rw[show bC [c]=c.toList by unfold bC;simp];exact ho) hg;have hl:=(List.getElem?_eq_some_iff.1 hi).1;obtain rfl:i=0:=by simpa using hl
 cases hi
 cases hy
 exact g4
theorem ct.elem {base:Nat} {F:Nat->Prop} {w:World} {a:Option Addr} {n cap:Nat} {l:List RX} (h:ct base F w (.slice a n cap) l) {i:Nat} {t:RX} (hi:l[i]? =some t): ∃ g p' c',a=some ⟨g,0,none⟩/\n=l.length/\n<=cap/\base<=g/\g<w.heap.size/\ (w.cell? ⟨g,i*8,none⟩=some (.int .u8 t.kind)/\w.cell? ⟨g,i*8+1,none⟩=some (.int .u64 (wd t.set 0).toNat)/\w.cell? ⟨g,i*8+2,none⟩=some (.int .u64 (wd t.set 1).toNat)/\w.cell? ⟨g,i*8+3,none⟩=some (.int .u64 (wd t.set 2).toNat)/\w.cell? ⟨g,i*8+4,none⟩=some (.int .u64 (wd t.set 3).toNat)/\w.cell? ⟨g,i*8+5,none⟩=some (.int .i64 t.mn)/\w.cell? ⟨g,i*8+6,none⟩=some (.int .i64 t.mx)/\w.cell? ⟨g,i*8+7,none⟩=some (.slice p' t.subs.length c'))/\ aJ F w (.agg (aq t.kind t.set t.mn t.mx (.slice p' t.subs.length c'))) t:=by
 obtain⟨cs,h1,h2,h3,h4⟩:=h;have gL:=(List.getElem?_eq_some_iff.1 hi).1;obtain⟨c,hc⟩:∃ c,cs[i]? =some c:=⟨_,az (by omega)⟩;have hr:=h4 i c t hc hi;obtain⟨p',c',e⟩:=hr.form;injection e with e
 subst e;rcases h2.2 with⟨e1,e2⟩ | ⟨g,cap',cur,e1,e2,e3,e4,e5,_⟩
 ·exfalso;omega
 ·injection e1 with a1 a2 a3
  subst a1 a2 a3;have hlt:=h2.lt g rfl;have ce:∀ (j:Nat) (u:Value),(aq t.kind t.set t.mn t.mx (.slice p' t.subs.length c'))[j]? =some u->w.cell? ⟨g,i*8+j,none⟩=some u:=fun j u hj=>by
   have:=h2.cells (g:=g) rfl _ _ (iE (fun c hc=>(h3 c hc).1) hc hj);rw[Addr.add_mid]at this;simpa using this
  exact⟨g,p',c',rfl,rfl,e4,hlt.1,hlt.2,⟨ce 0 _ rfl,ce 1 _ rfl,ce 2 _ rfl,ce 3 _ rfl,ce 4 _ rfl,ce 5 _ rfl,ce 6 _ rfl,ce 7 _ rfl⟩,hr⟩
theorem I0 {cs:List (Array Value)} {j:Nat} {u:Value} (h:∀ c∈cs,c.size=8) (hj:(bC cs)[j]? =some u):∃ c,cs[j/8]? =some c/\c[j%8]? =some u:=by have hl:=(List.getElem?_eq_some_iff.1 hj).1;rw[fY h]at hl;have hc:cs[j/8]? =some (cs[j/8]'(by omega)):=az (by omega);have hs:=h _ (aw hc);have hu:(cs[j/8]'(by omega))[j%8]? =some ((cs[j/8]'(by omega))[j%8]'(by omega)):=Array.getElem?_eq_getElem (by omega);have:=iE h hc hu;rw[show j/8*8+j%8=j by omega,hj]at this;exact⟨_,hc,by rw[hu, <-Option.some.inj this]⟩
theorem aJ.agD {F:Nat->Prop} {w:World} {k n c:Nat} {s:BS} {mn mx:Int} {p:Option Addr} {l:List RX} (h:aJ F w (.agg (aq k s mn mx (.slice p n c))) (.nd k s mn mx l)) (hl:l≠[]): ∃ b off cs,p=some ⟨b,off,none⟩/\F b/\b<w.heap.size/\n=l.length/\cs.length=l.length/\(∀ c∈cs,c.size=8/\∀ u∈c.toList,u.oneCell'=true)/\(∀ (i:Nat) (c:Array Value) (t:RX),cs[i]? =some c->l[i]? =some t->aJ F w (.agg c) t)/\∀ (j:Nat) (u:Value),(bC cs)[j]? =some u->w.cell? ⟨b,off+j,none⟩=some u:=by
 obtain⟨t0,ht0⟩:∃ t,l[0]? =some t:=by
  cases l with
  | nil=>exact absurd rfl hl
  | cons x l=>exact⟨x,rfl⟩
 obtain⟨b,off,p',c',rfl,hb,rH,lL,_,_⟩:=h.elem ht0;have hn:n=l.length:=by obtain⟨p2,c2,e⟩:=h.form;simp[aq,RX.subs,RX.kind,RX.set,RX.mn,RX.mx]at e;exact e.2.1
 have key:∀ i:Nat,∃ c:Array Value,∀ t,l[i]? =some t->(c.size=8/\∀ u∈c.toList,u.oneCell'=true)/\aJ F w (.agg c) t/\∀ (o:Nat) (u:Value),c[o]? =some u->w.cell? ⟨b,off+i*8+o,none⟩=some u:=fun i=>by
  rcases e:l[i]? with _ | t
  ·exact⟨#[],fun t h=>by cases h⟩
  ·obtain⟨b2,fV,p2,c2,e2,_,_,_,⟨f0,f1,f2,f3,f4,f5,f6,f7⟩,hr⟩:=h.elem e
   cases e2
   refine⟨aq t.kind t.set t.mn t.mx (.slice p2 t.subs.length c2),fun t' ht'=>?_⟩;cases ht';refine⟨cG _ _ _ _ _ _ _,hr,fun o u ho=>?_⟩;have hol:=(Array.getElem?_eq_some_iff.1 ho).1;have h8:(aq t.kind t.set t.mn t.mx (.slice p2 t.subs.length c2)).size=8:=rfl;rw[h8]at hol;have hc:o=0\/o=1\/o=2\/o=3\/o=4\/o=5\/o=6\/o=7:=by omega
   rcases hc with rfl | rfl | rfl | rfl | rfl | rfl | rfl | rfl<;>cases ho<;>assumption
 refine⟨b,off,(List.range l.length).map fun i=>Classical.choose (key i),rfl,hb,rH,hn,by simp,fun c hc=>?_,fun i c t hi ht=>?_,fun j u hj=>?_⟩
 ·obtain⟨i,hi,rfl⟩:=List.mem_map.1 hc
  have gL:=List.mem_range.1 hi;exact(Classical.choose_spec (key i) _ (az gL)).1
 ·have gL:=(List.getElem?_eq_some_iff.1 ht).1
  rw[aO,List.getElem?_range gL]at hi;cases hi;exact(Classical.choose_spec (key i) t ht).2.1
 ·obtain⟨c,hc,hu⟩:=I0 (fun c hc=>by
   obtain⟨i,hi,rfl⟩:=List.mem_map.1 hc
   exact(Classical.choose_spec (key i) _ (az (List.mem_range.1 hi))).1.1) hj
  rw[aO]at hc;have gL:j/8<l.length:=by
   rcases Nat.lt_or_ge (j/8) l.length with h | h
   ·exact h
   ·rw[aX (by simpa using h)]at hc;cases hc
  rw[List.getElem?_range gL]at hc;cases hc;have:=(Classical.choose_spec (key (j/8)) _ (az gL)).2.2 _ _ hu;rw[show off+j/8*8+j%8=off+j by omega]at this;exact this
theorem aJ.acr {F:Nat->Prop} {w:World} {k n c:Nat} {s:BS} {mn mx:Int} {p:Option Addr} {t:RX} (h:aJ F w (.agg (aq k s mn mx (.slice p n c))) t) (hl:t.subs≠[]): ∃ b off cs,p=some ⟨b,off,none⟩/\F b/\b<w.heap.size/\n=t.subs.length/\cs.length=t.subs.length/\(∀ c∈cs,c.size=8/\∀ u∈c.toList,u.oneCell'=true)/\(∀ (i:Nat) (c:Array Value) (x:RX),cs[i]? =some c->t.subs[i]? =some x->aJ F w (.agg c) x)/\∀ (j:Nat) (u:Value),(bC cs)[j]? =some u->w.cell? ⟨b,off+j,none⟩=some u:=by
 obtain⟨p',c',e⟩:=h.form;rw[e]at h;have e7:Value.slice p n c=.slice p' t.subs.length c':=by
  injection e with e
  have:=congrArg (fun a:Array Value=>a[7]?) e;simpa[aq]using this
 injection e7 with a1 a2 a3
 subst a1 a2 a3;cases t with
 | nd k s mn mx l=>exact h.agD hl
theorem lZ (F:Nat->Prop) (k:Nat) (hk:k=3\/k=4) (va vb:Value) (a b:RX) (ha:a.fine) (hb:b.fine) (J6:a.size<=1000) (my:b.size<=1000) (w:World) (hFF:∀ x,F x->x<w.heap.size) (hva:aJ F w va a) (hvb:aJ F w vb b): ah 106 #[.int .u8 k,va,vb] w fun e w'=>∃ u,e=.returned u/\aJ (fun x=>x<w'.heap.size/\(F x\/w.heap.size<=x)) w' u (cy k a b)/\aa w w':=by
 obtain⟨iN,vk,jz,jA,jB⟩:=info_parts Tryz.Wu;obtain⟨J,hJ⟩:=ag (cy k a b);rw[<-hJ];have HJ:=hid hJ;clear hJ;obtain⟨pa,ca,rfl⟩:=hva.form;obtain⟨pb,cb,rfl⟩:=hvb.form;have HA:=hid hva;have HB:=hid hvb;have FA:=hid ha;have FB:=hid hb;have SA:=hid J6;have SB:=hid my;obtain⟨ka,hka⟩:=ag a.kind;obtain⟨na,UQ⟩:=ag a.subs.length;obtain⟨sa,acs⟩:=ag a.set;obtain⟨ma,Rg⟩:=ag a.mn;obtain⟨xa,Wv⟩:=ag a.mx;obtain⟨kb,hkb⟩:=ag b.kind;obtain⟨nb,vK⟩:=ag b.subs.length;obtain⟨sb,acu⟩:=ag b.set;obtain⟨mb,sy⟩:=ag b.mn;obtain⟨xb,Fo⟩:=ag b.mx;rw[<-hka, <-UQ, <-acs, <-Rg, <-Wv]at HA ⊢;rw[<-hkb, <-vK, <-acu, <-sy, <-Fo]at HB ⊢;have HKA:=hid hka;have HNA:=hid UQ;have HKB:=hid hkb;have Po:=hid vK;clear hva hvb ha hb J6 my hka UQ acs Rg Wv hkb vK acu sy Fo;unfold aq;go_enter Tryz.func106,Tryz.ntmps106;go_wp2;refine ax ?_;intro V hV;have R0:Hid (ar V (w.heap.size+1+1) eM 97):=by rw[hV];exact hid ((ar.at (ar.new _ _ _) (by simp)).alloc _)
 have L0:Hid (ar V (w.heap.size+1+1+1) #[.int .u8 ka,.int .u64 (wd sa 0).toNat,.int .u64 (wd sa 1).toNat,.int .u64 (wd sa 2).toNat,.int .u64 (wd sa 3).toNat,.int .i64 ma,.int .i64 xa,.slice pa na ca,.int .u8 kb,.int .u64 (wd sb 0).toNat,.int .u64 (wd sb 1).toNat,.int .u64 (wd sb 2).toNat,.int .u64 (wd sb 3).toNat,.int .i64 mb,.int .i64 xb,.slice pb nb cb] 97):=by rw[hV];exact hid (ar.at (ar.new _ _ _) (by simp))
 have X0:Hid (Ext w V):=by rw[hV];exact hid (((((Ext.refl w).alloc _).alloc _).alloc _).alloc _)
 have yX:V.heap.size=w.heap.size+1+1+1+1:=by rw[hV];simp
 have qE:=hid yX;clear hV yX;go_loopw [7,14] (fun u i wr=>∃ j:Nat,j<=2/\i=.int .i64 j/\ct V.heap.size F wr u (jT k a b j)/\ae (· <V.heap.size) V wr) (fun _ i _=>2-(intOf i).toNat);case atStart=>exact⟨0,by omega,rfl,ct.nil _ _ _,ae.refl _ _⟩
 case round=>
  obtain⟨j,hj,rfl,hrow,hx⟩:=hrel;obtain⟨wo,rfl⟩:=ag (wr:World);have ia:=hid hrow;have HX:=hid hx;obtain⟨ru,rc,rfl⟩:=hrow.form;clear hrow hx;by_cases hlt:j<2
  ·have ki:(j:Int)<2:=by omega
   obtain⟨t,kx,nx,sx,mx,xx,px,cx,htj,e0,e1,e2,e3,e4,e5,e6,e7,hT,hkx,Dy,hfx,Oi⟩:∃ (t:RX) (kx nx:Nat) (sx:BS) (mx xx:Int) (px:Option Addr) (cx:Nat),[a,b][j]? =some t/\wo.cell? ⟨w.heap.size+1+1+1,j*8,none⟩=some (.int .u8 kx)/\wo.cell? ⟨w.heap.size+1+1+1,j*8+1,none⟩=some (.int .u64 (wd sx 0).toNat)/\wo.cell? ⟨w.heap.size+1+1+1,j*8+2,none⟩=some (.int .u64 (wd sx 1).toNat)/\wo.cell? ⟨w.heap.size+1+1+1,j*8+3,none⟩=some (.int .u64 (wd sx 2).toNat)/\wo.cell? ⟨w.heap.size+1+1+1,j*8+4,none⟩=some (.int .u64 (wd sx 3).toNat)/\wo.cell? ⟨w.heap.size+1+1+1,j*8+5,none⟩=some (.int .i64 mx)/\wo.cell? ⟨w.heap.size+1+1+1,j*8+6,none⟩=some (.int .i64 xx)/\wo.cell? ⟨w.heap.size+1+1+1,j*8+7,none⟩=some (.slice px nx cx)/\aJ F w (.agg (aq kx sx mx xx (.slice px nx cx))) t/\kx=t.kind/\nx=t.subs.length/\t.fine/\t.size<=1000:=by
    have LB:=L0.out.keeps HX.out L0.out.lt;have Tj:j=0\/j=1:=by omega
    rcases Tj with rfl | rfl
    ·exact⟨a,ka,na,sa,ma,xa,pa,ca,rfl,LB.cell 0,LB.cell 1,LB.cell 2,LB.cell 3,LB.cell 4,LB.cell 5,LB.cell 6,LB.cell 7,HA.out,HKA.out,HNA.out,FA.out,SA.out⟩
    ·exact⟨b,kb,nb,sb,mb,xb,pb,cb,rfl,LB.cell 8,LB.cell 9,LB.cell 10,LB.cell 11,LB.cell 12,LB.cell 13,LB.cell 14,LB.cell 15,HB.out,HKB.out,Po.out,FB.out,SB.out⟩
   have fD:jT k a b (j+1)=jT k a b j++dY k t:=by unfold jT;rw[List.take_add_one,htj,List.flatMap_append];simp
   have pO:=hid fD;have HT:=hid hT;have HFX:=hid hfx;have HSX:=hid Oi;have GV:=hid Dy;have Ww:=hid hkx;clear htj fD hT hfx Oi Dy hkx;go_upto_region 6 with fail
   refine ax ?_;intro W1 hW1;have N1:Hid (ar W1 wo.heap.size (aq kx sx mx xx (.slice px nx cx)) 97):=by rw[hW1];exact hid (ar.new _ _ _)
   have E1:Hid (Ext wo W1):=by rw[hW1];exact hid ((Ext.refl wo).alloc _)
   clear hW1 e0 e1 e2 e3 e4 e5 e6 e7;have hF8:∀ x,x<w.heap.size->x<V.heap.size:=fun x hx=>by have:=qE.out;omega
   have Wx:∀ x,F x->x<V.heap.size:=fun x hx=>hF8 x (hFF x hx)
   have ei:=hid (ia.out.below (fun x hx=>aA (Wx x hx) HX.out.size) E1.out.below);have j7:Hid (ae (· <V.heap.size) V W1):=hid (HX.out.tr (E1.out.keeps.mono fun x (hx:x<V.heap.size)=>aA hx HX.out.size));have T1:Hid (aJ F W1 (.agg (aq kx sx mx xx (.slice px nx cx))) t):=hid (HT.out.keeps (X0.out.keeps.tr (j7.out.mono hF8)) hFF);have f0:W1.cell? ⟨wo.heap.size,0,none⟩=some (.int .u8 kx):=N1.out.cell 0;have f1:W1.cell? ⟨wo.heap.size,1,none⟩=some (.int .u64 (wd sx 0).toNat):=N1.out.cell 1;have f2:W1.cell? ⟨wo.heap.size,2,none⟩=some (.int .u64 (wd sx 1).toNat):=N1.out.cell 2;have f3:W1.cell? ⟨wo.heap.size,3,none⟩=some (.int .u64 (wd sx 2).toNat):=N1.out.cell 3;have f4:W1.cell? ⟨wo.heap.size,4,none⟩=some (.int .u64 (wd sx 3).toNat):=N1.out.cell 4;have f5:W1.cell? ⟨wo.heap.size,5,none⟩=some (.int .i64 mx):=N1.out.cell 5;have f6:W1.cell? ⟨wo.heap.size,6,none⟩=some (.int .i64 xx):=N1.out.cell 6;have f7:W1.cell? ⟨wo.heap.size,7,none⟩=some (.slice px nx cx):=N1.out.cell 7;obtain⟨cs,g1,g2,g3,g4⟩:=ei.out;obtain⟨L,hL⟩:=ag (jT k a b j);have hLs:L.length<=2000:=by
    have q:∀ (l:List RX),(∀ x∈l,x.fine/\x.size<=1000)->l.length<=2->(l.flatMap (dY k)).length<=1000*l.length:=fun l=>by
     induction l with
     | nil=>intro _ _;simp
     | cons x l ih=>
      intro hl h2;have i1:=ih (fun y hy=>hl y (bF _ hy)) (by simp at h2;omega);have i2:=(pV hk (hl x (aW ..)).1).2.1;have i3:=wX (dY k x);have i4:=(hl x (aW ..)).2;rw[List.flatMap_cons,aG,List.length_cons];omega
    rw[hL]
    have i5:=q ([a,b].take j) (fun x hx=>by
     have:=List.mem_of_mem_take hx;simp at this;rcases this with rfl | rfl
     ·exact⟨FA.out,SA.out⟩
     ·exact⟨FB.out,SB.out⟩) (by rw[List.length_take];simp;omega)
    have:([a,b].take j).length<=2:=by rw[List.length_take];simp;omega
    unfold jT;omega
   rw[<-hL]at g1 g2 g4 ⊢;obtain⟨ml,sr⟩:=ag L.length;rw[<-sr]at g1 g2 hLs ⊢;have HL:=hid hL;have za:=hid sr;have G1:=hid g1;have G2:=hid g2;have G3:=hid g3;have G4:=hid g4;have hbase:V.heap.size<=W1.heap.size:=j7.out.size;clear hL sr g1 g2 g3 g4 ei ia;by_cases hc1:kx=k
   ·have Kj:dY k t=t.subs:=by unfold dY;rw[if_pos (by rw[<-Ww.out];exact hc1)]
    have hne:t.subs≠[]:=fun e=>by
     have h1:=(cN t (sW HFX.out)).2.2.2.2.2.2 (by rw[<-Ww.out,hc1];exact hk);rw[e]at h1;simp at h1
    obtain⟨b2,fV,cs2,e2,q1,q2,q3,q4,q5,q6,q7⟩:=T1.out.acr hne;subst e2;have ank:nx<=1000:=by have:=Aa t;have:=wX t.subs;have:=HSX.out;omega
    have Q4:=hid q4;have Q5:=hid q5;have Q6:=hid q6;have Q7:=hid q7;have YH:=hid Kj;have HQ3:=hid q3;have hb1:((kx:Int)==k)=true:=by simp[hc1]
    clear Kj hne q4 q5 q6 q7 q1 q2 q3 hc1;go_wp2_with (at_builtin;refine Hid.out ?_);refine hid ?_;refine fh rfl (.tmp 27) (.tmp 29) 95 rfl V.heap.size 97 iN (.agg eM) 8 80 Tryz.underlying95 vk jz jA jB rfl (by decide) (.slice ru ml rc) ml (bC cs) rfl G2.out ⟨b2,fV,none⟩ nx cx (bC cs2) rfl (fun o u ho=>by rw[Addr.add_mid];exact Q7.out o u ho) (by rw[fY (fun c hc=>(Q5.out c hc).1),Q4.out,HQ3.out]) (fun u hu=>by obtain⟨c,hc,hu⟩:=List.mem_flatMap.1 hu;exact(Q5.out c hc).2 u hu) (by unfold maxLen;omega) (by omega) hbase ?_;intro v' w' ho hg kE;have K9:Hid (ae (· <V.heap.size) V w'):=hid (j7.out.tr (ae.bw hg fun x (hx:x<V.heap.size)=>⟨aA hx hbase,fun e=>by have:=(G2.out.lt x e.symm).1;omega⟩));have R9:Hid (ct V.heap.size F w' v' (L++t.subs)):=hid (ct.app (cs:=cs) (cs2:=cs2) Wx hbase (by rw[<-za.out];exact G1.out) (by rw[<-za.out];exact G2.out) G3.out G4.out Q4.out Q5.out Q6.out (by rw[<-za.out, <-HQ3.out];exact ho) hg);obtain⟨va',vc',rfl⟩:=ownsRow_form ho;clear ho hg kE;go_wp2;go_roundw;case rel=>
     refine⟨j+1,by omega,by go_num,?_,K9.out⟩;rw[pO.out,YH.out, <-HL.out];exact R9.out
    case measure=>simp[intOf];omega
   ·have hb1:((kx:Int)==k)=false:=by simp;omega
    by_cases hk3:k=3
    ·by_cases hx1:kx=1
     ·have Kj:dY k t=[]:=by unfold dY;rw[if_neg (by rw[<-Ww.out];exact hc1),if_pos ⟨hk3,by rw[<-Ww.out];exact hx1⟩]
      have YH:=hid Kj;have hb3:((k:Int)==3)=true:=by simp[hk3]
      have YI:((kx:Int)==1)=true:=by simp[hx1]
      have R9:Hid (ct V.heap.size F W1 (.slice ru ml rc) L):=hid ⟨cs,by rw[<-za.out];exact G1.out,by rw[<-za.out];exact G2.out,G3.out,G4.out⟩;clear Kj hx1 hk3 hc1;go_wp2;go_roundw;case rel=>
       refine⟨j+1,by omega,by go_num,?_,j7.out⟩;rw[pO.out,YH.out, <-HL.out,List.append_nil];exact R9.out
      case measure=>simp[intOf];omega
     ·have hc2:¬ (k=3/\kx=1):=fun h=>hx1 h.2
      have hb3:((k:Int)==3)=true:=by simp[hk3]
      have YI:((kx:Int)==1)=false:=by simp;omega
      clear hk3;have Kj:dY k t=[t]:=by unfold dY;rw[if_neg (by rw[<-Ww.out];exact hc1),if_neg (by rw[<-Ww.out];exact hc2)]
      have YH:=hid Kj;clear Kj;go_wp2_with (at_builtin;refine Hid.out ?_);refine hid ?_;refine jw ?_;intro W2 hW2;have B2:Hid (ar W2 W1.heap.size (aq kx sx mx xx (.slice px nx cx)) 97):=by rw[hW2];exact hid (ar.new _ _ _)
      have E2:Hid (Ext W1 W2):=by rw[hW2];exact hid ((Ext.refl _).alloc _)
      clear hW2;have hs2:W1.heap.size<=W2.heap.size:=E2.out.size;refine fh rfl (.tmp 18) (.tmp 20) 95 rfl V.heap.size 97 iN (.agg eM) 8 80 Tryz.underlying95 vk jz jA jB rfl (by decide) (.slice ru ml rc) ml (bC cs) rfl (aj G2.out E2.out.below) ⟨W1.heap.size,0,none⟩ 1 1 (aq kx sx mx xx (.slice px nx cx)).toList rfl (cK B2.out) rfl (cG _ _ _ _ _ _ _).2 (by unfold maxLen;omega) (by omega) (by omega) ?_;intro v' w' ho hg kE;have K9:Hid (ae (· <V.heap.size) V w'):=hid ((j7.out.tr (E2.out.keeps.mono fun x (hx:x<V.heap.size)=>aA hx hbase)).tr (ae.bw hg fun x (hx:x<V.heap.size)=>⟨by omega,fun e=>by have:=(G2.out.lt x e.symm).1;omega⟩));have R9:Hid (ct V.heap.size F w' v' (L++ [t])):=hid (ct.acp (cs:=cs) (c:=aq kx sx mx xx (.slice px nx cx)) Wx (by omega) (by rw[<-za.out];exact G1.out) (by rw[<-za.out];exact aj G2.out E2.out.below) G3.out (fun i c y hi hy=>(G4.out i c y hi hy).keeps E2.out.keeps fun x hx=>aA (Wx x hx) hbase) (cG _ _ _ _ _ _ _) (T1.out.keeps E2.out.keeps fun x hx=>aA (Wx x hx) hbase) (by rw[<-za.out];exact ho) hg);obtain⟨va',vc',rfl⟩:=ownsRow_form ho;clear ho hg kE;go_wp2;go_roundw;case rel=>
       refine⟨j+1,by omega,by go_num,?_,K9.out⟩;rw[pO.out,YH.out, <-HL.out];exact R9.out
      case measure=>simp[intOf];omega
    ·have hc2:¬ (k=3/\kx=1):=fun h=>hk3 h.1
     have hb3:((k:Int)==3)=false:=by simp;omega
     have Kj:dY k t=[t]:=by unfold dY;rw[if_neg (by rw[<-Ww.out];exact hc1),if_neg (by rw[<-Ww.out];exact hc2)]
     have YH:=hid Kj;clear Kj;go_wp2_with (at_builtin;refine Hid.out ?_);refine hid ?_;refine jw ?_;intro W2 hW2;have B2:Hid (ar W2 W1.heap.size (aq kx sx mx xx (.slice px nx cx)) 97):=by rw[hW2];exact hid (ar.new _ _ _)
     have E2:Hid (Ext W1 W2):=by rw[hW2];exact hid ((Ext.refl _).alloc _)
     clear hW2;have hs2:W1.heap.size<=W2.heap.size:=E2.out.size;refine fh rfl (.tmp 18) (.tmp 20) 95 rfl V.heap.size 97 iN (.agg eM) 8 80 Tryz.underlying95 vk jz jA jB rfl (by decide) (.slice ru ml rc) ml (bC cs) rfl (aj G2.out E2.out.below) ⟨W1.heap.size,0,none⟩ 1 1 (aq kx sx mx xx (.slice px nx cx)).toList rfl (cK B2.out) rfl (cG _ _ _ _ _ _ _).2 (by unfold maxLen;omega) (by omega) (by omega) ?_;intro v' w' ho hg kE;have K9:Hid (ae (· <V.heap.size) V w'):=hid ((j7.out.tr (E2.out.keeps.mono fun x (hx:x<V.heap.size)=>aA hx hbase)).tr (ae.bw hg fun x (hx:x<V.heap.size)=>⟨by omega,fun e=>by have:=(G2.out.lt x e.symm).1;omega⟩));have R9:Hid (ct V.heap.size F w' v' (L++ [t])):=hid (ct.acp (cs:=cs) (c:=aq kx sx mx xx (.slice px nx cx)) Wx (by omega) (by rw[<-za.out];exact G1.out) (by rw[<-za.out];exact aj G2.out E2.out.below) G3.out (fun i c y hi hy=>(G4.out i c y hi hy).keeps E2.out.keeps fun x hx=>aA (Wx x hx) hbase) (cG _ _ _ _ _ _ _) (T1.out.keeps E2.out.keeps fun x hx=>aA (Wx x hx) hbase) (by rw[<-za.out];exact ho) hg);obtain⟨va',vc',rfl⟩:=ownsRow_form ho;clear ho hg kE;go_wp2;go_roundw;case rel=>
      refine⟨j+1,by omega,by go_num,?_,K9.out⟩;rw[pO.out,YH.out, <-HL.out];exact R9.out
     case measure=>simp[intOf];omega
  ·obtain rfl:j=2:=by omega
   have kR:¬ ((2:Int)<2):=by omega
   have X9:Hid (aa w wo):=hid (X0.out.below.trans (HX.out.mono fun x (hx:x<w.heap.size)=>by have:=qE.out;show x<V.heap.size;omega:ae (· <w.heap.size) V wo).below);have R9:=hid (R0.out.keeps HX.out R0.out.lt);have hjn:jT k a b 2=dY k a++dY k b:=by unfold jT;simp
   have Tj:cy k a b=fR k (jT k a b 2):=by rw[hjn];rfl
   have vd:Hid (J=fR k (jT k a b 2)):=hid (HJ.out.trans Tj);clear HJ;obtain⟨L,hL⟩:=ag (jT k a b 2);rw[<-hL]at ia vd ⊢;clear hjn Tj hL HA HB FA FB SA SB;have hwV:w.heap.size+1+1<V.heap.size:=by have:=qE.out;omega
   match L,ia,vd with
   | [],ia,vd=>
    simp only[List.length_nil];go_wp2_with (refine wpList_store_row rfl 97 (.tmp 6) (.tmp 44) rfl (w.heap.size+1+1) #[.int .u8 1,.int .u64 0,.int .u64 0,.int .u64 0,.int .u64 0,.int .i64 0,.int .i64 0,.slice none 0 0] rfl rfl 97 eM R9.out (by kernel_rfl) rfl (by simp[Value.oneCell']) ?_;refine Hid.out ?_);refine hid ?_;obtain⟨V3,cT⟩:=ag (wo.setRow (w.heap.size+1+1) #[.int .u8 1,.int .u64 0,.int .u64 0,.int .u64 0,.int .u64 0,.int .i64 0,.int .i64 0,.slice none 0 0]);rw[<-cT];have RR:Hid (ar V3 (w.heap.size+1+1) #[.int .u8 1,.int .u64 0,.int .u64 0,.int .u64 0,.int .u64 0,.int .i64 0,.int .i64 0,.slice none 0 0] 97):=by rw[cT];exact hid R9.out.setRow
    have XX:aa w V3:=by rw[cT];exact X9.out.trans ((bI wo (w.heap.size+1+1) _).mono fun x (hx:x<w.heap.size)=>by show x≠_;omega:ae (· <w.heap.size) wo _).below
    clear cT;go_wp2;obtain⟨m0,m1,m2,m3,m4,m5,m6,m7⟩:=RR.out.eight;refine bodyPost_ret (v:=.agg #[.int .u8 1,.int .u64 0,.int .u64 0,.int .u64 0,.int .u64 0,.int .i64 0,.int .i64 0,.slice none 0 0]) (by simp[results,Tryz.results106,go_sem,m0,m1,m2,m3,m4,m5,m6,m7]) rfl ⟨_,rfl,?_,XX⟩;have e:=aJ.leaf (fun x=>x<V3.heap.size/\(F x\/w.heap.size<=x)) V3 1 0 0 0 none 0;rw[bP]at e;rw[vd.out];exact e
   | [x],ia,vd=>
    simp only[List.length_cons,List.length_nil,Nat.zero_add];obtain⟨g,p',c',e1,_,q2,q3,q4,⟨f0,f1,f2,f3,f4,f5,f6,f7⟩,hr⟩:=ia.out.elem (i:=0) (t:=x) rfl;subst e1;simp only[Nat.zero_mul,Nat.zero_add]at f0 f1 f2 f3 f4 f5 f6 f7;have HR:=hid hr;obtain⟨k1,iK⟩:=ag x.kind;obtain⟨nl,uK⟩:=ag x.subs.length;obtain⟨st,hst⟩:=ag x.set;obtain⟨tn,s7⟩:=ag x.mn;obtain⟨tx,Ky⟩:=ag x.mx;rw[<-iK]at f0 HR;rw[<-hst]at f1 f2 f3 f4 HR;rw[<-s7]at f5 HR;rw[<-Ky]at f6 HR;rw[<-uK]at f7 HR;clear hr iK uK hst s7 Ky;go_wp2_with (refine wpList_store_row rfl 97 (.tmp 6) (.tmp 49) rfl (w.heap.size+1+1) (aq k1 st tn tx (.slice p' nl c')) rfl rfl 97 eM R9.out (cX _ _ _ _ _) rfl (kr _ _ _ _ _ _ _) ?_;refine Hid.out ?_);refine hid ?_;obtain⟨V3,cT⟩:=ag (wo.setRow (w.heap.size+1+1) (aq k1 st tn tx (.slice p' nl c')));rw[<-cT];have RR:Hid (ar V3 (w.heap.size+1+1) (aq k1 st tn tx (.slice p' nl c')) 97):=by rw[cT];exact hid R9.out.setRow
    have KK:ae (· ≠w.heap.size+1+1) wo V3:=by rw[cT];exact bI _ _ _
    clear cT;go_wp2;obtain⟨m0,m1,m2,m3,m4,m5,m6,m7⟩:=RR.out.eight;refine bodyPost_ret (v:=.agg (aq k1 st tn tx (.slice p' nl c'))) (by simp[results,Tryz.results106,aq,go_sem,m0,m1,m2,m3,m4,m5,m6,m7]) rfl ⟨_,rfl,?_,X9.out.trans (KK.mono fun x (hx:x<w.heap.size)=>by show x≠_;omega:ae (· <w.heap.size) wo V3).below⟩;rw[vd.out];exact(HR.out.keeps (KK.mono fun y (hy:y<w.heap.size)=>by show y≠_;omega) hFF).mono fun y hy=>⟨by have:=hFF y hy;have:=KK.size;have:=R9.out.lt;omega,.inl hy⟩
   | x::y::l,ia,vd=>
    obtain⟨ml,sr⟩:=ag ((x::y::l).length);have tN:2<=ml:=by rw[sr];simp
    rw[<-sr];rw[<-sr]at ia;clear sr;have hd1:((ml:Int)==0)=false:=by simp;omega
    have XS:((ml:Int)==1)=false:=by simp;omega
    go_wp2_with (refine wpList_store_row rfl 97 (.tmp 6) (.tmp 52) rfl (w.heap.size+1+1) #[.int .u8 k,.int .u64 0,.int .u64 0,.int .u64 0,.int .u64 0,.int .i64 0,.int .i64 0,.slice ru ml rc] rfl rfl 97 eM R9.out (by kernel_rfl) rfl (by simp[Value.oneCell']) ?_;refine Hid.out ?_)
    refine hid ?_;obtain⟨V3,cT⟩:=ag (wo.setRow (w.heap.size+1+1) #[.int .u8 k,.int .u64 0,.int .u64 0,.int .u64 0,.int .u64 0,.int .i64 0,.int .i64 0,.slice ru ml rc]);rw[<-cT];have RR:Hid (ar V3 (w.heap.size+1+1) #[.int .u8 k,.int .u64 0,.int .u64 0,.int .u64 0,.int .u64 0,.int .i64 0,.int .i64 0,.slice ru ml rc] 97):=by rw[cT];exact hid R9.out.setRow
    have KK:ae (· ≠w.heap.size+1+1) wo V3:=by rw[cT];exact bI _ _ _
    clear cT;go_wp2;obtain⟨m0,m1,m2,m3,m4,m5,m6,m7⟩:=RR.out.eight;refine bodyPost_ret (v:=.agg #[.int .u8 k,.int .u64 0,.int .u64 0,.int .u64 0,.int .u64 0,.int .i64 0,.int .i64 0,.slice ru ml rc]) (by simp[results,Tryz.results106,go_sem,m0,m1,m2,m3,m4,m5,m6,m7]) rfl ⟨_,rfl,?_,X9.out.trans (KK.mono fun x (hx:x<w.heap.size)=>by show x≠_;omega:ae (· <w.heap.size) wo V3).below⟩;obtain⟨cs,g1,g2,g3,g4⟩:=ia.out;have hrow:ct V.heap.size F V3 (.slice ru ml rc) (x::y::l):=⟨cs,g1,ai g2 KK fun z hz=>by have:=(g2.lt z hz).1;show z≠_;omega,g3,fun i c t hi ht=>(g4 i c t hi ht).keeps (KK.mono fun y (hy:y<w.heap.size)=>by show y≠_;omega) hFF⟩;have e:=(hrow.node (fun x hx=>by have:=hFF x hx;have:=KK.size;have:=R9.out.lt;omega) k 0 0 0).mono fun y hy=>(⟨hy.1,hy.2.imp id fun h=>by omega⟩:y<V3.heap.size/\(F y\/w.heap.size<=y))
    rw[bP]at e;rw[vd.out];exact e
def dR (w:World) (v:Value) (l:List (Nat×Nat×Nat)):Prop:=(v=.slice none 0 0/\l=[])\/(∃ ad c,v=.slice (some ad) 0 c/\l=[])\/
 ∃ b off c,v=.slice (some ⟨b,off,none⟩) l.length c/\b<w.heap.size/\l.length<=c/\l≠[]/\∀ (i:Nat) (s:Nat×Nat×Nat),l[i]? =some s->s.1<256/\s.2.1<256/\s.2.2<256/\w.cell? ⟨b,off+i*3,none⟩=some (.int .u8 s.1)/\w.cell? ⟨b,off+i*3+1,none⟩=some (.int .u8 s.2.1)/\w.cell? ⟨b,off+i*3+2,none⟩=some (.int .u8 s.2.2)
theorem dR.below {w w':World} {v:Value} {l:List (Nat×Nat×Nat)} (h:dR w v l) (hk:aa w w'):dR w' v l:=by
 rcases h with h | h | ⟨b,off,c,hv,hb,hc,hl,h⟩
 ·exact .inl h
 ·exact .inr (.inl h)
 ·have hcell:∀ j,w'.cell? ⟨b,j,none⟩=w.cell? ⟨b,j,none⟩:=fun j=>(ae.ak hk fun _ h=>h:ae (· <w.heap.size) w w').cell (p:=⟨b,j,none⟩) hb
  refine .inr (.inr ⟨b,off,c,hv,aA hb hk.size,hc,hl,fun i s hi=>?_⟩);rw[hcell,hcell,hcell];exact h i s hi
theorem I5 {cs:List (Array Value)} {i:Nat} (h:∀ c∈cs,c.size=8) (hi:i<cs.length) (u0 u1 u2 u3 u4 u5 u6 u7:Value): ((((((((bC cs).set (i*8) u0).set (i*8+1) u1).set (i*8+2) u2).set (i*8+3) u3).set (i*8+4) u4).set (i*8+5) u5).set (i*8+6) u6).set (i*8+7) u7=bC (cs.set i #[u0,u1,u2,u3,u4,u5,u6,u7]):=by
 have hlen:=fY h;have h':∀ c∈cs.set i #[u0,u1,u2,u3,u4,u5,u6,u7],c.size=8:=fun c hc=>by
  rcases List.mem_or_eq_of_mem_set hc with hc | rfl
  ·exact h c hc
  ·rfl
 have acw:=fY h';rw[List.length_set]at acw;apply List.ext_getElem?;intro j;rcases Nat.lt_or_ge j (cs.length*8)with hj | hj
 ·obtain⟨q,hq⟩:∃ q,(cs.set i #[u0,u1,u2,u3,u4,u5,u6,u7])[j/8]? =some q:=⟨_,az (by rw[List.length_set];omega)⟩
  have hs:=h' _ (aw hq);obtain⟨u,hu⟩:∃ u,q[j%8]? =some u:=⟨_,Array.getElem?_eq_getElem (show j%8<q.size by omega)⟩;have hr:=iE h' hq hu;rw[show j/8*8+j%8=j by omega]at hr;rw[hr];rw[List.getElem?_set]at hq;by_cases he:i=j/8
  ·rw[if_pos he,if_pos hi]at hq
   cases hq
   have hm:j%8=0\/j%8=1\/j%8=2\/j%8=3\/j%8=4\/j%8=5\/j%8=6\/j%8=7:=by omega
   simp only[List.getElem?_set,List.length_set,hlen];rcases hm with hm | hm | hm | hm | hm | hm | hm | hm<;>rw[hm]at hu<;>simp at hu<;>subst hu<;>(repeat (first | rw[if_neg (by omega)] | rw[if_pos (by omega)]))
  ·rw[if_neg he]at hq
   have hr2:=iE h hq hu;rw[show j/8*8+j%8=j by omega]at hr2;simp only[List.getElem?_set]
   repeat rw[if_neg (by omega)]
   exact hr2
 ·rw[aX (by simp only[List.length_set];omega),aX (by omega)]
theorem bV.fresh {base:Nat} {w w':World} {v':Value} {l:List RX} {cs:List (Array Value)} {k:Nat} {c:Array Value} {t:RX} (hk:k<=l.length) (h1:cs.length=l.length) (h3:∀ c∈cs,c.size=8/\∀ u∈c.toList,u.oneCell'=true) (h4:∀ (i:Nat) (c:Array Value) (t:RX),cs[i]? =some c->l[i]? =some t->aJ (fun x=>base<=x/\x<w.heap.size) w (.agg c) t) (g3:c.size=8/\∀ u∈c.toList,u.oneCell'=true) (g4:aJ (fun x=>base<=x/\x<w.heap.size) w (.agg c) t) (ho:w'.ownsRow base 97 8 v' (k+1) (bC (cs.take k)++c.toList)) (hx:aa w w') (hv:v'.ownBlock=some w.heap.size):bV base w' v' (l.take k++ [t]):=by
 have hlk:(l.take k++ [t]).length=k+1:=by rw[aG,List.length_take,Nat.min_eq_left hk];rfl
 have XL:(cs.take k).length=k:=by rw[List.length_take];omega
 have key:∀ (c:Array Value) (t:RX),aJ (fun x=>base<=x/\x<w.heap.size) w (.agg c) t->aJ (fun x=>base<=x/\x<w'.heap.size/\v'.ownBlock≠some x) w' (.agg c) t:=fun c t h=>
  (h.keeps (ae.ak hx fun _ h=>h:ae (· <w.heap.size) w w') fun _ h=>h.2).mono fun x h=>⟨h.1,aA h.2 hx.size,fun e=>by rw[hv]at e;cases e;exact Nat.lt_irrefl _ h.2⟩
 refine⟨cs.take k++ [c],by rw[hlk,aG,XL];rfl,?_,fun x hx=>?_,fun i x y hi hy=>?_⟩
 ·rw[hlk,lU,show bC [c]=c.toList by unfold bC;simp];exact ho
 ·rcases List.mem_append.1 hx with hx | hx
  ·exact h3 x (List.mem_of_mem_take hx)
  ·simp at hx;rw[hx];exact g3
 ·rcases Nat.lt_or_ge i k with hik | hik
  ·rw[bJ (by omega),List.getElem?_take,if_pos hik]at hi
   rw[bJ (by rw[List.length_take];omega),List.getElem?_take,if_pos hik]at hy;exact key x y (h4 i x y hi hy)
  ·have hl:=(List.getElem?_eq_some_iff.1 hy).1
   rw[hlk]at hl;obtain rfl:i=k:=by omega
   rw[cH (by omega),XL,Nat.sub_self]at hi;rw[cH (by rw[List.length_take];omega),List.length_take,Nat.min_eq_left hk,Nat.sub_self]at hy;cases hi;cases hy;exact key _ _ g4
theorem bV.turned {base g cap:Nat} {w:World} {l:List RX} {cs:List (Array Value)} {i:Nat} {t:RX} {u0 u1 u2 u3 u4 u5 u6 u7:Value} (hi:i<l.length) (h1:cs.length=l.length) (h2:w.ownsRow base 97 8 (.slice (some ⟨g,0,none⟩) l.length cap) l.length (bC cs)) (h3:∀ c∈cs,c.size=8/\∀ u∈c.toList,u.oneCell'=true) (h4:∀ (i:Nat) (c:Array Value) (t:RX),cs[i]? =some c->l[i]? =some t->aJ (fun x=>base<=x/\x<w.heap.size/\x≠g) w (.agg c) t) (g3:∀ u∈ [u0,u1,u2,u3,u4,u5,u6,u7],u.oneCell'=true) (g4:aJ (fun x=>base<=x/\x<w.heap.size/\x≠g) w (.agg #[u0,u1,u2,u3,u4,u5,u6,u7]) t): bV base ((((((((w.setCell ⟨g,i*8,none⟩ u0).setCell ⟨g,i*8+1,none⟩ u1).setCell ⟨g,i*8+2,none⟩ u2).setCell ⟨g,i*8+3,none⟩ u3).setCell ⟨g,i*8+4,none⟩ u4).setCell ⟨g,i*8+5,none⟩ u5).setCell ⟨g,i*8+6,none⟩ u6).setCell ⟨g,i*8+7,none⟩ u7) (.slice (some ⟨g,0,none⟩) l.length cap) (l.set i t):=by
 have hk:ae (· ≠g) w ((((((((w.setCell ⟨g,i*8,none⟩ u0).setCell ⟨g,i*8+1,none⟩ u1).setCell ⟨g,i*8+2,none⟩ u2).setCell ⟨g,i*8+3,none⟩ u3).setCell ⟨g,i*8+4,none⟩ u4).setCell ⟨g,i*8+5,none⟩ u5).setCell ⟨g,i*8+6,none⟩ u6).setCell ⟨g,i*8+7,none⟩ u7):=
  ((((((((ae.refl _ _).setCell (fun e=>e rfl) _).setCell (fun e=>e rfl) _).setCell (fun e=>e rfl) _).setCell (fun e=>e rfl) _).setCell (fun e=>e rfl) _).setCell (fun e=>e rfl) _).setCell (fun e=>e rfl) _).setCell (fun e=>e rfl) _
 have key:∀ (c:Array Value) (t:RX),aJ (fun x=>base<=x/\x<w.heap.size/\x≠g) w (.agg c) t->aJ (fun x=>base<=x/\x<((((((((w.setCell ⟨g,i*8,none⟩ u0).setCell ⟨g,i*8+1,none⟩ u1).setCell ⟨g,i*8+2,none⟩ u2).setCell ⟨g,i*8+3,none⟩ u3).setCell ⟨g,i*8+4,none⟩ u4).setCell ⟨g,i*8+5,none⟩ u5).setCell ⟨g,i*8+6,none⟩ u6).setCell ⟨g,i*8+7,none⟩ u7).heap.size/\(Value.slice (some ⟨g,0,none⟩) l.length cap).ownBlock≠some x) _ (.agg c) t:=fun c t h=>
  (h.keeps hk fun x hx=>hx.2.2).mono fun x hx=>⟨hx.1,aA hx.2.1 hk.size,fun e=>by cases e;exact hx.2.2 rfl⟩
 have r0:=(h2.stored (i*8) u0).1;have r1:=(r0.stored (i*8+1) u1).1;have r2:=(r1.stored (i*8+2) u2).1;have r3:=(r2.stored (i*8+3) u3).1;have r4:=(r3.stored (i*8+4) u4).1;have r5:=(r4.stored (i*8+5) u5).1;have r6:=(r5.stored (i*8+6) u6).1;have r7:=(r6.stored (i*8+7) u7).1;rw[I5 (fun c hc=>(h3 c hc).1) (by omega)]at r7;refine⟨cs.set i #[u0,u1,u2,u3,u4,u5,u6,u7],by simp[h1],by rw[List.length_set];exact r7,fun c hc=>?_,fun j c x hj hx=>?_⟩
 ·rcases List.mem_or_eq_of_mem_set hc with hc | rfl
  ·exact h3 c hc
  ·exact⟨rfl,g3⟩
 ·rw[List.getElem?_set]at hj hx
  by_cases e:i=j
  ·rw[if_pos e]at hj hx
   subst e;rw[if_pos (by omega)]at hj;rw[if_pos hi]at hx;cases hj;cases hx;exact key _ _ g4
  ·rw[if_neg e]at hj hx
   exact key _ _ (h4 j c x hj hx)
theorem I6 {l:List (Nat×Nat×Nat)} {k:Nat} {s:Nat×Nat×Nat} (h:l[k]? =some s):jn (l.take (k+1))=(jn (l.take k)).step s:=by unfold jn;rw[List.take_add_one,h,List.foldl_append];rfl
def Cw.tree (base:Nat) (t:RX):aZ (Move false (fun _=>False)) where
 P:=fun v=>∃ p c,v=.agg (aq t.kind t.set t.mn t.mx (.slice p t.subs.length c))
 H:=fun v W=>aJ (fun x=>base<=x/\x<W.heap.size) W v t
 nW:=.agg (aq t.kind t.set t.mn t.mx (.slice none t.subs.length 0))
 pw:=⟨none,0,rfl⟩
 st:=fun _ _ _ hm _ h=>(h.keeps (ae.ak hm.below fun _ h=>h) fun _ hx=>hx.2).mono fun _ hx=>⟨hx.1,aA hx.2 hm.size⟩
def Cw.box (base:Nat) (t:RX):aZ (Move false (fun _=>False)) where
 P:=fun v=>∃ b,v=.slice (some ⟨b,0,none⟩) 1 1
 H:=fun v W=>∀ b,v=.slice (some ⟨b,0,none⟩) 1 1->∃ p c,ar W b (aq t.kind t.set t.mn t.mx (.slice p t.subs.length c)) 97/\aJ (fun x=>base<=x/\x<W.heap.size) W (.agg (aq t.kind t.set t.mn t.mx (.slice p t.subs.length c))) t
 nW:=.slice (some ⟨0,0,none⟩) 1 1
 pw:=⟨0,rfl⟩
 st:=fun _ _ _ hm _ h b e=>by
  obtain⟨p,c,h1,h2⟩:=h b e;exact⟨p,c,h1.below hm.below h1.lt,(h2.keeps (ae.ak hm.below fun _ h=>h) fun _ hx=>hx.2).mono fun _ hx=>⟨hx.1,aA hx.2 hm.size⟩⟩
theorem bV.je {base:Nat} {w:World} {a:Option Addr} {n cap:Nat} {l:List RX} (h:bV base w (.slice a n cap) l) {i:Nat} {t:RX} (hi:l[i]? =some t): ∃ g p' c',a=some ⟨g,0,none⟩/\n<=cap/\base<=g/\g<w.heap.size/\w.rangeAt g (i*8) (aq t.kind t.set t.mn t.mx (.slice p' t.subs.length c')).toList/\aJ (fun x=>base<=x/\x<w.heap.size/\x≠g) w (.agg (aq t.kind t.set t.mn t.mx (.slice p' t.subs.length c'))) t:=by
 obtain⟨g,p',c',e,_,h1,h2,h3,⟨f0,f1,f2,f3,f4,f5,f6,f7⟩,hr⟩:=h.elem hi;refine⟨g,p',c',e,h1,h2,h3,fun j v hj=>?_,hr⟩;have hl:=(List.getElem?_eq_some_iff.1 hj).1;have h8:(aq t.kind t.set t.mn t.mx (.slice p' t.subs.length c')).toList.length=8:=rfl;rw[h8]at hl;have hc:j=0\/j=1\/j=2\/j=3\/j=4\/j=5\/j=6\/j=7:=by omega
 rcases hc with rfl | rfl | rfl | rfl | rfl | rfl | rfl | rfl<;>cases hj<;>assumption
theorem uj {cs:List (Array Value)} {q j:Nat} {u:Value} (h:(bC (cs.take q))[j]? =some u):(bC cs)[j]? =some u:=by
 have e:bC cs=bC (cs.take q)++bC (cs.drop q):=by rw[<-lU,List.take_append_drop]
 rw[e,bJ (List.getElem?_eq_some_iff.1 h).1];exact h
theorem xd {P:Program} {ops:Array Oper} {rest:List Oper} {op:Oper} {a:Act} {w:World} {Q:Exit->Act->World->Prop} (hw:Region.wanted op (yielded ops a.tmps)=true) (ty:TypeId) (x:Operand) (ho:op.op=.load ty x) (b o:Nat) (hx:a.eval x=.pointer (some ⟨b,o,none⟩)) (cs:Array Value) (d:TypeDesc) (hc:w.rangeAt b o cs.toList) (hu:P.underlying ty=some d) (hd:d.isRow=true) (hi:(P.info? ty).map (·.size)=some cs.size) (h:wpList P ops Q rest (a.put op.dst (.agg cs)) w):wpList P ops Q (op::rest) a w:=
 np hw fun _ hK=>wp_load_mid ty x ho b o hx cs.toList d hc hu hd (by rw[Array.length_toList];exact hi) (hK _ _ h)
theorem UR (a b:Int):(if(if a<b then b else a)<1 then(1:Int)else if a<b then b else a)=max (max a b) 1:=by
 by_cases h:a<b
 ·simp only[h,if_true];split<;>omega
 ·simp only[h,if_false];split<;>omega
theorem Na (a b:Nat):1<=iF a b/\iF a b<=3/\max (max (fj a:Int) (jP a b)) 1=(iF a b:Int):=by unfold iF jP fj;split<;>omega
theorem rL {P:Program} {ops:Array Oper} {rest:List Oper} {o:Oper} {a:Act} {w:World} {Q:Exit->Act->World->Prop} {s x:Operand} {t t':TypeId} (_:o.op=.call {callee:=.builtin .append,args:= #[s,x],argTypes:= #[t,t']}) (h:Hid (wpList P ops Q (o::rest) a w)):wpList P ops Q (o::rest) a w:=h.out
theorem bV.push {base:Nat} {w w':World} {v v':Value} {l:List RX} {t:RX} {c:Array Value} {cs:List (Array Value)} (h1:cs.length=l.length) (h3:∀ c∈cs,c.size=8/\∀ u∈c.toList,u.oneCell'=true) (h4:∀ (i:Nat) (c:Array Value) (t:RX),cs[i]? =some c->l[i]? =some t->aJ (fun x=>base<=x/\x<w.heap.size/\v.ownBlock≠some x) w (.agg c) t) (g3:c.size=8/\∀ u∈c.toList,u.oneCell'=true) (g4:aJ (fun x=>base<=x/\x<w.heap.size/\v.ownBlock≠some x) w (.agg c) t) (ho:w'.ownsRow base 97 8 v' (l.length+1) (bC cs++c.toList)) (hg:w.grownBy w' v.ownBlock) (kE:v'.ownBlock=v.ownBlock\/v'.ownBlock=some w.heap.size):bV base w' v' (l++ [t]):=by
 refine bV.app (cs2:=[c]) h1 h3 h4 rfl (fun x hx=>by simp at hx;rw[hx];exact g3) (fun i x y hi hy=>?_) (by rw[show bC [c]=c.toList by unfold bC;simp];exact ho) hg kE;have hl:=(List.getElem?_eq_some_iff.1 hi).1;obtain rfl:i=0:=by simpa using hl
 cases hi
 cases hy
 exact g4
structure acx (P:Prop) where
 A:Prop
 B:Prop
 C:Prop
 D:Prop
 E:Prop
 G:Prop
 H:Prop
 Z:Prop
 out:A->B->C->D->E->G->H->Z->P
def eA (b off c:Nat) (l:List (Nat×Nat×Nat)) (w:World) (hb:b<w.heap.size) (hc:l.length<=c) (iZ:l.length<=1000000000000000) (hS:∀ (i:Nat) (s:Nat×Nat×Nat),l[i]? =some s->s.1<256/\s.2.1<256/\s.2.2<256/\w.cell? ⟨b,off+i*3,none⟩=some (.int .u8 s.1)/\w.cell? ⟨b,off+i*3+1,none⟩=some (.int .u8 s.2.1)/\w.cell? ⟨b,off+i*3+2,none⟩=some (.int .u8 s.2.2)): acx (ah 60 #[.slice (some ⟨b,off,none⟩) l.length c] w fun e w'=>∃ u,e=.returned u/\aJ (· <w'.heap.size) w' u (hZ l)/\aa w w'):=by
 have HS:=hid hS;clear hS;apply acx.mk;case out=>
  intro gA gB gC gD gE gG gH gZ;obtain⟨iN,vk,jz,jA,jB⟩:=info_parts Tryz.Wu;obtain⟨R,hR⟩:=ag (hZ l);rw[<-hR];have HR:=hid hR;obtain⟨n,hn⟩:=ag l.length;obtain⟨N,hN⟩:=ag (min n 25);have l4:min (n:Int) 25=(N:Int):=by omega
  have Fp:N<=n:=by omega
  have oU:N<=25:=by omega
  rw[<-hn]at hc iZ ⊢;have Fq:N<=c:=by omega
  have oQ:=hid hn;have HN:=hid hN;clear hR hn hN;go_enter Tryz.func60,Tryz.ntmps60;go_wp2;refine ax ?_;intro V hV;have R0:Hid (ar V w.heap.size eM 97):=by rw[hV];exact hid (ar.new _ _ _)
  have X0:Hid (Ext w V):=by rw[hV];exact hid ((Ext.refl w).alloc _)
  have qE:Hid (V.heap.size=w.heap.size+1):=hid (by rw[hV];simp);clear hV;go_loopw [3,4,5,22] (fun u x y i wr=>∃ k:Nat,k<=N/\i=.int .i64 k/\x=.int .i64 (jn (l.take k)).mE/\y=.int .i64 (jn (l.take k)).yy/\bV V.heap.size wr u (jn (l.take k)).all/\ae (· <V.heap.size) V wr) (fun _ _ _ i _=>N-(intOf i).toNat);case atStart=>exact⟨0,by omega,rfl,rfl,rfl,bV.nil _ _,ae.refl _ _⟩
  case round=>
   obtain⟨k,hk,rfl,rfl,rfl,hrow,hx⟩:=hrel;obtain⟨wo,rfl⟩:=ag (wr:World);have HX:=hid hx;clear hx;by_cases hlt:k<N
   ·have eG:(k:Int)<N:=by omega
    obtain⟨⟨s0,s1,s2⟩,hsk⟩:∃ s,l[k]? =some s:=⟨_,az (by have:=oQ.out;omega)⟩;have hstep:=I6 hsk;have mP:=wJ (l.take k);obtain⟨PP,YJ⟩:=ag (jn (l.take k));rw[<-YJ]at hstep mP hrow ⊢;have hlk:(l.take k).length<=25:=by rw[List.length_take];omega
    obtain⟨I7,GX,I8,c0,c1,c2⟩:=HS.out k _ hsk;dsimp only at I7 GX I8 c0 c1 c2;have wc:∀ (o:Nat) (u:Value),w.cell? ⟨b,o,none⟩=some u->wo.cell? ⟨b,o,none⟩=some u:=fun o u h=>(HX.out.cell (p:=⟨b,o,none⟩) (by have:=qE.out;show b<V.heap.size;omega)).trans ((X0.out.cell (p:=⟨b,o,none⟩) hb).trans h)
    replace c0:=wc _ _ c0;replace c1:=wc _ _ c1;replace c2:=wc _ _ c2;obtain⟨ru,rc,rfl⟩:=hrow.form;obtain⟨m,hm⟩:=ag PP.all.length;have rM:m<=25:=by have:=mP.len;omega
    obtain⟨uf,huf⟩:=ag PP.mE;obtain⟨gr,hgr⟩:=ag PP.yy;have jU:uf<=16:=by have:=mP.Ab;omega
    have HST:=hid hstep;have j6:=hid mP;have HM:=hid hm;have uU:=hid huf;have lF:=hid hgr;have Dz:=hid hlk;rw[<-hm]at hrow ⊢;rw[<-huf, <-hgr];have ia:=hid hrow;clear hstep mP hm huf hgr hlk hrow hsk YJ wc;go_upto_region 6 with fail
    refine ax ?_;intro W1 hW1;have B1:Hid (ar W1 wo.heap.size #[.int .u8 s0,.int .u8 s1,.int .u8 s2] 185):=by rw[hW1];exact hid (ar.new _ _ _)
    have E1:Hid (Ext wo W1):=by rw[hW1];exact hid ((Ext.refl wo).alloc _)
    clear hW1 c0 c1 c2;have ei:=hid (ia.out.below E1.out.below);have j7:Hid (ae (· <V.heap.size) V W1):=hid (HX.out.tr (E1.out.keeps.mono fun x (hx:x<V.heap.size)=>aA hx HX.out.size));have d0:W1.cell? ⟨wo.heap.size,0,none⟩=some (.int .u8 s0):=B1.out.cell 0;have d1:W1.cell? ⟨wo.heap.size,1,none⟩=some (.int .u8 s1):=B1.out.cell 1;have d2:W1.cell? ⟨wo.heap.size,2,none⟩=some (.int .u8 s2):=B1.out.cell 2;obtain⟨kd,hkd⟩:=ag (s0%12);have GY:Int.tmod (s0:Int) 12=(kd:Int):=by rw[Int.tmod_eq_emod_of_nonneg (by omega)];omega
    have ku:kd<12:=by omega
    have hbase:V.heap.size<=W1.heap.size:=j7.out.size;have ze:=hid hkd;clear hkd ia E1 HX;by_cases hA:kd<4
    ·skip --CA
     rename_i xe xf xh Am Ao Ap Aq Ar;revert iN vk jz jA jB R HR n iZ hc N l4 Fp oU Fq oQ HN xe xf xh V R0 X0 qE u7 u8 u9 u10 u11 u12 u23 u24 u25 u26 u27 u28 u29 u30 u31 u32 u33 u34 u35 u36 u37 u38 u39 u40 u41 u42 u43 u44 u45 u46 u47 u48 u49 u50 u51 u52 u53 u54 u55 u56 u57 u58 u59 u60 u61 u62 u63 u64 u65 u66 u67 u68 u69 u70 u71 u72 u73 u74 u75 u76 u77 u78 u79 u80 u81 u82 u83 u84 u85 u86 u87 u88 u89 u90 u91 u92 u93 u94 u95 u96 u97 u98 u99 u100 u101 u102 u103 u104 u105 u106 u107 u108 u109 u110 u111 u112 u113 u114 u115 u116 u117 u118 u119 u120 u121 u122 u123 u124 u125 u126 u127 u128 u129 u130 u131 u132 u133 u134 u135 u136 u137 u138 u139 u140 u141 u142 u143 u144 u145 u146 u147 u148 u149 u150 u151 u152 u153 u154 u155 u156 u157 u158 u159 u160 u161 u162 u163 u164 u165 u166 u167 u168 u169 u170 u171 u172 u173 u174 u175 u176 u177 u178 u179 u180 u181 u182 u183 u184 k hk wo hlt eG s0 s1 s2 PP I7 GX I8 ru rc m rM uf gr jU HST j6 HM uU lF Dz Am Ao Ap Aq Ar W1 B1 ei j7 d0 d1 d2 kd GY ku hbase ze hA;exact gA
    ·by_cases hB:kd=4
     ·skip --CB
      rename_i xe xf xh Am Ao Ap Aq Ar;revert iN vk jz jA jB R HR n iZ hc N l4 Fp oU Fq oQ HN xe xf xh V R0 X0 qE u7 u8 u9 u10 u11 u12 u23 u24 u25 u26 u27 u28 u29 u30 u31 u32 u33 u34 u35 u36 u37 u38 u39 u40 u41 u42 u43 u44 u45 u46 u47 u48 u49 u50 u51 u52 u53 u54 u55 u56 u57 u58 u59 u60 u61 u62 u63 u64 u65 u66 u67 u68 u69 u70 u71 u72 u73 u74 u75 u76 u77 u78 u79 u80 u81 u82 u83 u84 u85 u86 u87 u88 u89 u90 u91 u92 u93 u94 u95 u96 u97 u98 u99 u100 u101 u102 u103 u104 u105 u106 u107 u108 u109 u110 u111 u112 u113 u114 u115 u116 u117 u118 u119 u120 u121 u122 u123 u124 u125 u126 u127 u128 u129 u130 u131 u132 u133 u134 u135 u136 u137 u138 u139 u140 u141 u142 u143 u144 u145 u146 u147 u148 u149 u150 u151 u152 u153 u154 u155 u156 u157 u158 u159 u160 u161 u162 u163 u164 u165 u166 u167 u168 u169 u170 u171 u172 u173 u174 u175 u176 u177 u178 u179 u180 u181 u182 u183 u184 k hk wo hlt eG s0 s1 s2 PP I7 GX I8 ru rc m rM uf gr jU HST j6 HM uU lF Dz Am Ao Ap Aq Ar W1 B1 ei j7 d0 d1 d2 kd GY ku hbase ze hA hB;exact gB
     ·by_cases hC:kd<7/\1<m
      ·skip --CC
       rename_i xe xf xh Am Ao Ap Aq Ar;revert iN vk jz jA jB R HR n iZ hc N l4 Fp oU Fq oQ HN xe xf xh V R0 X0 qE u7 u8 u9 u10 u11 u12 u23 u24 u25 u26 u27 u28 u29 u30 u31 u32 u33 u34 u35 u36 u37 u38 u39 u40 u41 u42 u43 u44 u45 u46 u47 u48 u49 u50 u51 u52 u53 u54 u55 u56 u57 u58 u59 u60 u61 u62 u63 u64 u65 u66 u67 u68 u69 u70 u71 u72 u73 u74 u75 u76 u77 u78 u79 u80 u81 u82 u83 u84 u85 u86 u87 u88 u89 u90 u91 u92 u93 u94 u95 u96 u97 u98 u99 u100 u101 u102 u103 u104 u105 u106 u107 u108 u109 u110 u111 u112 u113 u114 u115 u116 u117 u118 u119 u120 u121 u122 u123 u124 u125 u126 u127 u128 u129 u130 u131 u132 u133 u134 u135 u136 u137 u138 u139 u140 u141 u142 u143 u144 u145 u146 u147 u148 u149 u150 u151 u152 u153 u154 u155 u156 u157 u158 u159 u160 u161 u162 u163 u164 u165 u166 u167 u168 u169 u170 u171 u172 u173 u174 u175 u176 u177 u178 u179 u180 u181 u182 u183 u184 k hk wo hlt eG s0 s1 s2 PP I7 GX I8 ru rc m rM uf gr jU HST j6 HM uU lF Dz Am Ao Ap Aq Ar W1 B1 ei j7 d0 d1 d2 kd GY ku hbase ze hA hB hC;exact gC
      ·by_cases hD:kd<9/\1<m
       ·skip --CD
        rename_i xe xf xh Am Ao Ap Aq Ar;revert iN vk jz jA jB R HR n iZ hc N l4 Fp oU Fq oQ HN xe xf xh V R0 X0 qE u7 u8 u9 u10 u11 u12 u23 u24 u25 u26 u27 u28 u29 u30 u31 u32 u33 u34 u35 u36 u37 u38 u39 u40 u41 u42 u43 u44 u45 u46 u47 u48 u49 u50 u51 u52 u53 u54 u55 u56 u57 u58 u59 u60 u61 u62 u63 u64 u65 u66 u67 u68 u69 u70 u71 u72 u73 u74 u75 u76 u77 u78 u79 u80 u81 u82 u83 u84 u85 u86 u87 u88 u89 u90 u91 u92 u93 u94 u95 u96 u97 u98 u99 u100 u101 u102 u103 u104 u105 u106 u107 u108 u109 u110 u111 u112 u113 u114 u115 u116 u117 u118 u119 u120 u121 u122 u123 u124 u125 u126 u127 u128 u129 u130 u131 u132 u133 u134 u135 u136 u137 u138 u139 u140 u141 u142 u143 u144 u145 u146 u147 u148 u149 u150 u151 u152 u153 u154 u155 u156 u157 u158 u159 u160 u161 u162 u163 u164 u165 u166 u167 u168 u169 u170 u171 u172 u173 u174 u175 u176 u177 u178 u179 u180 u181 u182 u183 u184 k hk wo hlt eG s0 s1 s2 PP I7 GX I8 ru rc m rM uf gr jU HST j6 HM uU lF Dz Am Ao Ap Aq Ar W1 B1 ei j7 d0 d1 d2 kd GY ku hbase ze hA hB hC hD;exact gD
       ·by_cases hE:kd=9/\0<m/\gr<9
        ·skip --CE
         rename_i xe xf xh Am Ao Ap Aq Ar;revert iN vk jz jA jB R HR n iZ hc N l4 Fp oU Fq oQ HN xe xf xh V R0 X0 qE u7 u8 u9 u10 u11 u12 u23 u24 u25 u26 u27 u28 u29 u30 u31 u32 u33 u34 u35 u36 u37 u38 u39 u40 u41 u42 u43 u44 u45 u46 u47 u48 u49 u50 u51 u52 u53 u54 u55 u56 u57 u58 u59 u60 u61 u62 u63 u64 u65 u66 u67 u68 u69 u70 u71 u72 u73 u74 u75 u76 u77 u78 u79 u80 u81 u82 u83 u84 u85 u86 u87 u88 u89 u90 u91 u92 u93 u94 u95 u96 u97 u98 u99 u100 u101 u102 u103 u104 u105 u106 u107 u108 u109 u110 u111 u112 u113 u114 u115 u116 u117 u118 u119 u120 u121 u122 u123 u124 u125 u126 u127 u128 u129 u130 u131 u132 u133 u134 u135 u136 u137 u138 u139 u140 u141 u142 u143 u144 u145 u146 u147 u148 u149 u150 u151 u152 u153 u154 u155 u156 u157 u158 u159 u160 u161 u162 u163 u164 u165 u166 u167 u168 u169 u170 u171 u172 u173 u174 u175 u176 u177 u178 u179 u180 u181 u182 u183 u184 k hk wo hlt eG s0 s1 s2 PP I7 GX I8 ru rc m rM uf gr jU HST j6 HM uU lF Dz Am Ao Ap Aq Ar W1 B1 ei j7 d0 d1 d2 kd GY ku hbase ze hA hB hC hD hE;exact gE
        ·by_cases hG:9<kd/\0<m
         ·skip --CG
          rename_i xe xf xh Am Ao Ap Aq Ar;revert iN vk jz jA jB R HR n iZ hc N l4 Fp oU Fq oQ HN xe xf xh V R0 X0 qE u7 u8 u9 u10 u11 u12 u23 u24 u25 u26 u27 u28 u29 u30 u31 u32 u33 u34 u35 u36 u37 u38 u39 u40 u41 u42 u43 u44 u45 u46 u47 u48 u49 u50 u51 u52 u53 u54 u55 u56 u57 u58 u59 u60 u61 u62 u63 u64 u65 u66 u67 u68 u69 u70 u71 u72 u73 u74 u75 u76 u77 u78 u79 u80 u81 u82 u83 u84 u85 u86 u87 u88 u89 u90 u91 u92 u93 u94 u95 u96 u97 u98 u99 u100 u101 u102 u103 u104 u105 u106 u107 u108 u109 u110 u111 u112 u113 u114 u115 u116 u117 u118 u119 u120 u121 u122 u123 u124 u125 u126 u127 u128 u129 u130 u131 u132 u133 u134 u135 u136 u137 u138 u139 u140 u141 u142 u143 u144 u145 u146 u147 u148 u149 u150 u151 u152 u153 u154 u155 u156 u157 u158 u159 u160 u161 u162 u163 u164 u165 u166 u167 u168 u169 u170 u171 u172 u173 u174 u175 u176 u177 u178 u179 u180 u181 u182 u183 u184 k hk wo hlt eG s0 s1 s2 PP I7 GX I8 ru rc m rM uf gr jU HST j6 HM uU lF Dz Am Ao Ap Aq Ar W1 B1 ei j7 d0 d1 d2 kd GY ku hbase ze hA hB hC hD hE hG;exact gG
         ·have Fs:PP.step (s0,s1,s2)=PP:=by
           unfold dr.step;dsimp only;rw[<-ze.out, <-HM.out, <-lF.out,if_neg hA,if_neg hB,if_neg hC,if_neg hD,if_neg hE,if_neg (fun h=>hG ⟨h.1,h.2.1⟩)]
          have mG:=hid Fs;clear Fs;have a1:¬ ((kd:Int)<4):=by omega
          have a2:((kd:Int)==4)=false:=by simp;omega
          rename_i xe xf xh Am Ao Ap Aq Ar;revert iN vk jz jA jB R HR n iZ hc N l4 Fp oU Fq oQ HN xe xf xh V R0 X0 qE u7 u8 u9 u10 u11 u12 u23 u24 u25 u26 u27 u28 u29 u30 u31 u32 u33 u34 u35 u36 u37 u38 u39 u40 u41 u42 u43 u44 u45 u46 u47 u48 u49 u50 u51 u52 u53 u54 u55 u56 u57 u58 u59 u60 u61 u62 u63 u64 u65 u66 u67 u68 u69 u70 u71 u72 u73 u74 u75 u76 u77 u78 u79 u80 u81 u82 u83 u84 u85 u86 u87 u88 u89 u90 u91 u92 u93 u94 u95 u96 u97 u98 u99 u100 u101 u102 u103 u104 u105 u106 u107 u108 u109 u110 u111 u112 u113 u114 u115 u116 u117 u118 u119 u120 u121 u122 u123 u124 u125 u126 u127 u128 u129 u130 u131 u132 u133 u134 u135 u136 u137 u138 u139 u140 u141 u142 u143 u144 u145 u146 u147 u148 u149 u150 u151 u152 u153 u154 u155 u156 u157 u158 u159 u160 u161 u162 u163 u164 u165 u166 u167 u168 u169 u170 u171 u172 u173 u174 u175 u176 u177 u178 u179 u180 u181 u182 u183 u184 k hk wo hlt eG s0 s1 s2 PP I7 GX I8 ru rc m rM uf gr jU HST j6 HM uU lF Dz Am Ao Ap Aq Ar W1 B1 ei j7 d0 d1 d2 kd GY ku hbase ze hA hB hC hD hE hG mG a1 a2;exact gH
   ·obtain rfl:k=N:=by omega
    have Ii:¬ ((k:Int)<k):=by omega
    rename_i xe xf xh;revert iN vk jz jA jB R HR n iZ hc oQ xe xf xh V R0 X0 qE u3 u7 u8 u9 u10 u11 u12 u23 u24 u25 u26 u27 u28 u29 u30 u31 u32 u33 u34 u35 u36 u37 u38 u39 u40 u41 u42 u43 u44 u45 u46 u47 u48 u49 u50 u51 u52 u53 u54 u55 u56 u57 u58 u59 u60 u61 u62 u63 u64 u65 u66 u67 u68 u69 u70 u71 u72 u73 u74 u75 u76 u77 u78 u79 u80 u81 u82 u83 u84 u85 u86 u87 u88 u89 u90 u91 u92 u93 u94 u95 u96 u97 u98 u99 u100 u101 u102 u103 u104 u105 u106 u107 u108 u109 u110 u111 u112 u113 u114 u115 u116 u117 u118 u119 u120 u121 u122 u123 u124 u125 u126 u127 u128 u129 u130 u131 u132 u133 u134 u135 u136 u137 u138 u139 u140 u141 u142 u143 u144 u145 u146 u147 u148 u149 u150 u151 u152 u153 u154 u155 u156 u157 u158 u159 u160 u161 u162 u163 u164 u165 u166 u167 u168 u169 u170 u171 u172 u173 u174 u175 u176 u177 u178 u179 u180 u181 u182 u183 u184 k wo hrow HX l4 Fp oU Fq HN hk hlt Ii;exact gZ
end Go.Proofs.YtjgccapbphadjaaGreatDoor
