/- The law's small trees: joins. -/
import Derived.Test.YtalombmiochpmaaGreatDoorOR25
set_option maxRecDepth 100000
set_option maxHeartbeats 16000000
open Go.Lib (hid)
namespace Go.Proofs.YtalombmiochpmaaGreatDoor
open Go Go.RowKit Go.Shelf Go.Maps
theorem Tryz.YT:(Tryz.prog.info? 62).map (fun i=>(i.zero,i.size,i.bytes))=some (some (.agg gN),8,80):=by kernel_rfl
def kR (k:Nat) (a b:RX) (i:Nat):List RX:=([a,b].take i).flatMap (ew k)
def cE (base:Nat) (F:Nat->Prop) (w:World) (v:Value) (l:List RX):Prop:=∃ cs:List (Array Value),cs.length=l.length/\w.ownsRow base 62 8 v l.length (bI cs)/\(∀ c∈cs,c.size=8/\∀ u∈c.toList,u.oneCell'=true)/\
 ∀ (i:Nat) (c:Array Value) (t:RX),cs[i]? =some c->l[i]? =some t->aL F w (.agg c) t
theorem cE.nil (base:Nat) (F:Nat->Prop) (w:World):cE base F w (.slice none 0 0) []:=⟨[],rfl,World.ownsRow_nil _ _ _ _,(fun _ h=>nomatch h),fun i c t h=>by simp at h⟩
theorem cE.form {base:Nat} {F:Nat->Prop} {w:World} {v:Value} {l:List RX} (h:cE base F w v l):∃ a c,v=.slice a l.length c:=by obtain⟨cs,h1,h2,h3,h4⟩:=h;exact ownsRow_form h2
theorem cE.below {base:Nat} {F:Nat->Prop} {w w':World} {v:Value} {l:List RX} (h:cE base F w v l) (hF:∀ x,F x->x<w.heap.size) (hk:Below w.heap.size w w'):cE base F w' v l:=by obtain⟨cs,h1,h2,h3,h4⟩:=h;exact⟨cs,h1,aq h2 hk,h3,fun i c t hi ht=>(h4 i c t hi ht).keeps (aa.ag hk fun _ h=>h:aa (· <w.heap.size) w w') hF⟩
theorem cE.node {base:Nat} {F:Nat->Prop} {w:World} {v:Value} {l:List RX} (h:cE base F w v l) (hF:∀ x,F x->x<w.heap.size) (k:Nat) (s:BS) (mn mx:Int):aL (fun x=>x<w.heap.size/\(F x\/base<=x)) w (.agg (au k s mn mx v)) (.nd k s mn mx l):=by
 obtain⟨cs,h1,h2,h3,h4⟩:=h;rcases h2.2 with⟨rfl,e2⟩ | ⟨g,cap,cur,rfl,e2,e3,e4,e5,_⟩
 ·have hl:l=[]:=List.eq_nil_of_length_eq_zero e2
  subst hl;exact .leaf _ _ _ _ _ _ _ _
 ·have hg:=(h2.lt g rfl).2
  refine .mk k s mn mx l _ g 0 cap (fun i=>.agg (cs.getD i #[])) (fun e=>⟨_,_,by rw[e];rfl⟩) (fun _=>⟨rfl,⟨hg,.inr e2⟩,hg,e4⟩) (fun i t hi=>?_) (fun i t hi=>?_)
  ·have jK:=(List.getElem?_eq_some_iff.1 hi).1
   obtain⟨c,hc⟩:∃ c,cs[i]? =some c:=⟨_,List.getElem?_eq_getElem (by omega)⟩;refine⟨c,by rw[List.getD_eq_getElem?_getD,hc];rfl,fun j u hj=>?_⟩;have:=h2.cells (g:=g) rfl _ _ (jn (fun c hc=>(h3 c hc).1) hc hj);rw[Addr.add_mid]at this;rw[Nat.zero_add];simpa using this
  ·have jK:=(List.getElem?_eq_some_iff.1 hi).1
   obtain⟨c,hc⟩:∃ c,cs[i]? =some c:=⟨_,List.getElem?_eq_getElem (by omega)⟩;have:=h4 i c t hc hi;rw[List.getD_eq_getElem?_getD,hc];exact this.mono fun x hx=>⟨hF x hx,.inl hx⟩
theorem cE.app {base:Nat} {F:Nat->Prop} {w w':World} {v v':Value} {l l2:List RX} {cs cs2:List (Array Value)} (hF:∀ x,F x->x<base) (hb:base<=w.heap.size) (h1:cs.length=l.length) (h2:w.ownsRow base 62 8 v l.length (bI cs)) (h3:∀ c∈cs,c.size=8/\∀ u∈c.toList,u.oneCell'=true) (h4:∀ (i:Nat) (c:Array Value) (t:RX),cs[i]? =some c->l[i]? =some t->aL F w (.agg c) t) (g1:cs2.length=l2.length) (g3:∀ c∈cs2,c.size=8/\∀ u∈c.toList,u.oneCell'=true) (g4:∀ (i:Nat) (c:Array Value) (t:RX),cs2[i]? =some c->l2[i]? =some t->aL F w (.agg c) t) (ho:w'.ownsRow base 62 8 v' (l.length+l2.length) (bI cs++bI cs2)) (hg:w.grownBy w' v.ownBlock):cE base F w' v' (l++l2):=by
 have key:∀ (c:Array Value) (t:RX),aL F w (.agg c) t->aL F w' (.agg c) t:=fun c t h=>
  h.keeps (aa.bG hg fun x (hx:F x)=>⟨Nat.lt_of_lt_of_le (hF x hx) hb,fun e=>by have:=(h2.lt x e.symm).1;have:=hF x hx;omega⟩) fun x hx=>hx
 refine⟨cs++cs2,by simp[h1,g1],by rw[List.length_append,nM];exact ho,fun c hc=>(List.mem_append.1 hc).elim (h3 c) (g3 c),fun i c t hi ht=>?_⟩;rcases Nat.lt_or_ge i l.length with jK | jK
 ·rw[List.getElem?_append_left (by omega)]at hi ht
  exact key c t (h4 i c t hi ht)
 ·rw[List.getElem?_append_right (by omega)]at hi ht
  rw[h1]at hi;exact key c t (g4 _ c t hi ht)
theorem cE.afr {base:Nat} {F:Nat->Prop} {w w':World} {v v':Value} {l:List RX} {t:RX} {c:Array Value} {cs:List (Array Value)} (hF:∀ x,F x->x<base) (hb:base<=w.heap.size) (h1:cs.length=l.length) (h2:w.ownsRow base 62 8 v l.length (bI cs)) (h3:∀ c∈cs,c.size=8/\∀ u∈c.toList,u.oneCell'=true) (h4:∀ (i:Nat) (c:Array Value) (t:RX),cs[i]? =some c->l[i]? =some t->aL F w (.agg c) t) (g3:c.size=8/\∀ u∈c.toList,u.oneCell'=true) (g4:aL F w (.agg c) t) (ho:w'.ownsRow base 62 8 v' (l.length+1) (bI cs++c.toList)) (hg:w.grownBy w' v.ownBlock):cE base F w' v' (l++ [t]):=by
 refine cE.app (cs2:=[c]) hF hb h1 h2 h3 h4 rfl (fun x hx=>by simp at hx;rw[hx];exact g3) (fun i x y hi hy=>?_) (by rw[show bI [c]=c.toList by unfold bI;simp];exact ho) hg;have hl:=(List.getElem?_eq_some_iff.1 hi).1;obtain rfl:i=0:=by simpa using hl
 cases hi
 cases hy
 exact g4
theorem cE.elem {base:Nat} {F:Nat->Prop} {w:World} {a:Option Addr} {n cap:Nat} {l:List RX} (h:cE base F w (.slice a n cap) l) {i:Nat} {t:RX} (hi:l[i]? =some t): ∃ g p' c',a=some ⟨g,0,none⟩/\n=l.length/\n<=cap/\base<=g/\g<w.heap.size/\ (w.cell? ⟨g,i*8,none⟩=some (.int .u8 t.kind)/\w.cell? ⟨g,i*8+1,none⟩=some (.int .u64 (wd t.set 0).toNat)/\w.cell? ⟨g,i*8+2,none⟩=some (.int .u64 (wd t.set 1).toNat)/\w.cell? ⟨g,i*8+3,none⟩=some (.int .u64 (wd t.set 2).toNat)/\w.cell? ⟨g,i*8+4,none⟩=some (.int .u64 (wd t.set 3).toNat)/\w.cell? ⟨g,i*8+5,none⟩=some (.int .i64 t.mn)/\w.cell? ⟨g,i*8+6,none⟩=some (.int .i64 t.mx)/\w.cell? ⟨g,i*8+7,none⟩=some (.slice p' t.subs.length c'))/\ aL F w (.agg (au t.kind t.set t.mn t.mx (.slice p' t.subs.length c'))) t:=by
 obtain⟨cs,h1,h2,h3,h4⟩:=h;have jK:=(List.getElem?_eq_some_iff.1 hi).1;obtain⟨c,hc⟩:∃ c,cs[i]? =some c:=⟨_,List.getElem?_eq_getElem (by omega)⟩;have hr:=h4 i c t hc hi;obtain⟨p',c',e⟩:=hr.form;injection e with e
 subst e;rcases h2.2 with⟨e1,e2⟩ | ⟨g,cap',cur,e1,e2,e3,e4,e5,_⟩
 ·exfalso;omega
 ·injection e1 with a1 a2 a3
  subst a1 a2 a3;have hlt:=h2.lt g rfl;have ce:∀ (j:Nat) (u:Value),(au t.kind t.set t.mn t.mx (.slice p' t.subs.length c'))[j]? =some u->w.cell? ⟨g,i*8+j,none⟩=some u:=fun j u hj=>by
   have:=h2.cells (g:=g) rfl _ _ (jn (fun c hc=>(h3 c hc).1) hc hj);rw[Addr.add_mid]at this;simpa using this
  exact⟨g,p',c',rfl,rfl,e4,hlt.1,hlt.2,⟨ce 0 _ rfl,ce 1 _ rfl,ce 2 _ rfl,ce 3 _ rfl,ce 4 _ rfl,ce 5 _ rfl,ce 6 _ rfl,ce 7 _ rfl⟩,hr⟩
theorem Ls {cs:List (Array Value)} {j:Nat} {u:Value} (h:∀ c∈cs,c.size=8) (hj:(bI cs)[j]? =some u):∃ c,cs[j/8]? =some c/\c[j%8]? =some u:=by have hl:=(List.getElem?_eq_some_iff.1 hj).1;rw[ig h]at hl;have hc:cs[j/8]? =some (cs[j/8]'(by omega)):=List.getElem?_eq_getElem (by omega);have hs:=h _ (List.mem_of_getElem? hc);have hu:(cs[j/8]'(by omega))[j%8]? =some ((cs[j/8]'(by omega))[j%8]'(by omega)):=Array.getElem?_eq_getElem (by omega);have:=jn h hc hu;rw[show j/8*8+j%8=j by omega,hj]at this;exact⟨_,hc,by rw[hu, <-Option.some.inj this]⟩
theorem aL.aky {F:Nat->Prop} {w:World} {k n c:Nat} {s:BS} {mn mx:Int} {p:Option Addr} {l:List RX} (h:aL F w (.agg (au k s mn mx (.slice p n c))) (.nd k s mn mx l)) (hl:l≠[]): ∃ b off cs,p=some ⟨b,off,none⟩/\F b/\b<w.heap.size/\n=l.length/\cs.length=l.length/\(∀ c∈cs,c.size=8/\∀ u∈c.toList,u.oneCell'=true)/\(∀ (i:Nat) (c:Array Value) (t:RX),cs[i]? =some c->l[i]? =some t->aL F w (.agg c) t)/\∀ (j:Nat) (u:Value),(bI cs)[j]? =some u->w.cell? ⟨b,off+j,none⟩=some u:=by
 obtain⟨t0,ht0⟩:∃ t,l[0]? =some t:=by
  cases l with
  | nil=>exact absurd rfl hl
  | cons x l=>exact⟨x,rfl⟩
 obtain⟨b,off,p',c',rfl,hb,rK,lZ,_,_⟩:=h.elem ht0;have hn:n=l.length:=by obtain⟨p2,c2,e⟩:=h.form;simp[au,RX.subs,RX.kind,RX.set,RX.mn,RX.mx]at e;exact e.2.1
 have key:∀ i:Nat,∃ c:Array Value,∀ t,l[i]? =some t->(c.size=8/\∀ u∈c.toList,u.oneCell'=true)/\aL F w (.agg c) t/\∀ (o:Nat) (u:Value),c[o]? =some u->w.cell? ⟨b,off+i*8+o,none⟩=some u:=fun i=>by
  rcases e:l[i]? with _ | t
  ·exact⟨#[],fun t h=>by cases h⟩
  ·obtain⟨b2,xe,p2,c2,e2,_,_,_,⟨f0,f1,f2,f3,f4,f5,f6,f7⟩,hr⟩:=h.elem e
   cases e2
   refine⟨au t.kind t.set t.mn t.mx (.slice p2 t.subs.length c2),fun t' ht'=>?_⟩;cases ht';refine⟨cP _ _ _ _ _ _ _,hr,fun o u ho=>?_⟩;have hol:=(Array.getElem?_eq_some_iff.1 ho).1;have h8:(au t.kind t.set t.mn t.mx (.slice p2 t.subs.length c2)).size=8:=rfl;rw[h8]at hol;have hc:o=0\/o=1\/o=2\/o=3\/o=4\/o=5\/o=6\/o=7:=by omega
   rcases hc with rfl | rfl | rfl | rfl | rfl | rfl | rfl | rfl<;>cases ho<;>assumption
 refine⟨b,off,(List.range l.length).map fun i=>Classical.choose (key i),rfl,hb,rK,hn,by simp,fun c hc=>?_,fun i c t hi ht=>?_,fun j u hj=>?_⟩
 ·obtain⟨i,hi,rfl⟩:=List.mem_map.1 hc
  have jK:=List.mem_range.1 hi;exact(Classical.choose_spec (key i) _ (List.getElem?_eq_getElem jK)).1
 ·have jK:=(List.getElem?_eq_some_iff.1 ht).1
  rw[List.getElem?_map,List.getElem?_range jK]at hi;cases hi;exact(Classical.choose_spec (key i) t ht).2.1
 ·obtain⟨c,hc,hu⟩:=Ls (fun c hc=>by
   obtain⟨i,hi,rfl⟩:=List.mem_map.1 hc
   exact(Classical.choose_spec (key i) _ (List.getElem?_eq_getElem (List.mem_range.1 hi))).1.1) hj
  rw[List.getElem?_map]at hc;have jK:j/8<l.length:=by
   rcases Nat.lt_or_ge (j/8) l.length with h | h
   ·exact h
   ·rw[List.getElem?_eq_none (by simpa using h)]at hc;cases hc
  rw[List.getElem?_range jK]at hc;cases hc;have:=(Classical.choose_spec (key (j/8)) _ (List.getElem?_eq_getElem jK)).2.2 _ _ hu;rw[show off+j/8*8+j%8=off+j by omega]at this;exact this
theorem aL.afs {F:Nat->Prop} {w:World} {k n c:Nat} {s:BS} {mn mx:Int} {p:Option Addr} {t:RX} (h:aL F w (.agg (au k s mn mx (.slice p n c))) t) (hl:t.subs≠[]): ∃ b off cs,p=some ⟨b,off,none⟩/\F b/\b<w.heap.size/\n=t.subs.length/\cs.length=t.subs.length/\(∀ c∈cs,c.size=8/\∀ u∈c.toList,u.oneCell'=true)/\(∀ (i:Nat) (c:Array Value) (x:RX),cs[i]? =some c->t.subs[i]? =some x->aL F w (.agg c) x)/\∀ (j:Nat) (u:Value),(bI cs)[j]? =some u->w.cell? ⟨b,off+j,none⟩=some u:=by
 obtain⟨p',c',e⟩:=h.form;rw[e]at h;have e7:Value.slice p n c=.slice p' t.subs.length c':=by
  injection e with e
  have:=congrArg (fun a:Array Value=>a[7]?) e;simpa[au]using this
 injection e7 with a1 a2 a3
 subst a1 a2 a3;cases t with
 | nd k s mn mx l=>exact h.aky hl
theorem nR (F:Nat->Prop) (k:Nat) (hk:k=3\/k=4) (va vb:Value) (a b:RX) (ha:a.fine) (hb:b.fine) (Kf:a.size<=1000) (sW:b.size<=1000) (w:World) (hFF:∀ x,F x->x<w.heap.size) (hva:aL F w va a) (hvb:aL F w vb b): Calls Tryz.prog 50 #[.int .u8 k,va,vb] w fun e w'=>∃ u,e=.returned u/\aL (fun x=>x<w'.heap.size/\(F x\/w.heap.size<=x)) w' u (cF k a b)/\Below w.heap.size w w':=by
 obtain⟨iN,xJ,j3,j4,j5⟩:=info_parts Tryz.YT;obtain⟨J,hJ⟩:∃ J,J=cF k a b:=⟨_,rfl⟩;rw[<-hJ];have HJ:=hid hJ;clear hJ;obtain⟨pa,ca,rfl⟩:=hva.form;obtain⟨pb,cb,rfl⟩:=hvb.form;have HA:=hid hva;have HB:=hid hvb;have FA:=hid ha;have FB:=hid hb;have SA:=hid Kf;have SB:=hid sW;obtain⟨ka,hka⟩:∃ x,x=a.kind:=⟨_,rfl⟩;obtain⟨na,Xf⟩:∃ x,x=a.subs.length:=⟨_,rfl⟩;obtain⟨sa,aft⟩:∃ x,x=a.set:=⟨_,rfl⟩;obtain⟨ma,TN⟩:∃ x,x=a.mn:=⟨_,rfl⟩;obtain⟨xa,YU⟩:∃ x,x=a.mx:=⟨_,rfl⟩;obtain⟨kb,hkb⟩:∃ x,x=b.kind:=⟨_,rfl⟩;obtain⟨nb,uD⟩:∃ x,x=b.subs.length:=⟨_,rfl⟩;obtain⟨sb,afu⟩:∃ x,x=b.set:=⟨_,rfl⟩;obtain⟨mb,xg⟩:∃ x,x=b.mn:=⟨_,rfl⟩;obtain⟨xb,JH⟩:∃ x,x=b.mx:=⟨_,rfl⟩;rw[<-hka, <-Xf, <-aft, <-TN, <-YU]at HA ⊢;rw[<-hkb, <-uD, <-afu, <-xg, <-JH]at HB ⊢;have HKA:=hid hka;have HNA:=hid Xf;have HKB:=hid hkb;have U4:=hid uD;clear hva hvb ha hb Kf sW hka Xf aft TN YU hkb uD afu xg JH;unfold au;go_enter Tryz.func50,Tryz.ntmps50;go_wp2;refine aw ?_;intro V hV;have R0:Hid (ah V (w.heap.size+1+1) gN 62):=by rw[hV];exact hid ((ah.at (ah.new _ _ _) (by simp)).alloc _)
 have L0:Hid (ah V (w.heap.size+1+1+1) #[.int .u8 ka,.int .u64 (wd sa 0).toNat,.int .u64 (wd sa 1).toNat,.int .u64 (wd sa 2).toNat,.int .u64 (wd sa 3).toNat,.int .i64 ma,.int .i64 xa,.slice pa na ca,.int .u8 kb,.int .u64 (wd sb 0).toNat,.int .u64 (wd sb 1).toNat,.int .u64 (wd sb 2).toNat,.int .u64 (wd sb 3).toNat,.int .i64 mb,.int .i64 xb,.slice pb nb cb] 62):=by rw[hV];exact hid (ah.at (ah.new _ _ _) (by simp))
 have X0:Hid (Ext w V):=by rw[hV];exact hid (((((Ext.refl w).alloc _).alloc _).alloc _).alloc _)
 have H7:V.heap.size=w.heap.size+1+1+1+1:=by rw[hV];simp
 have uE:=hid H7;clear hV H7;go_loopw [7,14] (fun u i wr=>∃ j:Nat,j<=2/\i=.int .i64 j/\cE V.heap.size F wr u (kR k a b j)/\aa (· <V.heap.size) V wr) (fun _ i _=>2-(intOf i).toNat);case atStart=>exact⟨0,by omega,rfl,cE.nil _ _ _,aa.refl _ _⟩
 case round=>
  obtain⟨j,hj,rfl,hrow,hx⟩:=hrel;obtain⟨wo,rfl⟩:∃ wo:World,wo=wr:=⟨_,rfl⟩;have gY:=hid hrow;have HX:=hid hx;obtain⟨ru,rc,rfl⟩:=hrow.form;clear hrow hx;by_cases hlt:j<2
  ·have nz:(j:Int)<2:=by omega
   obtain⟨t,kx,nx,sx,mx,xx,px,cx,htj,e0,e1,e2,e3,e4,e5,e6,e7,hT,hkx,Va,hfx,Gj⟩:∃ (t:RX) (kx nx:Nat) (sx:BS) (mx xx:Int) (px:Option Addr) (cx:Nat),[a,b][j]? =some t/\wo.cell? ⟨w.heap.size+1+1+1,j*8,none⟩=some (.int .u8 kx)/\wo.cell? ⟨w.heap.size+1+1+1,j*8+1,none⟩=some (.int .u64 (wd sx 0).toNat)/\wo.cell? ⟨w.heap.size+1+1+1,j*8+2,none⟩=some (.int .u64 (wd sx 1).toNat)/\wo.cell? ⟨w.heap.size+1+1+1,j*8+3,none⟩=some (.int .u64 (wd sx 2).toNat)/\wo.cell? ⟨w.heap.size+1+1+1,j*8+4,none⟩=some (.int .u64 (wd sx 3).toNat)/\wo.cell? ⟨w.heap.size+1+1+1,j*8+5,none⟩=some (.int .i64 mx)/\wo.cell? ⟨w.heap.size+1+1+1,j*8+6,none⟩=some (.int .i64 xx)/\wo.cell? ⟨w.heap.size+1+1+1,j*8+7,none⟩=some (.slice px nx cx)/\aL F w (.agg (au kx sx mx xx (.slice px nx cx))) t/\kx=t.kind/\nx=t.subs.length/\t.fine/\t.size<=1000:=by
    have LB:=L0.out.keeps HX.out L0.out.lt;have hjj:j=0\/j=1:=by omega
    rcases hjj with rfl | rfl
    ·exact⟨a,ka,na,sa,ma,xa,pa,ca,rfl,LB.cell 0,LB.cell 1,LB.cell 2,LB.cell 3,LB.cell 4,LB.cell 5,LB.cell 6,LB.cell 7,HA.out,HKA.out,HNA.out,FA.out,SA.out⟩
    ·exact⟨b,kb,nb,sb,mb,xb,pb,cb,rfl,LB.cell 8,LB.cell 9,LB.cell 10,LB.cell 11,LB.cell 12,LB.cell 13,LB.cell 14,LB.cell 15,HB.out,HKB.out,U4.out,FB.out,SB.out⟩
   have eH:kR k a b (j+1)=kR k a b j++ew k t:=by unfold kR;rw[List.take_add_one,htj,List.flatMap_append];simp
   have kq:=hid eH;have HT:=hid hT;have HFX:=hid hfx;have HSX:=hid Gj;have Ql:=hid Va;have YV:=hid hkx;clear htj eH hT hfx Gj Va hkx;go_upto_region 6 with fail
   refine aw ?_;intro W1 hW1;have N1:Hid (ah W1 wo.heap.size (au kx sx mx xx (.slice px nx cx)) 62):=by rw[hW1];exact hid (ah.new _ _ _)
   have E1:Hid (Ext wo W1):=by rw[hW1];exact hid ((Ext.refl wo).alloc _)
   clear hW1 e0 e1 e2 e3 e4 e5 e6 e7;have hF8:∀ x,x<w.heap.size->x<V.heap.size:=fun x hx=>by have:=uE.out;omega
   have YW:∀ x,F x->x<V.heap.size:=fun x hx=>hF8 x (hFF x hx)
   have eF:=hid (gY.out.below (fun x hx=>Nat.lt_of_lt_of_le (YW x hx) HX.out.size) E1.out.below);have lI:Hid (aa (· <V.heap.size) V W1):=hid (HX.out.tr (E1.out.keeps.mono fun x (hx:x<V.heap.size)=>Nat.lt_of_lt_of_le hx HX.out.size));have T1:Hid (aL F W1 (.agg (au kx sx mx xx (.slice px nx cx))) t):=hid (HT.out.keeps (X0.out.keeps.tr (lI.out.mono hF8)) hFF);have f0:W1.cell? ⟨wo.heap.size,0,none⟩=some (.int .u8 kx):=N1.out.cell 0;have f1:W1.cell? ⟨wo.heap.size,1,none⟩=some (.int .u64 (wd sx 0).toNat):=N1.out.cell 1;have f2:W1.cell? ⟨wo.heap.size,2,none⟩=some (.int .u64 (wd sx 1).toNat):=N1.out.cell 2;have f3:W1.cell? ⟨wo.heap.size,3,none⟩=some (.int .u64 (wd sx 2).toNat):=N1.out.cell 3;have f4:W1.cell? ⟨wo.heap.size,4,none⟩=some (.int .u64 (wd sx 3).toNat):=N1.out.cell 4;have f5:W1.cell? ⟨wo.heap.size,5,none⟩=some (.int .i64 mx):=N1.out.cell 5;have f6:W1.cell? ⟨wo.heap.size,6,none⟩=some (.int .i64 xx):=N1.out.cell 6;have f7:W1.cell? ⟨wo.heap.size,7,none⟩=some (.slice px nx cx):=N1.out.cell 7;obtain⟨cs,g1,g2,g3,g4⟩:=eF.out;obtain⟨L,hL⟩:∃ L,L=kR k a b j:=⟨_,rfl⟩;have hLs:L.length<=2000:=by
    have q:∀ (l:List RX),(∀ x∈l,x.fine/\x.size<=1000)->l.length<=2->(l.flatMap (ew k)).length<=1000*l.length:=fun l=>by
     induction l with
     | nil=>intro _ _;simp
     | cons x l ih=>
      intro hl h2;have i1:=ih (fun y hy=>hl y (List.mem_cons_of_mem _ hy)) (by simp at h2;omega);have i2:=(r9 hk (hl x (List.mem_cons_self ..)).1).2.1;have i3:=zt (ew k x);have i4:=(hl x (List.mem_cons_self ..)).2;rw[List.flatMap_cons,List.length_append,List.length_cons];omega
    rw[hL]
    have i5:=q ([a,b].take j) (fun x hx=>by
     have:=List.mem_of_mem_take hx;simp at this;rcases this with rfl | rfl
     ·exact⟨FA.out,SA.out⟩
     ·exact⟨FB.out,SB.out⟩) (by rw[List.length_take];simp;omega)
    have:([a,b].take j).length<=2:=by rw[List.length_take];simp;omega
    unfold kR;omega
   rw[<-hL]at g1 g2 g4 ⊢;obtain⟨ml,uC⟩:∃ m,m=L.length:=⟨_,rfl⟩;rw[<-uC]at g1 g2 hLs ⊢;have HL:=hid hL;have AW:=hid uC;have G1:=hid g1;have G2:=hid g2;have G3:=hid g3;have G4:=hid g4;have hbase:V.heap.size<=W1.heap.size:=lI.out.size;clear hL uC g1 g2 g3 g4 eF gY;by_cases hc1:kx=k
   ·have MN:ew k t=t.subs:=by unfold ew;rw[if_pos (by rw[<-YV.out];exact hc1)]
    have hne:t.subs≠[]:=fun e=>by
     have h1:=(cW t (vo HFX.out)).2.2.2.2.2.2 (by rw[<-YV.out,hc1];exact hk);rw[e]at h1;simp at h1
    obtain⟨b2,xe,cs2,e2,q1,q2,q3,q4,q5,q6,q7⟩:=T1.out.afs hne;subst e2;have asw:nx<=1000:=by have:=De t;have:=zt t.subs;have:=HSX.out;omega
    have Q4:=hid q4;have Q5:=hid q5;have Q6:=hid q6;have Q7:=hid q7;have HPR:=hid MN;have HQ3:=hid q3;have hb1:((kx:Int)==k)=true:=by simp[hc1]
    clear MN hne q4 q5 q6 q7 q1 q2 q3 hc1;go_wp2_with (at_builtin;refine Hid.out ?_);refine hid ?_;refine fG rfl (.tmp 27) (.tmp 29) 60 rfl V.heap.size 62 iN (.agg gN) 8 80 Tryz.underlying60 xJ j3 j4 j5 rfl (by decide) (.slice ru ml rc) ml (bI cs) rfl G2.out ⟨b2,xe,none⟩ nx cx (bI cs2) rfl (fun o u ho=>by rw[Addr.add_mid];exact Q7.out o u ho) (by rw[ig (fun c hc=>(Q5.out c hc).1),Q4.out,HQ3.out]) (fun u hu=>by obtain⟨c,hc,hu⟩:=List.mem_flatMap.1 hu;exact(Q5.out c hc).2 u hu) (by unfold maxLen;omega) (by omega) hbase ?_;intro v' w' ho hg lY;have K9:Hid (aa (· <V.heap.size) V w'):=hid (lI.out.tr (aa.bG hg fun x (hx:x<V.heap.size)=>⟨Nat.lt_of_lt_of_le hx hbase,fun e=>by have:=(G2.out.lt x e.symm).1;omega⟩));have R9:Hid (cE V.heap.size F w' v' (L++t.subs)):=hid (cE.app (cs:=cs) (cs2:=cs2) YW hbase (by rw[<-AW.out];exact G1.out) (by rw[<-AW.out];exact G2.out) G3.out G4.out Q4.out Q5.out Q6.out (by rw[<-AW.out, <-HQ3.out];exact ho) hg);obtain⟨va',vc',rfl⟩:=ownsRow_form ho;clear ho hg lY;go_wp2;go_roundw;case rel=>
     refine⟨j+1,by omega,by go_num,?_,K9.out⟩;rw[kq.out,HPR.out, <-HL.out];exact R9.out
    case measure=>simp[intOf];omega
   ·have hb1:((kx:Int)==k)=false:=by simp;omega
    by_cases hk3:k=3
    ·by_cases hx1:kx=1
     ·have MN:ew k t=[]:=by unfold ew;rw[if_neg (by rw[<-YV.out];exact hc1),if_pos ⟨hk3,by rw[<-YV.out];exact hx1⟩]
      have HPR:=hid MN;have hb3:((k:Int)==3)=true:=by simp[hk3]
      have hb5:((kx:Int)==1)=true:=by simp[hx1]
      have R9:Hid (cE V.heap.size F W1 (.slice ru ml rc) L):=hid ⟨cs,by rw[<-AW.out];exact G1.out,by rw[<-AW.out];exact G2.out,G3.out,G4.out⟩;clear MN hx1 hk3 hc1;go_wp2;go_roundw;case rel=>
       refine⟨j+1,by omega,by go_num,?_,lI.out⟩;rw[kq.out,HPR.out, <-HL.out,List.append_nil];exact R9.out
      case measure=>simp[intOf];omega
     ·have hc2:¬ (k=3/\kx=1):=fun h=>hx1 h.2
      have hb3:((k:Int)==3)=true:=by simp[hk3]
      have hb5:((kx:Int)==1)=false:=by simp;omega
      clear hk3;have MN:ew k t=[t]:=by unfold ew;rw[if_neg (by rw[<-YV.out];exact hc1),if_neg (by rw[<-YV.out];exact hc2)]
      have HPR:=hid MN;clear MN;go_wp2_with (at_builtin;refine Hid.out ?_);refine hid ?_;refine jY ?_;intro W2 hW2;have B2:Hid (ah W2 W1.heap.size (au kx sx mx xx (.slice px nx cx)) 62):=by rw[hW2];exact hid (ah.new _ _ _)
      have E2:Hid (Ext W1 W2):=by rw[hW2];exact hid ((Ext.refl _).alloc _)
      clear hW2;have hs2:W1.heap.size<=W2.heap.size:=E2.out.size;refine fG rfl (.tmp 18) (.tmp 20) 60 rfl V.heap.size 62 iN (.agg gN) 8 80 Tryz.underlying60 xJ j3 j4 j5 rfl (by decide) (.slice ru ml rc) ml (bI cs) rfl (aq G2.out E2.out.below) ⟨W1.heap.size,0,none⟩ 1 1 (au kx sx mx xx (.slice px nx cx)).toList rfl (bU B2.out) rfl (cP _ _ _ _ _ _ _).2 (by unfold maxLen;omega) (by omega) (by omega) ?_;intro v' w' ho hg lY;have K9:Hid (aa (· <V.heap.size) V w'):=hid ((lI.out.tr (E2.out.keeps.mono fun x (hx:x<V.heap.size)=>Nat.lt_of_lt_of_le hx hbase)).tr (aa.bG hg fun x (hx:x<V.heap.size)=>⟨by omega,fun e=>by have:=(G2.out.lt x e.symm).1;omega⟩));have R9:Hid (cE V.heap.size F w' v' (L++ [t])):=hid (cE.afr (cs:=cs) (c:=au kx sx mx xx (.slice px nx cx)) YW (by omega) (by rw[<-AW.out];exact G1.out) (by rw[<-AW.out];exact aq G2.out E2.out.below) G3.out (fun i c y hi hy=>(G4.out i c y hi hy).keeps E2.out.keeps fun x hx=>Nat.lt_of_lt_of_le (YW x hx) hbase) (cP _ _ _ _ _ _ _) (T1.out.keeps E2.out.keeps fun x hx=>Nat.lt_of_lt_of_le (YW x hx) hbase) (by rw[<-AW.out];exact ho) hg);obtain⟨va',vc',rfl⟩:=ownsRow_form ho;clear ho hg lY;go_wp2;go_roundw;case rel=>
       refine⟨j+1,by omega,by go_num,?_,K9.out⟩;rw[kq.out,HPR.out, <-HL.out];exact R9.out
      case measure=>simp[intOf];omega
    ·have hc2:¬ (k=3/\kx=1):=fun h=>hk3 h.1
     have hb3:((k:Int)==3)=false:=by simp;omega
     have MN:ew k t=[t]:=by unfold ew;rw[if_neg (by rw[<-YV.out];exact hc1),if_neg (by rw[<-YV.out];exact hc2)]
     have HPR:=hid MN;clear MN;go_wp2_with (at_builtin;refine Hid.out ?_);refine hid ?_;refine jY ?_;intro W2 hW2;have B2:Hid (ah W2 W1.heap.size (au kx sx mx xx (.slice px nx cx)) 62):=by rw[hW2];exact hid (ah.new _ _ _)
     have E2:Hid (Ext W1 W2):=by rw[hW2];exact hid ((Ext.refl _).alloc _)
     clear hW2;have hs2:W1.heap.size<=W2.heap.size:=E2.out.size;refine fG rfl (.tmp 18) (.tmp 20) 60 rfl V.heap.size 62 iN (.agg gN) 8 80 Tryz.underlying60 xJ j3 j4 j5 rfl (by decide) (.slice ru ml rc) ml (bI cs) rfl (aq G2.out E2.out.below) ⟨W1.heap.size,0,none⟩ 1 1 (au kx sx mx xx (.slice px nx cx)).toList rfl (bU B2.out) rfl (cP _ _ _ _ _ _ _).2 (by unfold maxLen;omega) (by omega) (by omega) ?_;intro v' w' ho hg lY;have K9:Hid (aa (· <V.heap.size) V w'):=hid ((lI.out.tr (E2.out.keeps.mono fun x (hx:x<V.heap.size)=>Nat.lt_of_lt_of_le hx hbase)).tr (aa.bG hg fun x (hx:x<V.heap.size)=>⟨by omega,fun e=>by have:=(G2.out.lt x e.symm).1;omega⟩));have R9:Hid (cE V.heap.size F w' v' (L++ [t])):=hid (cE.afr (cs:=cs) (c:=au kx sx mx xx (.slice px nx cx)) YW (by omega) (by rw[<-AW.out];exact G1.out) (by rw[<-AW.out];exact aq G2.out E2.out.below) G3.out (fun i c y hi hy=>(G4.out i c y hi hy).keeps E2.out.keeps fun x hx=>Nat.lt_of_lt_of_le (YW x hx) hbase) (cP _ _ _ _ _ _ _) (T1.out.keeps E2.out.keeps fun x hx=>Nat.lt_of_lt_of_le (YW x hx) hbase) (by rw[<-AW.out];exact ho) hg);obtain⟨va',vc',rfl⟩:=ownsRow_form ho;clear ho hg lY;go_wp2;go_roundw;case rel=>
      refine⟨j+1,by omega,by go_num,?_,K9.out⟩;rw[kq.out,HPR.out, <-HL.out];exact R9.out
     case measure=>simp[intOf];omega
  ·obtain rfl:j=2:=by omega
   have eE:¬ ((2:Int)<2):=by omega
   have X9:Hid (Below w.heap.size w wo):=hid (X0.out.below.trans (HX.out.mono fun x (hx:x<w.heap.size)=>by have:=uE.out;show x<V.heap.size;omega:aa (· <w.heap.size) V wo).below);have R9:=hid (R0.out.keeps HX.out R0.out.lt);have hjn:kR k a b 2=ew k a++ew k b:=by unfold kR;simp
   have hjj:cF k a b=gT k (kR k a b 2):=by rw[hjn];rfl
   have xB:Hid (J=gT k (kR k a b 2)):=hid (HJ.out.trans hjj);clear HJ;obtain⟨L,hL⟩:∃ L,L=kR k a b 2:=⟨_,rfl⟩;rw[<-hL]at gY xB ⊢;clear hjn hjj hL HA HB FA FB SA SB;have hwV:w.heap.size+1+1<V.heap.size:=by have:=uE.out;omega
   match L,gY,xB with
   | [],gY,xB=>
    simp only[List.length_nil];go_wp2_with (refine wpList_store_row rfl 62 (.tmp 6) (.tmp 44) rfl (w.heap.size+1+1) #[.int .u8 1,.int .u64 0,.int .u64 0,.int .u64 0,.int .u64 0,.int .i64 0,.int .i64 0,.slice none 0 0] rfl rfl 62 gN R9.out (by kernel_rfl) rfl (by simp[Value.oneCell']) ?_;refine Hid.out ?_);refine hid ?_;obtain⟨V3,di⟩:∃ W,W=wo.setRow (w.heap.size+1+1) #[.int .u8 1,.int .u64 0,.int .u64 0,.int .u64 0,.int .u64 0,.int .i64 0,.int .i64 0,.slice none 0 0]:=⟨_,rfl⟩;rw[<-di];have RR:Hid (ah V3 (w.heap.size+1+1) #[.int .u8 1,.int .u64 0,.int .u64 0,.int .u64 0,.int .u64 0,.int .i64 0,.int .i64 0,.slice none 0 0] 62):=by rw[di];exact hid R9.out.setRow
    have XX:Below w.heap.size w V3:=by rw[di];exact X9.out.trans ((bP wo (w.heap.size+1+1) _).mono fun x (hx:x<w.heap.size)=>by show x≠_;omega:aa (· <w.heap.size) wo _).below
    clear di;go_wp2;obtain⟨m0,m1,m2,m3,m4,m5,m6,m7⟩:=RR.out.eight;refine bodyPost_ret (v:=.agg #[.int .u8 1,.int .u64 0,.int .u64 0,.int .u64 0,.int .u64 0,.int .i64 0,.int .i64 0,.slice none 0 0]) (by simp[results,Tryz.results50,go_sem,m0,m1,m2,m3,m4,m5,m6,m7]) rfl ⟨_,rfl,?_,XX⟩;have e:=aL.leaf (fun x=>x<V3.heap.size/\(F x\/w.heap.size<=x)) V3 1 0 0 0 none 0;rw[kQ]at e;rw[xB.out];exact e
   | [x],gY,xB=>
    simp only[List.length_cons,List.length_nil,Nat.zero_add];obtain⟨g,p',c',e1,_,q2,q3,q4,⟨f0,f1,f2,f3,f4,f5,f6,f7⟩,hr⟩:=gY.out.elem (i:=0) (t:=x) rfl;subst e1;simp only[Nat.zero_mul,Nat.zero_add]at f0 f1 f2 f3 f4 f5 f6 f7;have HR:=hid hr;obtain⟨k1,uO⟩:∃ k,k=x.kind:=⟨_,rfl⟩;obtain⟨nl,Al⟩:∃ k,k=x.subs.length:=⟨_,rfl⟩;obtain⟨st,hst⟩:∃ st,st=x.set:=⟨_,rfl⟩;obtain⟨tn,yL⟩:∃ y,y=x.mn:=⟨_,rfl⟩;obtain⟨tx,TM⟩:∃ y,y=x.mx:=⟨_,rfl⟩;rw[<-uO]at f0 HR;rw[<-hst]at f1 f2 f3 f4 HR;rw[<-yL]at f5 HR;rw[<-TM]at f6 HR;rw[<-Al]at f7 HR;clear hr uO Al hst yL TM;go_wp2_with (refine wpList_store_row rfl 62 (.tmp 6) (.tmp 49) rfl (w.heap.size+1+1) (au k1 st tn tx (.slice p' nl c')) rfl rfl 62 gN R9.out (dE _ _ _ _ _) rfl (nQ _ _ _ _ _ _ _) ?_;refine Hid.out ?_);refine hid ?_;obtain⟨V3,di⟩:∃ W,W=wo.setRow (w.heap.size+1+1) (au k1 st tn tx (.slice p' nl c')):=⟨_,rfl⟩;rw[<-di];have RR:Hid (ah V3 (w.heap.size+1+1) (au k1 st tn tx (.slice p' nl c')) 62):=by rw[di];exact hid R9.out.setRow
    have KK:aa (· ≠w.heap.size+1+1) wo V3:=by rw[di];exact bP _ _ _
    clear di;go_wp2;obtain⟨m0,m1,m2,m3,m4,m5,m6,m7⟩:=RR.out.eight;refine bodyPost_ret (v:=.agg (au k1 st tn tx (.slice p' nl c'))) (by simp[results,Tryz.results50,au,go_sem,m0,m1,m2,m3,m4,m5,m6,m7]) rfl ⟨_,rfl,?_,X9.out.trans (KK.mono fun x (hx:x<w.heap.size)=>by show x≠_;omega:aa (· <w.heap.size) wo V3).below⟩;rw[xB.out];exact(HR.out.keeps (KK.mono fun y (hy:y<w.heap.size)=>by show y≠_;omega) hFF).mono fun y hy=>⟨by have:=hFF y hy;have:=KK.size;have:=R9.out.lt;omega,.inl hy⟩
   | x::y::l,gY,xB=>
    obtain⟨ml,uC⟩:∃ m,m=(x::y::l).length:=⟨_,rfl⟩;have mz:2<=ml:=by rw[uC];simp
    rw[<-uC];rw[<-uC]at gY;clear uC;have hd1:((ml:Int)==0)=false:=by simp;omega
    have hd2:((ml:Int)==1)=false:=by simp;omega
    go_wp2_with (refine wpList_store_row rfl 62 (.tmp 6) (.tmp 52) rfl (w.heap.size+1+1) #[.int .u8 k,.int .u64 0,.int .u64 0,.int .u64 0,.int .u64 0,.int .i64 0,.int .i64 0,.slice ru ml rc] rfl rfl 62 gN R9.out (by kernel_rfl) rfl (by simp[Value.oneCell']) ?_;refine Hid.out ?_)
    refine hid ?_;obtain⟨V3,di⟩:∃ W,W=wo.setRow (w.heap.size+1+1) #[.int .u8 k,.int .u64 0,.int .u64 0,.int .u64 0,.int .u64 0,.int .i64 0,.int .i64 0,.slice ru ml rc]:=⟨_,rfl⟩;rw[<-di];have RR:Hid (ah V3 (w.heap.size+1+1) #[.int .u8 k,.int .u64 0,.int .u64 0,.int .u64 0,.int .u64 0,.int .i64 0,.int .i64 0,.slice ru ml rc] 62):=by rw[di];exact hid R9.out.setRow
    have KK:aa (· ≠w.heap.size+1+1) wo V3:=by rw[di];exact bP _ _ _
    clear di;go_wp2;obtain⟨m0,m1,m2,m3,m4,m5,m6,m7⟩:=RR.out.eight;refine bodyPost_ret (v:=.agg #[.int .u8 k,.int .u64 0,.int .u64 0,.int .u64 0,.int .u64 0,.int .i64 0,.int .i64 0,.slice ru ml rc]) (by simp[results,Tryz.results50,go_sem,m0,m1,m2,m3,m4,m5,m6,m7]) rfl ⟨_,rfl,?_,X9.out.trans (KK.mono fun x (hx:x<w.heap.size)=>by show x≠_;omega:aa (· <w.heap.size) wo V3).below⟩;obtain⟨cs,g1,g2,g3,g4⟩:=gY.out;have hrow:cE V.heap.size F V3 (.slice ru ml rc) (x::y::l):=⟨cs,g1,aj g2 KK fun z hz=>by have:=(g2.lt z hz).1;show z≠_;omega,g3,fun i c t hi ht=>(g4 i c t hi ht).keeps (KK.mono fun y (hy:y<w.heap.size)=>by show y≠_;omega) hFF⟩;have e:=(hrow.node (fun x hx=>by have:=hFF x hx;have:=KK.size;have:=R9.out.lt;omega) k 0 0 0).mono fun y hy=>(⟨hy.1,hy.2.imp id fun h=>by omega⟩:y<V3.heap.size/\(F y\/w.heap.size<=y))
    rw[kQ]at e;rw[xB.out];exact e
end Go.Proofs.YtalombmiochpmaaGreatDoor
