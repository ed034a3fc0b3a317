/- The law's small trees: joins. -/
import Derived.Test.YtalombmiochpmaaGreatDoorOP26
set_option maxRecDepth 100000
set_option maxHeartbeats 16000000
open Go.Lib (hid)
namespace Go.Proofs.YtalombmiochpmaaGreatDoor
open Go Go.RowKit Go.Shelf Go.Maps
theorem Tryz.S7:(Tryz.prog.info? 62).map (fun i=>(i.zero,i.size,i.bytes))=some (some (.agg eK),8,80):=by kernel_rfl
def iH (k:Nat) (a b:RX) (i:Nat):List RX:=([a,b].take i).flatMap (dC k)
def bK (base:Nat) (F:Nat->Prop) (w:World) (v:Value) (l:List RX):Prop:=∃ cs:List (Array Value),cs.length=l.length/\w.ownsRow base 62 8 v l.length (aW cs)/\(∀ c∈cs,c.size=8/\∀ u∈c.toList,u.oneCell'=true)/\
 ∀ (i:Nat) (c:Array Value) (t:RX),cs[i]? =some c->l[i]? =some t->aF F w (.agg c) t
theorem bK.nil (base:Nat) (F:Nat->Prop) (w:World):bK base F w (.slice none 0 0) []:=⟨[],rfl,World.ownsRow_nil _ _ _ _,(fun _ h=>nomatch h),fun i c t h=>by simp at h⟩
theorem bK.form {base:Nat} {F:Nat->Prop} {w:World} {v:Value} {l:List RX} (h:bK base F w v l):∃ a c,v=.slice a l.length c:=by obtain⟨cs,h1,h2,h3,h4⟩:=h;exact ownsRow_form h2
theorem bK.below {base:Nat} {F:Nat->Prop} {w w':World} {v:Value} {l:List RX} (h:bK base F w v l) (hF:∀ x,F x->x<w.heap.size) (hk:Below w.heap.size w w'):bK base F w' v l:=by obtain⟨cs,h1,h2,h3,h4⟩:=h;exact⟨cs,h1,ak h2 hk,h3,fun i c t hi ht=>(h4 i c t hi ht).keeps (aa.aj hk fun _ h=>h:aa (· <w.heap.size) w w') hF⟩
theorem bK.node {base:Nat} {F:Nat->Prop} {w:World} {v:Value} {l:List RX} (h:bK base F w v l) (hF:∀ x,F x->x<w.heap.size) (k:Nat) (s:BS) (mn mx:Int):aF (fun x=>x<w.heap.size/\(F x\/base<=x)) w (.agg (ai k s mn mx v)) (.nd k s mn mx l):=by
 obtain⟨cs,h1,h2,h3,h4⟩:=h;rcases h2.2 with⟨rfl,e2⟩ | ⟨g,cap,cur,rfl,e2,e3,e4,e5,_⟩
 ·have hl:l=[]:=List.eq_nil_of_length_eq_zero e2
  subst hl;exact .leaf _ _ _ _ _ _ _ _
 ·have hg:=(h2.lt g rfl).2
  refine .mk k s mn mx l _ g 0 cap (fun i=>.agg (cs.getD i #[])) (fun e=>⟨_,_,by rw[e];rfl⟩) (fun _=>⟨rfl,⟨hg,.inr e2⟩,hg,e4⟩) (fun i t hi=>?_) (fun i t hi=>?_)
  ·have ib:=(List.getElem?_eq_some_iff.1 hi).1
   obtain⟨c,hc⟩:∃ c,cs[i]? =some c:=⟨_,List.getElem?_eq_getElem (by omega)⟩;refine⟨c,by rw[List.getD_eq_getElem?_getD,hc];rfl,fun j u hj=>?_⟩;have:=h2.cells (g:=g) rfl _ _ (fW (fun c hc=>(h3 c hc).1) hc hj);rw[Addr.add_mid]at this;rw[Nat.zero_add];simpa using this
  ·have ib:=(List.getElem?_eq_some_iff.1 hi).1
   obtain⟨c,hc⟩:∃ c,cs[i]? =some c:=⟨_,List.getElem?_eq_getElem (by omega)⟩;have:=h4 i c t hc hi;rw[List.getD_eq_getElem?_getD,hc];exact this.mono fun x hx=>⟨hF x hx,.inl hx⟩
theorem bK.app {base:Nat} {F:Nat->Prop} {w w':World} {v v':Value} {l l2:List RX} {cs cs2:List (Array Value)} (hF:∀ x,F x->x<base) (hb:base<=w.heap.size) (h1:cs.length=l.length) (h2:w.ownsRow base 62 8 v l.length (aW cs)) (h3:∀ c∈cs,c.size=8/\∀ u∈c.toList,u.oneCell'=true) (h4:∀ (i:Nat) (c:Array Value) (t:RX),cs[i]? =some c->l[i]? =some t->aF F w (.agg c) t) (g1:cs2.length=l2.length) (g3:∀ c∈cs2,c.size=8/\∀ u∈c.toList,u.oneCell'=true) (g4:∀ (i:Nat) (c:Array Value) (t:RX),cs2[i]? =some c->l2[i]? =some t->aF F w (.agg c) t) (ho:w'.ownsRow base 62 8 v' (l.length+l2.length) (aW cs++aW cs2)) (hg:w.grownBy w' v.ownBlock):bK base F w' v' (l++l2):=by
 have key:∀ (c:Array Value) (t:RX),aF F w (.agg c) t->aF F w' (.agg c) t:=fun c t h=>
  h.keeps (aa.aU hg fun x (hx:F x)=>⟨Nat.lt_of_lt_of_le (hF x hx) hb,fun e=>by have:=(h2.lt x e.symm).1;have:=hF x hx;omega⟩) fun x hx=>hx
 refine⟨cs++cs2,by simp[h1,g1],by rw[List.length_append,km];exact ho,fun c hc=>(List.mem_append.1 hc).elim (h3 c) (g3 c),fun i c t hi ht=>?_⟩;rcases Nat.lt_or_ge i l.length with ib | ib
 ·rw[List.getElem?_append_left (by omega)]at hi ht
  exact key c t (h4 i c t hi ht)
 ·rw[List.getElem?_append_right (by omega)]at hi ht
  rw[h1]at hi;exact key c t (g4 _ c t hi ht)
theorem bK.ZI {base:Nat} {F:Nat->Prop} {w w':World} {v v':Value} {l:List RX} {t:RX} {c:Array Value} {cs:List (Array Value)} (hF:∀ x,F x->x<base) (hb:base<=w.heap.size) (h1:cs.length=l.length) (h2:w.ownsRow base 62 8 v l.length (aW cs)) (h3:∀ c∈cs,c.size=8/\∀ u∈c.toList,u.oneCell'=true) (h4:∀ (i:Nat) (c:Array Value) (t:RX),cs[i]? =some c->l[i]? =some t->aF F w (.agg c) t) (g3:c.size=8/\∀ u∈c.toList,u.oneCell'=true) (g4:aF F w (.agg c) t) (ho:w'.ownsRow base 62 8 v' (l.length+1) (aW cs++c.toList)) (hg:w.grownBy w' v.ownBlock):bK base F w' v' (l++ [t]):=by
 refine bK.app (cs2:=[c]) hF hb h1 h2 h3 h4 rfl (fun x hx=>by simp at hx;rw[hx];exact g3) (fun i x y hi hy=>?_) (by rw[show aW [c]=c.toList by unfold aW;simp];exact ho) hg;have hl:=(List.getElem?_eq_some_iff.1 hi).1;obtain rfl:i=0:=by simpa using hl
 cases hi
 cases hy
 exact g4
theorem bK.elem {base:Nat} {F:Nat->Prop} {w:World} {a:Option Addr} {n cap:Nat} {l:List RX} (h:bK base F w (.slice a n cap) l) {i:Nat} {t:RX} (hi:l[i]? =some t): ∃ g p' c',a=some ⟨g,0,none⟩/\n=l.length/\n<=cap/\base<=g/\g<w.heap.size/\ (w.cell? ⟨g,i*8,none⟩=some (.int .u8 t.kind)/\w.cell? ⟨g,i*8+1,none⟩=some (.int .u64 (wd t.set 0).toNat)/\w.cell? ⟨g,i*8+2,none⟩=some (.int .u64 (wd t.set 1).toNat)/\w.cell? ⟨g,i*8+3,none⟩=some (.int .u64 (wd t.set 2).toNat)/\w.cell? ⟨g,i*8+4,none⟩=some (.int .u64 (wd t.set 3).toNat)/\w.cell? ⟨g,i*8+5,none⟩=some (.int .i64 t.mn)/\w.cell? ⟨g,i*8+6,none⟩=some (.int .i64 t.mx)/\w.cell? ⟨g,i*8+7,none⟩=some (.slice p' t.subs.length c'))/\ aF F w (.agg (ai t.kind t.set t.mn t.mx (.slice p' t.subs.length c'))) t:=by
 obtain⟨cs,h1,h2,h3,h4⟩:=h;have ib:=(List.getElem?_eq_some_iff.1 hi).1;obtain⟨c,hc⟩:∃ c,cs[i]? =some c:=⟨_,List.getElem?_eq_getElem (by omega)⟩;have hr:=h4 i c t hc hi;obtain⟨p',c',e⟩:=hr.form;injection e with e
 subst e;rcases h2.2 with⟨e1,e2⟩ | ⟨g,cap',cur,e1,e2,e3,e4,e5,_⟩
 ·exfalso;omega
 ·injection e1 with a1 a2 a3
  subst a1 a2 a3;have hlt:=h2.lt g rfl;have ce:∀ (j:Nat) (u:Value),(ai t.kind t.set t.mn t.mx (.slice p' t.subs.length c'))[j]? =some u->w.cell? ⟨g,i*8+j,none⟩=some u:=fun j u hj=>by
   have:=h2.cells (g:=g) rfl _ _ (fW (fun c hc=>(h3 c hc).1) hc hj);rw[Addr.add_mid]at this;simpa using this
  exact⟨g,p',c',rfl,rfl,e4,hlt.1,hlt.2,⟨ce 0 _ rfl,ce 1 _ rfl,ce 2 _ rfl,ce 3 _ rfl,ce 4 _ rfl,ce 5 _ rfl,ce 6 _ rfl,ce 7 _ rfl⟩,hr⟩
theorem FH {cs:List (Array Value)} {j:Nat} {u:Value} (h:∀ c∈cs,c.size=8) (hj:(aW cs)[j]? =some u):∃ c,cs[j/8]? =some c/\c[j%8]? =some u:=by have hl:=(List.getElem?_eq_some_iff.1 hj).1;rw[eZ h]at hl;have hc:cs[j/8]? =some (cs[j/8]'(by omega)):=List.getElem?_eq_getElem (by omega);have hs:=h _ (List.mem_of_getElem? hc);have hu:(cs[j/8]'(by omega))[j%8]? =some ((cs[j/8]'(by omega))[j%8]'(by omega)):=Array.getElem?_eq_getElem (by omega);have:=fW h hc hu;rw[show j/8*8+j%8=j by omega,hj]at this;exact⟨_,hc,by rw[hu, <-Option.some.inj this]⟩
theorem aF.ad1 {F:Nat->Prop} {w:World} {k n c:Nat} {s:BS} {mn mx:Int} {p:Option Addr} {l:List RX} (h:aF F w (.agg (ai k s mn mx (.slice p n c))) (.nd k s mn mx l)) (hl:l≠[]): ∃ b off cs,p=some ⟨b,off,none⟩/\F b/\b<w.heap.size/\n=l.length/\cs.length=l.length/\(∀ c∈cs,c.size=8/\∀ u∈c.toList,u.oneCell'=true)/\(∀ (i:Nat) (c:Array Value) (t:RX),cs[i]? =some c->l[i]? =some t->aF F w (.agg c) t)/\∀ (j:Nat) (u:Value),(aW cs)[j]? =some u->w.cell? ⟨b,off+j,none⟩=some u:=by
 obtain⟨t0,ht0⟩:∃ t,l[0]? =some t:=by
  cases l with
  | nil=>exact absurd rfl hl
  | cons x l=>exact⟨x,rfl⟩
 obtain⟨b,off,p',c',rfl,hb,sA,lH,_,_⟩:=h.elem ht0;have hn:n=l.length:=by obtain⟨p2,c2,e⟩:=h.form;simp[ai,RX.subs,RX.kind,RX.set,RX.mn,RX.mx]at e;exact e.2.1
 have key:∀ i:Nat,∃ c:Array Value,∀ t,l[i]? =some t->(c.size=8/\∀ u∈c.toList,u.oneCell'=true)/\aF F w (.agg c) t/\∀ (o:Nat) (u:Value),c[o]? =some u->w.cell? ⟨b,off+i*8+o,none⟩=some u:=fun i=>by
  rcases e:l[i]? with _ | t
  ·exact⟨#[],fun t h=>by cases h⟩
  ·obtain⟨b2,sF,p2,c2,e2,_,_,_,⟨f0,f1,f2,f3,f4,f5,f6,f7⟩,hr⟩:=h.elem e
   cases e2
   refine⟨ai t.kind t.set t.mn t.mx (.slice p2 t.subs.length c2),fun t' Zz=>?_⟩;cases Zz;refine⟨bS _ _ _ _ _ _ _,hr,fun o u ho=>?_⟩;have hol:=(Array.getElem?_eq_some_iff.1 ho).1;have h8:(ai t.kind t.set t.mn t.mx (.slice p2 t.subs.length c2)).size=8:=rfl;rw[h8]at hol;have hc:o=0\/o=1\/o=2\/o=3\/o=4\/o=5\/o=6\/o=7:=by omega
   rcases hc with rfl | rfl | rfl | rfl | rfl | rfl | rfl | rfl<;>cases ho<;>assumption
 refine⟨b,off,(List.range l.length).map fun i=>Classical.choose (key i),rfl,hb,sA,hn,by simp,fun c hc=>?_,fun i c t hi ht=>?_,fun j u hj=>?_⟩
 ·obtain⟨i,hi,rfl⟩:=List.mem_map.1 hc
  have ib:=List.mem_range.1 hi;exact(Classical.choose_spec (key i) _ (List.getElem?_eq_getElem ib)).1
 ·have ib:=(List.getElem?_eq_some_iff.1 ht).1
  rw[List.getElem?_map,List.getElem?_range ib]at hi;cases hi;exact(Classical.choose_spec (key i) t ht).2.1
 ·obtain⟨c,hc,hu⟩:=FH (fun c hc=>by
   obtain⟨i,hi,rfl⟩:=List.mem_map.1 hc
   exact(Classical.choose_spec (key i) _ (List.getElem?_eq_getElem (List.mem_range.1 hi))).1.1) hj
  rw[List.getElem?_map]at hc;have ib:j/8<l.length:=by
   rcases Nat.lt_or_ge (j/8) l.length with h | h
   ·exact h
   ·rw[List.getElem?_eq_none (by simpa using h)]at hc;cases hc
  rw[List.getElem?_range ib]at hc;cases hc;have:=(Classical.choose_spec (key (j/8)) _ (List.getElem?_eq_getElem ib)).2.2 _ _ hu;rw[show off+j/8*8+j%8=off+j by omega]at this;exact this
theorem aF.ZJ {F:Nat->Prop} {w:World} {k n c:Nat} {s:BS} {mn mx:Int} {p:Option Addr} {t:RX} (h:aF F w (.agg (ai k s mn mx (.slice p n c))) t) (hl:t.subs≠[]): ∃ b off cs,p=some ⟨b,off,none⟩/\F b/\b<w.heap.size/\n=t.subs.length/\cs.length=t.subs.length/\(∀ c∈cs,c.size=8/\∀ u∈c.toList,u.oneCell'=true)/\(∀ (i:Nat) (c:Array Value) (x:RX),cs[i]? =some c->t.subs[i]? =some x->aF F w (.agg c) x)/\∀ (j:Nat) (u:Value),(aW cs)[j]? =some u->w.cell? ⟨b,off+j,none⟩=some u:=by
 obtain⟨p',c',e⟩:=h.form;rw[e]at h;have e7:Value.slice p n c=.slice p' t.subs.length c':=by
  injection e with e
  have:=congrArg (fun a:Array Value=>a[7]?) e;simpa[ai]using this
 injection e7 with a1 a2 a3
 subst a1 a2 a3;cases t with
 | nd k s mn mx l=>exact h.ad1 hl
theorem ky (F:Nat->Prop) (k:Nat) (hk:k=3\/k=4) (va vb:Value) (a b:RX) (ha:a.fine) (hb:b.fine) (Eu:a.size<=1000) (oI:b.size<=1000) (w:World) (WR:∀ x,F x->x<w.heap.size) (hva:aF F w va a) (hvb:aF F w vb b): Calls Tryz.prog 50 #[.int .u8 k,va,vb] w fun e w'=>∃ u,e=.returned u/\aF (fun x=>x<w'.heap.size/\(F x\/w.heap.size<=x)) w' u (bL k a b)/\Below w.heap.size w w':=by
 obtain⟨iN,sV,gU,gV,gW⟩:=info_parts Tryz.S7;obtain⟨J,hJ⟩:∃ J,J=bL k a b:=⟨_,rfl⟩;rw[<-hJ];have HJ:=hid hJ;clear hJ;obtain⟨pa,ca,rfl⟩:=hva.form;obtain⟨pb,cb,rfl⟩:=hvb.form;have HA:=hid hva;have HB:=hid hvb;have FA:=hid ha;have FB:=hid hb;have SA:=hid Eu;have SB:=hid oI;obtain⟨ka,hka⟩:∃ x,x=a.kind:=⟨_,rfl⟩;obtain⟨na,Ra⟩:∃ x,x=a.subs.length:=⟨_,rfl⟩;obtain⟨sa,ZL⟩:∃ x,x=a.set:=⟨_,rfl⟩;obtain⟨ma,Ny⟩:∃ x,x=a.mn:=⟨_,rfl⟩;obtain⟨xa,S8⟩:∃ x,x=a.mx:=⟨_,rfl⟩;obtain⟨kb,hkb⟩:∃ x,x=b.kind:=⟨_,rfl⟩;obtain⟨nb,pY⟩:∃ x,x=b.subs.length:=⟨_,rfl⟩;obtain⟨sb,ZM⟩:∃ x,x=b.set:=⟨_,rfl⟩;obtain⟨mb,sH⟩:∃ x,x=b.mn:=⟨_,rfl⟩;obtain⟨xb,DI⟩:∃ x,x=b.mx:=⟨_,rfl⟩;rw[<-hka, <-Ra, <-ZL, <-Ny, <-S8]at HA ⊢;rw[<-hkb, <-pY, <-ZM, <-sH, <-DI]at HB ⊢;have HKA:=hid hka;have HNA:=hid Ra;have ZN:=hid hkb;have Pb:=hid pY;clear hva hvb ha hb Eu oI hka Ra ZL Ny S8 hkb pY ZM sH DI;unfold ai;go_enter Tryz.func50,Tryz.ntmps50;go_wp2;refine ax ?_;intro V hV;have R0:Hid (ah V (w.heap.size+1+1) eK 62):=by rw[hV];exact hid ((ah.at (ah.new _ _ _) (by simp)).alloc _)
 have L0:Hid (ah V (w.heap.size+1+1+1) #[.int .u8 ka,.int .u64 (wd sa 0).toNat,.int .u64 (wd sa 1).toNat,.int .u64 (wd sa 2).toNat,.int .u64 (wd sa 3).toNat,.int .i64 ma,.int .i64 xa,.slice pa na ca,.int .u8 kb,.int .u64 (wd sb 0).toNat,.int .u64 (wd sb 1).toNat,.int .u64 (wd sb 2).toNat,.int .u64 (wd sb 3).toNat,.int .i64 mb,.int .i64 xb,.slice pb nb cb] 62):=by rw[hV];exact hid (ah.at (ah.new _ _ _) (by simp))
 have X0:Hid (Ext w V):=by rw[hV];exact hid (((((Ext.refl w).alloc _).alloc _).alloc _).alloc _)
 have Bv:V.heap.size=w.heap.size+1+1+1+1:=by rw[hV];simp
 have qd:=hid Bv;clear hV Bv;go_loopw [7,14] (fun u i wr=>∃ j:Nat,j<=2/\i=.int .i64 j/\bK V.heap.size F wr u (iH k a b j)/\aa (· <V.heap.size) V wr) (fun _ i _=>2-(intOf i).toNat);case atStart=>exact⟨0,by omega,rfl,bK.nil _ _ _,aa.refl _ _⟩
 case round=>
  obtain⟨j,hj,rfl,hrow,hx⟩:=hrel;obtain⟨wo,rfl⟩:∃ wo:World,wo=wr:=⟨_,rfl⟩;have eW:=hid hrow;have HX:=hid hx;obtain⟨ru,rc,rfl⟩:=hrow.form;clear hrow hx;by_cases hlt:j<2
  ·have jT:(j:Int)<2:=by omega
   obtain⟨t,kx,nx,sx,mx,xx,px,cx,htj,e0,e1,e2,e3,e4,e5,e6,e7,hT,hkx,Pk,hfx,zW⟩:∃ (t:RX) (kx nx:Nat) (sx:BS) (mx xx:Int) (px:Option Addr) (cx:Nat),[a,b][j]? =some t/\wo.cell? ⟨w.heap.size+1+1+1,j*8,none⟩=some (.int .u8 kx)/\wo.cell? ⟨w.heap.size+1+1+1,j*8+1,none⟩=some (.int .u64 (wd sx 0).toNat)/\wo.cell? ⟨w.heap.size+1+1+1,j*8+2,none⟩=some (.int .u64 (wd sx 1).toNat)/\wo.cell? ⟨w.heap.size+1+1+1,j*8+3,none⟩=some (.int .u64 (wd sx 2).toNat)/\wo.cell? ⟨w.heap.size+1+1+1,j*8+4,none⟩=some (.int .u64 (wd sx 3).toNat)/\wo.cell? ⟨w.heap.size+1+1+1,j*8+5,none⟩=some (.int .i64 mx)/\wo.cell? ⟨w.heap.size+1+1+1,j*8+6,none⟩=some (.int .i64 xx)/\wo.cell? ⟨w.heap.size+1+1+1,j*8+7,none⟩=some (.slice px nx cx)/\aF F w (.agg (ai kx sx mx xx (.slice px nx cx))) t/\kx=t.kind/\nx=t.subs.length/\t.fine/\t.size<=1000:=by
    have LB:=L0.out.keeps HX.out L0.out.lt;have Ub:j=0\/j=1:=by omega
    rcases Ub with rfl | rfl
    ·exact⟨a,ka,na,sa,ma,xa,pa,ca,rfl,LB.cell 0,LB.cell 1,LB.cell 2,LB.cell 3,LB.cell 4,LB.cell 5,LB.cell 6,LB.cell 7,HA.out,HKA.out,HNA.out,FA.out,SA.out⟩
    ·exact⟨b,kb,nb,sb,mb,xb,pb,cb,rfl,LB.cell 8,LB.cell 9,LB.cell 10,LB.cell 11,LB.cell 12,LB.cell 13,LB.cell 14,LB.cell 15,HB.out,ZN.out,Pb.out,FB.out,SB.out⟩
   have dL:iH k a b (j+1)=iH k a b j++dC k t:=by unfold iH;rw[List.take_add_one,htj,List.flatMap_append];simp
   have qu:=hid dL;have HT:=hid hT;have HFX:=hid hfx;have WJ:=hid zW;have J6:=hid Pk;have Ta:=hid hkx;clear htj dL hT hfx zW Pk hkx;go_upto_region 6 with fail
   refine ax ?_;intro W1 hW1;have N1:Hid (ah W1 wo.heap.size (ai kx sx mx xx (.slice px nx cx)) 62):=by rw[hW1];exact hid (ah.new _ _ _)
   have E1:Hid (Ext wo W1):=by rw[hW1];exact hid ((Ext.refl wo).alloc _)
   clear hW1 e0 e1 e2 e3 e4 e5 e6 e7;have hF8:∀ x,x<w.heap.size->x<V.heap.size:=fun x hx=>by have:=qd.out;omega
   have Tb:∀ x,F x->x<V.heap.size:=fun x hx=>hF8 x (WR x hx)
   have dE:=hid (eW.out.below (fun x hx=>Nat.lt_of_lt_of_le (Tb x hx) HX.out.size) E1.out.below);have iV:Hid (aa (· <V.heap.size) V W1):=hid (HX.out.tr (E1.out.keeps.mono fun x (hx:x<V.heap.size)=>Nat.lt_of_lt_of_le hx HX.out.size));have T1:Hid (aF F W1 (.agg (ai kx sx mx xx (.slice px nx cx))) t):=hid (HT.out.keeps (X0.out.keeps.tr (iV.out.mono hF8)) WR);have f0:W1.cell? ⟨wo.heap.size,0,none⟩=some (.int .u8 kx):=N1.out.cell 0;have f1:W1.cell? ⟨wo.heap.size,1,none⟩=some (.int .u64 (wd sx 0).toNat):=N1.out.cell 1;have f2:W1.cell? ⟨wo.heap.size,2,none⟩=some (.int .u64 (wd sx 1).toNat):=N1.out.cell 2;have f3:W1.cell? ⟨wo.heap.size,3,none⟩=some (.int .u64 (wd sx 2).toNat):=N1.out.cell 3;have f4:W1.cell? ⟨wo.heap.size,4,none⟩=some (.int .u64 (wd sx 3).toNat):=N1.out.cell 4;have f5:W1.cell? ⟨wo.heap.size,5,none⟩=some (.int .i64 mx):=N1.out.cell 5;have f6:W1.cell? ⟨wo.heap.size,6,none⟩=some (.int .i64 xx):=N1.out.cell 6;have f7:W1.cell? ⟨wo.heap.size,7,none⟩=some (.slice px nx cx):=N1.out.cell 7;obtain⟨cs,g1,g2,g3,g4⟩:=dE.out;obtain⟨L,hL⟩:∃ L,L=iH k a b j:=⟨_,rfl⟩;have hLs:L.length<=2000:=by
    have q:∀ (l:List RX),(∀ x∈l,x.fine/\x.size<=1000)->l.length<=2->(l.flatMap (dC k)).length<=1000*l.length:=fun l=>by
     induction l with
     | nil=>intro _ _;simp
     | cons x l ih=>
      intro hl h2;have i1:=ih (fun y hy=>hl y (List.mem_cons_of_mem _ hy)) (by simp at h2;omega);have i2:=(nT hk (hl x (List.mem_cons_self ..)).1).2.1;have i3:=uV (dC k x);have i4:=(hl x (List.mem_cons_self ..)).2;rw[List.flatMap_cons,List.length_append,List.length_cons];omega
    rw[hL]
    have i5:=q ([a,b].take j) (fun x hx=>by
     have:=List.mem_of_mem_take hx;simp at this;rcases this with rfl | rfl
     ·exact⟨FA.out,SA.out⟩
     ·exact⟨FB.out,SB.out⟩) (by rw[List.length_take];simp;omega)
    have:([a,b].take j).length<=2:=by rw[List.length_take];simp;omega
    unfold iH;omega
   rw[<-hL]at g1 g2 g4 ⊢;obtain⟨ml,pX⟩:∃ m,m=L.length:=⟨_,rfl⟩;rw[<-pX]at g1 g2 hLs ⊢;have HL:=hid hL;have wI:=hid pX;have G1:=hid g1;have G2:=hid g2;have G3:=hid g3;have G4:=hid g4;have hbase:V.heap.size<=W1.heap.size:=iV.out.size;clear hL pX g1 g2 g3 g4 dE eW;by_cases hc1:kx=k
   ·have GQ:dC k t=t.subs:=by unfold dC;rw[if_pos (by rw[<-Ta.out];exact hc1)]
    have hne:t.subs≠[]:=fun e=>by
     have h1:=(cd t (qN HFX.out)).2.2.2.2.2.2 (by rw[<-Ta.out,hc1];exact hk);rw[e]at h1;simp at h1
    obtain⟨b2,sF,cs2,e2,q1,q2,q3,q4,q5,q6,q7⟩:=T1.out.ZJ hne;subst e2;have aku:nx<=1000:=by have:=xW t;have:=uV t.subs;have:=WJ.out;omega
    have Q4:=hid q4;have Q5:=hid q5;have Q6:=hid q6;have Q7:=hid q7;have Vm:=hid GQ;have HQ3:=hid q3;have hb1:((kx:Int)==k)=true:=by simp[hc1]
    clear GQ hne q4 q5 q6 q7 q1 q2 q3 hc1;go_wp2_with (at_builtin;refine Hid.out ?_);refine hid ?_;refine ed rfl (.tmp 27) (.tmp 29) 60 rfl V.heap.size 62 iN (.agg eK) 8 80 Tryz.underlying60 sV gU gV gW rfl (by decide) (.slice ru ml rc) ml (aW cs) rfl G2.out ⟨b2,sF,none⟩ nx cx (aW cs2) rfl (fun o u ho=>by rw[Addr.add_mid];exact Q7.out o u ho) (by rw[eZ (fun c hc=>(Q5.out c hc).1),Q4.out,HQ3.out]) (fun u hu=>by obtain⟨c,hc,hu⟩:=List.mem_flatMap.1 hu;exact(Q5.out c hc).2 u hu) (by unfold maxLen;omega) (by omega) hbase ?_;intro v' w' ho hg jg;have K9:Hid (aa (· <V.heap.size) V w'):=hid (iV.out.tr (aa.aU hg fun x (hx:x<V.heap.size)=>⟨Nat.lt_of_lt_of_le hx hbase,fun e=>by have:=(G2.out.lt x e.symm).1;omega⟩));have R9:Hid (bK V.heap.size F w' v' (L++t.subs)):=hid (bK.app (cs:=cs) (cs2:=cs2) Tb hbase (by rw[<-wI.out];exact G1.out) (by rw[<-wI.out];exact G2.out) G3.out G4.out Q4.out Q5.out Q6.out (by rw[<-wI.out, <-HQ3.out];exact ho) hg);obtain⟨WT,WU,rfl⟩:=ownsRow_form ho;clear ho hg jg;go_wp2;go_roundw;case rel=>
     refine⟨j+1,by omega,by go_num,?_,K9.out⟩;rw[qu.out,Vm.out, <-HL.out];exact R9.out
    case measure=>simp[intOf];omega
   ·have hb1:((kx:Int)==k)=false:=by simp;omega
    by_cases hk3:k=3
    ·by_cases hx1:kx=1
     ·have GQ:dC k t=[]:=by unfold dC;rw[if_neg (by rw[<-Ta.out];exact hc1),if_pos ⟨hk3,by rw[<-Ta.out];exact hx1⟩]
      have Vm:=hid GQ;have hb3:((k:Int)==3)=true:=by simp[hk3]
      have hb5:((kx:Int)==1)=true:=by simp[hx1]
      have R9:Hid (bK V.heap.size F W1 (.slice ru ml rc) L):=hid ⟨cs,by rw[<-wI.out];exact G1.out,by rw[<-wI.out];exact G2.out,G3.out,G4.out⟩;clear GQ hx1 hk3 hc1;go_wp2;go_roundw;case rel=>
       refine⟨j+1,by omega,by go_num,?_,iV.out⟩;rw[qu.out,Vm.out, <-HL.out,List.append_nil];exact R9.out
      case measure=>simp[intOf];omega
     ·have hc2:¬ (k=3/\kx=1):=fun h=>hx1 h.2
      have hb3:((k:Int)==3)=true:=by simp[hk3]
      have hb5:((kx:Int)==1)=false:=by simp;omega
      clear hk3;have GQ:dC k t=[t]:=by unfold dC;rw[if_neg (by rw[<-Ta.out];exact hc1),if_neg (by rw[<-Ta.out];exact hc2)]
      have Vm:=hid GQ;clear GQ;go_wp2_with (at_builtin;refine Hid.out ?_);refine hid ?_;refine gS ?_;intro W2 hW2;have B2:Hid (ah W2 W1.heap.size (ai kx sx mx xx (.slice px nx cx)) 62):=by rw[hW2];exact hid (ah.new _ _ _)
      have E2:Hid (Ext W1 W2):=by rw[hW2];exact hid ((Ext.refl _).alloc _)
      clear hW2;have hs2:W1.heap.size<=W2.heap.size:=E2.out.size;refine ed rfl (.tmp 18) (.tmp 20) 60 rfl V.heap.size 62 iN (.agg eK) 8 80 Tryz.underlying60 sV gU gV gW rfl (by decide) (.slice ru ml rc) ml (aW cs) rfl (ak G2.out E2.out.below) ⟨W1.heap.size,0,none⟩ 1 1 (ai kx sx mx xx (.slice px nx cx)).toList rfl (bB B2.out) rfl (bS _ _ _ _ _ _ _).2 (by unfold maxLen;omega) (by omega) (by omega) ?_;intro v' w' ho hg jg;have K9:Hid (aa (· <V.heap.size) V w'):=hid ((iV.out.tr (E2.out.keeps.mono fun x (hx:x<V.heap.size)=>Nat.lt_of_lt_of_le hx hbase)).tr (aa.aU hg fun x (hx:x<V.heap.size)=>⟨by omega,fun e=>by have:=(G2.out.lt x e.symm).1;omega⟩));have R9:Hid (bK V.heap.size F w' v' (L++ [t])):=hid (bK.ZI (cs:=cs) (c:=ai kx sx mx xx (.slice px nx cx)) Tb (by omega) (by rw[<-wI.out];exact G1.out) (by rw[<-wI.out];exact ak G2.out E2.out.below) G3.out (fun i c y hi hy=>(G4.out i c y hi hy).keeps E2.out.keeps fun x hx=>Nat.lt_of_lt_of_le (Tb x hx) hbase) (bS _ _ _ _ _ _ _) (T1.out.keeps E2.out.keeps fun x hx=>Nat.lt_of_lt_of_le (Tb x hx) hbase) (by rw[<-wI.out];exact ho) hg);obtain⟨WT,WU,rfl⟩:=ownsRow_form ho;clear ho hg jg;go_wp2;go_roundw;case rel=>
       refine⟨j+1,by omega,by go_num,?_,K9.out⟩;rw[qu.out,Vm.out, <-HL.out];exact R9.out
      case measure=>simp[intOf];omega
    ·have hc2:¬ (k=3/\kx=1):=fun h=>hk3 h.1
     have hb3:((k:Int)==3)=false:=by simp;omega
     have GQ:dC k t=[t]:=by unfold dC;rw[if_neg (by rw[<-Ta.out];exact hc1),if_neg (by rw[<-Ta.out];exact hc2)]
     have Vm:=hid GQ;clear GQ;go_wp2_with (at_builtin;refine Hid.out ?_);refine hid ?_;refine gS ?_;intro W2 hW2;have B2:Hid (ah W2 W1.heap.size (ai kx sx mx xx (.slice px nx cx)) 62):=by rw[hW2];exact hid (ah.new _ _ _)
     have E2:Hid (Ext W1 W2):=by rw[hW2];exact hid ((Ext.refl _).alloc _)
     clear hW2;have hs2:W1.heap.size<=W2.heap.size:=E2.out.size;refine ed rfl (.tmp 18) (.tmp 20) 60 rfl V.heap.size 62 iN (.agg eK) 8 80 Tryz.underlying60 sV gU gV gW rfl (by decide) (.slice ru ml rc) ml (aW cs) rfl (ak G2.out E2.out.below) ⟨W1.heap.size,0,none⟩ 1 1 (ai kx sx mx xx (.slice px nx cx)).toList rfl (bB B2.out) rfl (bS _ _ _ _ _ _ _).2 (by unfold maxLen;omega) (by omega) (by omega) ?_;intro v' w' ho hg jg;have K9:Hid (aa (· <V.heap.size) V w'):=hid ((iV.out.tr (E2.out.keeps.mono fun x (hx:x<V.heap.size)=>Nat.lt_of_lt_of_le hx hbase)).tr (aa.aU hg fun x (hx:x<V.heap.size)=>⟨by omega,fun e=>by have:=(G2.out.lt x e.symm).1;omega⟩));have R9:Hid (bK V.heap.size F w' v' (L++ [t])):=hid (bK.ZI (cs:=cs) (c:=ai kx sx mx xx (.slice px nx cx)) Tb (by omega) (by rw[<-wI.out];exact G1.out) (by rw[<-wI.out];exact ak G2.out E2.out.below) G3.out (fun i c y hi hy=>(G4.out i c y hi hy).keeps E2.out.keeps fun x hx=>Nat.lt_of_lt_of_le (Tb x hx) hbase) (bS _ _ _ _ _ _ _) (T1.out.keeps E2.out.keeps fun x hx=>Nat.lt_of_lt_of_le (Tb x hx) hbase) (by rw[<-wI.out];exact ho) hg);obtain⟨WT,WU,rfl⟩:=ownsRow_form ho;clear ho hg jg;go_wp2;go_roundw;case rel=>
      refine⟨j+1,by omega,by go_num,?_,K9.out⟩;rw[qu.out,Vm.out, <-HL.out];exact R9.out
     case measure=>simp[intOf];omega
  ·obtain rfl:j=2:=by omega
   have gz:¬ ((2:Int)<2):=by omega
   have X9:Hid (Below w.heap.size w wo):=hid (X0.out.below.trans (HX.out.mono fun x (hx:x<w.heap.size)=>by have:=qd.out;show x<V.heap.size;omega:aa (· <w.heap.size) V wo).below);have R9:=hid (R0.out.keeps HX.out R0.out.lt);have Yv:iH k a b 2=dC k a++dC k b:=by unfold iH;simp
   have Ub:bL k a b=eQ k (iH k a b 2):=by rw[Yv];rfl
   have sO:Hid (J=eQ k (iH k a b 2)):=hid (HJ.out.trans Ub);clear HJ;obtain⟨L,hL⟩:∃ L,L=iH k a b 2:=⟨_,rfl⟩;rw[<-hL]at eW sO ⊢;clear Yv Ub hL HA HB FA FB SA SB;have hwV:w.heap.size+1+1<V.heap.size:=by have:=qd.out;omega
   match L,eW,sO with
   | [],eW,sO=>
    simp only[List.length_nil];go_wp2_with (refine wpList_store_row rfl 62 (.tmp 6) (.tmp 44) rfl (w.heap.size+1+1) #[.int .u8 1,.int .u64 0,.int .u64 0,.int .u64 0,.int .u64 0,.int .i64 0,.int .i64 0,.slice none 0 0] rfl rfl 62 eK R9.out (by kernel_rfl) rfl (by simp[Value.oneCell']) ?_;refine Hid.out ?_);refine hid ?_;obtain⟨V3,cD⟩:∃ W,W=wo.setRow (w.heap.size+1+1) #[.int .u8 1,.int .u64 0,.int .u64 0,.int .u64 0,.int .u64 0,.int .i64 0,.int .i64 0,.slice none 0 0]:=⟨_,rfl⟩;rw[<-cD];have RR:Hid (ah V3 (w.heap.size+1+1) #[.int .u8 1,.int .u64 0,.int .u64 0,.int .u64 0,.int .u64 0,.int .i64 0,.int .i64 0,.slice none 0 0] 62):=by rw[cD];exact hid R9.out.setRow
    have XX:Below w.heap.size w V3:=by rw[cD];exact X9.out.trans ((bh wo (w.heap.size+1+1) _).mono fun x (hx:x<w.heap.size)=>by show x≠_;omega:aa (· <w.heap.size) wo _).below
    clear cD;go_wp2;obtain⟨m0,m1,m2,m3,m4,m5,m6,m7⟩:=RR.out.eight;refine bodyPost_ret (v:=.agg #[.int .u8 1,.int .u64 0,.int .u64 0,.int .u64 0,.int .u64 0,.int .i64 0,.int .i64 0,.slice none 0 0]) (by simp[results,Tryz.results50,go_sem,m0,m1,m2,m3,m4,m5,m6,m7]) rfl ⟨_,rfl,?_,XX⟩;have e:=aF.leaf (fun x=>x<V3.heap.size/\(F x\/w.heap.size<=x)) V3 1 0 0 0 none 0;rw[iG]at e;rw[sO.out];exact e
   | [x],eW,sO=>
    simp only[List.length_cons,List.length_nil,Nat.zero_add];obtain⟨g,p',c',e1,_,q2,q3,q4,⟨f0,f1,f2,f3,f4,f5,f6,f7⟩,hr⟩:=eW.out.elem (i:=0) (t:=x) rfl;subst e1;simp only[Nat.zero_mul,Nat.zero_add]at f0 f1 f2 f3 f4 f5 f6 f7;have HR:=hid hr;obtain⟨k1,vY⟩:∃ k,k=x.kind:=⟨_,rfl⟩;obtain⟨nl,vO⟩:∃ k,k=x.subs.length:=⟨_,rfl⟩;obtain⟨st,hst⟩:∃ st,st=x.set:=⟨_,rfl⟩;obtain⟨tn,xM⟩:∃ y,y=x.mn:=⟨_,rfl⟩;obtain⟨tx,Nx⟩:∃ y,y=x.mx:=⟨_,rfl⟩;rw[<-vY]at f0 HR;rw[<-hst]at f1 f2 f3 f4 HR;rw[<-xM]at f5 HR;rw[<-Nx]at f6 HR;rw[<-vO]at f7 HR;clear hr vY vO hst xM Nx;go_wp2_with (refine wpList_store_row rfl 62 (.tmp 6) (.tmp 49) rfl (w.heap.size+1+1) (ai k1 st tn tx (.slice p' nl c')) rfl rfl 62 eK R9.out (cJ _ _ _ _ _) rfl (ku _ _ _ _ _ _ _) ?_;refine Hid.out ?_);refine hid ?_;obtain⟨V3,cD⟩:∃ W,W=wo.setRow (w.heap.size+1+1) (ai k1 st tn tx (.slice p' nl c')):=⟨_,rfl⟩;rw[<-cD];have RR:Hid (ah V3 (w.heap.size+1+1) (ai k1 st tn tx (.slice p' nl c')) 62):=by rw[cD];exact hid R9.out.setRow
    have KK:aa (· ≠w.heap.size+1+1) wo V3:=by rw[cD];exact bh _ _ _
    clear cD;go_wp2;obtain⟨m0,m1,m2,m3,m4,m5,m6,m7⟩:=RR.out.eight;refine bodyPost_ret (v:=.agg (ai k1 st tn tx (.slice p' nl c'))) (by simp[results,Tryz.results50,ai,go_sem,m0,m1,m2,m3,m4,m5,m6,m7]) rfl ⟨_,rfl,?_,X9.out.trans (KK.mono fun x (hx:x<w.heap.size)=>by show x≠_;omega:aa (· <w.heap.size) wo V3).below⟩;rw[sO.out];exact(HR.out.keeps (KK.mono fun y (hy:y<w.heap.size)=>by show y≠_;omega) WR).mono fun y hy=>⟨by have:=WR y hy;have:=KK.size;have:=R9.out.lt;omega,.inl hy⟩
   | x::y::l,eW,sO=>
    obtain⟨ml,pX⟩:∃ m,m=(x::y::l).length:=⟨_,rfl⟩;have wP:2<=ml:=by rw[pX];simp
    rw[<-pX];rw[<-pX]at eW;clear pX;have hd1:((ml:Int)==0)=false:=by simp;omega
    have UK:((ml:Int)==1)=false:=by simp;omega
    go_wp2_with (refine wpList_store_row rfl 62 (.tmp 6) (.tmp 52) rfl (w.heap.size+1+1) #[.int .u8 k,.int .u64 0,.int .u64 0,.int .u64 0,.int .u64 0,.int .i64 0,.int .i64 0,.slice ru ml rc] rfl rfl 62 eK R9.out (by kernel_rfl) rfl (by simp[Value.oneCell']) ?_;refine Hid.out ?_)
    refine hid ?_;obtain⟨V3,cD⟩:∃ W,W=wo.setRow (w.heap.size+1+1) #[.int .u8 k,.int .u64 0,.int .u64 0,.int .u64 0,.int .u64 0,.int .i64 0,.int .i64 0,.slice ru ml rc]:=⟨_,rfl⟩;rw[<-cD];have RR:Hid (ah V3 (w.heap.size+1+1) #[.int .u8 k,.int .u64 0,.int .u64 0,.int .u64 0,.int .u64 0,.int .i64 0,.int .i64 0,.slice ru ml rc] 62):=by rw[cD];exact hid R9.out.setRow
    have KK:aa (· ≠w.heap.size+1+1) wo V3:=by rw[cD];exact bh _ _ _
    clear cD;go_wp2;obtain⟨m0,m1,m2,m3,m4,m5,m6,m7⟩:=RR.out.eight;refine bodyPost_ret (v:=.agg #[.int .u8 k,.int .u64 0,.int .u64 0,.int .u64 0,.int .u64 0,.int .i64 0,.int .i64 0,.slice ru ml rc]) (by simp[results,Tryz.results50,go_sem,m0,m1,m2,m3,m4,m5,m6,m7]) rfl ⟨_,rfl,?_,X9.out.trans (KK.mono fun x (hx:x<w.heap.size)=>by show x≠_;omega:aa (· <w.heap.size) wo V3).below⟩;obtain⟨cs,g1,g2,g3,g4⟩:=eW.out;have hrow:bK V.heap.size F V3 (.slice ru ml rc) (x::y::l):=⟨cs,g1,ag g2 KK fun z hz=>by have:=(g2.lt z hz).1;show z≠_;omega,g3,fun i c t hi ht=>(g4 i c t hi ht).keeps (KK.mono fun y (hy:y<w.heap.size)=>by show y≠_;omega) WR⟩;have e:=(hrow.node (fun x hx=>by have:=WR x hx;have:=KK.size;have:=R9.out.lt;omega) k 0 0 0).mono fun y hy=>(⟨hy.1,hy.2.imp id fun h=>by omega⟩:y<V3.heap.size/\(F y\/w.heap.size<=y))
    rw[iG]at e;rw[sO.out];exact e
end Go.Proofs.YtalombmiochpmaaGreatDoor
