/- dfa.Reached and dfa.Trim of automata that are not right. -/
import Derived.Test.YtbiboekhakbnpaaGreatDoorOFsInsP
import Derived.Test.YtbiboekhakbnpaaGreatDoorOFsTrm
set_option maxRecDepth 100000
set_option maxHeartbeats 16000000
open Go.Lib (hid)
namespace Go.Proofs.YtbiboekhakbnpaaGreatDoor
open Go Go.RowKit Go.Shelf Go.Maps Go.Lib
def et (A:World) (g n i:Nat) (vs:List Value) (j:Nat):Option Value:=
 if j<i*7 then A.cell? ⟨g,j,none⟩else if j<(i+1)*7 then vs[j-i*7]? else if j<(n+1)*7 then A.cell? ⟨g,j-7,none⟩else A.cell? ⟨g,j,none⟩
structure Rq (sv:Value) (n i:Nat) (vs:List Value) (A B:World):Prop where
 keeps:aa (fun x=>x<A.heap.size/\sv.ownBlock≠some x) A B
 row:∀ g c,sv=.slice (some ⟨g,0,none⟩) n c->aa (· <A.heap.size) A B\/((∀ base m xs,A.ownsRow base 46 7 (.slice (some ⟨g,0,none⟩) m c) m xs->∃ ys,B.ownsRow base 46 7 (.slice (some ⟨g,0,none⟩) m c) m ys)/\∀ j,B.cell? ⟨g,j,none⟩=et A g n i vs j)
theorem l8 {cs vs:List Value} {n i:Nat} (fw:cs.length=n*7) (qL:vs.length=7) (hi:i<=n) (j:Nat):(cs.take (i*7)++(vs++cs.drop (i*7)))[j]? =if j<i*7 then cs[j]? else if j<(i+1)*7 then vs[j-i*7]? else cs[j-7]? :=by
 have h1:(cs.take (i*7)).length=i*7:=by rw[List.length_take];omega
 by_cases h:j<i*7
 ·rw[if_pos h,List.getElem?_append_left (by omega),List.getElem?_take,if_pos h]
 ·rw[if_neg h,List.getElem?_append_right (by omega),h1]
  by_cases h2:j<(i+1)*7
  ·rw[if_pos h2,List.getElem?_append_left (by omega)]
  ·rw[if_neg h2,List.getElem?_append_right (by omega),List.getElem?_drop,qL]
   congr 1;omega
theorem xQ {base g n i c:Nat} {cs vs ys:List Value} {W:World} (h:W.ownsRow base 46 7 (.slice (some ⟨g,0,none⟩) n c) n cs) (hy:W.ownsRow base 46 7 (.slice (some ⟨g,0,none⟩) (n+1) c) (n+1) ys) (hi:i<=n) (qL:vs.length=7): let B:=(W.setCells g ((i+1)*7) (cs.drop (i*7))).setCells g (i*7) vs
  B.ownsRow base 46 7 (.slice (some ⟨g,0,none⟩) (n+1) c) (n+1) (cs.take (i*7)++(vs++cs.drop (i*7)))/\aa (· ≠g) W B/\(∀ base m xs,W.ownsRow base 46 7 (.slice (some ⟨g,0,none⟩) m c) m xs->∃ ys,B.ownsRow base 46 7 (.slice (some ⟨g,0,none⟩) m c) m ys)/\∀ j,B.cell? ⟨g,j,none⟩=et W g n i vs j:=by
 intro B;have fw:cs.length=n*7:=h.1;have Hi:(cs.drop (i*7)).length=(n-i)*7:=by rw[List.length_drop,fw];omega
 obtain⟨hcs,_,_⟩:=cP h;obtain⟨_,_,hsp⟩:=cP hy;have Ro:∀ k,k<(n+1)*7->((W.setCells g ((i+1)*7) (cs.drop (i*7))).cell? ⟨g,k,none⟩).isSome=true:=fun k hk=>isSome_setCells g _ _ W (fun j hj=>hsp ((i+1)*7+j) (by rw[Hi]at hj;omega)) _ (hsp k hk)
 have key:∀ base m xs,W.ownsRow base 46 7 (.slice (some ⟨g,0,none⟩) m c) m xs->∃ ys,B.ownsRow base 46 7 (.slice (some ⟨g,0,none⟩) m c) m ys:=fun base m xs hx=>by
  obtain⟨y1,r1,_⟩:=bL 0 (cs.drop (i*7)) ((i+1)*7) _ _ (Nat.zero_le _) hx;obtain⟨y2,r2,_⟩:=bL 0 vs (i*7) _ _ (Nat.zero_le _) r1;exact⟨y2,r2⟩
 have hk:aa (· ≠g) W B:=by obtain⟨y1,r1,k1⟩:=bL 0 (cs.drop (i*7)) ((i+1)*7) _ _ (Nat.zero_le _) h;obtain⟨y2,r2,k2⟩:=bL 0 vs (i*7) _ _ (Nat.zero_le _) r1;exact k1.tr k2
 have hcell:∀ j,B.cell? ⟨g,j,none⟩=et W g n i vs j:=fun j=>by
  unfold et;by_cases h1:j<i*7
  ·rw[if_pos h1]
   show((W.setCells g ((i+1)*7) (cs.drop (i*7))).setCells g (i*7) vs).cell? ⟨g,j,none⟩=_;rw[World.cell?_setCells_out g _ _ _ _ (fun _ _=>.inl h1),World.cell?_setCells_out g _ _ _ _ (fun _ _=>.inl (show j<(i+1)*7 by omega))]
  ·rw[if_neg h1]
   by_cases h2:j<(i+1)*7
   ·rw[if_pos h2]
    have:=World.cell?_setCells_in g vs (i*7) (W.setCells g ((i+1)*7) (cs.drop (i*7))) (fun t ht=>Ro _ (by omega)) (j-i*7) (by omega);rw[show i*7+(j-i*7)=j by omega, <-List.getElem?_eq_getElem]at this;exact this
   ·rw[if_neg h2]
    show((W.setCells g ((i+1)*7) (cs.drop (i*7))).setCells g (i*7) vs).cell? ⟨g,j,none⟩=_;rw[World.cell?_setCells_out g _ _ _ _ (fun _ _=>.inr (show i*7+vs.length<=j by omega))];by_cases h3:j<(n+1)*7
    ·rw[if_pos h3]
     have:=World.cell?_setCells_in g (cs.drop (i*7)) ((i+1)*7) W (fun t ht=>hsp _ (by rw[Hi]at ht;omega)) (j-(i+1)*7) (by rw[Hi];omega);rw[show(i+1)*7+(j-(i+1)*7)=j by omega, <-List.getElem?_eq_getElem,List.getElem?_drop,show i*7+(j-(i+1)*7)=j-7 by omega]at this;rw[this,List.getElem?_eq_getElem (by omega)];exact(hcs _ _ (List.getElem?_eq_getElem (by omega))).symm
    ·rw[if_neg h3,World.cell?_setCells_out g _ _ _ _ (fun _ _=>.inr (show(i+1)*7+(cs.drop (i*7)).length<=j by rw[Hi];omega))]
 obtain⟨y2,r2⟩:=key base (n+1) ys hy;refine⟨N8 r2 (by simp[List.length_take,fw,qL];omega) fun j u hu=>?_,hk,key,hcell⟩;rw[hcell];rw[l8 fw qL hi]at hu;unfold et;split
 ·rename_i h1
  rw[if_pos h1]at hu;exact hcs _ _ hu
 ·rename_i h1
  rw[if_neg h1]at hu;split
  ·rename_i h2
   rw[if_pos h2]at hu;exact hu
  ·rename_i h2
   rw[if_neg h2]at hu;have:=(List.getElem?_eq_some_iff.1 hu).1;rw[if_pos (by omega)];exact hcs _ _ hu
theorem Ob (base n i vb:Nat) (sv:Value) (cs vs:List Value) (w:World) (h:w.ownsRow base 46 7 sv n cs) (hb:base<=w.heap.size) (hi:i<=n) (hn:n<=1000) (hv:ak w vb vs.toArray 46) (qL:vs.length=7) (h1c:∀ u∈cs,u.oneCell'=true) (zU:∀ u∈vs,u.oneCell'=true): Calls Tryz.prog 33 #[sv,.int .i64 i,.slice (some ⟨vb,0,none⟩) 1 1] w fun e w'=>
   ∃ u,e=.returned u/\w'.ownsRow base 46 7 u (n+1) (cs.take (i*7)++(vs++cs.drop (i*7)))/\Rq sv n i vs w w':=by
 obtain⟨ad,c,rfl⟩:=ownsRow_form h;have fw:cs.length=n*7:=h.1;have ja:n<=c/\c<=maxLen/\(n<c\/0<n->∃ g,ad=some ⟨g,0,none⟩):=by
  rcases h.2 with⟨h1,h2⟩ | ⟨g,cap,cur,h1,_,_,h4,h5,_⟩
  ·cases h1;exact⟨Nat.le_refl _,Nat.zero_le _,fun e=>by omega⟩
  ·cases h1;exact⟨h4,h5,fun _=>⟨g,rfl⟩⟩
 have Rn:c<=9223372036854775807:=by have:=ja.2.1;unfold maxLen at this;omega
 have fin:∀ {B:World} {g c:Nat},aa (· ≠g) w B->((∀ base m xs,w.ownsRow base 46 7 (.slice (some ⟨g,0,none⟩) m c) m xs->∃ ys,B.ownsRow base 46 7 (.slice (some ⟨g,0,none⟩) m c) m ys)/\∀ j,B.cell? ⟨g,j,none⟩=et w g n i vs j)->Rq (.slice (some ⟨g,0,none⟩) n c) n i vs w B:=fun hk hr=>
  ⟨hk.mono fun x hx e=>hx.2 (by rw[e];rfl),fun g' c' e=>by cases e;exact .inr hr⟩
 have aaj:∀ {B:World},aa (· <w.heap.size) w B->Rq (.slice ad n c) n i vs w B:=fun hk=>⟨hk.mono fun x hx=>hx.1,fun _ _ _=>.inl hk⟩
 by_cases hroom:n+1<=c
 ·obtain⟨g,rfl⟩:=ja.2.2 (.inl hroom)
  obtain⟨ys,hy⟩:=uW h hroom;by_cases il:i<n
  ·have hvg:vb≠g:=fun e=>by
    subst e;have h1:=hv;unfold ak at h1;have h2:=xP h;simp[World.shape?,h1,qL]at h2;omega
   refine(JF base g n c i vb cs vs w h il hn hroom Rn hv qL h1c zU hvg).mono fun e w' ⟨he,hw⟩=>?_
   subst hw;obtain⟨r1,r2,r3,r4⟩:=xQ (W:=w.drew) (i:=i) (vs:=vs) (show w.drew.ownsRow _ _ _ _ _ _ from h) (show w.drew.ownsRow _ _ _ _ _ _ from hy) hi qL;exact⟨_,he,r1,fin (((aa.refl _ w).drew).tr r2) ⟨r3,r4⟩⟩
  ·obtain rfl:i=n:=by omega
   refine(JG base g i c vb cs vs w h hroom Rn hv qL zU).mono fun e w' ⟨he,hw⟩=>?_
   obtain⟨r1,r2,r3,r4⟩:=xQ (i:=i) (vs:=vs) h hy hi qL;have hd:cs.drop (i*7)=[]:=List.drop_eq_nil_of_le (by omega);rw[hd]at r1 r2 r3 r4;have e9:w'=(w.setCells g ((i+1)*7) []).setCells g (i*7) vs:=by rw[hw];rfl
   rw[hd];subst e9;exact⟨_,he,r1,fin r2 ⟨r3,r4⟩⟩
 ·by_cases il:i<n
  ·obtain⟨g,rfl⟩:=ja.2.2 (.inr (by omega))
   refine(Oa base g n c i vb cs vs w h il hn (by omega) ja.1 hv qL h1c zU).mono fun e w' ⟨G,VF,VG,he,ROW,Pg,Rp,hw⟩=>?_
   obtain⟨W1,hW1⟩:∃ W1,W1=w.alloc (.cells ROW 46):=⟨_,rfl⟩;have o1:W1.ownsRow base 46 7 (.slice (some ⟨w.heap.size,0,none⟩) (n+1) G) (n+1) (ROW.toList.take ((n+1)*7)):=by rw[hW1];exact⟨by rw[List.length_take,Array.length_toList,Pg];omega,.inr ⟨w.heap.size,G,ROW,rfl,hb,World.alloc_heap_new _ _,VF,VG,Pg,rfl⟩⟩
   rw[<-hW1]at hw;subst hw;obtain⟨y1,q1,k1⟩:=bL 0 vs (i*7) W1.drew _ (Nat.zero_le _) (show W1.drew.ownsRow _ _ _ _ _ _ from o1);obtain⟨y2,q2,k2⟩:=bL 0 (cs.drop (i*7)) ((i+1)*7) ((W1.drew.setCells w.heap.size (i*7) vs).drew) _ (Nat.zero_le _) (show(W1.drew.setCells w.heap.size (i*7) vs).drew.ownsRow _ _ _ _ _ _ from q1);have Hi:(cs.drop (i*7)).length=(n-i)*7:=by rw[List.length_drop,fw];omega
   have hK:aa (· <w.heap.size) w (((W1.drew.setCells w.heap.size (i*7) vs).drew).setCells w.heap.size ((i+1)*7) (cs.drop (i*7))):=by
    have a1:aa (· <w.heap.size) w W1:=by rw[hW1];exact aa.ah ((Ext.refl w).alloc _).below fun _ h=>h
    have a2:aa (· <w.heap.size) W1 (((W1.drew.setCells w.heap.size (i*7) vs).drew).setCells w.heap.size ((i+1)*7) (cs.drop (i*7))):=(((aa.refl (· ≠w.heap.size) W1).drew.tr k1).drew.tr k2).mono fun x (hx:x<w.heap.size)=>by show x≠w.heap.size;omega
    exact a1.tr a2
   refine⟨_,he,N8 q2 (by simp[List.length_take,fw,qL];omega) fun j u hu=>?_,aaj hK⟩;rw[l8 fw qL hi]at hu;obtain⟨hc1,_,hs1⟩:=cP o1;obtain⟨_,_,hs2⟩:=cP q1;by_cases h1:j<i*7
   ·rw[if_pos h1]at hu
    rw[World.cell?_setCells_out _ _ _ _ _ (fun _ _=>.inl (show j<(i+1)*7 by omega))];show(W1.drew.setCells w.heap.size (i*7) vs).cell? _=_;rw[World.cell?_setCells_out _ _ _ _ _ (fun _ _=>.inl h1)];refine hc1 j u ?_;have h5:(ROW.toList.take (i*7))[j]? =some u:=by rw[Rp,List.getElem?_take,if_pos h1];exact hu
    rw[List.getElem?_take,if_pos h1]at h5;rw[List.getElem?_take,if_pos (by omega)];exact h5
   ·rw[if_neg h1]at hu
    by_cases h2:j<(i+1)*7
    ·rw[if_pos h2]at hu
     rw[World.cell?_setCells_out _ _ _ _ _ (fun _ _=>.inl h2)];have:=World.cell?_setCells_in w.heap.size vs (i*7) W1.drew (fun t ht=>hs1 _ (by omega)) (j-i*7) (by omega);rw[show i*7+(j-i*7)=j by omega, <-List.getElem?_eq_getElem]at this;exact this.trans hu
    ·rw[if_neg h2]at hu
     have h3:=(List.getElem?_eq_some_iff.1 hu).1;have:=World.cell?_setCells_in w.heap.size (cs.drop (i*7)) ((i+1)*7) ((W1.drew.setCells w.heap.size (i*7) vs).drew) (fun t ht=>hs2 _ (by rw[Hi]at ht;omega)) (j-(i+1)*7) (by rw[Hi];omega);rw[show(i+1)*7+(j-(i+1)*7)=j by omega, <-List.getElem?_eq_getElem,List.getElem?_drop,show i*7+(j-(i+1)*7)=j-7 by omega]at this;exact this.trans hu
  ·obtain rfl:i=n:=by omega
   refine(zD base i c vb ad cs vs w h hn (by omega) hv qL zU).mono fun e w' ⟨G,VF,VG,he,ROW,Pg,Rp,hw⟩=>?_
   subst hw;have hd:cs.drop (i*7)=[]:=List.drop_eq_nil_of_le (by omega);have ht:cs.take (i*7)=cs:=List.take_of_length_le (by omega);rw[hd,ht,List.append_nil];refine⟨_,he,⟨by simp[fw,qL];omega,.inr ⟨w.heap.size,G,ROW,rfl,hb,World.alloc_heap_new _ _,VF,VG,Pg,Rp⟩⟩,aaj ?_⟩;exact(aa.refl (· <w.heap.size) w).drew.tr (aa.ah ((Ext.refl w.drew).alloc _).below fun _ h=>h)
end Go.Proofs.YtbiboekhakbnpaaGreatDoor
namespace Go.Proofs.YtbiboekhakbnpaaGreatDoor
open Go Go.RowKit Go.Shelf Go.Maps
def kN (G:List Value->Prop) (n:Nat) (cs:List Value):Prop:=∀ j,j<n->∃ p,G p/\∀ t,t<7->cs[j*7+t]? =p[t]?
def Dm (bad:List Value) (n:Nat) (cs:List Value):Prop:=∃ j,j<n/\∀ t,t<7->cs[j*7+t]? =bad[t]?
def Z0 (W:World) (v:Value):Prop:=v=.slice none 0 0\/∃ g c,v=.slice (some ⟨g,0,none⟩) 0 c/\g<W.heap.size
theorem Z0.mono {A B:World} {v:Value} (h:Z0 A v) (hs:A.heap.size<=B.heap.size):Z0 B v:=h.imp id fun ⟨g,c,e,hg⟩=>⟨g,c,e,Nat.lt_of_lt_of_le hg hs⟩
theorem Z0.Gb {W:World} {base size:Nat} {e:TypeId} {v:Value} {xs:List Value} (h:W.ownsRow base e size v 0 xs):Z0 W v:=by
 rcases h.2 with⟨h1,_⟩ | ⟨g,c,cur,h1,_,h3,_⟩
 ·exact .inl h1
 ·exact .inr ⟨g,c,h1,(Array.getElem?_eq_some_iff.1 h3).1⟩
def ZB (W:World) (b:Nat):Prop:=∃ v0 v1 v2,ak W b #[v0,v1,v2] 31/\Z0 W v0/\Z0 W v1/\Z0 W v2
structure cR (n0:Nat) (G:List Value->Prop) (bad:List Value) (A B:World):Prop where
 keeps:aa (fun x=>x<A.heap.size/\(x<n0\/∀ c t fz,A.heap[x]? =some (.cells c t fz)->t≠46/\t≠31)) A B
 rows:∀ v n cs,A.ownsRow n0 46 7 v n cs->kN G n cs->∃ cs',B.ownsRow n0 46 7 v n cs'/\kN G n cs'/\(Dm bad n cs->Dm bad n cs')
 lit:∀ x,n0<=x->ak A x bad.toArray 46->ak B x bad.toArray 46
 box:∀ x,n0<=x->ZB A x->ZB B x
theorem ZB.keeps {A B:World} {b:Nat} {R:Nat->Prop} (h:ZB A b) (hk:aa R A B) (hr:R b):ZB B b:=by obtain⟨v0,v1,v2,h1,z0,z1,z2⟩:=h;exact⟨v0,v1,v2,h1.keeps hk hr,z0.mono hk.size,z1.mono hk.size,z2.mono hk.size⟩
theorem ZB.lt {A:World} {b:Nat} (h:ZB A b):b<A.heap.size:=by obtain⟨v0,v1,v2,h1,_⟩:=h;exact h1.lt
section
variable {n0:Nat} {G:List Value→Prop} {bad:List Value} {A B C:World}
theorem cR.trans (h:cR n0 G bad A B) (k:cR n0 G bad B C):cR n0 G bad A C where
 keeps:=h.keeps.trans k.keeps fun x hx=>⟨Nat.lt_of_lt_of_le hx.1 h.keeps.size,hx.2.imp id fun hn c t fz=>by rw[h.keeps.keep x hx];exact hn c t fz⟩
 rows:=fun v n cs hv hg=>by
  obtain⟨c1,h1,h2,h3⟩:=h.rows v n cs hv hg;obtain⟨c2,k1,k2,k3⟩:=k.rows v n c1 h1 h2;exact⟨c2,k1,k2,fun e=>k3 (h3 e)⟩
 lit:=fun x hx hb=>k.lit x hx (h.lit x hx hb)
 box:=fun x hx hb=>k.box x hx (h.box x hx hb)
theorem cR.l9 (h:aa (· <A.heap.size) A B):cR n0 G bad A B where
 keeps:=h.mono fun _ hx=>hx.1
 rows:=fun _ _ cs hv hg=>⟨cs,ae hv h fun x e=>(hv.lt x e).2,hg,id⟩
 lit:=fun _ _ hb=>hb.keeps h hb.lt
 box:=fun _ _ hb=>hb.keeps h hb.lt
theorem cR.drew:cR n0 G bad A A.drew:=cR.l9 (aa.refl _ _).drew
theorem cR.below (h:cR n0 G bad A B) (hn:n0<=A.heap.size):Below n0 A B:=(h.keeps.mono fun x (hx:x<n0)=>⟨Nat.lt_of_lt_of_le hx hn,.inl hx⟩:aa (· <n0) A B).below
theorem cR.put {b:Nat} {c:Array Value} (hn:n0<=b) (h:aa (· ≠b) A B) (h1:ak A b c 31) (h2:ZB B b):cR n0 G bad A B where
 keeps:=h.mono fun x hx e=>by
  rcases hx.2 with h3 | h3
  ·omega
  ·subst e;exact(h3 _ _ _ h1).2 rfl
 rows:=fun _ _ cs hv hg=>⟨cs,ae hv h fun x e e2=>by
  rcases hv.2 with⟨q1,_⟩ | ⟨g,c',cur,q1,_,q3,_⟩
  ·subst q1;cases e
  ·subst q1
   injection e with e
   subst e;subst e2;unfold ak at h1;rw[h1]at q3;injection q3 with q3
   injection q3 with _ q3
   exact absurd q3 (by decide),hg,id⟩
 lit:=fun x _ hb=>hb.keeps h fun e=>by
  subst e;unfold ak at hb h1;rw[h1]at hb;injection hb with hb
  injection hb with _ hb
  exact absurd hb (by decide)
 box:=fun x _ hb=>by
  by_cases e:x=b
  ·rw[e];exact h2
  ·exact hb.keeps h e
theorem mP {base n:Nat} {v:Value} {xs:List Value} {x:Nat} (h:A.ownsRow base 46 7 v n xs) (e:v.ownBlock=some x):∃ c cur,v=.slice (some ⟨x,0,none⟩) n c/\A.heap[x]? =some (.cells cur 46)/\n<=c/\c<=maxLen/\cur.size=c*7/\cur.toList.take (n*7)=xs:=by
 rcases h.2 with⟨h1,_⟩ | ⟨g,c,cur,h1,h2,h3,h4,h5,h6,h7⟩
 ·subst h1;cases e
 ·subst h1
  injection e with e
  subst e;exact⟨c,cur,rfl,h3,h4,h5,h6,h7⟩
theorem cR.ins {sv:Value} {n i:Nat} {cs:List Value} (hi:Rq sv n i bad A B) (hs:A.ownsRow n0 46 7 sv n cs) (hb:G bad) (hbl:bad.length=7) (il:i<=n):cR n0 G bad A B where
 keeps:=hi.keeps.mono fun x hx=>⟨hx.1,fun e=>by
  obtain⟨c,cur,_,h3,_⟩:=mP hs e;rcases hx.2 with h | h
  ·have:=(hs.lt x e).1;omega
  ·exact(h _ _ _ h3).1 rfl⟩
 rows:=fun v m xs hv hgx=>by
  by_cases e:∃ x,v.ownBlock=some x/\sv.ownBlock=some x
  ·obtain⟨x,e1,e2⟩:=e
   obtain⟨c,cur,rfl,h3,h4,h5,h6,h7⟩:=mP hv e1;obtain⟨c',cur',rfl,k3,k4,k5,k6,k7⟩:=mP hs e2;rw[h3]at k3;injection k3 with k3
   injection k3 with k3
   subst k3;obtain rfl:c=c':=by omega
   rcases hi.row x c rfl with hk | ⟨hr,hc⟩
   ·exact⟨xs,ae hv hk fun y e=>(hv.lt y e).2,hgx,id⟩
   ·obtain⟨ys,hy⟩:=hr n0 m xs hv
    obtain⟨y1,_,_⟩:=cP hy;obtain⟨x1,_,_⟩:=cP hv;obtain⟨s1,_,_⟩:=cP hs;have PM:ys.length=m*7:=hy.1;have sr:xs.length=m*7:=hv.1;have fw:cs.length=n*7:=hs.1
    -- a cell of the new row
    have cell:∀ j,j<m*7->ys[j]? =et A x n i bad j:=fun j hj=>by
     have h1:ys[j]? =some (ys[j]'(by omega)):=List.getElem?_eq_getElem (by omega);rw[h1, <-y1 j _ h1,hc]
    have old:∀ j,j<m*7->A.cell? ⟨x,j,none⟩=xs[j]? :=fun j hj=>by
     have h1:xs[j]? =some (xs[j]'(by omega)):=List.getElem?_eq_getElem (by omega);rw[h1,x1 j _ h1]
    have atI:i<m->∀ t,t<7->ys[i*7+t]? =bad[t]? :=fun h t ht=>by
     rw[cell _ (by omega)];unfold et;rw[if_neg (by omega),if_pos (by omega)];congr 1;omega
    refine⟨ys,hy,fun j hj=>?_,fun ⟨j,hj,JR⟩=>?_⟩
    ·by_cases c1:j<i
     ·obtain⟨p,hp,zR⟩:=hgx j hj
      refine⟨p,hp,fun t ht=>?_⟩;rw[cell _ (by omega), <-zR t ht];unfold et;rw[if_pos (by omega)];exact old _ (by omega)
     ·by_cases c2:j=i
      ·exact⟨bad,hb,fun t ht=>by rw[c2];exact atI (by omega) t ht⟩
      ·by_cases c3:j<n+1
       ·obtain⟨p,hp,zR⟩:=hgx (j-1) (by omega)
        refine⟨p,hp,fun t ht=>?_⟩;rw[cell _ (by omega), <-zR t ht];unfold et;rw[if_neg (by omega),if_neg (by omega),if_pos (by omega),old _ (by omega)];congr 1;omega
       ·obtain⟨p,hp,zR⟩:=hgx j hj
        refine⟨p,hp,fun t ht=>?_⟩;rw[cell _ (by omega), <-zR t ht];unfold et;rw[if_neg (by omega),if_neg (by omega),if_neg (by omega)];exact old _ (by omega)
    ·by_cases c1:j<i
     ·refine⟨j,hj,fun t ht=>?_⟩
      rw[cell _ (by omega), <-JR t ht];unfold et;rw[if_pos (by omega)];exact old _ (by omega)
     ·exact⟨i,by omega,atI (by omega)⟩
  ·exact⟨xs,ae hv hi.keeps fun x h1=>⟨(hv.lt x h1).2,fun h2=>e ⟨x,h1,h2⟩⟩,hgx,id⟩
 lit:=fun x hx hl=>by
  by_cases e:sv.ownBlock=some x
  ·obtain⟨c,cur,rfl,k3,k4,k5,k6,k7⟩:=mP hs e
   have wB:=hl;unfold ak at wB;rw[wB]at k3;injection k3 with k3
   injection k3 with k3
   subst k3;have hc1:c=1:=by simp[hbl]at k6;omega
   subst hc1;rcases hi.row x 1 rfl with hk | ⟨hr,hc⟩
   ·exact hl.keeps hk hl.lt
   ·have o1:A.ownsRow n0 46 7 (.slice (some ⟨x,0,none⟩) 1 1) 1 bad:=⟨by omega,.inr ⟨x,1,bad.toArray,rfl,hx,hl,Nat.le_refl _,by unfold maxLen;omega,by simp[hbl],List.take_of_length_le (by simp[hbl])⟩⟩
    obtain⟨ys,hy⟩:=hr n0 1 bad o1;obtain⟨y1,_,_⟩:=cP hy;obtain⟨c,cur,e1,k3,_,_,k6,k7⟩:=mP hy rfl;injection e1 with _ _ e1
    subst e1;have PM:ys.length=7:=by have:=hy.1;omega
    have hyb:ys=bad:=List.ext_getElem? fun j=>by
     rcases Nat.lt_or_ge j 7 with hj | hj
     ·have h1:ys[j]? =some (ys[j]'(by omega)):=List.getElem?_eq_getElem (by omega)
      rw[h1, <-y1 j _ h1,hc];have h2:A.cell? ⟨x,j,none⟩=bad[j]? :=by rw[hl.cell j,List.getElem?_toArray]
      unfold et;by_cases c1:j<i*7
      ·rw[if_pos c1,h2]
      ·rw[if_neg c1,if_pos (by omega)]
       congr 1;omega
     ·rw[List.getElem?_eq_none (by omega),List.getElem?_eq_none (by omega)]
    have sW:cur=bad.toArray:=by have h8:cur.toList.take (1*7)=cur.toList:=List.take_of_length_le (by rw[Array.length_toList];omega);rw[h8,hyb]at k7;rw[<-k7]
    rw[sW]at k3;exact k3
  ·exact hl.keeps hi.keeps ⟨hl.lt,e⟩
 box:=fun x _ hz=>hz.keeps hi.keeps ⟨hz.lt,fun e=>by
  obtain⟨c,cur,_,h3,_⟩:=mP hs e;obtain⟨v0,v1,v2,h1,_⟩:=hz;unfold ak at h1;rw[h1]at h3;injection h3 with h3
  injection h3 with _ h3
  exact absurd h3 (by decide)⟩
end
def qM.row (n0:Nat) (G:List Value->Prop) (bad:List Value) (n:Nat) (hb:Bool):aO (cR n0 G bad) where
 P:=fun v=>∃ a c,v=.slice a n c
 H:=fun v W=>∃ cs,W.ownsRow n0 46 7 v n cs/\kN G n cs/\(hb=true->Dm bad n cs)
 jX:=.slice none n 0
 pw:=⟨none,0,rfl⟩
 st:=fun v _ _ hm _ ⟨cs,h1,h2,h3⟩=>by
  obtain⟨cs',k1,k2,k3⟩:=hm.rows v n cs h1 h2;exact⟨cs',k1,k2,fun e=>k3 (h3 e)⟩
def qM.lit (n0:Nat) (G:List Value->Prop) (bad:List Value):aO (cR n0 G bad) where
 P:=fun v=>∃ b,v=.slice (some ⟨b,0,none⟩) 1 1
 H:=fun v W=>∀ b,v=.slice (some ⟨b,0,none⟩) 1 1->ak W b bad.toArray 46/\n0<=b
 jX:=.slice (some ⟨0,0,none⟩) 1 1
 pw:=⟨0,rfl⟩
 st:=fun _ _ _ hm _ h b e=>⟨hm.lit b (h b e).2 (h b e).1,(h b e).2⟩
def qM.box (n0:Nat) (G:List Value->Prop) (bad:List Value):aO (cR n0 G bad) where
 P:=fun v=>∃ b,v=.pointer (some ⟨b,0,none⟩)
 H:=fun v W=>∀ b,v=.pointer (some ⟨b,0,none⟩)->ZB W b/\n0<=b
 jX:=.pointer (some ⟨0,0,none⟩)
 pw:=⟨_,rfl⟩
 st:=fun _ _ _ hm _ h b e=>⟨hm.box b (h b e).2 (h b e).1,(h b e).2⟩
def qM.out (n0:Nat) (G:List Value->Prop) (bad:List Value) (code:Int):aO (cR n0 G bad) where
 P:=fun v=>∃ e0 g0 e1 g1 e2 g2,v=.tuple #[.agg #[.slice e0 0 g0,.slice e1 0 g1,.slice e2 0 g2],.int .i64 code]
 H:=fun v W=>∀ v0 v1 v2,v=.tuple #[.agg #[v0,v1,v2],.int .i64 code]->Z0 W v0/\Z0 W v1/\Z0 W v2
 jX:=.tuple #[.agg #[.slice none 0 0,.slice none 0 0,.slice none 0 0],.int .i64 code]
 pw:=⟨_,_,_,_,_,_,rfl⟩
 st:=fun _ _ _ hm _ h v0 v1 v2 e=>by
  obtain⟨z0,z1,z2⟩:=h v0 v1 v2 e;exact⟨z0.mono hm.keeps.size,z1.mono hm.keeps.size,z2.mono hm.keeps.size⟩
theorem Oc {Q:List PT} {V:World} {n:Nat} {cs:List Value} (hg:kN (fun p=>∃ x,x∈Q/\tM dO V x fun t=>p[t]?) n cs) (hl:cs.length=n*7):∀ u∈cs,u.oneCell'=true:=fun u hu=>by
 obtain⟨j,hj,e⟩:=List.getElem_of_mem hu;obtain⟨p,⟨x,_,v0,v1,v2,v3,h0,h1,h2,h3,h4,h5,h6,h7⟩,zR⟩:=hg (j/7) (by omega);have ht:=zR (j%7) (Nat.mod_lt _ (by decide));rw[show j/7*7+j%7=j by omega,List.getElem?_eq_getElem hj,e]at ht;obtain⟨a0,m0,c0,a1,m1,c1,a2,m2,c2,a3,m3,c3,rfl,rfl,rfl,rfl⟩:=h0.GK;have h8:j%7<7:=Nat.mod_lt _ (by decide);have h9:j%7=0\/j%7=1\/j%7=2\/j%7=3\/j%7=4\/j%7=5\/j%7=6:=by omega
 rcases h9 with h9 | h9 | h9 | h9 | h9 | h9 | h9<;>rw[h9]at ht
 ·have e9:=ht.trans h1;cases e9;rfl
 ·have e9:=ht.trans h2;cases e9;rfl
 ·have e9:=ht.trans h3;cases e9;rfl
 ·have e9:=ht.trans h4;cases e9;rfl
 ·have e9:=ht.trans h5;cases e9;rfl
 ·have e9:=ht.trans h6;cases e9;rfl
 ·have e9:=ht.trans h7;cases e9;rfl
theorem Od {ps:List PT} {bx:PT} (hl:ps.length<=64) (hb:bx∈ps) (hx:bx.ok=false) (f:Int):fJ ps f=(⟨[],[],[]⟩,180):=by unfold fJ;rw[if_neg (by omega),if_pos (List.all_eq_false.2 ⟨bx,hb,by simp[hx]⟩)]
theorem Oe {Q:List PT} {bx:PT} {V W:World} {n0 n:Nat} {u:Value} {cs bad:List Value} (hV:V.heap.size=n0) (hk:Below n0 V W) (ho:W.ownsRow n0 46 7 u n cs) (hg:kN (fun p=>∃ x,x∈Q/\tM dO V x fun t=>p[t]?) n cs) (hb:Dm bad n cs) (vu:tM dO V bx fun t=>bad[t]?) (hbq:bx∈Q) (hn:0<n):∃ ps:List PT,ps.length=n/\(∀ x∈ps,x∈Q)/\bx∈ps/\dh W u ps:=by
 obtain⟨jb,hjb,JR⟩:=hb;have:Inhabited PT:=⟨bx⟩
 obtain⟨L,hL⟩:=Go.Deep.choose_lt (α:=PT) (n:=n) (p:=fun j x=>x∈Q/\(j=jb->x=bx)/\tM dO W x fun t=>cs[j*7+t]?) (fun j hj=>by
  by_cases e:j=jb
  ·refine⟨bx,hbq,fun _=>rfl,?_⟩
   refine vu.mono (fun v h=>dO.below h (by rw[hV];exact hk)) fun t ht u hu=>?_
   rw[e,JR t ht];exact hu
  ·obtain⟨p,⟨x,hx,hp⟩,zR⟩:=hg j hj
   refine⟨x,hx,fun h=>absurd h e,?_⟩;refine hp.mono (fun v h=>dO.below h (by rw[hV];exact hk)) fun t ht u hu=>?_
   rw[zR t ht];exact hu)
 refine⟨(List.range n).map L,by simp,fun x hx=>?_,?_,?_⟩
 ·obtain⟨j,hj,rfl⟩:=List.mem_map.1 hx
  exact(hL j (List.mem_range.1 hj)).1
 ·exact List.mem_map.2 ⟨jb,List.mem_range.2 hjb,(hL jb hjb).2.1 rfl⟩
 ·obtain⟨a,c,rfl⟩:=ownsRow_form ho
  rcases ho.2 with⟨h1,_⟩ | ⟨g,c',cur,h1,h2,h3,h4,_⟩
  ·cases h1;omega
  ·cases h1
   obtain⟨c1,_,_⟩:=cP ho;refine .inr ⟨g,0,c,by simp,(Array.getElem?_eq_some_iff.1 h3).1,fun j x hx=>?_⟩;obtain⟨hj,rfl⟩:=List.getElem?_eq_some_iff.1 hx;simp at hj;have hp:=(hL j hj).2.2;rw[show((List.range n).map L)[j]=L j by simp];obtain⟨v0,v1,v2,v3,q0,q1,q2,q3,q4,q5,q6,q7⟩:=hp;rw[Nat.zero_add];exact⟨v0,v1,v2,v3,q0,c1 _ _ q1,c1 _ _ q2,c1 _ _ q3,c1 _ _ q4,c1 _ _ q5,c1 _ _ q6,c1 _ _ q7⟩
theorem Z0.sl {α:Type} {enc:α->Value} {W:World} {v:Value} (h:Z0 W v):bg enc W v []:=by
 rcases h with rfl | ⟨g,c,rfl,hg⟩
 ·exact .inl ⟨rfl,rfl⟩
 ·exact .inr ⟨g,0,c,rfl,hg,Nat.zero_le _,fun i x h=>by simp at h⟩
theorem Z0.df {W:World} {v0 v1 v2:Value} (h0:Z0 W v0) (h1:Z0 W v1) (h2:Z0 W v2):gN W (.agg #[v0,v1,v2]) ⟨[],[],[]⟩:=
 ⟨v0,v1,v2,rfl,⟨by
  rcases h0 with rfl | ⟨g,c,rfl,hg⟩
  ·exact .inl ⟨rfl,rfl⟩
  ·exact .inr ⟨g,0,c,rfl,hg,fun i x h=>by simp at h⟩,fun a n cap e=>by
  rcases h0 with rfl | ⟨g,c,rfl,hg⟩<;>cases e<;>omega⟩,⟨[],rfl,h1.sl,fun i u l h=>by simp at h⟩,⟨[],rfl,h2.sl,fun i u l h=>by simp at h⟩⟩
theorem Z0.form {W:World} {v:Value} (h:Z0 W v):∃ a c,v=.slice a 0 c:=by rcases h with rfl | ⟨g,c,rfl,hg⟩<;>exact⟨_,_,rfl⟩
theorem Og {G:List Value->Prop} {cs bad:List Value} {n i:Nat} (hg:kN G n cs) (hb:G bad) (fw:cs.length=n*7) (hbl:bad.length=7) (hi:i<=n):kN G (n+1) (cs.take (i*7)++(bad++cs.drop (i*7)))/\Dm bad (n+1) (cs.take (i*7)++(bad++cs.drop (i*7))):=by
 have at1:∀ t,t<7->(cs.take (i*7)++(bad++cs.drop (i*7)))[i*7+t]? =bad[t]? :=fun t ht=>by
  rw[l8 fw hbl hi,if_neg (by omega),if_pos (by omega)];congr 1;omega
 refine⟨fun j hj=>?_,i,by omega,at1⟩;by_cases c1:j<i
 ·obtain⟨p,hp,zR⟩:=hg j (by omega)
  refine⟨p,hp,fun t ht=>?_⟩;rw[l8 fw hbl hi,if_pos (by omega),zR t ht]
 ·by_cases c2:j=i
  ·exact⟨bad,hb,fun t ht=>by rw[c2];exact at1 t ht⟩
  ·obtain⟨p,hp,zR⟩:=hg (j-1) (by omega)
   refine⟨p,hp,fun t ht=>?_⟩;rw[l8 fw hbl hi,if_neg (by omega),if_neg (by omega), <-zR t ht];congr 1;omega
theorem zF (base n:Nat) (sv:Value) (cs:List Value) (w:World) (h:w.ownsRow base 46 7 sv n cs) (h1:∀ u∈cs,u.oneCell'=true) (hn:n<=1000000): Calls Tryz.prog 34 #[sv] w fun e w'=>∃ u,e=.returned u/\w'.ownsRow w.heap.size 46 7 u n cs/\Below w.heap.size w w':=by
 obtain⟨i0,hi,hz0,hz1,hz2⟩:=info_parts (show(Tryz.prog.info? 46).map (fun i=>(i.zero,i.size,i.bytes))=some (some (.agg #[.slice none 0 0,.slice none 0 0,.slice none 0 0,.slice none 0 0,.bool false,.bool false,.int .i64 0]),7,120) by kernel_rfl);rcases h.2 with⟨rfl,rfl⟩ | ⟨g,cap,cur,rfl,_⟩
 ·have hcs:cs=[]:=List.eq_nil_of_length_eq_zero (by have:=h.1;omega)
  subst hcs;have he:=fun W=>Lib.run_eql_slice_nil (P:=Tryz.prog) W 25 46 none 0 0 0 0 Tryz.underlying25
  go_enter Tryz.func34,Tryz.ntmps34
  go_wp2;go_ret;exact⟨_,rfl,World.ownsRow_nil _ _ _ _,Below.refl _ _⟩
 ·have he:=fun W=>Lib.run_eql_slice_nil (P:=Tryz.prog) W 25 46 (some ⟨g,0,none⟩) n cap 0 0 Tryz.underlying25
  have hlt:=(h.lt g rfl).2;have hnews:∀ (o:Obj) j u,cs[j]? =some u->(w.alloc o).cell? ((⟨g,0,none⟩:Addr).add j)=some u:=fun o j u hj=>by
   rw[Addr.add_mid,Nat.zero_add];exact(((Ext.refl w).alloc o).cell (p:=⟨g,j,none⟩) hlt).trans ((cP h).1 j u hj)
  have XM:=hid hnews;have HO:=hid h1;have fw:cs.length=n*7:=h.1;clear h hnews h1;go_enter Tryz.func34,Tryz.ntmps34;have o1:(w.alloc (.cells #[] 46 (0,0))).ownsRow w.heap.size 46 7 (.slice (some ⟨w.heap.size,0,none⟩) 0 0) 0 []:=⟨rfl,.inr ⟨w.heap.size,0, #[],rfl,Nat.le_refl _,World.alloc_heap_new _ _,Nat.le_refl _,by simp,rfl,rfl⟩⟩;have Lg:=hid o1;clear o1;go_wp2_with (at_builtin;(refine wpList_append_own_at _ rfl (.tmp 5) (.tmp 6) 25 rfl w.heap.size 46 i0 (.agg #[.slice none 0 0,.slice none 0 0,.slice none 0 0,.slice none 0 0,.bool false,.bool false,.int .i64 0]) 7 120 Tryz.underlying25 hi hz0 hz1 hz2 rfl (by decide) _ 0 [] rfl Lg.out ⟨g,0,none⟩ n cap cs rfl fw (fun j u hj=>XM.out _ j u hj) HO.out (by unfold maxLen;omega) (by omega) (by simp) ?_;intro v' w2 ho hg _ _;have jq:=hid ho;have HG:=hid hg;obtain⟨a2,c2,rfl⟩:=ownsRow_form ho;clear ho hg));go_ret;refine⟨_,rfl,?_,?_⟩
  ·have:=jq.out
   rwa[Nat.zero_add,List.nil_append]at this
  ·exact((Below.refl _ _).alloc (Nat.le_refl _) _).grown HG.out (by simp) (fun c e=>(Lg.out.lt c e).1)
theorem xR {base g:Nat} {w:World} {us:List Value} {L:List (List Int)} (hlen:us.length=L.length) (h3:∀ (i:Nat) (u:Value) (l:List Int),us[i]? =some u->L[i]? =some l->w.ownsRow base 3 1 u l.length (l.map aF)) (z:Int): ∃ L':List (List Int),L'.length=L.length/\(∀ (i:Nat) (u:Value) (l:List Int),us[i]? =some u->L'[i]? =some l->(w.setCell ⟨g,0,none⟩ (.int .i64 z)).ownsRow base 3 1 u l.length (l.map aF))/\(∀ (i:Nat) (l:List Int),L[i]? =some l->∃ l',L'[i]? =some l'/\l'.length=l.length)/\∀ (i:Nat) (u:Value) (l:List Int),us[i]? =some u->L[i]? =some l->u.ownBlock=some g->L'[i]? =some (l.set 0 z):=by
 have key:∀ (i:Nat) (u:Value) (l:List Int),us[i]? =some u->L[i]? =some l->((List.range L.length).map fun i=>if(us.getD i undef).ownBlock=some g then(L.getD i []).set 0 z else L.getD i [])[i]? =some (if u.ownBlock=some g then l.set 0 z else l):=fun i u l hu hl=>by
  rw[List.getElem?_map,List.getElem?_range (List.getElem?_eq_some_iff.1 hl).1];show some (if(us.getD i undef).ownBlock=some g then(L.getD i []).set 0 z else L.getD i [])=_;rw[getD_some hu,getD_some hl]
 refine⟨(List.range L.length).map fun i=>if(us.getD i undef).ownBlock=some g then(L.getD i []).set 0 z else L.getD i [],by simp,fun i u l hu hl=>?_,fun i l hl=>?_,fun i u l hu hl e=>by rw[key i u l hu hl,if_pos e]⟩
 ·have fU:i<L.length:=by have:=(List.getElem?_eq_some_iff.1 hu).1;omega
  obtain⟨l0,hl0⟩:∃ l0,L[i]? =some l0:=⟨_,List.getElem?_eq_getElem fU⟩;rw[key i u l0 hu hl0]at hl;have hr:=h3 i u l0 hu hl0;by_cases e:u.ownBlock=some g
  ·rw[if_pos e]at hl
   cases hl
   rcases hr.2 with⟨h1,_⟩ | ⟨g',c,cur,h1,_⟩
   ·subst h1;cases e
   ·subst h1
    injection e with e
    subst e;have:=(hr.stored 0 (.int .i64 z)).1;rw[List.length_set,List.map_set];exact this
  ·rw[if_neg e]at hl
   cases hl
   exact ae hr ((aa.refl (· ≠g) _).setCell (p:=⟨g,0,none⟩) (fun h=>h rfl) _) fun x hx e2=>e (by rw[hx,e2])
 ·have fU:=(List.getElem?_eq_some_iff.1 hl).1
  obtain⟨u,hu⟩:∃ u,us[i]? =some u:=⟨_,List.getElem?_eq_getElem (by omega)⟩;refine⟨_,key i u l hu hl,?_⟩;split<;>simp
attribute [local go_sem] encS
def kT (d:DF) (s:Int) (b:List Nat):Int×Int:=if d.right=false then(0,182)else if s<0\/(d.nx.length:Int)<=s then(0,2)else(((cA d s.toNat b:Nat):Int),0)
theorem mf (v bv:Value) (d:DF) (sm:Sm d) (s:Int) (b:List Nat) (hb:∀ c∈b,c<256) (y8:b.length<=1000000) (w:World) (h:gN w v d) (nz:bg en w bv b): Calls Tryz.prog 17 #[v,.int .i64 s,bv] w fun e w'=>e=.returned (.tuple #[.int .i64 (kT d s b).1,.int .i64 (kT d s b).2])/\Below w.heap.size w w':=by
 by_cases hgo:d.right=true/\0<=s/\s<d.nx.length
 ·obtain⟨n,rfl⟩:∃ n:Nat,s=n:=⟨s.toNat,by omega⟩
  have e1:kT d n b=(((cA d n b:Nat):Int),0):=by unfold kT;rw[hgo.1,if_neg (by decide),if_neg (by omega),Int.toNat_natCast]
  rw[e1];exact uB v bv d ((cU d).1 hgo.1) sm n (by omega) b hb y8 w h nz
 ·have CR:Hid (∀ W,Below w.heap.size w W->Calls Tryz.prog 21 #[v] W fun e w'=>e=.returned (.bool d.right)/\Below W.heap.size W w'):=fun W hW=>fY v d W (h.below hW) sm
  obtain⟨v0,v1,v2,rfl,h0,h1,h2⟩:=h;obtain⟨a0,c0,rfl⟩:=h0.1.form;obtain⟨a1,c1,rfl⟩:=h1.form;obtain⟨a2,c2,rfl⟩:=h2.form;obtain⟨ab,cb,rfl⟩:=nz.form;obtain⟨R,hR⟩:∃ z,z=kT d s b:=⟨_,rfl⟩;rw[<-hR];have HR:=hid hR;have HG:=hid hgo;obtain⟨r,hr⟩:∃ r,r=d.right:=⟨_,rfl⟩;have Hr:=hid hr;rw[<-hr]at CR;obtain⟨n1,fL⟩:∃ n,n=d.nx.length:=⟨_,rfl⟩;have HN:=hid fL;rw[<-fL]at CR ⊢;have Sz:r=true->n1<=4000:=fun h=>by rw[fL];exact((cU d).1 (hr.symm.trans h)).le
  have HN4:=hid Sz;clear h0 h1 h2 nz hgo hR hr fL Sz sm;generalize d.cl.length=n0 at*;generalize d.mr.length=n2 at*;generalize b.length=nb at*;go_enter Tryz.func17,Tryz.ntmps17;go_wp2_with fail
  refine aw ?_;intro V hV;have B1:Hid (ak V w.heap.size #[.slice a0 n0 c0,.slice a1 n1 c1,.slice a2 n2 c2] 31):=by rw[hV];exact ak.new w _ _
  have X1:Hid (Below w.heap.size w V):=by rw[hV];exact((Ext.refl w).alloc _).below
  clear hV;refine(CR.out _ X1.out).mono ?_;rintro e w2 ⟨rfl,hx⟩;have B2:=hid (B1.out.below hx B1.out.lt);have X2:=hid (X1.out.trans (hx.mono X1.out.size));clear hx B1 X1;obtain⟨⟨k0,k1,k2⟩,_⟩:=B2.out.three;cases r with
  | false=>
   have fK:Hid (R=(0,182)):=hid (by rw[HR.out];unfold kT;rw[<-Hr.out,if_pos rfl]);go_wp2;refine bodyPost_ret (v:=.tuple #[.int .i64 0,.int .i64 182]) (by simp[results,Tryz.results17,go_sem]) rfl ⟨by rw[fK.out],X2.out⟩
  | true=>
   have Sz:=HN4.out rfl;have VI:s<0\/(n1:Int)<=s:=by
    by_cases h:s<0
    ·exact .inl h
    ·right
     by_cases h2:(n1:Int)<=s
     ·exact h2
     ·exact absurd ⟨Hr.out.symm,by omega,by have:=HN.out;omega⟩ HG.out
   have fK:Hid (R=(0,2)):=hid (by rw[HR.out];unfold kT;rw[<-Hr.out, <-HN.out,if_neg (by decide),if_pos VI]);by_cases aak:s<0
   ·have d1:decide (s<0)=true:=decide_eq_true aak
    clear VI;go_wp2;refine bodyPost_ret (v:=.tuple #[.int .i64 0,.int .i64 2]) (by simp[results,Tryz.results17,go_sem]) rfl ⟨by rw[fK.out],X2.out⟩
   ·have d1:decide (s<0)=false:=decide_eq_false aak
    have d2:decide ((n1:Int)<=s)=true:=decide_eq_true (by omega);clear VI;go_wp2;refine bodyPost_ret (v:=.tuple #[.int .i64 0,.int .i64 2]) (by simp[results,Tryz.results17,go_sem]) rfl ⟨by rw[fK.out],X2.out⟩
theorem Dn (v:Value) (d:DF) (sm:Sm d) (s:Int) (c:Nat) (hc:c<256) (w:World) (h:gN w v d): Calls Tryz.prog 19 #[v,.int .i64 s,.int .u8 c] w fun e w'=>e=.returned (.tuple #[.int .i64 (kT d s [c]).1,.int .i64 (kT d s [c]).2])/\Below w.heap.size w w':=by
 have CR:Hid (∀ W bv,Below w.heap.size w W->bg en W bv [c]->Calls Tryz.prog 17 #[v,.int .i64 s,bv] W fun e w'=>e=.returned (.tuple #[.int .i64 (kT d s [c]).1,.int .i64 (kT d s [c]).2])/\Below W.heap.size W w'):=fun W bv hW hb=>mf v bv d sm s [c] (by simpa using hc) (by simp) W (h.below hW) hb
 obtain⟨v0,v1,v2,rfl,h0,h1,h2⟩:=h;obtain⟨a0,c0,rfl⟩:=h0.1.form;obtain⟨a1,c1,rfl⟩:=h1.form;obtain⟨a2,c2,rfl⟩:=h2.form;obtain⟨R,hR⟩:∃ z,z=kT d s [c]:=⟨_,rfl⟩;rw[<-hR]at CR ⊢;clear h0 h1 h2 sm hR;generalize d.cl.length=n0 at*;generalize d.nx.length=n1 at*;generalize d.mr.length=n2 at*;go_enter Tryz.func19,Tryz.ntmps19;go_wp2_with fail
 refine aw ?_;intro V hV;have X1:Hid (Below w.heap.size w V):=by rw[hV];exact hid (((Ext.refl w).alloc _).alloc _).below
 have S1:Hid (bg en V (.slice (some ⟨w.heap.size+1,0,none⟩) 1 1) [c]):=hid (by
  have hB:ak V (w.heap.size+1) #[.int .u8 c] 5:=by rw[hV];exact(ak.new (w.alloc _) _ _).at (by simp)
  refine .inr ⟨w.heap.size+1,0,1,rfl,hB.lt,by simp,fun i x hi=>?_⟩;cases i with
  | zero=>cases hi;exact hB.cell 0
  | succ i=>simp at hi)
 clear hV;refine(CR.out V _ X1.out S1.out).mono ?_;rintro e w2 ⟨rfl,hx⟩;have X2:=hid (X1.out.trans (hx.mono X1.out.size));clear hx;go_wp2;refine bodyPost_ret (v:=.tuple #[.int .i64 R.1,.int .i64 R.2]) (by simp[results,Tryz.results19,go_sem]) rfl ⟨rfl,X2.out⟩
end Go.Proofs.YtbiboekhakbnpaaGreatDoor
namespace Go.Proofs.YtbiboekhakbnpaaGreatDoor
open Go Go.RowKit Go.Shelf Go.Maps
attribute [local go_sem] encS
theorem uX (v bv:Value) (d:DF) (sm:Sm d) (hr:d.right=false) (w:World) (h:gN w v d): Calls Tryz.prog 12 #[v,bv] w fun e w'=>e=.returned (.tuple #[.int .i64 0,.int .i64 0,.bool false,.int .i64 182])/\Below w.heap.size w w':=by
 have CR:Hid (∀ W,Below w.heap.size w W->Calls Tryz.prog 21 #[v] W fun e w'=>e=.returned (.bool false)/\Below W.heap.size W w'):=fun W hW=>by
  have:=fY v d W (h.below hW) sm;rwa[hr]at this
 obtain⟨v0,v1,v2,rfl,h0,h1,h2⟩:=h;obtain⟨a0,c0,rfl⟩:=h0.1.form;obtain⟨a1,c1,rfl⟩:=h1.form;obtain⟨a2,c2,rfl⟩:=h2.form;generalize d.cl.length=n0 at*;generalize d.nx.length=n1 at*;generalize d.mr.length=n2 at*;clear h0 h1 h2 sm hr;go_enter Tryz.func12,Tryz.ntmps12;go_wp2_with fail
 refine aw ?_;intro V hV;have X1:Hid (Below w.heap.size w V):=by rw[hV];exact hid ((Ext.refl w).alloc _).below
 clear hV;refine(CR.out _ X1.out).mono ?_;rintro e w2 ⟨rfl,hx⟩;have X2:=hid (X1.out.trans (hx.mono X1.out.size));clear hx X1;go_wp2;refine bodyPost_ret (v:=.tuple #[.int .i64 0,.int .i64 0,.bool false,.int .i64 182]) (by simp[results,Tryz.results12,go_sem]) rfl ⟨rfl,X2.out⟩
theorem uY (v bv:Value) (d:DF) (sm:Sm d) (hr:d.right=false) (b:List Nat) (hb:∀ c∈b,c<256) (y8:b.length<=1000000) (w:World) (h:gN w v d) (nz:bg en w bv b): Calls Tryz.prog 13 #[v,bv] w fun e w'=>e=.returned (.tuple #[.slice none 0 0,.int .i64 182])/\Below w.heap.size w w':=by
 have CR:Hid (∀ W,Below w.heap.size w W->Calls Tryz.prog 17 #[v,.int .i64 0,bv] W fun e w'=>e=.returned (.tuple #[.int .i64 0,.int .i64 182])/\Below W.heap.size W w'):=fun W hW=>by
  have:=mf v bv d sm 0 b hb y8 W (h.below hW) (nz.below hW);have e1:kT d 0 b=(0,182):=by unfold kT;rw[if_pos hr]
  rwa[e1]at this
 obtain⟨v0,v1,v2,rfl,h0,h1,h2⟩:=h;obtain⟨a0,c0,rfl⟩:=h0.1.form;obtain⟨a1,c1,rfl⟩:=h1.form;obtain⟨a2,c2,rfl⟩:=h2.form;generalize d.cl.length=n0 at*;generalize d.nx.length=n1 at*;generalize d.mr.length=n2 at*;clear h0 h1 h2 sm hr nz;go_enter Tryz.func13,Tryz.ntmps13;go_wp2_with fail
 refine aw ?_;intro V hV;have X1:Hid (Below w.heap.size w V):=by rw[hV];exact hid ((Ext.refl w).alloc _).below
 clear hV;refine(CR.out _ X1.out).mono ?_;rintro e w2 ⟨rfl,hx⟩;have X2:=hid (X1.out.trans (hx.mono X1.out.size));clear hx X1;go_wp2;refine bodyPost_ret (v:=.tuple #[.slice none 0 0,.int .i64 182]) (by simp[results,Tryz.results13,go_sem]) rfl ⟨rfl,X2.out⟩
end Go.Proofs.YtbiboekhakbnpaaGreatDoor
namespace Go.Proofs.YtbiboekhakbnpaaGreatDoor
open Go Go.RowKit Go.Shelf Go.Maps
theorem nA (v:Value) (d:DF) (sm:Sm d) (hr:d.right=false) (w:World) (h:gN w v d): Calls Tryz.prog 28 #[v] w fun e w'=>e=.returned (.tuple #[.slice none 0 0,.int .i64 182])/\Below w.heap.size w w':=by
 have CR:Hid (∀ W,Below w.heap.size w W->Calls Tryz.prog 21 #[v] W fun e w'=>e=.returned (.bool false)/\Below W.heap.size W w'):=fun W hW=>by
  have:=fY v d W (h.below hW) sm;rwa[hr]at this
 obtain⟨v0,v1,v2,rfl,h0,h1,h2⟩:=h;obtain⟨a0,c0,rfl⟩:=h0.1.form;obtain⟨a1,c1,rfl⟩:=h1.form;obtain⟨a2,c2,rfl⟩:=h2.form;generalize d.cl.length=n0 at*;generalize d.nx.length=n1 at*;generalize d.mr.length=n2 at*;clear h0 h1 h2 sm hr;go_enter Tryz.func28,Tryz.ntmps28;go_wp2_with fail
 refine aw ?_;intro V hV;have X1:Hid (Below w.heap.size w V):=by rw[hV];exact hid ((Ext.refl w).alloc _).below
 clear hV;refine(CR.out _ X1.out).mono ?_;rintro e w2 ⟨rfl,hx⟩;have X2:=hid (X1.out.trans (hx.mono X1.out.size));clear hx X1;go_wp2;refine bodyPost_ret (v:=.tuple #[.slice none 0 0,.int .i64 182]) (by simp[results,Tryz.results28,go_sem]) rfl ⟨rfl,X2.out⟩
theorem Gc (v:Value) (d:DF) (sm:Sm d) (hr:d.right=false) (w:World) (h:gN w v d): Calls Tryz.prog 27 #[v] w fun e w'=>e=.returned (.tuple #[.agg #[.slice none 0 0,.slice none 0 0,.slice none 0 0],.int .i64 182])/\Below w.heap.size w w':=by
 have CR:Hid (∀ W,Below w.heap.size w W->Calls Tryz.prog 28 #[v] W fun e w'=>e=.returned (.tuple #[.slice none 0 0,.int .i64 182])/\Below W.heap.size W w'):=fun W hW=>nA v d sm hr W (h.below hW)
 obtain⟨v0,v1,v2,rfl,h0,h1,h2⟩:=h;obtain⟨a0,c0,rfl⟩:=h0.1.form;obtain⟨a1,c1,rfl⟩:=h1.form;obtain⟨a2,c2,rfl⟩:=h2.form;generalize d.cl.length=n0 at*;generalize d.nx.length=n1 at*;generalize d.mr.length=n2 at*;clear h0 h1 h2 sm hr;go_enter Tryz.func27,Tryz.ntmps27;go_wp2_with fail
 refine aw ?_;intro V hV;have X1:Hid (Below w.heap.size w V):=by rw[hV];exact hid (((Ext.refl w).alloc _).alloc _).below
 have B1:Hid (ak V (w.heap.size+1) #[.slice none 0 0,.slice none 0 0,.slice none 0 0] 31):=by rw[hV];exact hid ((ak.new (w.alloc _) _ _).at (by simp))
 clear hV;refine(CR.out _ X1.out).mono ?_;rintro e w2 ⟨rfl,hx⟩;have X2:=hid (X1.out.trans (hx.mono X1.out.size));have B2:=hid (B1.out.below hx B1.out.lt);clear hx X1 B1;obtain⟨⟨l0,l1,l2⟩,z0,z1,z2⟩:=B2.out.three;go_wp2;refine bC ?_;intro W9 gg;have E9:Hid (ak W9 (w.heap.size+1) #[.slice none 0 0,.slice none 0 0,.slice none 0 0] 31/\aa (· ≠w.heap.size+1) w2 W9):=by
  rw[gg];exact hid ⟨B2.out.tD,kC _ _ _ _ _⟩
 clear gg z0 z1 z2 l0 l1 l2;obtain⟨⟨m0,m1,m2⟩,_⟩:=E9.out.1.three;refine bodyPost_ret (v:=.tuple #[.agg #[.slice none 0 0,.slice none 0 0,.slice none 0 0],.int .i64 182]) (by simp[results,Tryz.results27,go_sem,m0,m1,m2]) rfl ⟨rfl,X2.out.trans (E9.out.2.mono fun x (hx:x<w.heap.size)=>by show x≠w.heap.size+1;omega:aa (· <w.heap.size) w2 W9).below⟩
end Go.Proofs.YtbiboekhakbnpaaGreatDoor
