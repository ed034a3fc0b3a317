/- The law's Made of small steps. Printed by wip/gen/made08.py. -/
import Derived.Test.YtalombmiochpmaaGreatDoorOR26
set_option maxRecDepth 100000
set_option maxHeartbeats 16000000
open Go.Lib (hid)
namespace Go.Proofs.YtalombmiochpmaaGreatDoor
open Go Go.RowKit Go.Shelf Go.Maps
def cJ (w:World) (v:Value) (l:List (Nat×Nat×Nat)):Prop:=(v=.slice none 0 0/\l=[])\/(∃ ad c,v=.slice (some ad) 0 c/\l=[])\/
 ∃ b off c,v=.slice (some ⟨b,off,none⟩) l.length c/\b<w.heap.size/\l.length<=c/\l≠[]/\∀ (i:Nat) (s:Nat×Nat×Nat),l[i]? =some s->s.1<256/\s.2.1<256/\s.2.2<256/\w.cell? ⟨b,off+i*3,none⟩=some (.int .u8 s.1)/\w.cell? ⟨b,off+i*3+1,none⟩=some (.int .u8 s.2.1)/\w.cell? ⟨b,off+i*3+2,none⟩=some (.int .u8 s.2.2)
theorem cJ.below {w w':World} {v:Value} {l:List (Nat×Nat×Nat)} (h:cJ w v l) (hk:Below w.heap.size w w'):cJ w' v l:=by
 rcases h with h | h | ⟨b,off,c,hv,hb,hc,hl,h⟩
 ·exact .inl h
 ·exact .inr (.inl h)
 ·have hcell:∀ j,w'.cell? ⟨b,j,none⟩=w.cell? ⟨b,j,none⟩:=fun j=>(aa.ag hk fun _ h=>h:aa (· <w.heap.size) w w').cell (p:=⟨b,j,none⟩) hb
  refine .inr (.inr ⟨b,off,c,hv,Nat.lt_of_lt_of_le hb hk.size,hc,hl,fun i s hi=>?_⟩);rw[hcell,hcell,hcell];exact h i s hi
theorem Lt {cs:List (Array Value)} {i:Nat} (h:∀ c∈cs,c.size=8) (hi:i<cs.length) (u0 u1 u2 u3 u4 u5 u6 u7:Value): ((((((((bI cs).set (i*8) u0).set (i*8+1) u1).set (i*8+2) u2).set (i*8+3) u3).set (i*8+4) u4).set (i*8+5) u5).set (i*8+6) u6).set (i*8+7) u7=bI (cs.set i #[u0,u1,u2,u3,u4,u5,u6,u7]):=by
 have hlen:=ig h;have h':∀ c∈cs.set i #[u0,u1,u2,u3,u4,u5,u6,u7],c.size=8:=fun c hc=>by
  rcases List.mem_or_eq_of_mem_set hc with hc | rfl
  ·exact h c hc
  ·rfl
 have afw:=ig h';rw[List.length_set]at afw;apply List.ext_getElem?;intro j;rcases Nat.lt_or_ge j (cs.length*8)with hj | hj
 ·obtain⟨q,hq⟩:∃ q,(cs.set i #[u0,u1,u2,u3,u4,u5,u6,u7])[j/8]? =some q:=⟨_,List.getElem?_eq_getElem (by rw[List.length_set];omega)⟩
  have hs:=h' _ (List.mem_of_getElem? hq);obtain⟨u,hu⟩:∃ u,q[j%8]? =some u:=⟨_,Array.getElem?_eq_getElem (show j%8<q.size by omega)⟩;have hr:=jn h' hq hu;rw[show j/8*8+j%8=j by omega]at hr;rw[hr];rw[List.getElem?_set]at hq;by_cases he:i=j/8
  ·rw[if_pos he,if_pos hi]at hq
   cases hq
   have hm:j%8=0\/j%8=1\/j%8=2\/j%8=3\/j%8=4\/j%8=5\/j%8=6\/j%8=7:=by omega
   simp only[List.getElem?_set,List.length_set,hlen];rcases hm with hm | hm | hm | hm | hm | hm | hm | hm<;>rw[hm]at hu<;>simp at hu<;>subst hu<;>(repeat (first | rw[if_neg (by omega)] | rw[if_pos (by omega)]))
  ·rw[if_neg he]at hq
   have hr2:=jn h hq hu;rw[show j/8*8+j%8=j by omega]at hr2;simp only[List.getElem?_set]
   repeat rw[if_neg (by omega)]
   exact hr2
 ·rw[List.getElem?_eq_none (by simp only[List.length_set];omega),List.getElem?_eq_none (by omega)]
theorem cd.fresh {base:Nat} {w w':World} {v':Value} {l:List RX} {cs:List (Array Value)} {k:Nat} {c:Array Value} {t:RX} (hk:k<=l.length) (h1:cs.length=l.length) (h3:∀ c∈cs,c.size=8/\∀ u∈c.toList,u.oneCell'=true) (h4:∀ (i:Nat) (c:Array Value) (t:RX),cs[i]? =some c->l[i]? =some t->aL (fun x=>base<=x/\x<w.heap.size) w (.agg c) t) (g3:c.size=8/\∀ u∈c.toList,u.oneCell'=true) (g4:aL (fun x=>base<=x/\x<w.heap.size) w (.agg c) t) (ho:w'.ownsRow base 62 8 v' (k+1) (bI (cs.take k)++c.toList)) (hx:Below w.heap.size w w') (hv:v'.ownBlock=some w.heap.size):cd base w' v' (l.take k++ [t]):=by
 have hlk:(l.take k++ [t]).length=k+1:=by rw[List.length_append,List.length_take,Nat.min_eq_left hk];rfl
 have hck:(cs.take k).length=k:=by rw[List.length_take];omega
 have key:∀ (c:Array Value) (t:RX),aL (fun x=>base<=x/\x<w.heap.size) w (.agg c) t->aL (fun x=>base<=x/\x<w'.heap.size/\v'.ownBlock≠some x) w' (.agg c) t:=fun c t h=>
  (h.keeps (aa.ag hx fun _ h=>h:aa (· <w.heap.size) w w') fun _ h=>h.2).mono fun x h=>⟨h.1,Nat.lt_of_lt_of_le h.2 hx.size,fun e=>by rw[hv]at e;cases e;exact Nat.lt_irrefl _ h.2⟩
 refine⟨cs.take k++ [c],by rw[hlk,List.length_append,hck];rfl,?_,fun x hx=>?_,fun i x y hi hy=>?_⟩
 ·rw[hlk,nM,show bI [c]=c.toList by unfold bI;simp];exact ho
 ·rcases List.mem_append.1 hx with hx | hx
  ·exact h3 x (List.mem_of_mem_take hx)
  ·simp at hx;rw[hx];exact g3
 ·rcases Nat.lt_or_ge i k with hik | hik
  ·rw[List.getElem?_append_left (by omega),List.getElem?_take,if_pos hik]at hi
   rw[List.getElem?_append_left (by rw[List.length_take];omega),List.getElem?_take,if_pos hik]at hy;exact key x y (h4 i x y hi hy)
  ·have hl:=(List.getElem?_eq_some_iff.1 hy).1
   rw[hlk]at hl;obtain rfl:i=k:=by omega
   rw[List.getElem?_append_right (by omega),hck,Nat.sub_self]at hi;rw[List.getElem?_append_right (by rw[List.length_take];omega),List.length_take,Nat.min_eq_left hk,Nat.sub_self]at hy;cases hi;cases hy;exact key _ _ g4
theorem cd.turned {base g cap:Nat} {w:World} {l:List RX} {cs:List (Array Value)} {i:Nat} {t:RX} {u0 u1 u2 u3 u4 u5 u6 u7:Value} (hi:i<l.length) (h1:cs.length=l.length) (h2:w.ownsRow base 62 8 (.slice (some ⟨g,0,none⟩) l.length cap) l.length (bI cs)) (h3:∀ c∈cs,c.size=8/\∀ u∈c.toList,u.oneCell'=true) (h4:∀ (i:Nat) (c:Array Value) (t:RX),cs[i]? =some c->l[i]? =some t->aL (fun x=>base<=x/\x<w.heap.size/\x≠g) w (.agg c) t) (g3:∀ u∈ [u0,u1,u2,u3,u4,u5,u6,u7],u.oneCell'=true) (g4:aL (fun x=>base<=x/\x<w.heap.size/\x≠g) w (.agg #[u0,u1,u2,u3,u4,u5,u6,u7]) t): cd base ((((((((w.setCell ⟨g,i*8,none⟩ u0).setCell ⟨g,i*8+1,none⟩ u1).setCell ⟨g,i*8+2,none⟩ u2).setCell ⟨g,i*8+3,none⟩ u3).setCell ⟨g,i*8+4,none⟩ u4).setCell ⟨g,i*8+5,none⟩ u5).setCell ⟨g,i*8+6,none⟩ u6).setCell ⟨g,i*8+7,none⟩ u7) (.slice (some ⟨g,0,none⟩) l.length cap) (l.set i t):=by
 have hk:aa (· ≠g) w ((((((((w.setCell ⟨g,i*8,none⟩ u0).setCell ⟨g,i*8+1,none⟩ u1).setCell ⟨g,i*8+2,none⟩ u2).setCell ⟨g,i*8+3,none⟩ u3).setCell ⟨g,i*8+4,none⟩ u4).setCell ⟨g,i*8+5,none⟩ u5).setCell ⟨g,i*8+6,none⟩ u6).setCell ⟨g,i*8+7,none⟩ u7):=
  ((((((((aa.refl _ _).setCell (fun e=>e rfl) _).setCell (fun e=>e rfl) _).setCell (fun e=>e rfl) _).setCell (fun e=>e rfl) _).setCell (fun e=>e rfl) _).setCell (fun e=>e rfl) _).setCell (fun e=>e rfl) _).setCell (fun e=>e rfl) _
 have key:∀ (c:Array Value) (t:RX),aL (fun x=>base<=x/\x<w.heap.size/\x≠g) w (.agg c) t->aL (fun x=>base<=x/\x<((((((((w.setCell ⟨g,i*8,none⟩ u0).setCell ⟨g,i*8+1,none⟩ u1).setCell ⟨g,i*8+2,none⟩ u2).setCell ⟨g,i*8+3,none⟩ u3).setCell ⟨g,i*8+4,none⟩ u4).setCell ⟨g,i*8+5,none⟩ u5).setCell ⟨g,i*8+6,none⟩ u6).setCell ⟨g,i*8+7,none⟩ u7).heap.size/\(Value.slice (some ⟨g,0,none⟩) l.length cap).ownBlock≠some x) _ (.agg c) t:=fun c t h=>
  (h.keeps hk fun x hx=>hx.2.2).mono fun x hx=>⟨hx.1,Nat.lt_of_lt_of_le hx.2.1 hk.size,fun e=>by cases e;exact hx.2.2 rfl⟩
 have r0:=(h2.stored (i*8) u0).1;have r1:=(r0.stored (i*8+1) u1).1;have r2:=(r1.stored (i*8+2) u2).1;have r3:=(r2.stored (i*8+3) u3).1;have r4:=(r3.stored (i*8+4) u4).1;have r5:=(r4.stored (i*8+5) u5).1;have r6:=(r5.stored (i*8+6) u6).1;have r7:=(r6.stored (i*8+7) u7).1;rw[Lt (fun c hc=>(h3 c hc).1) (by omega)]at r7;refine⟨cs.set i #[u0,u1,u2,u3,u4,u5,u6,u7],by simp[h1],by rw[List.length_set];exact r7,fun c hc=>?_,fun j c x hj hx=>?_⟩
 ·rcases List.mem_or_eq_of_mem_set hc with hc | rfl
  ·exact h3 c hc
  ·exact⟨rfl,g3⟩
 ·rw[List.getElem?_set]at hj hx
  by_cases e:i=j
  ·rw[if_pos e]at hj hx
   subst e;rw[if_pos (by omega)]at hj;rw[if_pos hi]at hx;cases hj;cases hx;exact key _ _ g4
  ·rw[if_neg e]at hj hx
   exact key _ _ (h4 j c x hj hx)
theorem Lu {l:List (Nat×Nat×Nat)} {k:Nat} {s:Nat×Nat×Nat} (h:l[k]? =some s):jQ (l.take (k+1))=(jQ (l.take k)).step s:=by unfold jQ;rw[List.take_add_one,h,List.foldl_append];rfl
def Fu.tree (base:Nat) (t:RX):aH (Move false (fun _=>False)) where
 P:=fun v=>∃ p c,v=.agg (au t.kind t.set t.mn t.mx (.slice p t.subs.length c))
 H:=fun v W=>aL (fun x=>base<=x/\x<W.heap.size) W v t
 oI:=.agg (au t.kind t.set t.mn t.mx (.slice none t.subs.length 0))
 pw:=⟨none,0,rfl⟩
 st:=fun _ _ _ hm _ h=>(h.keeps (aa.ag hm.below fun _ h=>h) fun _ hx=>hx.2).mono fun _ hx=>⟨hx.1,Nat.lt_of_lt_of_le hx.2 hm.size⟩
def Fu.box (base:Nat) (t:RX):aH (Move false (fun _=>False)) where
 P:=fun v=>∃ b,v=.slice (some ⟨b,0,none⟩) 1 1
 H:=fun v W=>∀ b,v=.slice (some ⟨b,0,none⟩) 1 1->∃ p c,ah W b (au t.kind t.set t.mn t.mx (.slice p t.subs.length c)) 62/\aL (fun x=>base<=x/\x<W.heap.size) W (.agg (au t.kind t.set t.mn t.mx (.slice p t.subs.length c))) t
 oI:=.slice (some ⟨0,0,none⟩) 1 1
 pw:=⟨0,rfl⟩
 st:=fun _ _ _ hm _ h b e=>by
  obtain⟨p,c,h1,h2⟩:=h b e;exact⟨p,c,h1.below hm.below h1.lt,(h2.keeps (aa.ag hm.below fun _ h=>h) fun _ hx=>hx.2).mono fun _ hx=>⟨hx.1,Nat.lt_of_lt_of_le hx.2 hm.size⟩⟩
theorem cd.jM {base:Nat} {w:World} {a:Option Addr} {n cap:Nat} {l:List RX} (h:cd base w (.slice a n cap) l) {i:Nat} {t:RX} (hi:l[i]? =some t): ∃ g p' c',a=some ⟨g,0,none⟩/\n<=cap/\base<=g/\g<w.heap.size/\w.rangeAt g (i*8) (au t.kind t.set t.mn t.mx (.slice p' t.subs.length c')).toList/\aL (fun x=>base<=x/\x<w.heap.size/\x≠g) w (.agg (au t.kind t.set t.mn t.mx (.slice p' t.subs.length c'))) t:=by
 obtain⟨g,p',c',e,_,h1,h2,h3,⟨f0,f1,f2,f3,f4,f5,f6,f7⟩,hr⟩:=h.elem hi;refine⟨g,p',c',e,h1,h2,h3,fun j v hj=>?_,hr⟩;have hl:=(List.getElem?_eq_some_iff.1 hj).1;have h8:(au t.kind t.set t.mn t.mx (.slice p' t.subs.length c')).toList.length=8:=rfl;rw[h8]at hl;have hc:j=0\/j=1\/j=2\/j=3\/j=4\/j=5\/j=6\/j=7:=by omega
 rcases hc with rfl | rfl | rfl | rfl | rfl | rfl | rfl | rfl<;>cases hj<;>assumption
theorem wG {cs:List (Array Value)} {q j:Nat} {u:Value} (h:(bI (cs.take q))[j]? =some u):(bI cs)[j]? =some u:=by
 have e:bI cs=bI (cs.take q)++bI (cs.drop q):=by rw[<-nM,List.take_append_drop]
 rw[e,List.getElem?_append_left (List.getElem?_eq_some_iff.1 h).1];exact h
theorem zw {P:Program} {ops:Array Oper} {rest:List Oper} {op:Oper} {a:Act} {w:World} {Q:Exit->Act->World->Prop} (hw:Region.wanted op (yielded ops a.tmps)=true) (ty:TypeId) (x:Operand) (ho:op.op=.load ty x) (b o:Nat) (hx:a.eval x=.pointer (some ⟨b,o,none⟩)) (cs:Array Value) (d:TypeDesc) (hc:w.rangeAt b o cs.toList) (hu:P.underlying ty=some d) (hd:d.isRow=true) (hi:(P.info? ty).map (·.size)=some cs.size) (h:wpList P ops Q rest (a.put op.dst (.agg cs)) w):wpList P ops Q (op::rest) a w:=
 pH hw fun _ hK=>wp_load_mid ty x ho b o hx cs.toList d hc hu hd (by rw[Array.length_toList];exact hi) (hK _ _ h)
theorem Xg (a b:Int):(if(if a<b then b else a)<1 then(1:Int)else if a<b then b else a)=max (max a b) 1:=by
 by_cases h:a<b
 ·simp only[h,if_true];split<;>omega
 ·simp only[h,if_false];split<;>omega
theorem Pq (a b:Nat):1<=jo a b/\jo a b<=3/\max (max (fH a:Int) (kM a b)) 1=(jo a b:Int):=by unfold jo kM fH;split<;>omega
theorem tU {P:Program} {ops:Array Oper} {rest:List Oper} {o:Oper} {a:Act} {w:World} {Q:Exit->Act->World->Prop} {s x:Operand} {t t':TypeId} (_:o.op=.call {callee:=.builtin .append,args:= #[s,x],argTypes:= #[t,t']}) (h:Hid (wpList P ops Q (o::rest) a w)):wpList P ops Q (o::rest) a w:=h.out
theorem cd.push {base:Nat} {w w':World} {v v':Value} {l:List RX} {t:RX} {c:Array Value} {cs:List (Array Value)} (h1:cs.length=l.length) (h3:∀ c∈cs,c.size=8/\∀ u∈c.toList,u.oneCell'=true) (h4:∀ (i:Nat) (c:Array Value) (t:RX),cs[i]? =some c->l[i]? =some t->aL (fun x=>base<=x/\x<w.heap.size/\v.ownBlock≠some x) w (.agg c) t) (g3:c.size=8/\∀ u∈c.toList,u.oneCell'=true) (g4:aL (fun x=>base<=x/\x<w.heap.size/\v.ownBlock≠some x) w (.agg c) t) (ho:w'.ownsRow base 62 8 v' (l.length+1) (bI cs++c.toList)) (hg:w.grownBy w' v.ownBlock) (lY:v'.ownBlock=v.ownBlock\/v'.ownBlock=some w.heap.size):cd base w' v' (l++ [t]):=by
 refine cd.app (cs2:=[c]) h1 h3 h4 rfl (fun x hx=>by simp at hx;rw[hx];exact g3) (fun i x y hi hy=>?_) (by rw[show bI [c]=c.toList by unfold bI;simp];exact ho) hg lY;have hl:=(List.getElem?_eq_some_iff.1 hi).1;obtain rfl:i=0:=by simpa using hl
 cases hi
 cases hy
 exact g4
structure afx (P:Prop) where
 A:Prop
 B:Prop
 C:Prop
 D:Prop
 E:Prop
 G:Prop
 H:Prop
 Z:Prop
 out:A->B->C->D->E->G->H->Z->P
def eN (b off c:Nat) (l:List (Nat×Nat×Nat)) (w:World) (hb:b<w.heap.size) (hc:l.length<=c) (lL:l.length<=1000000000000000) (hS:∀ (i:Nat) (s:Nat×Nat×Nat),l[i]? =some s->s.1<256/\s.2.1<256/\s.2.2<256/\w.cell? ⟨b,off+i*3,none⟩=some (.int .u8 s.1)/\w.cell? ⟨b,off+i*3+1,none⟩=some (.int .u8 s.2.1)/\w.cell? ⟨b,off+i*3+2,none⟩=some (.int .u8 s.2.2)): afx (Calls Tryz.prog 24 #[.slice (some ⟨b,off,none⟩) l.length c] w fun e w'=>∃ u,e=.returned u/\aL (· <w'.heap.size) w' u (dc l)/\Below w.heap.size w w'):=by
 have HS:=hid hS;clear hS;apply afx.mk;case out=>
  intro gA gB gC gD gE gG gH gZ;obtain⟨iN,xJ,j3,j4,j5⟩:=info_parts Tryz.YT;obtain⟨R,hR⟩:∃ R,R=dc l:=⟨_,rfl⟩;rw[<-hR];have HR:=hid hR;obtain⟨n,hn⟩:∃ n,n=l.length:=⟨_,rfl⟩;obtain⟨N,hN⟩:∃ N,N=min n 25:=⟨_,rfl⟩;have il:min (n:Int) 25=(N:Int):=by omega
  have JI:N<=n:=by omega
  have rF:N<=25:=by omega
  rw[<-hn]at hc lL ⊢;have JK:N<=c:=by omega
  have vu:=hid hn;have HN:=hid hN;clear hR hn hN;go_enter Tryz.func24,Tryz.ntmps24;go_wp2;refine aw ?_;intro V hV;have R0:Hid (ah V w.heap.size gN 62):=by rw[hV];exact hid (ah.new _ _ _)
  have X0:Hid (Ext w V):=by rw[hV];exact hid ((Ext.refl w).alloc _)
  have uE:Hid (V.heap.size=w.heap.size+1):=hid (by rw[hV];simp);clear hV;go_loopw [3,4,5,22] (fun u x y i wr=>∃ k:Nat,k<=N/\i=.int .i64 k/\x=.int .i64 (jQ (l.take k)).oC/\y=.int .i64 (jQ (l.take k)).Ap/\cd V.heap.size wr u (jQ (l.take k)).all/\aa (· <V.heap.size) V wr) (fun _ _ _ i _=>N-(intOf i).toNat);case atStart=>exact⟨0,by omega,rfl,rfl,rfl,cd.nil _ _,aa.refl _ _⟩
  case round=>
   obtain⟨k,hk,rfl,rfl,rfl,hrow,hx⟩:=hrel;obtain⟨wo,rfl⟩:∃ wo:World,wo=wr:=⟨_,rfl⟩;have HX:=hid hx;clear hx;by_cases hlt:k<N
   ·have gz:(k:Int)<N:=by omega
    obtain⟨⟨s0,s1,s2⟩,hsk⟩:∃ s,l[k]? =some s:=⟨_,List.getElem?_eq_getElem (by have:=vu.out;omega)⟩;have hstep:=Lu hsk;have ou:=zf (l.take k);obtain⟨PP,hPP⟩:∃ PP,PP=jQ (l.take k):=⟨_,rfl⟩;rw[<-hPP]at hstep ou hrow ⊢;have hlk:(l.take k).length<=25:=by rw[List.length_take];omega
    obtain⟨Lv,JL,Lx,c0,c1,c2⟩:=HS.out k _ hsk;dsimp only at Lv JL Lx c0 c1 c2;have wc:∀ (o:Nat) (u:Value),w.cell? ⟨b,o,none⟩=some u->wo.cell? ⟨b,o,none⟩=some u:=fun o u h=>(HX.out.cell (p:=⟨b,o,none⟩) (by have:=uE.out;show b<V.heap.size;omega)).trans ((X0.out.cell (p:=⟨b,o,none⟩) hb).trans h)
    replace c0:=wc _ _ c0;replace c1:=wc _ _ c1;replace c2:=wc _ _ c2;obtain⟨ru,rc,rfl⟩:=hrow.form;obtain⟨m,hm⟩:∃ m,m=PP.all.length:=⟨_,rfl⟩;have tV:m<=25:=by have:=ou.len;omega
    obtain⟨uf,huf⟩:∃ x,x=PP.oC:=⟨_,rfl⟩;obtain⟨gr,hgr⟩:∃ x,x=PP.Ap:=⟨_,rfl⟩;have kS:uf<=16:=by have:=ou.Df;omega
    have HST:=hid hstep;have oD:=hid ou;have HM:=hid hm;have xm:=hid huf;have sD:=hid hgr;have Gn:=hid hlk;rw[<-hm]at hrow ⊢;rw[<-huf, <-hgr];have gY:=hid hrow;clear hstep ou hm huf hgr hlk hrow hsk hPP wc;go_upto_region 6 with fail
    refine aw ?_;intro W1 hW1;have B1:Hid (ah W1 wo.heap.size #[.int .u8 s0,.int .u8 s1,.int .u8 s2] 105):=by rw[hW1];exact hid (ah.new _ _ _)
    have E1:Hid (Ext wo W1):=by rw[hW1];exact hid ((Ext.refl wo).alloc _)
    clear hW1 c0 c1 c2;have eF:=hid (gY.out.below E1.out.below);have lI:Hid (aa (· <V.heap.size) V W1):=hid (HX.out.tr (E1.out.keeps.mono fun x (hx:x<V.heap.size)=>Nat.lt_of_lt_of_le hx HX.out.size));have d0:W1.cell? ⟨wo.heap.size,0,none⟩=some (.int .u8 s0):=B1.out.cell 0;have d1:W1.cell? ⟨wo.heap.size,1,none⟩=some (.int .u8 s1):=B1.out.cell 1;have d2:W1.cell? ⟨wo.heap.size,2,none⟩=some (.int .u8 s2):=B1.out.cell 2;obtain⟨kd,hkd⟩:∃ kd,kd=s0%12:=⟨_,rfl⟩;have MZ:Int.tmod (s0:Int) 12=(kd:Int):=by rw[Int.tmod_eq_emod_of_nonneg (by omega)];omega
    have lU:kd<12:=by omega
    have hbase:V.heap.size<=W1.heap.size:=lI.out.size;have Bc:=hid hkd;clear hkd gY E1 HX;by_cases hA:kd<4
    ·skip --CA
     rename_i zx zy zz Dp Dq Dr Dt Du;revert iN xJ j3 j4 j5 R HR n lL hc N il JI rF JK vu HN zx zy zz V R0 X0 uE u7 u8 u9 u10 u11 u12 u23 u24 u25 u26 u27 u28 u29 u30 u31 u32 u33 u34 u35 u36 u37 u38 u39 u40 u41 u42 u43 u44 u45 u46 u47 u48 u49 u50 u51 u52 u53 u54 u55 u56 u57 u58 u59 u60 u61 u62 u63 u64 u65 u66 u67 u68 u69 u70 u71 u72 u73 u74 u75 u76 u77 u78 u79 u80 u81 u82 u83 u84 u85 u86 u87 u88 u89 u90 u91 u92 u93 u94 u95 u96 u97 u98 u99 u100 u101 u102 u103 u104 u105 u106 u107 u108 u109 u110 u111 u112 u113 u114 u115 u116 u117 u118 u119 u120 u121 u122 u123 u124 u125 u126 u127 u128 u129 u130 u131 u132 u133 u134 u135 u136 u137 u138 u139 u140 u141 u142 u143 u144 u145 u146 u147 u148 u149 u150 u151 u152 u153 u154 u155 u156 u157 u158 u159 u160 u161 u162 u163 u164 u165 u166 u167 u168 u169 u170 u171 u172 u173 u174 u175 u176 u177 u178 u179 u180 u181 u182 u183 u184 k hk wo hlt gz s0 s1 s2 PP Lv JL Lx ru rc m tV uf gr kS HST oD HM xm sD Gn Dp Dq Dr Dt Du W1 B1 eF lI d0 d1 d2 kd MZ lU hbase Bc hA;exact gA
    ·by_cases hB:kd=4
     ·skip --CB
      rename_i zx zy zz Dp Dq Dr Dt Du;revert iN xJ j3 j4 j5 R HR n lL hc N il JI rF JK vu HN zx zy zz V R0 X0 uE u7 u8 u9 u10 u11 u12 u23 u24 u25 u26 u27 u28 u29 u30 u31 u32 u33 u34 u35 u36 u37 u38 u39 u40 u41 u42 u43 u44 u45 u46 u47 u48 u49 u50 u51 u52 u53 u54 u55 u56 u57 u58 u59 u60 u61 u62 u63 u64 u65 u66 u67 u68 u69 u70 u71 u72 u73 u74 u75 u76 u77 u78 u79 u80 u81 u82 u83 u84 u85 u86 u87 u88 u89 u90 u91 u92 u93 u94 u95 u96 u97 u98 u99 u100 u101 u102 u103 u104 u105 u106 u107 u108 u109 u110 u111 u112 u113 u114 u115 u116 u117 u118 u119 u120 u121 u122 u123 u124 u125 u126 u127 u128 u129 u130 u131 u132 u133 u134 u135 u136 u137 u138 u139 u140 u141 u142 u143 u144 u145 u146 u147 u148 u149 u150 u151 u152 u153 u154 u155 u156 u157 u158 u159 u160 u161 u162 u163 u164 u165 u166 u167 u168 u169 u170 u171 u172 u173 u174 u175 u176 u177 u178 u179 u180 u181 u182 u183 u184 k hk wo hlt gz s0 s1 s2 PP Lv JL Lx ru rc m tV uf gr kS HST oD HM xm sD Gn Dp Dq Dr Dt Du W1 B1 eF lI d0 d1 d2 kd MZ lU hbase Bc hA hB;exact gB
     ·by_cases hC:kd<7/\1<m
      ·skip --CC
       rename_i zx zy zz Dp Dq Dr Dt Du;revert iN xJ j3 j4 j5 R HR n lL hc N il JI rF JK vu HN zx zy zz V R0 X0 uE u7 u8 u9 u10 u11 u12 u23 u24 u25 u26 u27 u28 u29 u30 u31 u32 u33 u34 u35 u36 u37 u38 u39 u40 u41 u42 u43 u44 u45 u46 u47 u48 u49 u50 u51 u52 u53 u54 u55 u56 u57 u58 u59 u60 u61 u62 u63 u64 u65 u66 u67 u68 u69 u70 u71 u72 u73 u74 u75 u76 u77 u78 u79 u80 u81 u82 u83 u84 u85 u86 u87 u88 u89 u90 u91 u92 u93 u94 u95 u96 u97 u98 u99 u100 u101 u102 u103 u104 u105 u106 u107 u108 u109 u110 u111 u112 u113 u114 u115 u116 u117 u118 u119 u120 u121 u122 u123 u124 u125 u126 u127 u128 u129 u130 u131 u132 u133 u134 u135 u136 u137 u138 u139 u140 u141 u142 u143 u144 u145 u146 u147 u148 u149 u150 u151 u152 u153 u154 u155 u156 u157 u158 u159 u160 u161 u162 u163 u164 u165 u166 u167 u168 u169 u170 u171 u172 u173 u174 u175 u176 u177 u178 u179 u180 u181 u182 u183 u184 k hk wo hlt gz s0 s1 s2 PP Lv JL Lx ru rc m tV uf gr kS HST oD HM xm sD Gn Dp Dq Dr Dt Du W1 B1 eF lI d0 d1 d2 kd MZ lU hbase Bc hA hB hC;exact gC
      ·by_cases hD:kd<9/\1<m
       ·skip --CD
        rename_i zx zy zz Dp Dq Dr Dt Du;revert iN xJ j3 j4 j5 R HR n lL hc N il JI rF JK vu HN zx zy zz V R0 X0 uE u7 u8 u9 u10 u11 u12 u23 u24 u25 u26 u27 u28 u29 u30 u31 u32 u33 u34 u35 u36 u37 u38 u39 u40 u41 u42 u43 u44 u45 u46 u47 u48 u49 u50 u51 u52 u53 u54 u55 u56 u57 u58 u59 u60 u61 u62 u63 u64 u65 u66 u67 u68 u69 u70 u71 u72 u73 u74 u75 u76 u77 u78 u79 u80 u81 u82 u83 u84 u85 u86 u87 u88 u89 u90 u91 u92 u93 u94 u95 u96 u97 u98 u99 u100 u101 u102 u103 u104 u105 u106 u107 u108 u109 u110 u111 u112 u113 u114 u115 u116 u117 u118 u119 u120 u121 u122 u123 u124 u125 u126 u127 u128 u129 u130 u131 u132 u133 u134 u135 u136 u137 u138 u139 u140 u141 u142 u143 u144 u145 u146 u147 u148 u149 u150 u151 u152 u153 u154 u155 u156 u157 u158 u159 u160 u161 u162 u163 u164 u165 u166 u167 u168 u169 u170 u171 u172 u173 u174 u175 u176 u177 u178 u179 u180 u181 u182 u183 u184 k hk wo hlt gz s0 s1 s2 PP Lv JL Lx ru rc m tV uf gr kS HST oD HM xm sD Gn Dp Dq Dr Dt Du W1 B1 eF lI d0 d1 d2 kd MZ lU hbase Bc hA hB hC hD;exact gD
       ·by_cases hE:kd=9/\0<m/\gr<9
        ·skip --CE
         rename_i zx zy zz Dp Dq Dr Dt Du;revert iN xJ j3 j4 j5 R HR n lL hc N il JI rF JK vu HN zx zy zz V R0 X0 uE u7 u8 u9 u10 u11 u12 u23 u24 u25 u26 u27 u28 u29 u30 u31 u32 u33 u34 u35 u36 u37 u38 u39 u40 u41 u42 u43 u44 u45 u46 u47 u48 u49 u50 u51 u52 u53 u54 u55 u56 u57 u58 u59 u60 u61 u62 u63 u64 u65 u66 u67 u68 u69 u70 u71 u72 u73 u74 u75 u76 u77 u78 u79 u80 u81 u82 u83 u84 u85 u86 u87 u88 u89 u90 u91 u92 u93 u94 u95 u96 u97 u98 u99 u100 u101 u102 u103 u104 u105 u106 u107 u108 u109 u110 u111 u112 u113 u114 u115 u116 u117 u118 u119 u120 u121 u122 u123 u124 u125 u126 u127 u128 u129 u130 u131 u132 u133 u134 u135 u136 u137 u138 u139 u140 u141 u142 u143 u144 u145 u146 u147 u148 u149 u150 u151 u152 u153 u154 u155 u156 u157 u158 u159 u160 u161 u162 u163 u164 u165 u166 u167 u168 u169 u170 u171 u172 u173 u174 u175 u176 u177 u178 u179 u180 u181 u182 u183 u184 k hk wo hlt gz s0 s1 s2 PP Lv JL Lx ru rc m tV uf gr kS HST oD HM xm sD Gn Dp Dq Dr Dt Du W1 B1 eF lI d0 d1 d2 kd MZ lU hbase Bc hA hB hC hD hE;exact gE
        ·by_cases hG:9<kd/\0<m
         ·skip --CG
          rename_i zx zy zz Dp Dq Dr Dt Du;revert iN xJ j3 j4 j5 R HR n lL hc N il JI rF JK vu HN zx zy zz V R0 X0 uE u7 u8 u9 u10 u11 u12 u23 u24 u25 u26 u27 u28 u29 u30 u31 u32 u33 u34 u35 u36 u37 u38 u39 u40 u41 u42 u43 u44 u45 u46 u47 u48 u49 u50 u51 u52 u53 u54 u55 u56 u57 u58 u59 u60 u61 u62 u63 u64 u65 u66 u67 u68 u69 u70 u71 u72 u73 u74 u75 u76 u77 u78 u79 u80 u81 u82 u83 u84 u85 u86 u87 u88 u89 u90 u91 u92 u93 u94 u95 u96 u97 u98 u99 u100 u101 u102 u103 u104 u105 u106 u107 u108 u109 u110 u111 u112 u113 u114 u115 u116 u117 u118 u119 u120 u121 u122 u123 u124 u125 u126 u127 u128 u129 u130 u131 u132 u133 u134 u135 u136 u137 u138 u139 u140 u141 u142 u143 u144 u145 u146 u147 u148 u149 u150 u151 u152 u153 u154 u155 u156 u157 u158 u159 u160 u161 u162 u163 u164 u165 u166 u167 u168 u169 u170 u171 u172 u173 u174 u175 u176 u177 u178 u179 u180 u181 u182 u183 u184 k hk wo hlt gz s0 s1 s2 PP Lv JL Lx ru rc m tV uf gr kS HST oD HM xm sD Gn Dp Dq Dr Dt Du W1 B1 eF lI d0 d1 d2 kd MZ lU hbase Bc hA hB hC hD hE hG;exact gG
         ·have IM:PP.step (s0,s1,s2)=PP:=by
           unfold dH.step;dsimp only;rw[<-Bc.out, <-HM.out, <-sD.out,if_neg hA,if_neg hB,if_neg hC,if_neg hD,if_neg hE,if_neg (fun h=>hG ⟨h.1,h.2.1⟩)]
          have mA:=hid IM;clear IM;have a1:¬ ((kd:Int)<4):=by omega
          have a2:((kd:Int)==4)=false:=by simp;omega
          rename_i zx zy zz Dp Dq Dr Dt Du;revert iN xJ j3 j4 j5 R HR n lL hc N il JI rF JK vu HN zx zy zz V R0 X0 uE u7 u8 u9 u10 u11 u12 u23 u24 u25 u26 u27 u28 u29 u30 u31 u32 u33 u34 u35 u36 u37 u38 u39 u40 u41 u42 u43 u44 u45 u46 u47 u48 u49 u50 u51 u52 u53 u54 u55 u56 u57 u58 u59 u60 u61 u62 u63 u64 u65 u66 u67 u68 u69 u70 u71 u72 u73 u74 u75 u76 u77 u78 u79 u80 u81 u82 u83 u84 u85 u86 u87 u88 u89 u90 u91 u92 u93 u94 u95 u96 u97 u98 u99 u100 u101 u102 u103 u104 u105 u106 u107 u108 u109 u110 u111 u112 u113 u114 u115 u116 u117 u118 u119 u120 u121 u122 u123 u124 u125 u126 u127 u128 u129 u130 u131 u132 u133 u134 u135 u136 u137 u138 u139 u140 u141 u142 u143 u144 u145 u146 u147 u148 u149 u150 u151 u152 u153 u154 u155 u156 u157 u158 u159 u160 u161 u162 u163 u164 u165 u166 u167 u168 u169 u170 u171 u172 u173 u174 u175 u176 u177 u178 u179 u180 u181 u182 u183 u184 k hk wo hlt gz s0 s1 s2 PP Lv JL Lx ru rc m tV uf gr kS HST oD HM xm sD Gn Dp Dq Dr Dt Du W1 B1 eF lI d0 d1 d2 kd MZ lU hbase Bc hA hB hC hD hE hG mA a1 a2;exact gH
   ·obtain rfl:k=N:=by omega
    have KD:¬ ((k:Int)<k):=by omega
    rename_i zx zy zz;revert iN xJ j3 j4 j5 R HR n lL hc vu zx zy zz V R0 X0 uE u3 u7 u8 u9 u10 u11 u12 u23 u24 u25 u26 u27 u28 u29 u30 u31 u32 u33 u34 u35 u36 u37 u38 u39 u40 u41 u42 u43 u44 u45 u46 u47 u48 u49 u50 u51 u52 u53 u54 u55 u56 u57 u58 u59 u60 u61 u62 u63 u64 u65 u66 u67 u68 u69 u70 u71 u72 u73 u74 u75 u76 u77 u78 u79 u80 u81 u82 u83 u84 u85 u86 u87 u88 u89 u90 u91 u92 u93 u94 u95 u96 u97 u98 u99 u100 u101 u102 u103 u104 u105 u106 u107 u108 u109 u110 u111 u112 u113 u114 u115 u116 u117 u118 u119 u120 u121 u122 u123 u124 u125 u126 u127 u128 u129 u130 u131 u132 u133 u134 u135 u136 u137 u138 u139 u140 u141 u142 u143 u144 u145 u146 u147 u148 u149 u150 u151 u152 u153 u154 u155 u156 u157 u158 u159 u160 u161 u162 u163 u164 u165 u166 u167 u168 u169 u170 u171 u172 u173 u174 u175 u176 u177 u178 u179 u180 u181 u182 u183 u184 k wo hrow HX il JI rF JK HN hk hlt KD;exact gZ
end Go.Proofs.YtalombmiochpmaaGreatDoor
