/- The law's theirs: an automaton for the reference. -/
import Derived.Test.YtbiboekhakbnpaaGreatDoorOF07
import Derived.Laws.EntriesVeiled
import Derived.Test.YtbiboekhakbnpaaGreatDoorRows
set_option maxRecDepth 100000
set_option maxHeartbeats 16000000
open Go.Lib (hid)
namespace Go.Proofs.YtbiboekhakbnpaaGreatDoor
open Go Go.RowKit Go.Shelf Go.Maps
def aO.oll (base:Nat) (ll:List (List Int)):aO (Move false (fun _=>False)) where
 P:=fun v=>∃ a c,v=.slice a ll.length c
 H:=fun v W=>aC base W v ll
 jX:=.slice none ll.length 0
 pw:=⟨none,0,rfl⟩
 st:=fun _ _ _ hm _ h=>h.below hm.below
theorem ak.three {w:World} {b:Nat} {x y z:Value} {t:TypeId} (h:ak w b #[x,y,z] t):(w.cell? ⟨b,0,none⟩=some x/\w.cell? ⟨b,1,none⟩=some y/\w.cell? ⟨b,2,none⟩=some z)/\w.frozen? ⟨b,0,none⟩=false/\w.frozen? ⟨b,1,none⟩=false/\w.frozen? ⟨b,2,none⟩=false:=
 ⟨⟨h.cell 0,h.cell 1,h.cell 2⟩,h.frozen 0,h.frozen 1,h.frozen 2⟩
theorem ak.tD {w:World} {b:Nat} {x y z x' y' z':Value} {t:TypeId} (h:ak w b #[x,y,z] t):ak (((w.setCell ⟨b,0,none⟩ x').setCell ⟨b,1,none⟩ y').setCell ⟨b,2,none⟩ z') b #[x',y',z'] t:=((h.set 0 x').set 1 y').set 2 z'
theorem fZ {w W:World} {n b:Nat} {x y z:Value} (h:Below n w W) (hb:n<=b):Below n w (((W.setCell ⟨b,0,none⟩ x).setCell ⟨b,1,none⟩ y).setCell ⟨b,2,none⟩ z):=
 ((h.setCell (by simpa using hb) _).setCell (by simpa using hb) _).setCell (by simpa using hb) _
theorem rh {P:Program} {Cl:FuncId->Array Value->World->(Ending->World->Prop)->Prop} {Rd:Nat->FuncId->Array Value->Code->Code->World->(Ending->World->Prop)->Prop} {o:Oper} {a:Act} {W:World} {post:Value->World->Prop} (t e:TypeId) (x:Operand) (ho:o.op=.buildSlice t 1 #[(0,x)]) {i:TypeInfo} {z:Value} {m:Nat} (ht:P.underlying t=some (.slice e)) (hi:P.info? e=some i) (hz:i.zero=some z) (hsz:i.size=m) (hm:0<m) (s9:m<=16777216) (cs:Array Value) (hx:a.eval x=.agg cs) (hc:cs.size=m) (h:post (.slice (some ⟨W.heap.size,0,none⟩) 1 1) (W.alloc (.cells cs e))):iu Cl Rd post ((execOp a.eval o).run P W):=by
 unfold execOp;have e1:(#[((0:Nat),x)].map fun p=>(p.1,a.eval p.2))= #[(0,.agg cs)]:=by rw[<-hx];simp
 simp only[ho,Sem.run_bind,e1,nH ht hi hz hsz hm s9 cs hc W,Result.andThen_ok,Sem.run_pure];exact h
def aO.GA (base n:Nat) (xs:List Value):aO (Move false (fun _=>False)) where
 P:=fun v=>∃ b,v=.slice (some ⟨b,0,none⟩) 1 1
 H:=fun v W=>∀ b,v=.slice (some ⟨b,0,none⟩) 1 1->∃ u,ak W b #[u] 37/\W.ownsRow base 3 1 u n xs
 jX:=.slice (some ⟨0,0,none⟩) 1 1
 pw:=⟨0,rfl⟩
 st:=fun _ _ _ hm _ h b hb=>by
  obtain⟨u,h1,h2⟩:=h b hb;exact⟨u,h1.below hm.below h1.lt,ag h2 hm.below⟩
theorem ak.Sd {w:World} {b:Nat} {u:Value} {t:TypeId} (h:ak w b #[u] t):∀ j x,[u][j]? =some x->w.cell? ((⟨b,0,none⟩:Addr).add j)=some x:=bZ h
theorem Lq:∀ args w,(callFunc 16 args).run Tryz.prog w=.ok (.enter 16 args) w:=fun args w=>by kernel_rfl
theorem wJ.own {w:World} {base n:Nat} {e:TypeId} {v:Value} {xs:List Value} (h:w.ownsRow base e 1 v n xs):wJ w v n xs:=by
 rcases h.2 with⟨rfl,rfl⟩ | ⟨g,c,cur,rfl,_⟩
 ·exact .inl ⟨rfl,rfl,by have:=h.1;simpa using this⟩
 ·exact .inr ⟨_,c,rfl,h.cells rfl⟩
attribute [local go_sem] encS
theorem ED {l:List BS} {k:Nat} (hk:k<(partsOf l).length):leastOf (partsOf l) k=(lb (partsOf l) k,true):=by have h1:=bh (l:=partsOf l) 0 hk;have h2:=cM (dA l (List.mem_of_getElem? h1));unfold leastOf;rw[qf,h1];show aB _=_;unfold lb;rw[show aB ((partsOf l).getD k 0)=((aB ((partsOf l).getD k 0)).1,(aB ((partsOf l).getD k 0)).2) from rfl,h2.1]
theorem bC {P:Program} {fn:Func} {R:Ending->World->Prop} {x:Exit} {a:Act} {w:World} (h:∀ W,W=w->bodyPost P fn R x a W):bodyPost P fn R x a w:=h w rfl
theorem ak.pq {w:World} {b:Nat} {c:Array Value} {t:TypeId} (h:ak w b c t) (k:Nat) (v:Value) {c':Array Value} (e:c.setIfInBounds k v=c'):ak (w.setCell ⟨b,k,none⟩ v) b c' t:=e▸h.set k v
theorem kU.symm {v y:Value} (h:kU v y):kU y v:=by
 unfold kU at*;by_cases e:y.ownBlock=none
 ·exact .inl e
 ·right
  rcases h with h | h
  ·intro h';exact e (h'.trans h)
  ·exact fun h'=>h h'.symm
end Go.Proofs.YtbiboekhakbnpaaGreatDoor
namespace Go.Proofs.YtbiboekhakbnpaaGreatDoor.jB
open Go Go.RowKit Go.Proofs.YtbiboekhakbnpaaGreatDoor
structure App where
 e:TypeId
 size:Nat
 v:Value
 n:Nat
 xs:List Value
 m:Nat
 lo:Nat
 ok:List Value->World->Prop
 st:∀ ns A B,aa (fun x=>lo<=x/\x<A.heap.size) A B->ok ns A->ok ns B
def After (base:Nat) (w0:World) (p:App) (W:World) (v:Value):Prop:=
 (∃ ns,W.ownsRow base p.e p.size v (p.n+p.m) (p.xs++ns)/\p.ok ns W)/\(v.ownBlock=p.v.ownBlock\/∀ x,v.ownBlock=some x->w0.heap.size<=x)
structure bw (base:Nat) (w0:World) (PL:List App) (A B:World):Prop where
 keeps:aa (fun x=>x<A.heap.size/\¬ ∃ p∈PL,p.v.ownBlock=some x) A B
 old:∀ p∈PL,A.ownsRow base p.e p.size p.v p.n p.xs->B.ownsRow base p.e p.size p.v p.n p.xs
 new:∀ p∈PL,∀ v,After base w0 p A v->After base w0 p B v
section
variable {base:Nat} {w0:World} {PL:List App} {A B C:World}
theorem bw.trans (h:bw base w0 PL A B) (k:bw base w0 PL B C):bw base w0 PL A C:=
 ⟨h.keeps.trans k.keeps fun _ hx=>⟨Nat.lt_of_lt_of_le hx.1 h.keeps.size,hx.2⟩,fun p hp ho=>k.old p hp (h.old p hp ho),fun p hp v hv=>k.new p hp v (h.new p hp v hv)⟩
theorem bw.below (h:Below A.heap.size A B):bw base w0 PL A B:=
 ⟨aa.ah h fun _ hx=>hx.1,fun _ _ ho=>ownsRow_keepsA ho h,fun p _ _ ⟨⟨ns,h1,h2⟩,h3⟩=>⟨⟨ns,ownsRow_keepsA h1 h,p.st ns _ _ (aa.ah h fun _ hx=>hx.2) h2⟩,h3⟩⟩
where
 ownsRow_keepsA {W W':World} {b:Nat} {e:TypeId} {size:Nat} {v:Value} {n:Nat} {xs:List Value} (h:W.ownsRow b e size v n xs) (hk:Below W.heap.size W W'):W'.ownsRow b e size v n xs:=
  ae h (aa.ah hk (R:=(· <W.heap.size)) fun _ h=>h) fun k e=>(h.lt k e).2
theorem bw.drew:bw base w0 PL A A.drew:=.below (Ext.refl A).drew.below
theorem bw.size (h:bw base w0 PL A B):A.heap.size<=B.heap.size:=h.keeps.size
def jG (w0:World) (PL:List App):Prop:=(∀ p∈PL,w0.heap.size<=p.lo)/\(∀ p∈PL,∀ x,p.v.ownBlock=some x->x<w0.heap.size)/\∀ (i j:Nat) (p q:App),PL[i]? =some p->PL[j]? =some q->i≠j->p.v.ownBlock=none\/p.v.ownBlock≠q.v.ownBlock
theorem bw.room (ok:jG w0 PL) {i:Nat} {p:App} (hi:PL[i]? =some p) {g cap:Nat} {cur:Array Value} (hv:p.v=.slice (some ⟨g,0,none⟩) p.n cap) (ho:A.ownsRow base p.e p.size p.v p.n p.xs) (hg:A.heap[g]? =some (.cells cur p.e (0,0))) (news:List Value) (nD:p.ok news A) (hl:news.length=p.m*p.size) (hcs:cur.size=cap*p.size) (hroom:p.n+p.m<=cap):bw base w0 PL A (A.setRow g (cur.toList.take (p.n*p.size)++news++cur.toList.drop (p.n*p.size+news.length)).toArray):=by
 have tk:=List.mem_of_getElem? hi;have PO:p.v.ownBlock=some g:=by rw[hv];rfl
 have hgw:g<w0.heap.size:=ok.2.1 p tk g PO;have Wm:∀ c,aa (· ≠g) A (A.setRow g c):=fun c=>(aa.refl _ _).setRow (fun h=>h rfl) c
 have AQ:p.n*p.size+news.length<=cur.size:=by rw[hl,hcs, <-Nat.add_mul];exact Nat.mul_le_mul_right _ hroom
 have dw:cur.toList.take (p.n*p.size)=p.xs:=by
  rcases ho.2 with⟨h,_⟩ | ⟨g',cap',cur',h,_,Gw,_,_,_,ht⟩
  ·rw[hv]at h;cases h
  ·rw[hv]at h
   cases h
   rw[hg]at Gw;cases Gw;exact ht
 have hlx:p.xs.length=p.n*p.size:=ho.1;generalize hc:(cur.toList.take (p.n*p.size)++news++cur.toList.drop (p.n*p.size+news.length)).toArray=c;have fw:c.toList=p.xs++news++cur.toList.drop (p.n*p.size+news.length):=by rw[<-hc,dw]
 have hcz:c.size=cur.size:=by rw[<-Array.length_toList,fw,List.length_append,List.length_append,List.length_drop,show cur.toList.length=cur.size from Array.length_toList];omega
 have kst:∀ q∈PL,∀ ns,q.ok ns A->q.ok ns (A.setRow g c):=fun q hq ns=>q.st ns _ _ ((Wm c).mono fun x hx e=>by have:=ok.1 q hq;have:=hx.1;omega)
 have Sa:(A.setRow g c).heap[g]? =some (.cells c p.e (0,0)):=setRow_heap A g cur c p.e _ hg;have far:∀ {e:TypeId} {size:Nat} {v:Value} {n:Nat} {xs:List Value},A.ownsRow base e size v n xs->v.ownBlock≠some g->(A.setRow g c).ownsRow base e size v n xs:=fun h hne=>
  ae h (Wm c) fun k e e'=>hne (by rw[e,e'])
 have PQ:∀ {k cap':Nat} {xs:List Value},A.ownsRow base p.e p.size (.slice (some ⟨g,0,none⟩) k cap') k xs->c.toList.take (k*p.size)=xs->(A.setRow g c).ownsRow base p.e p.size (.slice (some ⟨g,0,none⟩) k cap') k xs:=fun {k cap' xs} h ht=>by
  rcases h.2 with⟨h',_⟩ | ⟨g',c',cur',h',hb,Gw,h1,h2,h3,_⟩
  ·cases h'
  ·cases h'
   rw[hg]at Gw;cases Gw;exact⟨h.1,.inr ⟨g,cap',c,rfl,hb,Sa,h1,h2,by rw[hcz];exact h3,ht⟩⟩
 refine⟨(Wm c).mono fun x hx e=>hx.2 ⟨p,tk,by rw[PO,e]⟩,fun q hq TN=>?_,fun q hq v Sb=>?_⟩
 ·obtain⟨j,hj⟩:=List.getElem?_of_mem hq
  by_cases e:j=i
  ·subst e
   rw[hi]at hj;cases hj;rw[hv]at TN ⊢;exact PQ TN (by rw[fw,List.append_assoc, <-hlx];exact List.take_left)
  ·refine far TN fun h=>?_
   rcases ok.2.2 j i q p hj hi e with h' | h'
   ·rw[h']at h;cases h
   ·exact h' (by rw[h,PO])
 ·obtain⟨j,hj⟩:=List.getElem?_of_mem hq
  obtain⟨⟨ns,XY,XZ⟩,hv2⟩:=Sb;refine⟨?_,hv2⟩;by_cases e:j=i
  ·subst e
   rw[hi]at hj;cases hj;by_cases eb:v.ownBlock=some g
   ·rcases XY.2 with⟨h',_⟩ | ⟨g',c',cur',h',_⟩
    ·rw[h']at eb;cases eb
    ·subst h'
     have:g'=g:=by simpa[Value.ownBlock]using eb
     subst this;refine⟨news,?_,kst p tk news nD⟩;have hl2:(p.xs++ns).length=(p.n+p.m)*p.size:=XY.1;rcases XY.2 with⟨h9,_⟩ | ⟨g9,c9,ajk,h9,hb9,hg9,i1,i2,i3,_⟩
     ·cases h9
     ·cases h9
      rw[hg]at hg9;cases hg9;refine⟨by rw[List.length_append,hl,hlx,Nat.add_mul],.inr ⟨_,_,c,rfl,hb9,Sa,i1,i2,by rw[hcz];exact i3,?_⟩⟩;rw[fw,Nat.add_mul, <-hlx, <-hl, <-List.length_append];exact List.take_left
   ·exact⟨ns,far XY eb,kst p tk ns XZ⟩
  ·refine⟨ns,far XY fun h=>?_,kst q hq ns XZ⟩
   rcases hv2 with h2 | h2
   ·rcases ok.2.2 j i q p hj hi e with h' | h'
    ·rw[h2,h']at h;cases h
    ·exact h' (by rw[<-h2,h,PO])
   ·have:=h2 g h;omega
theorem dB {P:Program} {Cl:FuncId->Array Value->World->(Ending->World->Prop)->Prop} {Rd:Nat->FuncId->Array Value->Code->Code->World->(Ending->World->Prop)->Prop} {o:Oper} {a:Act} {W:World} {post:Value->World->Prop} (s x:Operand) (t:TypeId) (ho:o.op=.call {callee:=.builtin .append,args:= #[s,x],argTypes:= #[t,t]}) (i:TypeInfo) (z:Value) (bytes:Nat) {p:App} (ht:P.underlying t=some (.slice p.e)) (hi:P.info? p.e=some i) (hz:i.zero=some z) (hsize:i.size=p.size) (hby:i.bytes=bytes) (hzs:z.cells.size=p.size) (hsz:0<p.size) (ok:jG w0 PL) {k:Nat} (hk:PL[k]? =some p) (hs:a.eval s=p.v) (hown:W.ownsRow base p.e p.size p.v p.n p.xs) (ad:Addr) (c:Nat) (hx:a.eval x=.slice (some ad) p.m c) (news:List Value) (nD:p.ok news W) (hl:news.length=p.m*p.size) (hnews:∀ j u,news[j]? =some u->W.cell? (ad.add j)=some u) (h1:∀ u∈news,u.oneCell'=true) (h63:p.n+p.m<=maxLen) (hbytes:(p.n+p.m)*bytes<=140737488355328) (hbase:base<=W.heap.size) (hm:0<p.m) (hw0:w0.heap.size<=W.heap.size) (h:∀ v W',bw base w0 PL W W'->(∃ a c,v=.slice a (p.n+p.m) c)->After base w0 p W' v->(v.ownBlock=p.v.ownBlock\/v.ownBlock=some W.heap.size)->post v W'): iu Cl Rd post ((execOp a.eval o).run P W):=by
 obtain⟨v',w',hr,h2,h3⟩:=iF (P:=P) W base t o.type p.e i z p.size bytes ht hi hz hsize hby hzs hsz p.v p.n p.xs hown ad p.m c news hl hnews h1 h63 hbytes hbase hm;unfold execOp;simp only[ho,resolve,invoke,builtin,Sem.run_bind,Sem.run_pure,Result.andThen_ok,List.map_toArray,List.map_cons,List.map_nil,hs,hx,hr];show post v' w';have KC:bw base w0 PL W w':=by
  rcases h3 with⟨g,cap,cur,e1,e2,e3,e4,e5,rfl⟩ | ⟨hb,_⟩
  ·exact bw.room ok hk e1 hown e2 news nD hl e3 e4
  ·exact .below hb
 refine h v' w' KC (ownsRow_form h2) ⟨⟨news,h2,p.st news _ _ (KC.keeps.mono fun x hx=>⟨hx.2,fun ⟨q,hq,P0⟩=>?_⟩) nD⟩,?_⟩ ?_
 ·have h5:=ok.2.1 q hq x P0
  have h6:=ok.1 p (List.mem_of_getElem? hk);have:=hx.1;omega
 ·rcases h3 with⟨g,cap,cur,e1,e2,e3,e4,e5,rfl⟩ | ⟨hb,e⟩
  ·left;rw[e5,e1];rfl
  ·right;intro y hy;rw[e]at hy;cases hy;exact hw0
 ·rcases h3 with⟨g,cap,cur,e1,e2,e3,e4,e5,rfl⟩ | ⟨hb,e⟩
  ·left;rw[e5,e1];rfl
  ·right;exact e
end
open Go.Proofs.YtbiboekhakbnpaaGreatDoor.RegG (aO)
def jd.app (base:Nat) (w0:World) (PL:List App) (p:App) (hp:p∈PL):RegG.aO (bw base w0 PL) where
 P:=fun v=>∃ a c,v=.slice a (p.n+p.m) c
 H:=fun _ v W=>After base w0 p W v
 jX:=.slice none (p.n+p.m) 0
 pw:=⟨none,0,rfl⟩
 st:=fun _ v _ _ hm _ h=>hm.new p hp v h
def jd.Lr (base:Nat) (w0:World) (PL:List App) (p:App) (hp:p∈PL):RegG.aO (bw base w0 PL) where
 P:=fun v=>∃ a c,v=.slice a (p.n+p.m) c
 H:=fun y v W=>After base w0 p W v/\(v.ownBlock=p.v.ownBlock\/kU v y)
 jX:=.slice none (p.n+p.m) 0
 pw:=⟨none,0,rfl⟩
 st:=fun _ v _ _ hm _ h=>⟨hm.new p hp v h.1,h.2⟩
def jd.tq (base:Nat) (w0:World) (PL:List App) (n:Nat) (cs:Array Value) (t:TypeId):RegG.aO (bw base w0 PL) where
 P:=fun v=>∃ b,v=.slice (some ⟨b,0,none⟩) n n
 H:=fun _ v W=>∀ b,v=.slice (some ⟨b,0,none⟩) n n->(ak W b cs t/\¬ ∃ p∈PL,p.v.ownBlock=some b)
 jX:=.slice (some ⟨0,0,none⟩) n n
 pw:=⟨_,rfl⟩
 st:=fun _ _ _ _ hm _ h b e=>⟨(h b e).1.keeps hm.keeps ⟨(h b e).1.lt,(h b e).2⟩,(h b e).2⟩
def jd.Ya (base:Nat) (w0:World) (PL:List App) (t:TypeId) (H:World->Value->Prop) (hH:∀ W W' u,bw base w0 PL W W'->H W u->H W' u):RegG.aO (bw base w0 PL) where
 P:=fun v=>∃ b,v=.slice (some ⟨b,0,none⟩) 1 1
 H:=fun _ v W=>∀ b,v=.slice (some ⟨b,0,none⟩) 1 1->(∃ u,ak W b #[u] t/\H W u)/\¬ ∃ p∈PL,p.v.ownBlock=some b
 jX:=.slice (some ⟨0,0,none⟩) 1 1
 pw:=⟨_,rfl⟩
 st:=fun _ _ _ _ hm _ h b e=>by
  obtain⟨⟨u,h1,h2⟩,h3⟩:=h b e;exact⟨⟨u,h1.keeps hm.keeps ⟨h1.lt,h3⟩,hH _ _ u hm h2⟩,h3⟩
def jd.row (base:Nat) (w0:World) (PL:List App) (ok:jG w0 PL) (lo:Nat) (vq:w0.heap.size<=lo) (e:TypeId) (size n:Nat) (xs:List Value):RegG.aO (bw base w0 PL) where
 P:=fun v=>∃ a c,v=.slice a n c
 H:=fun _ v W=>W.ownsRow lo e size v n xs
 jX:=.slice none n 0
 pw:=⟨none,0,rfl⟩
 st:=fun A v _ B hm _ h=>ae h hm.keeps fun x hx=>⟨(h.lt x hx).2,fun ⟨q,hq,P0⟩=>by have h5:=ok.2.1 q hq x P0;have:=(h.lt x hx).1;omega⟩
theorem jG.fresh {w0:World} {PL:List App} (ok:jG w0 PL) {b:Nat} (h:w0.heap.size<=b):¬ ∃ p∈PL,p.v.ownBlock=some b:=fun ⟨p,hp,e⟩=>by
 have:=ok.2.1 p hp b e;omega
end Go.Proofs.YtbiboekhakbnpaaGreatDoor.jB
namespace Go.Proofs.YtbiboekhakbnpaaGreatDoor
open Go Go.RowKit Go.Shelf Go.Maps
attribute [local go_sem] encS
theorem AX {P:Program} {fn:Func} {R:Ending->World->Prop} {x:Exit} {a:Act} {w:World} (h:∀ W,W=w->bodyPost P fn R x a W):bodyPost P fn R x a w:=h w rfl
section
variable {α:Type} [DecidableEq α]
theorem Ls {fuel:Nat} {st:List α×List Nat} {q:α} (hq:q∉st.1) (hf:st.1.length≠fuel):gY fuel st q=some (st.1++ [q],st.2++ [st.1.length]):=by unfold gY;rw[if_pos (List.idxOf_eq_length hq),if_neg hf]
theorem Io {fuel:Nat} {st:List α×List Nat} {q:α} (hq:q∉st.1) (hf:st.1.length=fuel):gY fuel st q=none:=by unfold gY;rw[if_pos (List.idxOf_eq_length hq),if_pos hf]
theorem Lt {fuel:Nat} {st:List α×List Nat} {q:α} (hq:q∈st.1):gY fuel st q=some (st.1,st.2++ [st.1.idxOf q]):=by unfold gY;rw[if_neg (Nat.ne_of_lt (List.idxOf_lt_length_of_mem hq))]
end
end Go.Proofs.YtbiboekhakbnpaaGreatDoor
namespace Go.Proofs.YtbiboekhakbnpaaGreatDoor
open Go Go.RowKit Go.Shelf Go.Maps
attribute [local go_sem] encS
def ri (lo:Nat) (v:Value) (n:Nat) (us:List Value) (x:Value):jB.App:=⟨37,1,v,n,us,1,lo,fun ns _=>ns=[x],fun _ _ _ _ h=>h⟩
def mkApp (lo:Nat) (v:Value) (n:Nat) (us:List Value) (ml:Nat) (mx:List Value):jB.App:=⟨37,1,v,n,us,1,lo,fun ns W=>∃ u,ns=[u]/\u.oneCell'=true/\W.ownsRow lo 3 1 u ml mx,fun _ _ _ hk ⟨u,h1,h2,h3⟩=>⟨u,h1,h2,ae h3 hk fun x hx=>h3.lt x hx⟩⟩
theorem aC.more {base:Nat} {W:World} {v:Value} {ll:List (List Int)} {l:List Int} {us:List Value} {u:Value} {n:Nat} (h1:us.length=ll.length) (hn:us.length=n) (ho:W.ownsRow base 37 1 v (n+1) (us++ [u])) (h3:∀ (i:Nat) (u:Value) (l:List Int),us[i]? =some u->ll[i]? =some l->W.ownsRow base 3 1 u l.length (l.map aF)) (hu:W.ownsRow base 3 1 u l.length (l.map aF)):aC base W v (ll++ [l]):=by
 subst hn;refine⟨us++ [u],by simp[h1],by simpa using ho,fun i x y hx hy=>?_⟩;by_cases hi:i<us.length
 ·rw[List.getElem?_append_left hi]at hx
  rw[List.getElem?_append_left (by omega)]at hy;exact h3 i x y hx hy
 ·have fU:=(List.getElem?_eq_some_iff.1 hx).1
  simp at fU;obtain rfl:i=us.length:=by omega
  simp at hx;subst hx;rw[h1]at hy;simp at hy;subst hy;exact hu
end Go.Proofs.YtbiboekhakbnpaaGreatDoor
namespace Go.Proofs.YtbiboekhakbnpaaGreatDoor
open Go Go.RowKit Go.Shelf Go.Maps
attribute [local go_sem] encS
theorem Ip (v:Value) (d:DF) (w:World) (h:gN w v d) (sm:Sm d): Calls Tryz.prog 35 #[v] w fun e w'=>∃ u,e=.returned u/\aP w.heap.size w' u d/\(∀ v0 v1 v2,u=.agg #[v0,v1,v2]->kU v1 v2)/\Below w.heap.size w w':=by
 obtain⟨v0,v1,v2,rfl,h0,h1,h2⟩:=h;obtain⟨a0,c0,rfl⟩:=h0.1.form;obtain⟨a1,c1,rfl⟩:=h1.form;obtain⟨a2,c2,rfl⟩:=h2.form;have SM:=hid sm;have H0:=hid h0;have H1:=hid h1;have H2:=hid h2;clear h0 h1 h2 sm;obtain⟨n0,cN⟩:∃ n,n=d.cl.length:=⟨_,rfl⟩;obtain⟨n1,fL⟩:∃ n,n=d.nx.length:=⟨_,rfl⟩;obtain⟨n2,jc⟩:∃ n,n=d.mr.length:=⟨_,rfl⟩;rw[<-cN]at H0 ⊢;rw[<-fL]at H1 ⊢;rw[<-jc]at H2 ⊢;have j8:=hid cN;have gS:=hid fL;have kI:=hid jc;clear cN fL jc;go_enter Tryz.func35,Tryz.ntmps35;go_wp2;refine au ?_;intro V hV;have kP:Hid (ak V w.heap.size #[.slice a0 n0 c0,.slice a1 n1 c1,.slice a2 n2 c2] 31):=by rw[hV];exact(ak.new w _ _).alloc _
 have eB:Hid (ak V (w.heap.size+1) #[.slice none 0 0,.slice none 0 0,.slice none 0 0] 31):=by rw[hV];exact(ak.new (w.alloc _) _ _).at (by simp)
 have HX:Hid (Below w.heap.size w V):=by rw[hV];exact(((Ext.refl w).alloc _).alloc _).below
 have HS:Hid (w.heap.size+2<=V.heap.size):=by rw[hV];exact hid (by simp)
 clear hV;refine aA false (fun _=>False) (by kernel_rfl) 8 [0,1,3,0,8,31,0,64,255,511,1023] (fun i=>i==2 || i==5 || i==8 || i==10) (by kernel_rfl) (fun i=>if i=2 then aO.row (w.heap.size+2) 70 4 d.cl.length (aD d.cl)else if i=5 then aO.oll (w.heap.size+2) d.nx else aO.any _) ?_;intro C hC hne;have HC:=hid hC;have f0:=ay hC (p:=⟨w.heap.size,0,none⟩) (by have:=kP.out.lt;exact this) (fun h=>h) (kP.out.cell 0);have f1:=ay hC (p:=⟨w.heap.size,1,none⟩) (by have:=kP.out.lt;exact this) (fun h=>h) (kP.out.cell 1);have f2:=ay hC (p:=⟨w.heap.size,2,none⟩) (by have:=kP.out.lt;exact this) (fun h=>h) (kP.out.cell 2);clear hC
 repeat (refine ai (fun K hK=>?_);first | (refine br rfl ?_;try go_simp;refine hK _ _ ?_;clear hK K) | (refine aZ rfl rfl ?_;unfold ar;go_simp;refine hK _ _ ?_;clear hK K))
 refine ai (fun K hK=>?_);refine bA rfl rfl (aO.row (w.heap.size+2) 70 4 d.cl.length (aD d.cl)) rfl (fun W hW hN=>?_) (fun v hv=>?_)
 ·have hM:=(HC.out W).1 hW
  clear hW;go_simp;refine aT ((ju _ d.cl _ ⟨(H0.out.1.below HX.out).below hM.below,H0.out.2⟩ SM.out.cl).mono ?_);rintro e w2 ⟨vp,rfl,ho,hx⟩;exact⟨_,rfl,Move.ah hx,ownsRow_form ho,ax ho (Nat.le_trans HS.out hM.size)⟩
 obtain⟨a3,c3,rfl⟩:=hv;go_simp;refine hK _ _ ?_;clear hK K
 repeat (refine ai (fun K hK=>?_);first | (refine br rfl ?_;try go_simp;refine hK _ _ ?_;clear hK K) | (refine aZ rfl rfl ?_;unfold ar;go_simp;refine hK _ _ ?_;clear hK K))
 refine ai (fun K hK=>?_);refine bA rfl rfl (aO.oll (w.heap.size+2) d.nx) rfl (fun W hW hN=>?_) (fun v hv=>?_)
 ·have hM:=(HC.out W).1 hW
  clear hW;go_simp;refine aT ((wN _ d.nx _ ((H1.out.below HX.out).below hM.below) SM.out.nx SM.out.vO).mono ?_);rintro e w2 ⟨vp,rfl,ho,hx⟩;exact⟨_,rfl,Move.ah hx,ho.form,ho.base (Nat.le_trans HS.out hM.size)⟩
 obtain⟨a4,c4,rfl⟩:=hv;go_simp;refine hK _ _ ?_;clear hK K
 repeat (refine ai (fun K hK=>?_);first | (refine br rfl ?_;try go_simp;refine hK _ _ ?_;clear hK K) | (refine aZ rfl rfl ?_;unfold ar;go_simp;refine hK _ _ ?_;clear hK K))
 refine aY (fun W hW hH=>?_);have hM:=(HC.out W).1 hW;have R0:Hid (W.ownsRow (w.heap.size+2) 70 4 (.slice a3 d.cl.length c3) d.cl.length (aD d.cl)):=hid (hH _ (List.mem_of_getElem? (show _=some _ from rfl:_[1]? =some _)));have R1:Hid (aC (w.heap.size+2) W (.slice a4 d.nx.length c4) d.nx):=hid (hH _ (List.mem_of_getElem? (show _=some _ from rfl:_[0]? =some _)));have XU:=hid (kP.out.below hM.below kP.out.lt);have TX:=hid (eB.out.below hM.below eB.out.lt);have XX:=hid (HX.out.trans (hM.below.mono HX.out.size));have XS:=hid (Nat.le_trans HS.out hM.size);clear hM hW hH f0 f1 f2 HC kP eB HX;go_wp2_with fail
 refine(wN _ d.mr _ (H2.out.below XX.out) SM.out.mr SM.out.PS).mono ?_;rintro e w2 ⟨vp,rfl,ho,hx⟩;obtain⟨a5,c5,rfl⟩:=ho.form;have R0':=hid (ag R0.out hx);have R1':=hid (R1.out.below hx)
 have FR:Hid (kU (.slice a4 d.nx.length c4) (.slice a5 d.mr.length c5)):=hid (by
  obtain⟨us,_,h1,_⟩:=R1.out;obtain⟨ms,_,h2,_⟩:=ho;by_cases e:(Value.slice a4 d.nx.length c4).ownBlock=none
  ·exact .inl e
  ·right
   intro e2;cases e3:(Value.slice a4 d.nx.length c4).ownBlock with
   | none=>exact e e3
   | some x=>have h5:=(h1.lt x e3).2;have h6:=(h2.lt x (e2▸e3)).1;omega)
 have R2':=hid (ho.base XS.out);have YB2:=hid (TX.out.below hx TX.out.lt);have YX:=hid (XX.out.trans (hx.mono XX.out.size));clear ho hx R0 R1 XU TX XX;obtain⟨⟨k0,k1,k2⟩,z0,z1,z2⟩:=YB2.out.three;go_wp2;obtain⟨W9,gg⟩:∃ W9,W9=(((w2.setCell ⟨w.heap.size+1,0,none⟩ (.slice a3 d.cl.length c3)).setCell ⟨w.heap.size+1,1,none⟩ (.slice a4 d.nx.length c4)).setCell ⟨w.heap.size+1,2,none⟩ (.slice a5 d.mr.length c5)):=⟨_,rfl⟩;have E:Hid (ak W9 (w.heap.size+1) #[.slice a3 d.cl.length c3,.slice a4 d.nx.length c4,.slice a5 d.mr.length c5] 31):=by rw[gg];exact YB2.out.tD
 have K9:Hid (aa (fun x=>x<w2.heap.size/\x≠w.heap.size+1) w2 W9):=by rw[gg];exact(((aa.refl _ _).setCell (p:=⟨w.heap.size+1,0,none⟩) (fun h=>h.2 rfl) _).setCell (p:=⟨w.heap.size+1,1,none⟩) (fun h=>h.2 rfl) _).setCell (p:=⟨w.heap.size+1,2,none⟩) (fun h=>h.2 rfl) _
 rw[<-gg];clear gg k0 k1 k2 z0 z1 z2;obtain⟨⟨m0,m1,m2⟩,_⟩:=E.out.three;refine bodyPost_ret (v:=.agg #[.slice a3 d.cl.length c3,.slice a4 d.nx.length c4,.slice a5 d.mr.length c5]) (by simp[results,Tryz.results35,go_sem,m0,m1,m2]) rfl ⟨_,rfl,?_,fun _ _ _ e=>by cases e;exact FR.out,?_⟩
 ·refine aP.base (base:=w.heap.size+2) ⟨_,_,_,rfl,?_,?_,?_⟩ (by omega)
  ·exact cX R0'.out K9.out fun k h1 h2=>⟨h2,by omega⟩
  ·exact R1'.out.keeps K9.out fun k h1 h2=>⟨h2,by omega⟩
  ·exact R2'.out.keeps K9.out fun k h1 h2=>⟨h2,by omega⟩
 ·exact YX.out.trans ((K9.out.mono fun k hk=>⟨Nat.lt_of_lt_of_le hk YX.out.size,by have:k<w.heap.size:=hk;omega⟩:aa (· <w.heap.size) w2 W9).below)
end Go.Proofs.YtbiboekhakbnpaaGreatDoor
namespace Go.Proofs.YtbiboekhakbnpaaGreatDoor
open Go Go.RowKit
def Reach (d:DF):Nat->Nat->Prop
 | 0,s=>acc d s=true
 | m+1,s=>∃ k,k<d.cl.length/\Reach d m (rb d s k)
theorem P3 {d:DF} (h:Rt d) {k:Nat} (hk:k<d.cl.length):lb d.cl k<256/\cls d.cl (lb d.cl k)=k/\∀ c,c<256->cls d.cl c=k->lb d.cl k<=c:=by
 have e:=h.cl;have sK:k<(partsOf d.cl).length:=by rw[e];exact hk
 have h1:=bh (l:=partsOf d.cl) 0 sK;obtain⟨_,h2,h3,h4⟩:=cM (dA d.cl (List.mem_of_getElem? h1));rw[e]at h1 h2 h3 h4;refine⟨h2,(h.part.gX h2).2 ⟨_,h1,h3⟩,fun c hc TY=>?_⟩;obtain⟨q,hq,hb⟩:=(h.part.gX hc).1 TY;rw[h1]at hq;cases hq;show(aB _).1<=c;by_cases hlt:c<(aB (d.cl.getD k 0)).1
 ·have:=h4 c hlt;rw[this]at hb;cases hb
 ·omega
/-! The program: breadth first. -/
structure Bst where
 todo:List Nat
 keys:List Nat
 fr:List Int
 by':List Nat
structure BOk (d:DF) (x:Nat) (st:Bst):Prop where
 keys:st.keys.length=st.todo.length
 fr:st.fr.length=d.nx.length
 by':st.by'.length=d.nx.length
 head:st.todo[0]? =some 0
 root:st.fr.getD 0 0= -1
 nodup:st.todo.Nodup
 lt:∀ t∈st.todo,t<d.nx.length
 mem:∀ t,t<d.nx.length->(st.fr.getD t 0≠0↔t∈st.todo)
 par:∀ j t,0<j->st.todo[j]? =some t->∃ y s,st.keys[j]? =some y/\y<x/\y/d.cl.length<j/\st.todo[y/d.cl.length]? =some s/\rb d s (y%d.cl.length)=t/\st.fr.getD t 0=s+1/\st.by'.getD t 0=lb d.cl (y%d.cl.length)
 mono:∀ i j y z,0<i->i<j->st.keys[i]? =some y->st.keys[j]? =some z->y<z
 done:∀ y s,y<x->st.todo[y/d.cl.length]? =some s->∃ j:Nat,st.todo[j]? =some (rb d s (y%d.cl.length))/\(j=0\/∃ z,st.keys[j]? =some z/\z<=y)
theorem AY:∀ (n:Nat) (l:List Nat),l.Nodup->(∀ t∈l,t<n)->l.length<=n
 | 0,l,_,h=>by
  cases l with
  | nil=>simp
  | cons x r=>have:=h x (by simp);omega
 | n+1,l,hd,h=>by
  have h1:=AY n (l.erase n) (hd.erase n) (fun t ht=>by
   have h2:=(hd.mem_erase_iff).1 ht;have:=h t h2.2;have:=h2.1
   omega)
  by_cases hm:n∈l
  ·rw[List.length_erase_of_mem hm]at h1;omega
  ·rw[List.erase_of_not_mem hm]at h1;omega
structure Yb (d:DF) (st:Bst) (m i:Nat) (q:Nat->Nat):Prop where
 zero:q 0=0
 last:q m=i
 step:∀ l,l<m->q l<q (l+1)/\∃ y,st.keys[q (l+1)]? =some y/\y/d.cl.length=q l
section
variable {d:DF} (h:Rt d) {i:Nat} {st:Bst} (I:BOk d (i*d.cl.length) st) (hi:i<st.todo.length) (ha:∀ (j t:Nat),j<i→st.todo[j]? =some t→acc d t=false) {m:Nat} {q:Nat→Nat} (c:Yb d st m i q)
include h I c hi
include ha
variable {s:Nat} (hs:st.todo[i]? =some s) (ac9:acc d s=true)
include hs ac9
end
end Go.Proofs.YtbiboekhakbnpaaGreatDoor
namespace Go.Proofs.YtbiboekhakbnpaaGreatDoor
open Go Go.RowKit Go.Shelf Go.Maps
attribute [local go_sem] encS
theorem eH {w:World} {base n cap:Nat} {e:TypeId} {ad:Option Addr} {xs:List Value} (h:w.ownsRow base e 1 (.slice ad n cap) n xs) {i:Nat} (hi:i<n):∃ g u,ad=some ⟨g,0,none⟩/\base<=g/\g<w.heap.size/\xs[i]? =some u/\w.cell? ⟨g,i,none⟩=some u/\w.frozen? ⟨g,i,none⟩=false:=by
 have hl:=h.1;have hu:xs[i]? =some (xs[i]'(by omega)):=List.getElem?_eq_getElem (by omega);obtain⟨a,c,e1⟩:=ownsRow_form h;rcases h.2 with⟨_,e2⟩ | ⟨g,c',cur,e2,_⟩
 ·omega
 ·injection e2 with e2 _ _
  subst e2;have hlt:=h.lt g rfl;exact⟨g,_,rfl,hlt.1,hlt.2,hu,by have:=h.cells (g:=g) rfl _ _ hu;rw[Addr.add_mid]at this;simpa using this,h.frozenAt _⟩
theorem aC.Lu {base b2 m:Nat} {w w':World} {v tv:Value} {ll:List (List Int)} {xs:List Value} (h:aC base w v ll) (hf:kU v tv) (ht:w.ownsRow b2 37 1 tv m xs) (hk:aa (fun x=>x<w.heap.size/\tv.ownBlock≠some x) w w'):aC base w' v ll:=by
 obtain⟨us,h1,h2,h3⟩:=h;refine⟨us,h1,ae h2 hk fun x hx=>⟨(h2.lt x hx).2,fun e=>?_⟩,fun i u l hu hl=>?_⟩
 ·rcases hf with h5 | h5
  ·rw[h5]at hx;cases hx
  ·exact h5 (hx.trans e.symm)
 ·have hr:=h3 i u l hu hl
  refine ae hr hk fun x hx=>⟨(hr.lt x hx).2,fun e=>?_⟩
  rcases ownBlock_ne (show(3:Nat)≠37 by decide) hr ht with h5 | h5
  ·rw[h5]at hx;cases hx
  ·exact h5 (hx.trans e.symm)
end Go.Proofs.YtbiboekhakbnpaaGreatDoor
namespace Go.Proofs.YtbiboekhakbnpaaGreatDoor
open Go Go.ChangeShapes Go.WideShapes Go.ChangeAt Go.RowKit Go.Deep
section
variable {H:Type} {enc:TypeId×Value→H} {W:World}
theorem ql {P:Program} {ts:List TypeId} {ds:List (DataW H)} (h:(DataW.weightsEach P ts ds).all (· <=reachBytes)=true) {j:Nat} {t:TypeId} {d:DataW H} (ht:ts[j]? =some t) (hd:ds[j]? =some d):∀ n∈d.weights P t,n<=reachBytes:=fun n hn=>by
 simpa using List.all_eq_true.1 h _ (DataW.weights_mem_each ht hd n hn)
theorem ni {P:Program} {e:TypeId} :∀ {l:List (DataW H)} {d:DataW H},d∈l->∀ n∈d.weights P e,n∈DataW.weightsAll P e l
 | x::l,d,h,n,hn=>by
  simp only[DataW.weightsAll,List.mem_append];rcases List.mem_cons.1 h with rfl | h
  ·exact .inl hn
  ·exact .inr (ni h n hn)
end
end Go.Proofs.YtbiboekhakbnpaaGreatDoor
namespace Go.Proofs.YtbiboekhakbnpaaGreatDoor
open Go Go.RowKit Go.Shelf Go.Maps
attribute [local go_sem] encS
theorem wO (n:Nat):(madeCells (Value.int .i64 0).cells (n*1)).toList=(List.replicate n (0:Int)).map aF:=by
 apply List.ext_getElem?;intro k;simp only[madeCells,Value.cells,Nat.mul_one,Array.toList_map,Array.toList_range,List.map_replicate,List.getElem?_map,List.getElem?_replicate];by_cases h:k<n
 ·rw[List.getElem?_range h,if_pos h];simp[aF,Nat.mod_one]
 ·rw[List.getElem?_eq_none (by simpa using h),if_neg h];rfl
end Go.Proofs.YtbiboekhakbnpaaGreatDoor
namespace Go.Proofs.YtbiboekhakbnpaaGreatDoor
open Go Go.RowKit Go.Shelf Go.Maps
attribute [local go_sem] encS
theorem fB {P:Program} {l:List Oper} {ops:Array Oper} {Q:Exit->Act->World->Prop} {a:Act} {w:World} (h:∀ W,W=w->wpList P ops Q l a W):wpList P ops Q l a w:=h w rfl
end Go.Proofs.YtbiboekhakbnpaaGreatDoor
namespace Go.Proofs.YtbiboekhakbnpaaGreatDoor
open Go Go.RowKit Go.Shelf Go.Maps
theorem kU.step {u v v':Value} {N:Nat} (h:kU u v) (ho:v'.ownBlock=v.ownBlock\/∀ x,v'.ownBlock=some x->N<=x) (hu:∀ b,u.ownBlock=some b->b<N):kU u v':=by
 rcases h with h | h
 ·exact .inl h
 ·by_cases e:u.ownBlock=none
  ·exact .inl e
  ·right
   intro e2;rcases ho with h2 | h2
   ·exact h (by rw[e2,h2])
   ·cases hb:u.ownBlock with
    | none=>exact e hb
    | some b=>have h3:=hu b hb;have h4:=h2 b (by rw[<-e2,hb]);omega
theorem aP.form {base:Nat} {w:World} {v:Value} {d:DF} (h:aP base w v d):∃ a0 c0 a1 c1 a2 c2,v=.agg #[.slice a0 d.cl.length c0,.slice a1 d.nx.length c1,.slice a2 d.mr.length c2]:=by obtain⟨v0,v1,v2,rfl,h0,h1,h2⟩:=h;obtain⟨a0,c0,rfl⟩:=ownsRow_form h0;obtain⟨a1,c1,rfl⟩:=h1.form;obtain⟨a2,c2,rfl⟩:=h2.form;exact⟨_,_,_,_,_,_,rfl⟩
theorem bI {w:World} {b base size n:Nat} {c:Array Value} {t e:TypeId} {v:Value} {xs:List Value} (h:ak w b c t) (ho:w.ownsRow base e size v n xs) (hne:t≠e):∀ x,v.ownBlock=some x->x≠b:=fun x hx e2=>by
 subst e2;rcases ho.2 with⟨h1,_⟩ | ⟨g',c',cur,h1,_,h3,_⟩
 ·rw[h1]at hx;cases hx
 ·subst h1
  have hg:g'=x:=by simpa[Value.ownBlock]using hx
  subst hg;have h4:w.heap[g']? =some (.cells c t (0,0)):=h;rw[h3]at h4;injection h4 with h4
  injection h4 with _ h5 _
  exact hne h5.symm
theorem tE {w w':World} {b base size n:Nat} {c:Array Value} {t e:TypeId} {v:Value} {xs:List Value} (h:ak w b c t) (ho:w.ownsRow base e size v n xs) (hne:t≠e) (hk:aa (· ≠b) w w'):w'.ownsRow base e size v n xs:=ae ho hk fun x hx=>bI h ho hne x hx
theorem aC.past {w w':World} {b base:Nat} {c:Array Value} {t:TypeId} {v:Value} {ll:List (List Int)} (h:ak w b c t) (ho:aC base w v ll) (h1:t≠37) (h2:t≠3) (hk:aa (· ≠b) w w'):aC base w' v ll:=by obtain⟨us,e,o1,o2⟩:=ho;exact⟨us,e,tE h o1 h1 hk,fun i u l hu hl=>tE h (o2 i u l hu hl) h2 hk⟩
theorem aP.past {w w':World} {b base:Nat} {c:Array Value} {t:TypeId} {v:Value} {d:DF} (h:ak w b c t) (ho:aP base w v d) (h0:t≠70) (h1:t≠37) (h2:t≠3) (hk:aa (· ≠b) w w'):aP base w' v d:=by obtain⟨v0,v1,v2,e,o0,o1,o2⟩:=ho;exact⟨v0,v1,v2,e,tE h o0 h0 hk,o1.past h h1 h2 hk,o2.past h h1 h2 hk⟩
theorem T6 {w:World} {b b2:Nat} {c c2:Array Value} {t t2:TypeId} (h:ak w b c t) (h2:ak w b2 c2 t2) (hne:t≠t2):b≠b2:=fun e=>by
 subst e;have h3:w.heap[b]? =some (.cells c t (0,0)):=h;have h4:w.heap[b]? =some (.cells c2 t2 (0,0)):=h2;rw[h3]at h4;injection h4 with h4
 injection h4 with _ h5 _
 exact hne h5
attribute [local go_sem] encS
def aO.GC (base n:Nat) (ll:List (List Int)):aO (Move false (fun _=>False)) where
 P:=fun v=>∃ a c,v=.slice a n c
 H:=fun v W=>aC base W v ll
 jX:=.slice none n 0
 pw:=⟨none,0,rfl⟩
 st:=fun _ _ _ hm _ h=>h.below hm.below
def aO.Iq (lo:Nat) (cs:Array Value) (t:TypeId):aO (Move false (fun _=>False)) where
 P:=fun v=>∃ b,v=.pointer (some ⟨b,0,none⟩)
 H:=fun v W=>∀ b,v=.pointer (some ⟨b,0,none⟩)->ak W b cs t/\lo<=b
 jX:=.pointer (some ⟨0,0,none⟩)
 pw:=⟨_,rfl⟩
 st:=fun _ _ _ hm _ h b e=>⟨(h b e).1.below hm.below (h b e).1.lt,(h b e).2⟩
end Go.Proofs.YtbiboekhakbnpaaGreatDoor
