/- product.Of. -/
import Derived.Test.YtalombmiochpmaaGreatDoorOP09
set_option maxRecDepth 100000
set_option maxHeartbeats 16000000
open Go.Lib (hid)
namespace Go.Proofs.YtalombmiochpmaaGreatDoor
open Go Go.RowKit Go.Shelf Go.Maps
open Go.WideMaps (KeyLaw)
open Go.ChangeMaps (setBlock heap_setBlock_same)
def ir (p:Nat×Nat):Value:=.agg #[.int .i64 p.1,.int .i64 p.2]
def ew:Nat->List (Nat×Nat)->List MapEntry
 | _,[]=>[]
 | n,p::l=>⟨ir p,.int .i64 n,n⟩::ew (n+1) l
theorem jD:∀ (l:List (Nat×Nat)) (n i:Nat),(ew n l)[i]? =(l[i]?).map fun p=>⟨ir p,.int .i64 (n+i:Nat),n+i⟩
 | [],_,_=>by simp[ew]
 | p::l,n,0=>by simp[ew]
 | p::l,n,i+1=>by
  simp only[ew,List.getElem?_cons_succ,jD l];rw[show n+1+i=n+(i+1) by omega]
theorem pB:∀ (l:List (Nat×Nat)) (n:Nat) (q:Nat×Nat),ew n (l++ [q])=ew n l++ [⟨ir q,.int .i64 (n+l.length:Nat),n+l.length⟩]
 | [],n,q=>by simp[ew]
 | p::l,n,q=>by
  simp only[List.cons_append,ew,pB l,List.length_cons];rw[show n+1+l.length=n+(l.length+1) by omega]
theorem xC {p q:Nat×Nat} (h:ir p=ir q):p=q:=by
 unfold ir at h;injection h with h
 have h1:=congrArg (fun a:Array Value=>a.toList) h;simp at h1;exact Prod.ext (by omega) (by omega)
def fO (w:World) (b:Nat) (l:List (Nat×Nat)):Prop:=w.heap[b]? =some (.map (ew 0 l).toArray l.length)
theorem fO.keeps {w w':World} {b:Nat} {l:List (Nat×Nat)} (h:fO w b l) {R:Nat->Prop} (hk:aa R w w') (hb:R b):fO w' b l:=(hk.keep b hb).trans h
theorem fO.lt {w:World} {b:Nat} {l:List (Nat×Nat)} (h:fO w b l):b<w.heap.size:=(Array.getElem?_eq_some_iff.1 h).1
theorem fO.below {w w':World} {b:Nat} {l:List (Nat×Nat)} (h:fO w b l) (hk:Below w.heap.size w w'):fO w' b l:=(hk.block b h.lt).trans h
theorem Tryz.Qo:(79:TypeId)<Tryz.prog.types.size:=of_decide_eq_true (by kernel_rfl)
theorem Tryz.LK:(match Tryz.prog.underlying 79 with | some (.array _ _) | some (.struct _)=>true | _=>false)=true:=by kernel_rfl
theorem Tryz.qA:Keyed Tryz.prog 79:=Keyed.of_law (deep_law_laid Tryz.laidOut (m:=2) (by omega) Tryz.Qo (by kernel_rfl) Tryz.LK)
theorem Tryz.Ba:Tryz.prog.keyType 79=true:=by kernel_rfl
theorem Tryz.xD:Tryz.prog.cellsOf 79=2:=by kernel_rfl
theorem Tryz.LL:Tryz.prog.cellsOf 3=1:=by kernel_rfl
theorem Tryz.LN:∃ n,Tryz.prog.types.size=n+1:=⟨Tryz.prog.types.size-1,by have:=of_decide_eq_true (show decide (0<Tryz.prog.types.size)=true by kernel_rfl);omega⟩
theorem Up (n:Nat) (x:Nat) (hx:x<=4000):Tryz.prog.keyLits (n+1) 3 [.int .i64 x]=some [.int .i64 x]:=by unfold Program.keyLits;rw[Tryz.underlying3];have:(Lit.int .i64 (x:Int)).wf=true:=WalkArith.wf_i64 (by omega);simp[this]
theorem sT (p:Nat×Nat) (h1:p.1<=4000) (h2:p.2<=4000):∃ l,keyOf Tryz.prog 79 (ir p)=some l:=by
 obtain⟨n,hn⟩:=Tryz.LN;have hf:(ir p).formed Tryz.prog 79=true:=by simp[ir,Value.formed,Tryz.underlying79,Tryz.xD]
 unfold keyOf;rw[Tryz.underlying79];simp only[Tryz.Ba,hf,Bool.and_self,if_true];have hk:∃ ls,Tryz.prog.keyLits (Tryz.prog.types.size+1) 79 (ir p).cells.toList=some ls:=by
  rw[hn];unfold Program.keyLits;rw[Tryz.underlying79];simp[ir,Value.cells,Tryz.xD,Tryz.LL,Up,h1,h2]
 obtain⟨ls,h⟩:=hk;rw[h];exact⟨_,rfl⟩
theorem GA {l:List (Nat×Nat)} (hl:∀ p∈l,p.1<=4000/\p.2<=4000):∀ e∈ew 0 l,∃ k,keyOf Tryz.prog 79 e.key=some k:=fun e he=>by
 obtain⟨i,hi⟩:=List.mem_iff_getElem?.1 he;rw[jD]at hi;obtain⟨p,hp,rfl⟩:=Option.map_eq_some_iff.1 hi;exact sT p (hl p (List.mem_of_getElem? hp)).1 (hl p (List.mem_of_getElem? hp)).2
def Il (l:List (Nat×Nat)) (q:Nat×Nat):Nat:= @List.idxOf _ instBEqOfDecidableEq q l
theorem EF {α:Type} [DecidableEq α] {l:List α} (hn:l.Nodup) {i:Nat} {q:α} (h:l[i]? =some q):l.idxOf q=i:=by obtain⟨h1,h2⟩:=List.getElem?_eq_some_iff.1 h;subst h2;exact List.Nodup.idxOf_getElem hn i h1
theorem Im {l:List (Nat×Nat)} (hn:l.Nodup) {i:Nat} {q:Nat×Nat} (h:l[i]? =some q):Il l q=i:=EF hn h
theorem LO {w:World} {b:Nat} {l:List (Nat×Nat)} (h:fO w b l) (hn:l.Nodup) (hl:∀ p∈l,p.1<=4000/\p.2<=4000) (q:Nat×Nat) (h1:q.1<=4000) (h2:q.2<=4000): (q∉l/\(Instr.lookup 80 (.map (some b)) (ir q) true).run Tryz.prog w=.ok (.tuple #[.int .i64 0,.bool false]) w)\/ (q∈l/\(Instr.lookup 80 (.map (some b)) (ir q) true).run Tryz.prog w=.ok (.tuple #[.int .i64 (Il l q),.bool true]) w):=by
 have K:=Tryz.qA;obtain⟨kl,hk⟩:=sT q h1 h2;have hz:(zeroValue 3).run Tryz.prog w=.ok (.int .i64 0) w:=by kernel_rfl
 have hb:w.heap[b]? =some (.map (ew 0 l).toArray l.length):=h;rcases K.find w hk (ew 0 l) (GA hl)with⟨f1,f2⟩ | ⟨j,e0,f1,f2,f3⟩
 ·refine .inl ⟨fun hm=>?_,?_⟩
  ·obtain⟨i,hi⟩:=List.mem_iff_getElem?.1 hm
   have:=jD l 0 i;rw[hi]at this;exact f2 _ (List.mem_of_getElem? this) rfl
  ·simp[Instr.lookup,run_underlying Tryz.underlying80,MapKept.run_getObj_map hb,K.check w _ hk,f1,hz,Result.andThen]
 ·rw[jD]at f2
  obtain⟨p,hp,rfl⟩:=Option.map_eq_some_iff.1 f2;have e:p=q:=xC f3;subst e;refine .inr ⟨List.mem_of_getElem? hp,?_⟩;rw[Im hn hp];simp[Instr.lookup,run_underlying Tryz.underlying80,MapKept.run_getObj_map hb,K.check w _ hk,f1,Result.andThen]
theorem Qp {w:World} {b:Nat} {l:List (Nat×Nat)} (h:fO w b l) (hl:∀ p∈l,p.1<=4000/\p.2<=4000) (q:Nat×Nat) (h1:q.1<=4000) (h2:q.2<=4000) (hq:q∉l): ∃ w',(Instr.mapUpdate 80 (.map (some b)) (ir q) (.int .i64 l.length)).run Tryz.prog w=.ok () w'/\fO w' b (l++ [q])/\aa (· ≠b) w w'/\w'.heap.size=w.heap.size:=by
 have K:=Tryz.qA;obtain⟨kl,hk⟩:=sT q h1 h2;have hb:w.heap[b]? =some (.map (ew 0 l).toArray l.length):=h;rcases K.find w hk (ew 0 l) (GA hl)with⟨f1,f2⟩ | ⟨j,e0,f1,f2,f3⟩
 ·refine⟨setBlock w b (.map (ew 0 (l++ [q])).toArray (l++ [q]).length),?_,heap_setBlock_same hb _,⟨rfl,rfl,rfl,by simp[setBlock],fun i hi=>by show(w.heap.setIfInBounds b _)[i]? =_;exact Array.getElem?_setIfInBounds_ne (Ne.symm hi)⟩,by simp[setBlock]⟩
  rw[pB];simp[Instr.mapUpdate,run_underlying Tryz.underlying80,MapKept.run_getObj_map hb,K.check w false hk,f1,MapKept.run_setObj_map _ hb,Result.andThen,setBlock]
 ·rw[jD]at f2
  obtain⟨p,hp,rfl⟩:=Option.map_eq_some_iff.1 f2;have e:p=q:=xC f3;subst e;exact absurd (List.mem_of_getElem? hp) hq
end Go.Proofs.YtalombmiochpmaaGreatDoor
namespace Go.Proofs.YtalombmiochpmaaGreatDoor.eP
open Go Go.RowKit Go.Proofs.YtalombmiochpmaaGreatDoor
structure App where
 e:TypeId
 size:Nat
 v:Value
 n:Nat
 xs:List Value
 m:Nat
 lo:Nat
 ok:List Value->World->Prop
 st:∀ ns A B,aa (fun x=>lo<=x/\x<A.heap.size) A B->ok ns A->ok ns B
def After (base:Nat) (w0:World) (p:App) (W:World) (v:Value):Prop:=
 (∃ ns,W.ownsRow base p.e p.size v (p.n+p.m) (p.xs++ns)/\p.ok ns W)/\(v.ownBlock=p.v.ownBlock\/∀ x,v.ownBlock=some x->w0.heap.size<=x)
structure bA (base:Nat) (w0:World) (PL:List App) (A B:World):Prop where
 keeps:aa (fun x=>x<A.heap.size/\¬ ∃ p∈PL,p.v.ownBlock=some x) A B
 old:∀ p∈PL,A.ownsRow base p.e p.size p.v p.n p.xs->B.ownsRow base p.e p.size p.v p.n p.xs
 new:∀ p∈PL,∀ v,After base w0 p A v->After base w0 p B v
section
variable {base:Nat} {w0:World} {PL:List App} {A B C:World}
theorem bA.trans (h:bA base w0 PL A B) (k:bA base w0 PL B C):bA base w0 PL A C:=
 ⟨h.keeps.trans k.keeps fun _ hx=>⟨Nat.lt_of_lt_of_le hx.1 h.keeps.size,hx.2⟩,fun p hp ho=>k.old p hp (h.old p hp ho),fun p hp v hv=>k.new p hp v (h.new p hp v hv)⟩
theorem bA.below (h:Below A.heap.size A B):bA base w0 PL A B:=
 ⟨aa.aj h fun _ hx=>hx.1,fun _ _ ho=>ownsRow_keepsA ho h,fun p _ _ ⟨⟨ns,h1,h2⟩,h3⟩=>⟨⟨ns,ownsRow_keepsA h1 h,p.st ns _ _ (aa.aj h fun _ hx=>hx.2) h2⟩,h3⟩⟩
where
 ownsRow_keepsA {W W':World} {b:Nat} {e:TypeId} {size:Nat} {v:Value} {n:Nat} {xs:List Value} (h:W.ownsRow b e size v n xs) (hk:Below W.heap.size W W'):W'.ownsRow b e size v n xs:=
  ag h (aa.aj hk (R:=(· <W.heap.size)) fun _ h=>h) fun k e=>(h.lt k e).2
theorem bA.drew:bA base w0 PL A A.drew:=.below (Ext.refl A).drew.below
theorem bA.size (h:bA base w0 PL A B):A.heap.size<=B.heap.size:=h.keeps.size
def im (w0:World) (PL:List App):Prop:=(∀ p∈PL,w0.heap.size<=p.lo)/\(∀ p∈PL,∀ x,p.v.ownBlock=some x->x<w0.heap.size)/\∀ (i j:Nat) (p q:App),PL[i]? =some p->PL[j]? =some q->i≠j->p.v.ownBlock=none\/p.v.ownBlock≠q.v.ownBlock
theorem bA.room (ok:im w0 PL) {i:Nat} {p:App} (hi:PL[i]? =some p) {g cap:Nat} {cur:Array Value} (hv:p.v=.slice (some ⟨g,0,none⟩) p.n cap) (ho:A.ownsRow base p.e p.size p.v p.n p.xs) (hg:A.heap[g]? =some (.cells cur p.e (0,0))) (news:List Value) (tj:p.ok news A) (hl:news.length=p.m*p.size) (hcs:cur.size=cap*p.size) (hroom:p.n+p.m<=cap):bA base w0 PL A (A.setRow g (cur.toList.take (p.n*p.size)++news++cur.toList.drop (p.n*p.size+news.length)).toArray):=by
 have Lp:=List.mem_of_getElem? hi;have P9:p.v.ownBlock=some g:=by rw[hv];rfl
 have hgw:g<w0.heap.size:=ok.2.1 p Lp g P9;have Wp:∀ c,aa (· ≠g) A (A.setRow g c):=fun c=>(aa.refl _ _).setRow (fun h=>h rfl) c
 have AW:p.n*p.size+news.length<=cur.size:=by rw[hl,hcs, <-Nat.add_mul];exact Nat.mul_le_mul_right _ hroom
 have dL:cur.toList.take (p.n*p.size)=p.xs:=by
  rcases ho.2 with⟨h,_⟩ | ⟨g',cap',cur',h,_,Gv,_,_,_,ht⟩
  ·rw[hv]at h;cases h
  ·rw[hv]at h
   cases h
   rw[hg]at Gv;cases Gv;exact ht
 have hlx:p.xs.length=p.n*p.size:=ho.1;generalize hc:(cur.toList.take (p.n*p.size)++news++cur.toList.drop (p.n*p.size+news.length)).toArray=c;have kH:c.toList=p.xs++news++cur.toList.drop (p.n*p.size+news.length):=by rw[<-hc,dL]
 have hcz:c.size=cur.size:=by rw[<-Array.length_toList,kH,List.length_append,List.length_append,List.length_drop,show cur.toList.length=cur.size from Array.length_toList];omega
 have kst:∀ q∈PL,∀ ns,q.ok ns A->q.ok ns (A.setRow g c):=fun q hq ns=>q.st ns _ _ ((Wp c).mono fun x hx e=>by have:=ok.1 q hq;have:=hx.1;omega)
 have Sj:(A.setRow g c).heap[g]? =some (.cells c p.e (0,0)):=setRow_heap A g cur c p.e _ hg;have far:∀ {e:TypeId} {size:Nat} {v:Value} {n:Nat} {xs:List Value},A.ownsRow base e size v n xs->v.ownBlock≠some g->(A.setRow g c).ownsRow base e size v n xs:=fun h hne=>
  ag h (Wp c) fun k e e'=>hne (by rw[e,e'])
 have Qa:∀ {k cap':Nat} {xs:List Value},A.ownsRow base p.e p.size (.slice (some ⟨g,0,none⟩) k cap') k xs->c.toList.take (k*p.size)=xs->(A.setRow g c).ownsRow base p.e p.size (.slice (some ⟨g,0,none⟩) k cap') k xs:=fun {k cap' xs} h ht=>by
  rcases h.2 with⟨h',_⟩ | ⟨g',c',cur',h',hb,Gv,h1,h2,h3,_⟩
  ·cases h'
  ·cases h'
   rw[hg]at Gv;cases Gv;exact⟨h.1,.inr ⟨g,cap',c,rfl,hb,Sj,h1,h2,by rw[hcz];exact h3,ht⟩⟩
 refine⟨(Wp c).mono fun x hx e=>hx.2 ⟨p,Lp,by rw[P9,e]⟩,fun q hq Ud=>?_,fun q hq v Sk=>?_⟩
 ·obtain⟨j,hj⟩:=List.getElem?_of_mem hq
  by_cases e:j=i
  ·subst e
   rw[hi]at hj;cases hj;rw[hv]at Ud ⊢;exact Qa Ud (by rw[kH,List.append_assoc, <-hlx];exact List.take_left)
  ·refine far Ud fun h=>?_
   rcases ok.2.2 j i q p hj hi e with h' | h'
   ·rw[h']at h;cases h
   ·exact h' (by rw[h,P9])
 ·obtain⟨j,hj⟩:=List.getElem?_of_mem hq
  obtain⟨⟨ns,Ye,Yf⟩,hv2⟩:=Sk;refine⟨?_,hv2⟩;by_cases e:j=i
  ·subst e
   rw[hi]at hj;cases hj;by_cases eb:v.ownBlock=some g
   ·rcases Ye.2 with⟨h',_⟩ | ⟨g',c',cur',h',_⟩
    ·rw[h']at eb;cases eb
    ·subst h'
     have:g'=g:=by simpa[Value.ownBlock]using eb
     subst this;refine⟨news,?_,kst p Lp news tj⟩;have hl2:(p.xs++ns).length=(p.n+p.m)*p.size:=Ye.1;rcases Ye.2 with⟨h9,_⟩ | ⟨g9,c9,aiE,h9,Yg,XU,i1,i2,i3,_⟩
     ·cases h9
     ·cases h9
      rw[hg]at XU;cases XU;refine⟨by rw[List.length_append,hl,hlx,Nat.add_mul],.inr ⟨_,_,c,rfl,Yg,Sj,i1,i2,by rw[hcz];exact i3,?_⟩⟩;rw[kH,Nat.add_mul, <-hlx, <-hl, <-List.length_append];exact List.take_left
   ·exact⟨ns,far Ye eb,kst p Lp ns Yf⟩
  ·refine⟨ns,far Ye fun h=>?_,kst q hq ns Yf⟩
   rcases hv2 with h2 | h2
   ·rcases ok.2.2 j i q p hj hi e with h' | h'
    ·rw[h2,h']at h;cases h
    ·exact h' (by rw[<-h2,h,P9])
   ·have:=h2 g h;omega
theorem bO {P:Program} {Cl:FuncId->Array Value->World->(Ending->World->Prop)->Prop} {Rd:Nat->FuncId->Array Value->Code->Code->World->(Ending->World->Prop)->Prop} {o:Oper} {a:Act} {W:World} {post:Value->World->Prop} (s x:Operand) (t:TypeId) (ho:o.op=.call {callee:=.builtin .append,args:= #[s,x],argTypes:= #[t,t]}) (i:TypeInfo) (z:Value) (bytes:Nat) {p:App} (ht:P.underlying t=some (.slice p.e)) (hi:P.info? p.e=some i) (hz:i.zero=some z) (hsize:i.size=p.size) (hby:i.bytes=bytes) (hzs:z.cells.size=p.size) (hsz:0<p.size) (ok:im w0 PL) {k:Nat} (hk:PL[k]? =some p) (hs:a.eval s=p.v) (hown:W.ownsRow base p.e p.size p.v p.n p.xs) (ad:Addr) (c:Nat) (hx:a.eval x=.slice (some ad) p.m c) (news:List Value) (tj:p.ok news W) (hl:news.length=p.m*p.size) (hnews:∀ j u,news[j]? =some u->W.cell? (ad.add j)=some u) (h1:∀ u∈news,u.oneCell'=true) (h63:p.n+p.m<=maxLen) (hbytes:(p.n+p.m)*bytes<=140737488355328) (hbase:base<=W.heap.size) (hm:0<p.m) (hw0:w0.heap.size<=W.heap.size) (h:∀ v W',bA base w0 PL W W'->(∃ a c,v=.slice a (p.n+p.m) c)->After base w0 p W' v->(v.ownBlock=p.v.ownBlock\/v.ownBlock=some W.heap.size)->post v W'): kQ Cl Rd post ((execOp a.eval o).run P W):=by
 obtain⟨v',w',hr,h2,h3⟩:=il (P:=P) W base t o.type p.e i z p.size bytes ht hi hz hsize hby hzs hsz p.v p.n p.xs hown ad p.m c news hl hnews h1 h63 hbytes hbase hm;unfold execOp;simp only[ho,resolve,invoke,builtin,Sem.run_bind,Sem.run_pure,Result.andThen_ok,List.map_toArray,List.map_cons,List.map_nil,hs,hx,hr];show post v' w';have Gm:bA base w0 PL W w':=by
  rcases h3 with⟨g,cap,cur,e1,e2,e3,e4,e5,rfl⟩ | ⟨hb,_⟩
  ·exact bA.room ok hk e1 hown e2 news tj hl e3 e4
  ·exact .below hb
 refine h v' w' Gm (ownsRow_form h2) ⟨⟨news,h2,p.st news _ _ (Gm.keeps.mono fun x hx=>⟨hx.2,fun ⟨q,hq,Dx⟩=>?_⟩) tj⟩,?_⟩ ?_
 ·have h5:=ok.2.1 q hq x Dx
  have h6:=ok.1 p (List.mem_of_getElem? hk);have:=hx.1;omega
 ·rcases h3 with⟨g,cap,cur,e1,e2,e3,e4,e5,rfl⟩ | ⟨hb,e⟩
  ·left;rw[e5,e1];rfl
  ·right;intro y hy;rw[e]at hy;cases hy;exact hw0
 ·rcases h3 with⟨g,cap,cur,e1,e2,e3,e4,e5,rfl⟩ | ⟨hb,e⟩
  ·left;rw[e5,e1];rfl
  ·right;exact e
end
open Go.Proofs.YtalombmiochpmaaGreatDoor.RegG (aR)
def eu.app (base:Nat) (w0:World) (PL:List App) (p:App) (hp:p∈PL):RegG.aR (bA base w0 PL) where
 P:=fun v=>∃ a c,v=.slice a (p.n+p.m) c
 H:=fun _ v W=>After base w0 p W v
 nH:=.slice none (p.n+p.m) 0
 pw:=⟨none,0,rfl⟩
 st:=fun _ v _ _ hm _ h=>hm.new p hp v h
def eu.j3 (base:Nat) (w0:World) (PL:List App) (p:App) (hp:p∈PL):RegG.aR (bA base w0 PL) where
 P:=fun v=>∃ a c,v=.slice a (p.n+p.m) c
 H:=fun y v W=>After base w0 p W v/\(v.ownBlock=p.v.ownBlock\/jy v y)
 nH:=.slice none (p.n+p.m) 0
 pw:=⟨none,0,rfl⟩
 st:=fun _ v _ _ hm _ h=>⟨hm.new p hp v h.1,h.2⟩
def eu.lM (base:Nat) (w0:World) (PL:List App) (n:Nat) (cs:Array Value) (t:TypeId):RegG.aR (bA base w0 PL) where
 P:=fun v=>∃ b,v=.slice (some ⟨b,0,none⟩) n n
 H:=fun _ v W=>∀ b,v=.slice (some ⟨b,0,none⟩) n n->(ah W b cs t/\¬ ∃ p∈PL,p.v.ownBlock=some b)
 nH:=.slice (some ⟨0,0,none⟩) n n
 pw:=⟨_,rfl⟩
 st:=fun _ _ _ _ hm _ h b e=>⟨(h b e).1.keeps hm.keeps ⟨(h b e).1.lt,(h b e).2⟩,(h b e).2⟩
def eu.Io (base:Nat) (w0:World) (PL:List App) (t:TypeId) (H:World->Value->Prop) (hH:∀ W W' u,bA base w0 PL W W'->H W u->H W' u):RegG.aR (bA base w0 PL) where
 P:=fun v=>∃ b,v=.slice (some ⟨b,0,none⟩) 1 1
 H:=fun _ v W=>∀ b,v=.slice (some ⟨b,0,none⟩) 1 1->(∃ u,ah W b #[u] t/\H W u)/\¬ ∃ p∈PL,p.v.ownBlock=some b
 nH:=.slice (some ⟨0,0,none⟩) 1 1
 pw:=⟨_,rfl⟩
 st:=fun _ _ _ _ hm _ h b e=>by
  obtain⟨⟨u,h1,h2⟩,h3⟩:=h b e;exact⟨⟨u,h1.keeps hm.keeps ⟨h1.lt,h3⟩,hH _ _ u hm h2⟩,h3⟩
def eu.row (base:Nat) (w0:World) (PL:List App) (ok:im w0 PL) (lo:Nat) (xh:w0.heap.size<=lo) (e:TypeId) (size n:Nat) (xs:List Value):RegG.aR (bA base w0 PL) where
 P:=fun v=>∃ a c,v=.slice a n c
 H:=fun _ v W=>W.ownsRow lo e size v n xs
 nH:=.slice none n 0
 pw:=⟨none,0,rfl⟩
 st:=fun A v _ B hm _ h=>ag h hm.keeps fun x hx=>⟨(h.lt x hx).2,fun ⟨q,hq,Dx⟩=>by have h5:=ok.2.1 q hq x Dx;have:=(h.lt x hx).1;omega⟩
theorem im.fresh {w0:World} {PL:List App} (ok:im w0 PL) {b:Nat} (h:w0.heap.size<=b):¬ ∃ p∈PL,p.v.ownBlock=some b:=fun ⟨p,hp,e⟩=>by
 have:=ok.2.1 p hp b e;omega
end Go.Proofs.YtalombmiochpmaaGreatDoor.eP
namespace Go.Proofs.YtalombmiochpmaaGreatDoor
open Go Go.RowKit Go.Shelf Go.Maps
attribute [local go_sem] encS
def EG:DF:=⟨[],[],[]⟩
def bI (a b:DF) (op fuel:Int):DF×Int:=
 if(a.right&&b.right)=false then(EG,182)else if op<1\/4<op then(EG,190)else if fuel<0\/4000<fuel then(EG,2)else if fuel=0 then(EG,181)
 else match eU a b op fuel.toNat with | some d=>(d,0) | none=>(EG,181)
def jE (l:List (Nat×Nat)):List Value:=l.flatMap fun p=>[.int .i64 p.1,.int .i64 p.2]
theorem yY (l:List (Nat×Nat)) (p:Nat×Nat):jE (l++ [p])=jE l++ [.int .i64 p.1,.int .i64 p.2]:=by simp[jE]
theorem xE:∀ (l:List (Nat×Nat)) (i:Nat) (p:Nat×Nat),l[i]? =some p->(jE l)[i*2]? =some (.int .i64 p.1)/\(jE l)[i*2+1]? =some (.int .i64 p.2)
 | [],_,_,h=>by simp at h
 | q::l,0,p,h=>by
  simp at h;subst h;exact⟨rfl,rfl⟩
 | q::l,i+1,p,h=>by
  have:=xE l i p (by simpa using h);rw[show(i+1)*2=i*2+2 by omega];exact⟨by simpa[jE]using this.1,by simpa[jE]using this.2⟩
theorem Uq {w:World} {base n cap:Nat} {ad:Option Addr} {l:List (Nat×Nat)} (h:w.ownsRow base 79 2 (.slice ad n cap) n (jE l)) {i:Nat} {p:Nat×Nat} (hi:l[i]? =some p): ∃ g,ad=some ⟨g,0,none⟩/\w.cell? ⟨g,i*2,none⟩=some (.int .i64 p.1)/\w.cell? ⟨g,i*2+1,none⟩=some (.int .i64 p.2):=by
 have hg:=xE l i p hi;rcases h.2 with⟨_,e⟩ | ⟨g,c,cur,e,_⟩
 ·have:=h.1
  rw[e]at this;have hl:=(List.getElem?_eq_some_iff.1 hg.1).1;omega
 ·injection e with e1 _ _
  subst e1;have h1:=h.cells (g:=g) rfl _ _ hg.1;have h2:=h.cells (g:=g) rfl _ _ hg.2;refine⟨g,rfl,?_,?_⟩
  ·rw[Addr.add_mid]at h1;simpa using h1
  ·rw[Addr.add_mid]at h2;simpa using h2
theorem Tryz.Yh:(Tryz.prog.info? 79).map (fun i=>(i.zero,i.size,i.bytes))=some (some (.agg #[.int .i64 0,.int .i64 0]),2,16):=by kernel_rfl
theorem yZ (base:Nat) (w:World):aT base w (.agg #[.slice none 0 0,.slice none 0 0,.slice none 0 0]) EG:=⟨_,_,_,rfl,World.ownsRow_nil _ _ _ _,aH.nil _ _,aH.nil _ _⟩
def LP (w:World) (a:Addr):Nat:=match w.cell? a with | some (.slice _ n _)=>n | _=>0
theorem Bb {w:World} {a:Addr} {s:Option Addr} {n c:Nat} (h:w.cell? a=some (.slice s n c)):LP w a=n:=by unfold LP;rw[h]
theorem aH.LQ {base bm b2 m:Nat} {w w':World} {v tv:Value} {ll:List (List Int)} {xs:List Value} (h:aH base w v ll) (ht:w.ownsRow b2 79 2 tv m xs) (hk:aa (fun x=>x<w.heap.size/\x≠bm/\tv.ownBlock≠some x) w w') (hbm:bm<base):aH base w' v ll:=by
 obtain⟨us,h1,h2,h3⟩:=h;have key:∀ {e:TypeId} {s n:Nat} {u:Value} {ys:List Value},e≠79->w.ownsRow base e s u n ys->w'.ownsRow base e s u n ys:=fun {e s n u ys} he ho=>
  ag ho hk fun x hx=>⟨(ho.lt x hx).2,by have:=(ho.lt x hx).1;omega,fun e2=>by
   rcases ownBlock_ne he ho ht with h5 | h5
   ·rw[h5]at hx;cases hx
   ·exact h5 (by rw[hx,e2])⟩
 exact⟨us,h1,key (by decide) h2,fun i u l hu hl=>key (by decide) (h3 i u l hu hl)⟩
theorem Bc {P:Program} {fn:Func} {R:Ending->World->Prop} {x:Exit} {a:Act} {w:World} (h:∀ W,W=w->bodyPost P fn R x a W):bodyPost P fn R x a w:=h w rfl
section
variable {α:Type} [DecidableEq α]
theorem Bd {fuel:Nat} {st:List α×List Nat} {q:α} (hq:q∉st.1) (hf:st.1.length≠fuel):jA fuel st q=some (st.1++ [q],st.2++ [st.1.length]):=by unfold jA;rw[if_pos (List.idxOf_eq_length hq),if_neg hf]
theorem xF {fuel:Nat} {st:List α×List Nat} {q:α} (hq:q∉st.1) (hf:st.1.length=fuel):jA fuel st q=none:=by unfold jA;rw[if_pos (List.idxOf_eq_length hq),if_pos hf]
theorem Be {fuel:Nat} {st:List α×List Nat} {q:α} (hq:q∈st.1):jA fuel st q=some (st.1,st.2++ [st.1.idxOf q]):=by unfold jA;rw[if_neg (Nat.ne_of_lt (List.idxOf_lt_length_of_mem hq))]
end
end Go.Proofs.YtalombmiochpmaaGreatDoor
