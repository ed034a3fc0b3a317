/- product.Of. -/
import Derived.Test.YtalombmiochpmaaGreatDoorOR08
set_option maxRecDepth 100000
set_option maxHeartbeats 16000000
open Go.Lib (hid)
namespace Go.Proofs.YtalombmiochpmaaGreatDoor
open Go Go.RowKit Go.Shelf Go.Maps
open Go.WideMaps (KeyLaw)
open Go.ChangeMaps (setBlock heap_setBlock_same)
def kD (p:Nat×Nat):Value:=.agg #[.int .i64 p.1,.int .i64 p.2]
def fZ:Nat->List (Nat×Nat)->List MapEntry
 | _,[]=>[]
 | n,p::l=>⟨kD p,.int .i64 n,n⟩::fZ (n+1) l
theorem mJ:∀ (l:List (Nat×Nat)) (n i:Nat),(fZ n l)[i]? =(l[i]?).map fun p=>⟨kD p,.int .i64 (n+i:Nat),n+i⟩
 | [],_,_=>by simp[fZ]
 | p::l,n,0=>by simp[fZ]
 | p::l,n,i+1=>by
  simp only[fZ,List.getElem?_cons_succ,mJ l];rw[show n+1+i=n+(i+1) by omega]
theorem tF:∀ (l:List (Nat×Nat)) (n:Nat) (q:Nat×Nat),fZ n (l++ [q])=fZ n l++ [⟨kD q,.int .i64 (n+l.length:Nat),n+l.length⟩]
 | [],n,q=>by simp[fZ]
 | p::l,n,q=>by
  simp only[List.cons_append,fZ,tF l,List.length_cons];rw[show n+1+l.length=n+(l.length+1) by omega]
theorem Cn {p q:Nat×Nat} (h:kD p=kD q):p=q:=by
 unfold kD at h;injection h with h
 have h1:=congrArg (fun a:Array Value=>a.toList) h;simp at h1;exact Prod.ext (by omega) (by omega)
def je (w:World) (b:Nat) (l:List (Nat×Nat)):Prop:=w.heap[b]? =some (.map (fZ 0 l).toArray l.length)
theorem je.keeps {w w':World} {b:Nat} {l:List (Nat×Nat)} (h:je w b l) {R:Nat->Prop} (hk:aa R w w') (hb:R b):je w' b l:=(hk.keep b hb).trans h
theorem je.lt {w:World} {b:Nat} {l:List (Nat×Nat)} (h:je w b l):b<w.heap.size:=(Array.getElem?_eq_some_iff.1 h).1
theorem je.below {w w':World} {b:Nat} {l:List (Nat×Nat)} (h:je w b l) (hk:Below w.heap.size w w'):je w' b l:=(hk.block b h.lt).trans h
theorem Tryz.Wp:(79:TypeId)<Tryz.prog.types.size:=of_decide_eq_true (by kernel_rfl)
theorem Tryz.RJ:(match Tryz.prog.underlying 79 with | some (.array _ _) | some (.struct _)=>true | _=>false)=true:=by kernel_rfl
theorem Tryz.uT:Keyed Tryz.prog 79:=Keyed.of_law (deep_law_laid Tryz.laidOut (m:=2) (by omega) Tryz.Wp (by kernel_rfl) Tryz.RJ)
theorem Tryz.Hj:Tryz.prog.keyType 79=true:=by kernel_rfl
theorem Tryz.Co:Tryz.prog.cellsOf 79=2:=by kernel_rfl
theorem Tryz.RM:Tryz.prog.cellsOf 3=1:=by kernel_rfl
theorem Tryz.RS:∃ n,Tryz.prog.types.size=n+1:=⟨Tryz.prog.types.size-1,by have:=of_decide_eq_true (show decide (0<Tryz.prog.types.size)=true by kernel_rfl);omega⟩
theorem aaJ (n:Nat) (x:Nat) (hx:x<=4000):Tryz.prog.keyLits (n+1) 3 [.int .i64 x]=some [.int .i64 x]:=by unfold Program.keyLits;rw[Tryz.underlying3];have:(Lit.int .i64 (x:Int)).wf=true:=WalkArith.wf_i64 (by omega);simp[this]
theorem xG (p:Nat×Nat) (h1:p.1<=4000) (h2:p.2<=4000):∃ l,keyOf Tryz.prog 79 (kD p)=some l:=by
 obtain⟨n,hn⟩:=Tryz.RS;have hf:(kD p).formed Tryz.prog 79=true:=by simp[kD,Value.formed,Tryz.underlying79,Tryz.Co]
 unfold keyOf;rw[Tryz.underlying79];simp only[Tryz.Hj,hf,Bool.and_self,if_true];have hk:∃ ls,Tryz.prog.keyLits (Tryz.prog.types.size+1) 79 (kD p).cells.toList=some ls:=by
  rw[hn];unfold Program.keyLits;rw[Tryz.underlying79];simp[kD,Value.cells,Tryz.Co,Tryz.RM,aaJ,h1,h2]
 obtain⟨ls,h⟩:=hk;rw[h];exact⟨_,rfl⟩
theorem My {l:List (Nat×Nat)} (hl:∀ p∈l,p.1<=4000/\p.2<=4000):∀ e∈fZ 0 l,∃ k,keyOf Tryz.prog 79 e.key=some k:=fun e he=>by
 obtain⟨i,hi⟩:=List.mem_iff_getElem?.1 he;rw[mJ]at hi;obtain⟨p,hp,rfl⟩:=Option.map_eq_some_iff.1 hi;exact xG p (hl p (List.mem_of_getElem? hp)).1 (hl p (List.mem_of_getElem? hp)).2
def N4 (l:List (Nat×Nat)) (q:Nat×Nat):Nat:= @List.idxOf _ instBEqOfDecidableEq q l
theorem Ko {α:Type} [DecidableEq α] {l:List α} (hn:l.Nodup) {i:Nat} {q:α} (h:l[i]? =some q):l.idxOf q=i:=by obtain⟨h1,h2⟩:=List.getElem?_eq_some_iff.1 h;subst h2;exact List.Nodup.idxOf_getElem hn i h1
theorem N8 {l:List (Nat×Nat)} (hn:l.Nodup) {i:Nat} {q:Nat×Nat} (h:l[i]? =some q):N4 l q=i:=Ko hn h
theorem RU {w:World} {b:Nat} {l:List (Nat×Nat)} (h:je w b l) (hn:l.Nodup) (hl:∀ p∈l,p.1<=4000/\p.2<=4000) (q:Nat×Nat) (h1:q.1<=4000) (h2:q.2<=4000): (q∉l/\(Instr.lookup 80 (.map (some b)) (kD q) true).run Tryz.prog w=.ok (.tuple #[.int .i64 0,.bool false]) w)\/ (q∈l/\(Instr.lookup 80 (.map (some b)) (kD q) true).run Tryz.prog w=.ok (.tuple #[.int .i64 (N4 l q),.bool true]) w):=by
 have K:=Tryz.uT;obtain⟨kl,hk⟩:=xG q h1 h2;have hz:(zeroValue 3).run Tryz.prog w=.ok (.int .i64 0) w:=by kernel_rfl
 have hb:w.heap[b]? =some (.map (fZ 0 l).toArray l.length):=h;rcases K.find w hk (fZ 0 l) (My hl)with⟨f1,f2⟩ | ⟨j,e0,f1,f2,f3⟩
 ·refine .inl ⟨fun hm=>?_,?_⟩
  ·obtain⟨i,hi⟩:=List.mem_iff_getElem?.1 hm
   have:=mJ l 0 i;rw[hi]at this;exact f2 _ (List.mem_of_getElem? this) rfl
  ·simp[Instr.lookup,run_underlying Tryz.underlying80,MapKept.run_getObj_map hb,K.check w _ hk,f1,hz,Result.andThen]
 ·rw[mJ]at f2
  obtain⟨p,hp,rfl⟩:=Option.map_eq_some_iff.1 f2;have e:p=q:=Cn f3;subst e;refine .inr ⟨List.mem_of_getElem? hp,?_⟩;rw[N8 hn hp];simp[Instr.lookup,run_underlying Tryz.underlying80,MapKept.run_getObj_map hb,K.check w _ hk,f1,Result.andThen]
theorem Wq {w:World} {b:Nat} {l:List (Nat×Nat)} (h:je w b l) (hl:∀ p∈l,p.1<=4000/\p.2<=4000) (q:Nat×Nat) (h1:q.1<=4000) (h2:q.2<=4000) (hq:q∉l): ∃ w',(Instr.mapUpdate 80 (.map (some b)) (kD q) (.int .i64 l.length)).run Tryz.prog w=.ok () w'/\je w' b (l++ [q])/\aa (· ≠b) w w'/\w'.heap.size=w.heap.size:=by
 have K:=Tryz.uT;obtain⟨kl,hk⟩:=xG q h1 h2;have hb:w.heap[b]? =some (.map (fZ 0 l).toArray l.length):=h;rcases K.find w hk (fZ 0 l) (My hl)with⟨f1,f2⟩ | ⟨j,e0,f1,f2,f3⟩
 ·refine⟨setBlock w b (.map (fZ 0 (l++ [q])).toArray (l++ [q]).length),?_,heap_setBlock_same hb _,⟨rfl,rfl,rfl,by simp[setBlock],fun i hi=>by show(w.heap.setIfInBounds b _)[i]? =_;exact Array.getElem?_setIfInBounds_ne (Ne.symm hi)⟩,by simp[setBlock]⟩
  rw[tF];simp[Instr.mapUpdate,run_underlying Tryz.underlying80,MapKept.run_getObj_map hb,K.check w false hk,f1,MapKept.run_setObj_map _ hb,Result.andThen,setBlock]
 ·rw[mJ]at f2
  obtain⟨p,hp,rfl⟩:=Option.map_eq_some_iff.1 f2;have e:p=q:=Cn f3;subst e;exact absurd (List.mem_of_getElem? hp) hq
end Go.Proofs.YtalombmiochpmaaGreatDoor
namespace Go.Proofs.YtalombmiochpmaaGreatDoor.gS
open Go Go.RowKit Go.Proofs.YtalombmiochpmaaGreatDoor
structure App where
 e:TypeId
 size:Nat
 v:Value
 n:Nat
 xs:List Value
 m:Nat
 lo:Nat
 ok:List Value->World->Prop
 st:∀ ns A B,aa (fun x=>lo<=x/\x<A.heap.size) A B->ok ns A->ok ns B
def After (base:Nat) (w0:World) (p:App) (W:World) (v:Value):Prop:=
 (∃ ns,W.ownsRow base p.e p.size v (p.n+p.m) (p.xs++ns)/\p.ok ns W)/\(v.ownBlock=p.v.ownBlock\/∀ x,v.ownBlock=some x->w0.heap.size<=x)
structure bT (base:Nat) (w0:World) (PL:List App) (A B:World):Prop where
 keeps:aa (fun x=>x<A.heap.size/\¬ ∃ p∈PL,p.v.ownBlock=some x) A B
 old:∀ p∈PL,A.ownsRow base p.e p.size p.v p.n p.xs->B.ownsRow base p.e p.size p.v p.n p.xs
 new:∀ p∈PL,∀ v,After base w0 p A v->After base w0 p B v
section
variable {base:Nat} {w0:World} {PL:List App} {A B C:World}
theorem bT.trans (h:bT base w0 PL A B) (k:bT base w0 PL B C):bT base w0 PL A C:=
 ⟨h.keeps.trans k.keeps fun _ hx=>⟨Nat.lt_of_lt_of_le hx.1 h.keeps.size,hx.2⟩,fun p hp ho=>k.old p hp (h.old p hp ho),fun p hp v hv=>k.new p hp v (h.new p hp v hv)⟩
theorem bT.below (h:Below A.heap.size A B):bT base w0 PL A B:=
 ⟨aa.ag h fun _ hx=>hx.1,fun _ _ ho=>ownsRow_keepsA ho h,fun p _ _ ⟨⟨ns,h1,h2⟩,h3⟩=>⟨⟨ns,ownsRow_keepsA h1 h,p.st ns _ _ (aa.ag h fun _ hx=>hx.2) h2⟩,h3⟩⟩
where
 ownsRow_keepsA {W W':World} {b:Nat} {e:TypeId} {size:Nat} {v:Value} {n:Nat} {xs:List Value} (h:W.ownsRow b e size v n xs) (hk:Below W.heap.size W W'):W'.ownsRow b e size v n xs:=
  aj h (aa.ag hk (R:=(· <W.heap.size)) fun _ h=>h) fun k e=>(h.lt k e).2
theorem bT.drew:bT base w0 PL A A.drew:=.below (Ext.refl A).drew.below
theorem bT.size (h:bT base w0 PL A B):A.heap.size<=B.heap.size:=h.keeps.size
def kB (w0:World) (PL:List App):Prop:=(∀ p∈PL,w0.heap.size<=p.lo)/\(∀ p∈PL,∀ x,p.v.ownBlock=some x->x<w0.heap.size)/\∀ (i j:Nat) (p q:App),PL[i]? =some p->PL[j]? =some q->i≠j->p.v.ownBlock=none\/p.v.ownBlock≠q.v.ownBlock
theorem bT.room (ok:kB w0 PL) {i:Nat} {p:App} (hi:PL[i]? =some p) {g cap:Nat} {cur:Array Value} (hv:p.v=.slice (some ⟨g,0,none⟩) p.n cap) (ho:A.ownsRow base p.e p.size p.v p.n p.xs) (hg:A.heap[g]? =some (.cells cur p.e (0,0))) (news:List Value) (ou:p.ok news A) (hl:news.length=p.m*p.size) (hcs:cur.size=cap*p.size) (hroom:p.n+p.m<=cap):bT base w0 PL A (A.setRow g (cur.toList.take (p.n*p.size)++news++cur.toList.drop (p.n*p.size+news.length)).toArray):=by
 have Rn:=List.mem_of_getElem? hi;have VU:p.v.ownBlock=some g:=by rw[hv];rfl
 have hgw:g<w0.heap.size:=ok.2.1 p Rn g VU;have hkg:∀ c,aa (· ≠g) A (A.setRow g c):=fun c=>(aa.refl _ _).setRow (fun h=>h rfl) c
 have Hd:p.n*p.size+news.length<=cur.size:=by rw[hl,hcs, <-Nat.add_mul];exact Nat.mul_le_mul_right _ hroom
 have eH:cur.toList.take (p.n*p.size)=p.xs:=by
  rcases ho.2 with⟨h,_⟩ | ⟨g',cap',cur',h,_,Mu,_,_,_,ht⟩
  ·rw[hv]at h;cases h
  ·rw[hv]at h
   cases h
   rw[hg]at Mu;cases Mu;exact ht
 have hlx:p.xs.length=p.n*p.size:=ho.1;generalize hc:(cur.toList.take (p.n*p.size)++news++cur.toList.drop (p.n*p.size+news.length)).toArray=c;have jV:c.toList=p.xs++news++cur.toList.drop (p.n*p.size+news.length):=by rw[<-hc,eH]
 have hcz:c.size=cur.size:=by rw[<-Array.length_toList,jV,List.length_append,List.length_append,List.length_drop,show cur.toList.length=cur.size from Array.length_toList];omega
 have kst:∀ q∈PL,∀ ns,q.ok ns A->q.ok ns (A.setRow g c):=fun q hq ns=>q.st ns _ _ ((hkg c).mono fun x hx e=>by have:=ok.1 q hq;have:=hx.1;omega)
 have Rm:(A.setRow g c).heap[g]? =some (.cells c p.e (0,0)):=setRow_heap A g cur c p.e _ hg;have far:∀ {e:TypeId} {size:Nat} {v:Value} {n:Nat} {xs:List Value},A.ownsRow base e size v n xs->v.ownBlock≠some g->(A.setRow g c).ownsRow base e size v n xs:=fun h hne=>
  aj h (hkg c) fun k e e'=>hne (by rw[e,e'])
 have VV:∀ {k cap':Nat} {xs:List Value},A.ownsRow base p.e p.size (.slice (some ⟨g,0,none⟩) k cap') k xs->c.toList.take (k*p.size)=xs->(A.setRow g c).ownsRow base p.e p.size (.slice (some ⟨g,0,none⟩) k cap') k xs:=fun {k cap' xs} h ht=>by
  rcases h.2 with⟨h',_⟩ | ⟨g',c',cur',h',hb,Mu,h1,h2,h3,_⟩
  ·cases h'
  ·cases h'
   rw[hg]at Mu;cases Mu;exact⟨h.1,.inr ⟨g,cap',c,rfl,hb,Rm,h1,h2,by rw[hcz];exact h3,ht⟩⟩
 refine⟨(hkg c).mono fun x hx e=>hx.2 ⟨p,Rn,by rw[VU,e]⟩,fun q hq hqo=>?_,fun q hq v Yp=>?_⟩
 ·obtain⟨j,hj⟩:=List.getElem?_of_mem hq
  by_cases e:j=i
  ·subst e
   rw[hi]at hj;cases hj;rw[hv]at hqo ⊢;exact VV hqo (by rw[jV,List.append_assoc, <-hlx];exact List.take_left)
  ·refine far hqo fun h=>?_
   rcases ok.2.2 j i q p hj hi e with h' | h'
   ·rw[h']at h;cases h
   ·exact h' (by rw[h,VU])
 ·obtain⟨j,hj⟩:=List.getElem?_of_mem hq
  obtain⟨⟨ns,hns,aed⟩,hv2⟩:=Yp;refine⟨?_,hv2⟩;by_cases e:j=i
  ·subst e
   rw[hi]at hj;cases hj;by_cases eb:v.ownBlock=some g
   ·rcases hns.2 with⟨h',_⟩ | ⟨g',c',cur',h',_⟩
    ·rw[h']at eb;cases eb
    ·subst h'
     have:g'=g:=by simpa[Value.ownBlock]using eb
     subst this;refine⟨news,?_,kst p Rn news ou⟩;have hl2:(p.xs++ns).length=(p.n+p.m)*p.size:=hns.1;rcases hns.2 with⟨h9,_⟩ | ⟨g9,c9,aqC,h9,hb9,hg9,i1,i2,i3,_⟩
     ·cases h9
     ·cases h9
      rw[hg]at hg9;cases hg9;refine⟨by rw[List.length_append,hl,hlx,Nat.add_mul],.inr ⟨_,_,c,rfl,hb9,Rm,i1,i2,by rw[hcz];exact i3,?_⟩⟩;rw[jV,Nat.add_mul, <-hlx, <-hl, <-List.length_append];exact List.take_left
   ·exact⟨ns,far hns eb,kst p Rn ns aed⟩
  ·refine⟨ns,far hns fun h=>?_,kst q hq ns aed⟩
   rcases hv2 with h2 | h2
   ·rcases ok.2.2 j i q p hj hi e with h' | h'
    ·rw[h2,h']at h;cases h
    ·exact h' (by rw[<-h2,h,VU])
   ·have:=h2 g h;omega
theorem cI {P:Program} {Cl:FuncId->Array Value->World->(Ending->World->Prop)->Prop} {Rd:Nat->FuncId->Array Value->Code->Code->World->(Ending->World->Prop)->Prop} {o:Oper} {a:Act} {W:World} {post:Value->World->Prop} (s x:Operand) (t:TypeId) (ho:o.op=.call {callee:=.builtin .append,args:= #[s,x],argTypes:= #[t,t]}) (i:TypeInfo) (z:Value) (bytes:Nat) {p:App} (ht:P.underlying t=some (.slice p.e)) (hi:P.info? p.e=some i) (hz:i.zero=some z) (hsize:i.size=p.size) (hby:i.bytes=bytes) (hzs:z.cells.size=p.size) (hsz:0<p.size) (ok:kB w0 PL) {k:Nat} (hk:PL[k]? =some p) (hs:a.eval s=p.v) (hown:W.ownsRow base p.e p.size p.v p.n p.xs) (ad:Addr) (c:Nat) (hx:a.eval x=.slice (some ad) p.m c) (news:List Value) (ou:p.ok news W) (hl:news.length=p.m*p.size) (hnews:∀ j u,news[j]? =some u->W.cell? (ad.add j)=some u) (h1:∀ u∈news,u.oneCell'=true) (h63:p.n+p.m<=maxLen) (hbytes:(p.n+p.m)*bytes<=140737488355328) (hbase:base<=W.heap.size) (hm:0<p.m) (hw0:w0.heap.size<=W.heap.size) (h:∀ v W',bT base w0 PL W W'->(∃ a c,v=.slice a (p.n+p.m) c)->After base w0 p W' v->(v.ownBlock=p.v.ownBlock\/v.ownBlock=some W.heap.size)->post v W'): kj Cl Rd post ((execOp a.eval o).run P W):=by
 obtain⟨v',w',hr,h2,h3⟩:=iK (P:=P) W base t o.type p.e i z p.size bytes ht hi hz hsize hby hzs hsz p.v p.n p.xs hown ad p.m c news hl hnews h1 h63 hbytes hbase hm;unfold execOp;simp only[ho,resolve,invoke,builtin,Sem.run_bind,Sem.run_pure,Result.andThen_ok,List.map_toArray,List.map_cons,List.map_nil,hs,hx,hr];show post v' w';have Mm:bT base w0 PL W w':=by
  rcases h3 with⟨g,cap,cur,e1,e2,e3,e4,e5,rfl⟩ | ⟨hb,_⟩
  ·exact bT.room ok hk e1 hown e2 news ou hl e3 e4
  ·exact .below hb
 refine h v' w' Mm (ownsRow_form h2) ⟨⟨news,h2,p.st news _ _ (Mm.keeps.mono fun x hx=>⟨hx.2,fun ⟨q,hq,Am⟩=>?_⟩) ou⟩,?_⟩ ?_
 ·have h5:=ok.2.1 q hq x Am
  have h6:=ok.1 p (List.mem_of_getElem? hk);have:=hx.1;omega
 ·rcases h3 with⟨g,cap,cur,e1,e2,e3,e4,e5,rfl⟩ | ⟨hb,e⟩
  ·left;rw[e5,e1];rfl
  ·right;intro y hy;rw[e]at hy;cases hy;exact hw0
 ·rcases h3 with⟨g,cap,cur,e1,e2,e3,e4,e5,rfl⟩ | ⟨hb,e⟩
  ·left;rw[e5,e1];rfl
  ·right;exact e
end
open Go.Proofs.YtalombmiochpmaaGreatDoor.RegG (aH)
def fU.app (base:Nat) (w0:World) (PL:List App) (p:App) (hp:p∈PL):RegG.aH (bT base w0 PL) where
 P:=fun v=>∃ a c,v=.slice a (p.n+p.m) c
 H:=fun _ v W=>After base w0 p W v
 oI:=.slice none (p.n+p.m) 0
 pw:=⟨none,0,rfl⟩
 st:=fun _ v _ _ hm _ h=>hm.new p hp v h
def fU.nH (base:Nat) (w0:World) (PL:List App) (p:App) (hp:p∈PL):RegG.aH (bT base w0 PL) where
 P:=fun v=>∃ a c,v=.slice a (p.n+p.m) c
 H:=fun y v W=>After base w0 p W v/\(v.ownBlock=p.v.ownBlock\/mH v y)
 oI:=.slice none (p.n+p.m) 0
 pw:=⟨none,0,rfl⟩
 st:=fun _ v _ _ hm _ h=>⟨hm.new p hp v h.1,h.2⟩
def fU.pK (base:Nat) (w0:World) (PL:List App) (n:Nat) (cs:Array Value) (t:TypeId):RegG.aH (bT base w0 PL) where
 P:=fun v=>∃ b,v=.slice (some ⟨b,0,none⟩) n n
 H:=fun _ v W=>∀ b,v=.slice (some ⟨b,0,none⟩) n n->(ah W b cs t/\¬ ∃ p∈PL,p.v.ownBlock=some b)
 oI:=.slice (some ⟨0,0,none⟩) n n
 pw:=⟨_,rfl⟩
 st:=fun _ _ _ _ hm _ h b e=>⟨(h b e).1.keeps hm.keeps ⟨(h b e).1.lt,(h b e).2⟩,(h b e).2⟩
def fU.N9 (base:Nat) (w0:World) (PL:List App) (t:TypeId) (H:World->Value->Prop) (hH:∀ W W' u,bT base w0 PL W W'->H W u->H W' u):RegG.aH (bT base w0 PL) where
 P:=fun v=>∃ b,v=.slice (some ⟨b,0,none⟩) 1 1
 H:=fun _ v W=>∀ b,v=.slice (some ⟨b,0,none⟩) 1 1->(∃ u,ah W b #[u] t/\H W u)/\¬ ∃ p∈PL,p.v.ownBlock=some b
 oI:=.slice (some ⟨0,0,none⟩) 1 1
 pw:=⟨_,rfl⟩
 st:=fun _ _ _ _ hm _ h b e=>by
  obtain⟨⟨u,h1,h2⟩,h3⟩:=h b e;exact⟨⟨u,h1.keeps hm.keeps ⟨h1.lt,h3⟩,hH _ _ u hm h2⟩,h3⟩
def fU.row (base:Nat) (w0:World) (PL:List App) (ok:kB w0 PL) (lo:Nat) (Gg:w0.heap.size<=lo) (e:TypeId) (size n:Nat) (xs:List Value):RegG.aH (bT base w0 PL) where
 P:=fun v=>∃ a c,v=.slice a n c
 H:=fun _ v W=>W.ownsRow lo e size v n xs
 oI:=.slice none n 0
 pw:=⟨none,0,rfl⟩
 st:=fun A v _ B hm _ h=>aj h hm.keeps fun x hx=>⟨(h.lt x hx).2,fun ⟨q,hq,Am⟩=>by have h5:=ok.2.1 q hq x Am;have:=(h.lt x hx).1;omega⟩
theorem kB.fresh {w0:World} {PL:List App} (ok:kB w0 PL) {b:Nat} (h:w0.heap.size<=b):¬ ∃ p∈PL,p.v.ownBlock=some b:=fun ⟨p,hp,e⟩=>by
 have:=ok.2.1 p hp b e;omega
end Go.Proofs.YtalombmiochpmaaGreatDoor.gS
namespace Go.Proofs.YtalombmiochpmaaGreatDoor
open Go Go.RowKit Go.Shelf Go.Maps
attribute [local go_sem] encS
def sN:DF:=⟨[],[],[]⟩
def aP (a b:DF) (op fuel:Int):DF×Int:=
 if(a.right&&b.right)=false then(sN,182)else if op<1\/4<op then(sN,190)else if fuel<0\/4000<fuel then(sN,2)else if fuel=0 then(sN,181)
 else match bK a b op fuel.toNat with | some d=>(d,0) | none=>(sN,181)
def mK (l:List (Nat×Nat)):List Value:=l.flatMap fun p=>[.int .i64 p.1,.int .i64 p.2]
theorem Ey (l:List (Nat×Nat)) (p:Nat×Nat):mK (l++ [p])=mK l++ [.int .i64 p.1,.int .i64 p.2]:=by simp[mK]
theorem Cp:∀ (l:List (Nat×Nat)) (i:Nat) (p:Nat×Nat),l[i]? =some p->(mK l)[i*2]? =some (.int .i64 p.1)/\(mK l)[i*2+1]? =some (.int .i64 p.2)
 | [],_,_,h=>by simp at h
 | q::l,0,p,h=>by
  simp at h;subst h;exact⟨rfl,rfl⟩
 | q::l,i+1,p,h=>by
  have:=Cp l i p (by simpa using h);rw[show(i+1)*2=i*2+2 by omega];exact⟨by simpa[mK]using this.1,by simpa[mK]using this.2⟩
theorem aaK {w:World} {base n cap:Nat} {ad:Option Addr} {l:List (Nat×Nat)} (h:w.ownsRow base 79 2 (.slice ad n cap) n (mK l)) {i:Nat} {p:Nat×Nat} (hi:l[i]? =some p): ∃ g,ad=some ⟨g,0,none⟩/\w.cell? ⟨g,i*2,none⟩=some (.int .i64 p.1)/\w.cell? ⟨g,i*2+1,none⟩=some (.int .i64 p.2):=by
 have hg:=Cp l i p hi;rcases h.2 with⟨_,e⟩ | ⟨g,c,cur,e,_⟩
 ·have:=h.1
  rw[e]at this;have hl:=(List.getElem?_eq_some_iff.1 hg.1).1;omega
 ·injection e with e1 _ _
  subst e1;have h1:=h.cells (g:=g) rfl _ _ hg.1;have h2:=h.cells (g:=g) rfl _ _ hg.2;refine⟨g,rfl,?_,?_⟩
  ·rw[Addr.add_mid]at h1;simpa using h1
  ·rw[Addr.add_mid]at h2;simpa using h2
theorem Tryz.aef:(Tryz.prog.info? 79).map (fun i=>(i.zero,i.size,i.bytes))=some (some (.agg #[.int .i64 0,.int .i64 0]),2,16):=by kernel_rfl
theorem Ez (base:Nat) (w:World):ay base w (.agg #[.slice none 0 0,.slice none 0 0,.slice none 0 0]) sN:=⟨_,_,_,rfl,World.ownsRow_nil _ _ _ _,aW.nil _ _,aW.nil _ _⟩
def RV (w:World) (a:Addr):Nat:=match w.cell? a with | some (.slice _ n _)=>n | _=>0
theorem Hk {w:World} {a:Addr} {s:Option Addr} {n c:Nat} (h:w.cell? a=some (.slice s n c)):RV w a=n:=by unfold RV;rw[h]
theorem aW.RY {base bm b2 m:Nat} {w w':World} {v tv:Value} {ll:List (List Int)} {xs:List Value} (h:aW base w v ll) (ht:w.ownsRow b2 79 2 tv m xs) (hk:aa (fun x=>x<w.heap.size/\x≠bm/\tv.ownBlock≠some x) w w') (Yt:bm<base):aW base w' v ll:=by
 obtain⟨us,h1,h2,h3⟩:=h;have key:∀ {e:TypeId} {s n:Nat} {u:Value} {ys:List Value},e≠79->w.ownsRow base e s u n ys->w'.ownsRow base e s u n ys:=fun {e s n u ys} he ho=>
  aj ho hk fun x hx=>⟨(ho.lt x hx).2,by have:=(ho.lt x hx).1;omega,fun e2=>by
   rcases ownBlock_ne he ho ht with h5 | h5
   ·rw[h5]at hx;cases hx
   ·exact h5 (by rw[hx,e2])⟩
 exact⟨us,h1,key (by decide) h2,fun i u l hu hl=>key (by decide) (h3 i u l hu hl)⟩
theorem Hl {P:Program} {fn:Func} {R:Ending->World->Prop} {x:Exit} {a:Act} {w:World} (h:∀ W,W=w->bodyPost P fn R x a W):bodyPost P fn R x a w:=h w rfl
section
variable {α:Type} [DecidableEq α]
theorem Hm {fuel:Nat} {st:List α×List Nat} {q:α} (hq:q∉st.1) (hf:st.1.length≠fuel):dI fuel st q=some (st.1++ [q],st.2++ [st.1.length]):=by unfold dI;rw[if_pos (List.idxOf_eq_length hq),if_neg hf]
theorem Cq {fuel:Nat} {st:List α×List Nat} {q:α} (hq:q∉st.1) (hf:st.1.length=fuel):dI fuel st q=none:=by unfold dI;rw[if_pos (List.idxOf_eq_length hq),if_pos hf]
theorem Hn {fuel:Nat} {st:List α×List Nat} {q:α} (hq:q∈st.1):dI fuel st q=some (st.1,st.2++ [st.1.idxOf q]):=by unfold dI;rw[if_neg (Nat.ne_of_lt (List.idxOf_lt_length_of_mem hq))]
end
end Go.Proofs.YtalombmiochpmaaGreatDoor
