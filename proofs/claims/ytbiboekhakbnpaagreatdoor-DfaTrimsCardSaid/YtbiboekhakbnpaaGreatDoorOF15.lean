/- Sets of positions anywhere in a block: has, put, or. -/
import Derived.Test.YtbiboekhakbnpaaGreatDoorOF14
set_option maxRecDepth 100000
set_option maxHeartbeats 16000000
open Go.Lib (hid)
namespace Go.Proofs.YtbiboekhakbnpaaGreatDoor
open Go Go.RowKit Go.Shelf Go.Maps
theorem Tryz.Uk:(Tryz.prog.info? 46).map (fun i=>(i.zero,i.size,i.bytes))=some (some (.agg #[.slice none 0 0,.slice none 0 0,.slice none 0 0,.slice none 0 0,.bool false,.bool false,.int .i64 0]),7,120):=by kernel_rfl
def bP (base:Nat) (w:World) (v:Value) (ps:List PT):Prop:=∃ cs:List Value,w.ownsRow base 46 7 v ps.length cs/\∀ (i:Nat) (x:PT),ps[i]? =some x->tM (dM base) w x fun j=>cs[i*7+j]?
theorem bP.nil (base:Nat) (w:World):bP base w (.slice none 0 0) []:=⟨[],World.ownsRow_nil _ _ _ _,fun i x h=>by simp at h⟩
theorem bP.form {base:Nat} {w:World} {v:Value} {ps:List PT} (h:bP base w v ps):∃ a c,v=.slice a ps.length c:=by obtain⟨cs,h1,_⟩:=h;exact ownsRow_form h1
theorem bP.below {base:Nat} {w w':World} {v:Value} {ps:List PT} (h:bP base w v ps) (hk:Below w.heap.size w w'):bP base w' v ps:=by obtain⟨cs,h1,h2⟩:=h;exact⟨cs,ag h1 hk,fun i x hx=>(h2 i x hx).mono (fun _ hv=>hv.below hk) fun _ _ _ hu=>hu⟩
theorem bP.Ul {base:Nat} {w:World} {v:Value} {ps:List PT} (h:bP base w v ps):dh w v ps:=by
 obtain⟨cs,h1,h2⟩:=h;have hlt:=h1.lt;rcases h1.2 with⟨rfl,e2⟩ | ⟨g,cap,cur,rfl,e2,e3,e4,e5,_⟩
 ·exact .inl ⟨rfl,List.eq_nil_of_length_eq_zero e2⟩
 ·refine .inr ⟨g,0,cap,rfl,(hlt g rfl).2,fun i x hx=>?_⟩
  obtain⟨v0,v1,v2,v3,h0,c0,c1,c2,c3,c4,c5,c6⟩:=h2 i x hx;have ce:∀ (j:Nat) (u:Value),cs[i*7+j]? =some u->w.cell? ⟨g,0+i*7+j,none⟩=some u:=fun j u hj=>by
   have:=h1.cells (g:=g) rfl _ _ hj;rw[Addr.add_mid]at this;rw[show 0+i*7+j=i*7+j by omega];simpa using this
  exact⟨v0,v1,v2,v3,h0.nf,ce 0 _ c0,ce 1 _ c1,ce 2 _ c2,ce 3 _ c3,ce 4 _ c4,ce 5 _ c5,ce 6 _ c6⟩
theorem bP.more {base:Nat} {w w':World} {v v' v0 v1 v2 v3:Value} {ps:List PT} {cs:List Value} {x:PT} (h1:w.ownsRow base 46 7 v ps.length cs) (h2:∀ (i:Nat) (x:PT),ps[i]? =some x->tM (dM base) w x fun j=>cs[i*7+j]?) (hn:dM base w (.agg #[v0,v1,v2,v3,.bool x.nf.emp]) x.nf) (hg:w.grownBy w' v.ownBlock) (ho:w'.ownsRow base 46 7 v' (ps.length+1) (cs++yE v0 v1 v2 v3 x)):bP base w' v' (ps++ [x]):=by
 have Ma:aa (fun y=>y<w.heap.size/\v.ownBlock≠some y) w w':=aa.aW hg fun y hy=>⟨hy.1,fun e=>hy.2 e.symm⟩
 have hl:=h1.1;refine⟨cs++yE v0 v1 v2 v3 x,by rw[List.length_append];exact ho,fun i y hy=>?_⟩;by_cases e:i<ps.length
 ·rw[List.getElem?_append_left e]at hy
  exact(h2 i y hy).mono (fun _ hv=>hv.far h1 (by decide) (by decide) (by decide) Ma) fun j hj u hu=>(Qj hl _ hj e).trans hu
 ·have hl2:=(List.getElem?_eq_some_iff.1 hy).1
  rw[List.length_append,List.length_singleton]at hl2;obtain rfl:i=ps.length:=by omega
  rw[List.getElem?_append_right (Nat.le_refl _),Nat.sub_self]at hy;cases hy;refine⟨v0,v1,v2,v3,hn.far h1 (by decide) (by decide) (by decide) Ma,?_,?_,?_,?_,?_,?_,?_⟩<;>exact EY hl _
theorem tS {n:Nat} {l:List Int} (h:cY 0 ((n:Int)-1) l=true):l.length<=n:=by
 obtain⟨h1,h2⟩:=cZ h;have hn:(l.map fun x=>x.toNat).Nodup:=by rw[List.nodup_iff_pairwise_ne,List.pairwise_map];exact h1.imp_of_mem fun {a b} ha hb hab=>by have:=h2 a ha;have:=h2 b hb;omega
 have:=List.Nodup.length_le_of_subset hn (l₂:=List.range n) fun x hx=>by
  obtain⟨y,hy,rfl⟩:=List.mem_map.1 hx;have:=h2 y hy;exact List.mem_range.2 (by omega)
 simpa using this
theorem Nt.smn {a:NF} (h:Nt a):vR a:=by have hle:=h.le;refine⟨by omega,by have:=h.bJ;omega,by have:=tS h.fst;omega,by have:=tS h.bV;omega,fun l hl=>?_⟩;obtain⟨p,hp⟩:=List.getElem?_of_mem hl;have hpl:=(List.getElem?_eq_some_iff.1 hp).1;have:=tS (h.row p (by rw[<-h.bJ];exact hpl));rw[List.getD_eq_getElem?_getD,hp]at this;have e:(some l).getD []=l:=rfl;rw[e]at this;omega
def kn (s:List (Nat×Nat×Nat)×Bool×Nat):PT:=⟨(jk s.1).nf,s.2.1,s.2.2⟩
def cy (l:List (List (Nat×Nat×Nat)×Bool×Nat)):List PT:=(l.take 4).map kn
theorem Fc (l:List (List (Nat×Nat×Nat)×Bool×Nat)) (h:∀ s∈l,s.2.2<256):∀ x∈cy l,Nt x.nf/\vR x.nf/\0<=x.mark/\x.mark<=255:=by intro x hx;obtain⟨s,hs,rfl⟩:=List.mem_map.1 hx;have hm:=h s (List.mem_of_mem_take hs);have ht:Nt (jk s.1).nf:=LY (lQ s.1).clean (lQ s.1).bM;exact⟨ht,ht.smn,by unfold kn;dsimp only;omega,by unfold kn;dsimp only;omega⟩
theorem jl (l:List (List (Nat×Nat×Nat)×Bool×Nat)):(cy l).length=min 4 l.length:=by unfold cy;rw[List.length_map,List.length_take]
end Go.Proofs.YtbiboekhakbnpaaGreatDoor
namespace Go.Proofs.YtbiboekhakbnpaaGreatDoor
open Go Go.RowKit
def aj (k:Nat) (s:BS) (mn mx:Int) (a:Value):Array Value:= #[.int .u8 k,.int .u64 (wd s 0).toNat,.int .u64 (wd s 1).toNat,.int .u64 (wd s 2).toNat,.int .u64 (wd s 3).toNat,.int .i64 mn,.int .i64 mx,a]
inductive aG (F:Nat->Prop) (w:World):Value->RX->Prop
 | mk (k:Nat) (s:BS) (mn mx:Int) (l:List RX) (a:Value) (b off cap:Nat) (vs:Nat->Value)
  (h0:l=[]->∃ p c,a=.slice p 0 c)
  (h1:l≠[]->a=.slice (some ⟨b,off,none⟩) l.length cap/\F b/\b<w.heap.size/\l.length<=cap)
  (hc:∀ (i:Nat) (t:RX),l[i]? =some t->∃ cs:Array Value,vs i=.agg cs/\∀ (j:Nat) (u:Value),cs[j]? =some u->w.cell? ⟨b,off+i*8+j,none⟩=some u)
  (hr:∀ (i:Nat) (t:RX),l[i]? =some t->aG F w (vs i) t):aG F w (.agg (aj k s mn mx a)) (.nd k s mn mx l)
theorem aG.form {F:Nat->Prop} {w:World} {v:Value} {t:RX} (h:aG F w v t):∃ p c,v=.agg (aj t.kind t.set t.mn t.mx (.slice p t.subs.length c)):=by
 cases h with
 | mk k s mn mx l a b off cap vs h0 h1 hc hr=>
  cases l with
  | nil=>obtain⟨p,c,rfl⟩:=h0 rfl;exact⟨p,c,rfl⟩
  | cons x l=>obtain⟨rfl,_⟩:=h1 (by simp);exact⟨_,_,rfl⟩
theorem aG.keeps {F R:Nat->Prop} {w w':World} (hk:aa R w w') (hR:∀ b,F b->R b) {v:Value} {t:RX} (h:aG F w v t):aG F w' v t:=by
 induction h with
 | mk k s mn mx l a b off cap vs h0 h1 hc hr ih=>
  refine .mk k s mn mx l a b off cap vs h0 (fun hl=>?_) (fun i t hi=>?_) ih
  ·obtain⟨e,hF,hb,ja⟩:=h1 hl
   exact⟨e,hF,Nat.lt_of_lt_of_le hb hk.size,ja⟩
  ·obtain⟨cs,e,hcs⟩:=hc i t hi
   have hl:l≠[]:=fun e=>by rw[e]at hi;simp at hi
   obtain⟨_,hF,_⟩:=h1 hl;exact⟨cs,e,fun j u hj=>(hk.cell (p:=⟨b,off+i*8+j,none⟩) (hR b hF)).trans (hcs j u hj)⟩
theorem aG.mono {F F':Nat->Prop} {w:World} (hF:∀ b,F b->F' b) {v:Value} {t:RX} (h:aG F w v t):aG F' w v t:=by
 induction h with
 | mk k s mn mx l a b off cap vs h0 h1 hc hr ih=>exact .mk k s mn mx l a b off cap vs h0 (fun hl=>by obtain⟨e,h2,h3⟩:=h1 hl;exact⟨e,hF b h2,h3⟩) hc ih
theorem aG.mV {n:Nat} {w w':World} {v:Value} {t:RX} (h:aG (· <n) w v t) (hk:Below n w w'):aG (· <n) w' v t:=h.keeps (aa.ah hk fun _ h=>h) fun _ h=>h
theorem aG.kept {n:Nat} {w w':World} {v:Value} {t:RX} (h:aG (· <n) w v t) (hk:aa (· <n) w w'):aG (· <n) w' v t:=h.keeps hk fun _ h=>h
theorem aG.elem {F:Nat->Prop} {w:World} {k n c:Nat} {s:BS} {mn mx:Int} {p:Option Addr} {l:List RX} (h:aG F w (.agg (aj k s mn mx (.slice p n c))) (.nd k s mn mx l)) {i:Nat} {t:RX} (hi:l[i]? =some t): ∃ b off p' c',p=some ⟨b,off,none⟩/\F b/\b<w.heap.size/\n<=c/\ (w.cell? ⟨b,off+i*8,none⟩=some (.int .u8 t.kind)/\w.cell? ⟨b,off+i*8+1,none⟩=some (.int .u64 (wd t.set 0).toNat)/\w.cell? ⟨b,off+i*8+2,none⟩=some (.int .u64 (wd t.set 1).toNat)/\w.cell? ⟨b,off+i*8+3,none⟩=some (.int .u64 (wd t.set 2).toNat)/\w.cell? ⟨b,off+i*8+4,none⟩=some (.int .u64 (wd t.set 3).toNat)/\w.cell? ⟨b,off+i*8+5,none⟩=some (.int .i64 t.mn)/\w.cell? ⟨b,off+i*8+6,none⟩=some (.int .i64 t.mx)/\w.cell? ⟨b,off+i*8+7,none⟩=some (.slice p' t.subs.length c'))/\ aG F w (.agg (aj t.kind t.set t.mn t.mx (.slice p' t.subs.length c'))) t:=by
 generalize hv:(Value.agg (aj k s mn mx (.slice p n c)))=v at h;generalize ht:RX.nd k s mn mx l=T at h;cases h with
 | mk k' s' mn' mx' l' a b off cap vs h0 h1 hc hr=>
  injection ht with e1 e2 e3 e4 e5
  subst e1 e2 e3 e4 e5;have hl:l≠[]:=fun e=>by rw[e]at hi;simp at hi
  obtain⟨ea,hF,hb,ja⟩:=h1 hl;rw[ea]at hv;have e7:(aj k s mn mx (.slice p n c))[7]? =(aj k s mn mx (.slice (some ⟨b,off,none⟩) l.length cap))[7]? :=by injection hv with e;rw[e]
  have e8:Value.slice p n c=.slice (some ⟨b,off,none⟩) l.length cap:=by simpa[aj]using e7
  obtain⟨rfl,rfl,rfl⟩:p=some ⟨b,off,none⟩/\n=l.length/\c=cap:=by injection e8 with a1 a2 a3;exact⟨a1,a2,a3⟩
  have ht:=hr i t hi;obtain⟨cs,ec,hcs⟩:=hc i t hi;obtain⟨p',c',ev⟩:=ht.form;rw[ev]at ht ec;injection ec with ec
  subst ec;exact⟨b,off,p',c',rfl,hF,hb,ja,⟨hcs 0 _ rfl,hcs 1 _ rfl,hcs 2 _ rfl,hcs 3 _ rfl,hcs 4 _ rfl,hcs 5 _ rfl,hcs 6 _ rfl,hcs 7 _ rfl⟩,ht⟩
theorem aG.leaf (F:Nat->Prop) (w:World) (k:Nat) (s:BS) (mn mx:Int) (p:Option Addr) (c:Nat):aG F w (.agg (aj k s mn mx (.slice p 0 c))) (.nd k s mn mx []):=
 .mk k s mn mx [] _ 0 0 0 (fun _=>undef) (fun _=>⟨p,c,rfl⟩) (fun h=>absurd rfl h) (fun i t h=>by simp at h) (fun i t h=>by simp at h)
theorem nt {P:Program} {fn:Func} {tmps:Array Value} {R:Ending->World->Prop} {v:Value} :∀ (Ds:List Nat) (W:World),Ds.Nodup->(∀ D∈Ds,W.heap[D]? =some (.deferred (some [])))-> ((results fn tmps).run P (Ds.foldl (fun W D=>W.putObj D (.deferred none)) W)=.ok v (Ds.foldl (fun W D=>W.putObj D (.deferred none)) W))->R (.returned v) (Ds.foldl (fun W D=>W.putObj D (.deferred none)) W)-> LeavesInM Fence.wide 0 P fn tmps R (Ds.map fun D=> {target:=.collected D,args:= #[]}) .returning W
 | [],W,_,_,hr,hR=>⟨v,hr,hR⟩
 | D::Ds,W,hn,hD,hr,hR=>by
  obtain⟨h1,h2⟩:=List.nodup_cons.1 hn;refine⟨by simp,.inl ⟨_,_,rfl,run_takeDeferred (hD D (List.mem_cons_self ..)),?_⟩⟩;refine nt Ds _ h2 (fun E hE=>?_) hr hR;have hne:E≠D:=fun e=>by rw[e]at hE;exact h1 hE
  exact(World.putObj_heap_other hne).trans (hD E (List.mem_cons_of_mem _ hE))
end Go.Proofs.YtbiboekhakbnpaaGreatDoor
namespace Go.Proofs.YtbiboekhakbnpaaGreatDoor
open Go Go.RowKit Go.Shelf Go.Maps
section
variable {P:Program} {ops:Array Oper}
theorem dZ {rest:List Oper} {o:Oper} {a:Act} {w:World} {Q:Exit->Act->World->Prop} (hw:Region.wanted o (yielded ops a.tmps)=true) (s x:Operand) (t:TypeId) (ho:o.op=.call {callee:=.builtin .append,args:= #[s,x],argTypes:= #[t,t]}) (base:Nat) (e:TypeId) (i:TypeInfo) (z:Value) (size bytes:Nat) (ht:P.underlying t=some (.slice e)) (hi:P.info? e=some i) (hz:i.zero=some z) (hsize:i.size=size) (hby:i.bytes=bytes) (hzs:z.cells.size=size) (hsz:0<size) (v:Value) (k:Nat) (xs:List Value) (hs:a.eval s=v) (hown:w.ownsRow base e size v k xs) (ad:Addr) (m c:Nat) (news:List Value) (hx:a.eval x=.slice (some ad) m c) (hnews:∀ j u,news[j]? =some u->w.cell? (ad.add j)=some u) (hl:news.length=m*size) (h1:∀ u∈news,u.oneCell'=true) (h63:k+m<=maxLen) (hbytes:(k+m)*bytes<=140737488355328) (hbase:base<=w.heap.size) (h:∀ v' w',w'.ownsRow base e size v' (k+m) (xs++news)->w.grownBy w' v.ownBlock->(v'.ownBlock=v.ownBlock\/v'.ownBlock=some w.heap.size)->wpList P ops Q rest (a.put o.dst v') w'): wpList P ops Q (o::rest) a w:=by
 refine iE hw fun K hK=>?_
 obtain⟨v',w',hr,h2,h3,_,h5⟩:=run_append_own_at (P:=P) w base t o.type e i z size bytes ht hi hz hsize hby hzs hsz v k xs hown ad m c news hl hnews h1 h63 hbytes hbase;unfold Oper.wp execOp;simp only[ho,resolve,invoke,builtin,Sem.run_bind,Sem.run_pure,Result.andThen_ok,List.map_toArray,List.map_cons,List.map_nil,hs,hx,hr];exact hK _ _ (h v' w' h2 h3 h5)
theorem lR {rest:List Oper} {o:Oper} {a:Act} {w:World} {Q:Exit->Act->World->Prop} (hw:Region.wanted o (yielded ops a.tmps)=true) (s x:Operand) (t:TypeId) (ho:o.op=.call {callee:=.builtin .append,args:= #[s,x],argTypes:= #[t,t]}) (base:Nat) (e:TypeId) (i:TypeInfo) (z:Value) (size bytes:Nat) (ht:P.underlying t=some (.slice e)) (hi:P.info? e=some i) (hz:i.zero=some z) (hsize:i.size=size) (hby:i.bytes=bytes) (hzs:z.cells.size=size) (hsz:0<size) (b:Addr) (k:Nat) (xs:List Value) (hs:a.eval s=.slice (some b) k k) (vq:xs.length=k*size) (holds:∀ j u,xs[j]? =some u->w.cell? (b.add j)=some u) (ad:Addr) (m c:Nat) (news:List Value) (hx:a.eval x=.slice (some ad) m c) (hnews:∀ j u,news[j]? =some u->w.cell? (ad.add j)=some u) (hl:news.length=m*size) (hm:0<m) (h63:k+m<=maxLen) (hbytes:(k+m)*bytes<=140737488355328) (hbase:base<=w.heap.size) (h:∀ v' w',w'.ownsRow base e size v' (k+m) (xs++news)->Below w.heap.size w w'->v'.ownBlock=some w.heap.size->wpList P ops Q rest (a.put o.dst v') w'): wpList P ops Q (o::rest) a w:=by
 refine iE hw fun K hK=>?_
 subst hsize;subst hby;have adl:k+m<=9223372036854775807:=by simp only[maxLen]at h63;omega
 have hr:=run_append_grow (P:=P) w t o.type e i z ht hi hz b k k xs vq holds ad m c news hl hnews (by omega) (by omega) (growslice_fits (by omega) hbytes);unfold Oper.wp execOp;simp only[ho,resolve,invoke,builtin,Sem.run_bind,Sem.run_pure,Result.andThen_ok,List.map_toArray,List.map_cons,List.map_nil,hs,hx,hr];have OC:=grownCap_ge w (k+m) k e;have hcm:grownCap w (k+m) k e<=maxLen:=grownCap_le_maxLen w (k+m) k e h63;have hlen:(xs++news).length=(k+m)*i.size:=by rw[List.length_append,vq,hl,Nat.add_mul]
 refine hK _ _ (h _ _ ⟨hlen,.inr ⟨w.heap.size,_,_,rfl,hbase,heap_alloc_new w.drew _,OC,hcm,?_,?_⟩⟩ ((Ext.refl w).drew.alloc _).below rfl)
 ·simp only[Array.size_append,List.size_toArray,size_zeroCells,hzs,vq,hl, <-Nat.add_mul]
  congr 1
  omega
 ·simp only[Array.toList_append,List.append_assoc]
  rw[<-List.append_assoc, <-hlen];exact List.take_left
end
def aQ (cs:List (Array Value)):List Value:=cs.flatMap Array.toList
theorem eQ:∀ {cs:List (Array Value)},(∀ c∈cs,c.size=8)->(aQ cs).length=cs.length*8
 | [],_=>rfl
 | c::cs,h=>by
  unfold aQ;rw[List.flatMap_cons,List.length_append,List.length_cons];have:=eQ fun x hx=>h x (List.mem_cons_of_mem _ hx)
  unfold aQ at this;rw[this,Array.length_toList,h c (List.mem_cons_self ..)];omega
theorem gq:∀ {cs:List (Array Value)} {i j:Nat} {c:Array Value} {u:Value},(∀ c∈cs,c.size=8)->cs[i]? =some c->c[j]? =some u->(aQ cs)[i*8+j]? =some u
 | x::cs,0,j,c,u,h,hi,hj=>by
  simp at hi;subst hi;unfold aQ;have hl:=(Array.getElem?_eq_some_iff.1 hj).1;rw[List.flatMap_cons,List.getElem?_append_left (by rw[Array.length_toList];omega),Nat.zero_mul,Nat.zero_add,Array.getElem?_toList];exact hj
 | x::cs,i+1,j,c,u,h,hi,hj=>by
  have ih:=gq (cs:=cs) (i:=i) (fun y hy=>h y (List.mem_cons_of_mem _ hy)) (by simpa using hi) hj;unfold aQ at ih ⊢;rw[List.flatMap_cons,List.getElem?_append_right (by rw[Array.length_toList,h x (List.mem_cons_self ..)];omega), <-ih];congr 1;rw[Array.length_toList,h x (List.mem_cons_self ..)];omega
theorem ko (a b:List (Array Value)):aQ (a++b)=aQ a++aQ b:=by unfold aQ;rw[List.flatMap_append]
theorem bN (k:Nat) (s:BS) (mn mx:Int) (p:Option Addr) (n c:Nat):(aj k s mn mx (.slice p n c)).size=8/\∀ u∈(aj k s mn mx (.slice p n c)).toList,u.oneCell'=true:=by refine⟨rfl,fun u hu=>?_⟩;simp[aj]at hu;rcases hu with rfl | rfl | rfl | rfl | rfl | rfl | rfl | rfl<;>rfl
def bu (base:Nat) (w:World) (v:Value) (l:List RX):Prop:=∃ cs:List (Array Value),cs.length=l.length/\w.ownsRow base 86 8 v l.length (aQ cs)/\(∀ c∈cs,c.size=8/\∀ u∈c.toList,u.oneCell'=true)/\
 ∀ (i:Nat) (c:Array Value) (t:RX),cs[i]? =some c->l[i]? =some t->aG (fun x=>base<=x/\x<w.heap.size/\v.ownBlock≠some x) w (.agg c) t
theorem bu.nil (base:Nat) (w:World):bu base w (.slice none 0 0) []:=⟨[],rfl,World.ownsRow_nil _ _ _ _,(fun _ h=>nomatch h),fun i c t h=>by simp at h⟩
theorem bu.form {base:Nat} {w:World} {v:Value} {l:List RX} (h:bu base w v l):∃ a c,v=.slice a l.length c:=by obtain⟨cs,h1,h2,h3,h4⟩:=h;exact ownsRow_form h2
theorem bu.keeps {base:Nat} {R:Nat->Prop} {w w':World} {v:Value} {l:List RX} (h:bu base w v l) (hk:aa R w w') (hR:∀ x,x<w.heap.size->base<=x\/v.ownBlock≠some x->R x):bu base w' v l:=by obtain⟨cs,h1,h2,h3,h4⟩:=h;refine⟨cs,h1,ae h2 hk fun x hx=>hR x (h2.lt x hx).2 (.inl (h2.lt x hx).1),h3,fun i c t hi ht=>?_⟩;exact((h4 i c t hi ht).keeps hk fun x hx=>hR x hx.2.1 (.inl hx.1)).mono fun x hx=>⟨hx.1,Nat.lt_of_lt_of_le hx.2.1 hk.size,hx.2.2⟩
theorem bu.below {base:Nat} {w w':World} {v:Value} {l:List RX} (h:bu base w v l) (hk:Below w.heap.size w w'):bu base w' v l:=h.keeps (aa.ah hk fun _ h=>h:aa (· <w.heap.size) w w') fun _ hx _=>hx
theorem bu.elem {base:Nat} {w:World} {a:Option Addr} {n cap:Nat} {l:List RX} (h:bu base w (.slice a n cap) l) {i:Nat} {t:RX} (hi:l[i]? =some t): ∃ g p' c',a=some ⟨g,0,none⟩/\n=l.length/\n<=cap/\base<=g/\g<w.heap.size/\ (w.cell? ⟨g,i*8,none⟩=some (.int .u8 t.kind)/\w.cell? ⟨g,i*8+1,none⟩=some (.int .u64 (wd t.set 0).toNat)/\w.cell? ⟨g,i*8+2,none⟩=some (.int .u64 (wd t.set 1).toNat)/\w.cell? ⟨g,i*8+3,none⟩=some (.int .u64 (wd t.set 2).toNat)/\w.cell? ⟨g,i*8+4,none⟩=some (.int .u64 (wd t.set 3).toNat)/\w.cell? ⟨g,i*8+5,none⟩=some (.int .i64 t.mn)/\w.cell? ⟨g,i*8+6,none⟩=some (.int .i64 t.mx)/\w.cell? ⟨g,i*8+7,none⟩=some (.slice p' t.subs.length c'))/\ aG (fun x=>base<=x/\x<w.heap.size/\x≠g) w (.agg (aj t.kind t.set t.mn t.mx (.slice p' t.subs.length c'))) t:=by
 obtain⟨cs,h1,h2,h3,h4⟩:=h;have fU:=(List.getElem?_eq_some_iff.1 hi).1;obtain⟨c,hc⟩:∃ c,cs[i]? =some c:=⟨_,List.getElem?_eq_getElem (by omega)⟩;have hr:=h4 i c t hc hi;obtain⟨p',c',e⟩:=hr.form;injection e with e
 subst e;rcases h2.2 with⟨e1,e2⟩ | ⟨g,cap',cur,e1,e2,e3,e4,e5,_⟩
 ·exfalso;omega
 ·injection e1 with a1 a2 a3
  subst a1 a2 a3;have hlt:=h2.lt g rfl;have ce:∀ (j:Nat) (u:Value),(aj t.kind t.set t.mn t.mx (.slice p' t.subs.length c'))[j]? =some u->w.cell? ⟨g,i*8+j,none⟩=some u:=fun j u hj=>by
   have:=h2.cells (g:=g) rfl _ _ (gq (fun c hc=>(h3 c hc).1) hc hj);rw[Addr.add_mid]at this;simpa using this
  refine⟨g,p',c',rfl,rfl,e4,hlt.1,hlt.2,⟨ce 0 _ rfl,ce 1 _ rfl,ce 2 _ rfl,ce 3 _ rfl,ce 4 _ rfl,ce 5 _ rfl,ce 6 _ rfl,ce 7 _ rfl⟩,?_⟩;exact hr.mono fun x hx=>⟨hx.1,hx.2.1,fun e=>hx.2.2 (by rw[e];rfl)⟩
theorem bu.app {base:Nat} {w w':World} {v v':Value} {l l2:List RX} {cs cs2:List (Array Value)} (h1:cs.length=l.length) (h3:∀ c∈cs,c.size=8/\∀ u∈c.toList,u.oneCell'=true) (h4:∀ (i:Nat) (c:Array Value) (t:RX),cs[i]? =some c->l[i]? =some t->aG (fun x=>base<=x/\x<w.heap.size/\v.ownBlock≠some x) w (.agg c) t) (g1:cs2.length=l2.length) (g3:∀ c∈cs2,c.size=8/\∀ u∈c.toList,u.oneCell'=true) (g4:∀ (i:Nat) (c:Array Value) (t:RX),cs2[i]? =some c->l2[i]? =some t->aG (fun x=>base<=x/\x<w.heap.size/\v.ownBlock≠some x) w (.agg c) t) (ho:w'.ownsRow base 86 8 v' (l.length+l2.length) (aQ cs++aQ cs2)) (hg:w.grownBy w' v.ownBlock) (jo:v'.ownBlock=v.ownBlock\/v'.ownBlock=some w.heap.size):bu base w' v' (l++l2):=by
 have key:∀ (c:Array Value) (t:RX),aG (fun x=>base<=x/\x<w.heap.size/\v.ownBlock≠some x) w (.agg c) t->aG (fun x=>base<=x/\x<w'.heap.size/\v'.ownBlock≠some x) w' (.agg c) t:=fun c t h=>by
  refine(h.keeps (aa.aW hg fun x (hx:base<=x/\x<w.heap.size/\v.ownBlock≠some x)=>⟨hx.2.1,fun e=>hx.2.2 e.symm⟩) fun x hx=>hx).mono fun x hx=>⟨hx.1,Nat.lt_of_lt_of_le hx.2.1 hg.size,fun e=>?_⟩
  rcases jo with e2 | e2
  ·exact hx.2.2 (by rw[<-e2,e])
  ·rw[e2]at e
   cases e
   exact Nat.lt_irrefl _ hx.2.1
 refine⟨cs++cs2,by simp[h1,g1],by rw[List.length_append,ko];exact ho,fun c hc=>(List.mem_append.1 hc).elim (h3 c) (g3 c),fun i c t hi ht=>?_⟩;rcases Nat.lt_or_ge i l.length with fU | fU
 ·rw[List.getElem?_append_left (by omega)]at hi ht
  exact key c t (h4 i c t hi ht)
 ·rw[List.getElem?_append_right (by omega)]at hi ht
  rw[h1]at hi;exact key c t (g4 _ c t hi ht)
attribute [local go_sem] encS
theorem yL (W:World) (e:TypeId) (s:ByteArray):Below W.heap.size W (Lib.bytesWorld W e s):=by refine⟨?_,?_,?_,by rw[Lib.bytesWorld_size];omega,fun k hk=>Lib.bytesWorld_at_old W e s k hk⟩<;>(unfold Lib.bytesWorld World.freeze;split<;>rfl)
theorem xi (s:ByteArray) (l:List Nat) (dI:s.data.toList.map (·.toNat)=l) (hn:l.length<=1000000) (w:World): Calls Tryz.prog 37 #[.string s] w fun e w'=>e=.returned (.agg (encS (nE fun c=>l.contains c)))/\Below w.heap.size w w':=by
 obtain⟨u,hu⟩:∃ u,u=nE fun c=>l.contains c:=⟨_,rfl⟩
 rw[<-hu];have HU:=hid hu;have hcv:∀ W:World,(convert 9 23 (.string s)).run Tryz.prog W=.ok (.slice (some ⟨W.heap.size,0,none⟩) s.size (grownCap W s.size 0 5)) (Lib.bytesWorld W 5 s):=fun W=>Lib.run_convert_string_bytes W 9 23 5 s Tryz.underlying9 Tryz.underlying23 Tryz.underlying5
 have hsz:s.size=l.length:=by rw[<-dI];simp
 have HCE:Hid (∀ (W:World) (i x:Nat),l[i]? =some x->(Lib.bytesWorld W 5 s).cell? ⟨W.heap.size,i,none⟩=some (.int .u8 x)):=hid fun W i x h=>by
  have hi:i<s.size:=by rw[hsz];exact(List.getElem?_eq_some_iff.1 h).1
  rw[Lib.bytesWorld_cell W 5 s i hi];rw[<-dI,List.getElem?_map]at h;cases hq:s.data.toList[i]? with
  | none=>rw[hq]at h;cases h
  | some b=>rw[hq]at h;cases h;rw[List.getD_eq_getElem?_getD,hq];rfl
 have HL:Hid (∀ c∈l,c<256):=hid fun c hc=>by
  rw[<-dI]at hc;obtain⟨b,_,rfl⟩:=List.mem_map.1 hc;exact b.toNat_lt
 rw[hsz]at hcv;have EM:Hid (∀ W:World,Below W.heap.size W (Lib.bytesWorld W 5 s)):=hid fun W=>yL W _ s
 have HBS:Hid (∀ W:World,(Lib.bytesWorld W 5 s).heap.size=W.heap.size+1):=hid fun W=>Lib.bytesWorld_size W _ s
 clear hu dI hsz;go_enter Tryz.func37,Tryz.ntmps37;go_wp2;obtain⟨W2,hW2⟩:∃ W,W=(w.alloc (.cells #[.int .u64 0,.int .u64 0,.int .u64 0,.int .u64 0] 70)).alloc (.cells #[.int .u64 0,.int .u64 0,.int .u64 0,.int .u64 0] 70):=⟨_,rfl⟩;have hs2:W2.heap.size=w.heap.size+2:=by rw[hW2];simp
 have B2:Hid (ak W2 (w.heap.size+1) (encS 0) 70):=hid (by rw[hW2,ej];exact(ak.new _ _ _).at (by simp));have R2:Hid (ak W2 w.heap.size #[.int .u64 0,.int .u64 0,.int .u64 0,.int .u64 0] 70):=hid (by rw[hW2];exact(ak.new _ _ _).alloc _);have X2:Hid (Below w.heap.size w W2):=hid (by rw[hW2];exact(((Ext.refl w).alloc _).alloc _).below);have HW2:=hid hW2;clear hW2;go_loopw [9] (fun i wr=>∃ (k:Nat) (s':BS),k<=l.length/\i=.int .i64 k/\(∀ c,c<256->s'.getLsbD c=(l.take k).contains c)/\ak wr (w.heap.size+1) (encS s') 70/\ak wr w.heap.size #[.int .u64 0,.int .u64 0,.int .u64 0,.int .u64 0] 70/\(∀ i x:Nat,l[i]? =some x->wr.cell? ⟨w.heap.size+1+1,i,none⟩=some (.int .u8 x))/\Below w.heap.size w wr) (fun i _=>l.length-(intOf i).toNat);case atStart=>
  rw[<-HW2.out];have hb:=EM.out W2;refine⟨0,0,by omega,rfl,fun c hc=>by simp,B2.out.below hb (by omega),R2.out.below hb (by omega),fun i x h=>?_,X2.out.trans (hb.mono X2.out.size)⟩;have:=HCE.out W2 i x h;rw[hs2]at this;exact this
 case round=>
  obtain⟨k,s',hk,rfl,hs,hB,hR,hce,hx⟩:=hrel;have HS:=hid hs;have HCR:=hid hce;clear hs hce;by_cases hlt:k<l.length
  ·obtain⟨c,fw⟩:∃ c,l[k]? =some c:=⟨l[k],List.getElem?_eq_getElem hlt⟩
   have fP:c<256:=HL.out c (List.mem_of_getElem? fw);have hcc:wr.cell? ⟨w.heap.size+1+1,k,none⟩=some (.int .u8 c):=HCR.out k c fw;have hw:(encS s')[c/64]? =some (.int .u64 (wd s' (c/64)).toNat):=eA s' (by omega);have hc1:wr.cell? ⟨w.heap.size+1,c/64,none⟩=some (.int .u64 (wd s' (c/64)).toNat):=(hB.cell _).trans hw;have hf:=hB.frozen (c/64);have dw:l.take (k+1)=l.take k++ [c]:=by rw[List.take_add_one,fw];rfl
   have HT:=hid dw;have HB:=hid hB;have HR:=hid hR;have HX:=hid hx;have HCl:=hid fw;have ed:(k:Int)<l.length:=by omega
   clear hB hR hx hw dw fw EM HBS hcv;go_wp2;go_roundw;case rel=>
    refine⟨k+1,mY s' c,by omega,by go_num,fun d hd=>?_,?_,?_,fun i x h=>?_,?_⟩
    ·rw[jD s' fP,HS.out d hd,HT.out,List.contains_eq_any_beq,List.contains_eq_any_beq,List.any_append]
     simp
    ·rw[<-sQ s' fP];exact HB.out.set _ _
    ·exact HR.out.other (by simp) _
    ·rw[cell_far _ _ _ _ (by simp)];exact HCR.out i x h
    ·exact HX.out.trans (((aa.refl (· <w.heap.size) _).setCell (p:=⟨w.heap.size+1,c/64,none⟩) (fun h=>by have h':w.heap.size+1<w.heap.size:=h;omega) _).below)
   case measure=>simp[intOf];omega
  ·have Mb:s'=u:=by rw[HU.out];exact BS.Gp fun c hc=>by rw[HS.out c hc,List.take_of_length_le (by omega)]
   subst Mb;obtain rfl:k=l.length:=by omega
   obtain⟨c0,c1,c2,c3⟩:=hB.Eg;have r0:wr.cell? ⟨w.heap.size,0,none⟩=some (.int .u64 0):=hR.cell 0;have r1:wr.cell? ⟨w.heap.size,1,none⟩=some (.int .u64 0):=hR.cell 1;have r2:wr.cell? ⟨w.heap.size,2,none⟩=some (.int .u64 0):=hR.cell 2;have r3:wr.cell? ⟨w.heap.size,3,none⟩=some (.int .u64 0):=hR.cell 3;have rf:=hR.frozen;have HX:=hid hx;clear hB hR hx EM HBS hcv;go_wp2;refine bodyPost_ret (v:=.agg (encS s')) ?_ rfl ⟨rfl,?_⟩
   ·simp[results,Tryz.results37,go_sem,r0,r1,r2,r3]
   ·refine HX.out.trans (aa.below ((((aa.refl (· <w.heap.size) _).setCell ?_ _).setCell ?_ _).setCell ?_ _ |>.setCell ?_ _))<;>(intro h;simp at h)
end Go.Proofs.YtbiboekhakbnpaaGreatDoor
namespace Go.Proofs.YtbiboekhakbnpaaGreatDoor
open Go Go.RowKit Go.Shelf Go.Maps
def eR (w:World) (g off:Nat) (s:Nat->BitVec 64):Prop:=g<w.heap.size/\∀ i,i<7->w.cell? ⟨g,off+i,none⟩=some (.int .u64 (s i).toNat)
theorem eR.keeps {w w':World} {g off:Nat} {s:Nat->BitVec 64} (h:eR w g off s) {R:Nat->Prop} (hk:aa R w w') (hR:R g):eR w' g off s:=⟨Nat.lt_of_lt_of_le h.1 hk.size,fun i hi=>(hk.cell (p:=⟨g,off+i,none⟩) hR).trans (h.2 i hi)⟩
theorem eR.Mc {w:World} {b:Nat} {s:Nat->BitVec 64} {t:TypeId} (h:ak w b (bK s) t):eR w b 0 s:=⟨h.lt,fun i hi=>by rw[Nat.zero_add];exact(h.cell i).trans (jJ s hi)⟩
theorem nu {R:Nat->Prop} {w W:World} (h:aa R w W) (p:Addr) (u:Value):aa R (w.setCell p u) (W.setCell p u):=by
 refine⟨h.os,h.tape,h.output,by simpa[World.setCell]using h.size,fun k hk=>?_⟩;by_cases e:k=p.block
 ·have h1:=h.keep k hk
  subst e;unfold World.setCell;simp only[Array.getElem?_modify,h1]
 ·rw[Below.heap_setCell _ _ _ _ e,Below.heap_setCell _ _ _ _ e]
  exact h.keep k hk
theorem IZ (s:Nat->BitVec 64) (b off p:Nat) (hp:p<448) (w:World) (h:eR w b off s): Calls Tryz.prog 94 #[.pointer (some ⟨b,off,none⟩),.int .i64 p] w fun e w'=>e=.returned (.bool (qo s p))/\w'=w:=by
 obtain⟨q,hq⟩:∃ q,q=p/64:=⟨_,rfl⟩;obtain⟨r,hr⟩:∃ r,r=p%64:=⟨_,rfl⟩;have LI:q<7:=by omega
 have LJ:r<64:=by omega
 have c1:w.cell? ⟨b,off+q,none⟩=some (.int .u64 (s q).toNat):=h.2 q LI;have e1:(p:Int).tdiv 64=(q:Int):=by rw[Int.tdiv_eq_ediv_of_nonneg (by omega)];omega
 have e2:(p:Int).tmod 64=(r:Int):=by rw[Int.tmod_eq_emod_of_nonneg (by omega)];omega
 have w1:IntKind.i64.wrap (q:Int)=q:=IntWalk.i64_in _ (by omega);have w2:IntKind.i64.wrap (r:Int)=r:=IntWalk.i64_in _ (by omega);have q7i:(q:Int)<7:=by omega
 have r0i:¬ ((r:Int)<0):=by omega
 have il:qo s p=(s q).getLsbD r:=by unfold qo;rw[<-hq, <-hr]
 rw[il];clear il hq hr h;go_enter Tryz.func94,Tryz.ntmps94;go_wp2;go_ret;exact⟨congrArg (fun b=>Ending.returned (.bool b)) (wP (s q) r),rfl⟩
theorem xj (s:Nat->BitVec 64) (b off p:Nat) (hp:p<448) (w:World) (h:eR w b off s) (hz:w.frozen? ⟨b,off+p/64,none⟩=false): Calls Tryz.prog 129 #[.pointer (some ⟨b,off,none⟩),.int .i64 p] w fun e w'=>(∃ u,e=.returned u)/\aa (· <w.heap.size) (w.setCell ⟨b,off+p/64,none⟩ (.int .u64 (iH s p (p/64)).toNat)) w':=by
 obtain⟨q,hq⟩:∃ q,q=p/64:=⟨_,rfl⟩;obtain⟨r,hr⟩:∃ r,r=p%64:=⟨_,rfl⟩;have LI:q<7:=by omega
 have LJ:r<64:=by omega
 have Yt:iH s p (p/64)=s q ||| BitVec.twoPow 64 r:=by unfold iH;rw[if_pos rfl, <-hq, <-hr];rfl
 rw[Yt];rw[<-hq]at hz ⊢;have c1:w.cell? ⟨b,off+q,none⟩=some (.int .u64 (s q).toNat):=h.2 q LI;have e1:(p:Int).tdiv 64=(q:Int):=by rw[Int.tdiv_eq_ediv_of_nonneg (by omega)];omega
 have e2:(p:Int).tmod 64=(r:Int):=by rw[Int.tmod_eq_emod_of_nonneg (by omega)];omega
 have w1:IntKind.i64.wrap (q:Int)=q:=IntWalk.i64_in _ (by omega);have w2:IntKind.i64.wrap (r:Int)=r:=IntWalk.i64_in _ (by omega);have q7i:(q:Int)<7:=by omega
 have r0i:¬ ((r:Int)<0):=by omega
 have q0i:¬ ((q:Int)<0):=by omega
 have jo:=Eh (s q) LJ;have H:=hid h;have HZ:=hid hz;clear hq hr h Yt hz;go_enter Tryz.func129,Tryz.ntmps129;go_wp2;refine aA false (fun _=>False) (by kernel_rfl) 11 [0,0,2,1,15,31,0,64,192,511,1,2047,4095] (fun i=>i==12) (by kernel_rfl) (fun _=>aO.any _) ?_;intro C hC hne;have HC:=hid hC;have f1:=ay hC (p:=⟨b,off+q,none⟩) H.out.1 (fun h=>h) c1;clear hC c1
 repeat (refine ai (fun K hK=>?_);first | (refine br rfl ?_;try go_simp;refine hK _ _ ?_;clear hK K) | (refine aZ rfl rfl ?_;unfold ar;go_simp;refine hK _ _ ?_;clear hK K))
 refine aY (fun W hW hH=>?_);have hM:=((HC.out W).1 hW);have HX:=hid hM.below;have c2:W.cell? ⟨b,off+q,none⟩=some (.int .u64 (s q).toNat):=(hM.keeps.cell (p:=⟨b,off+q,none⟩) ⟨H.out.1,fun h=>h⟩).trans (H.out.2 q LI);have z2:W.frozen? ⟨b,off+q,none⟩=false:=by
  have e:W.heap[b]? =w.heap[b]? :=hM.keeps.keep b ⟨H.out.1,fun h=>h⟩;have e3:=HZ.out;unfold World.frozen? at e3 ⊢;rw[e];exact e3
 clear hM hW hH HC hne f1;go_wp2;have hval:((s q).toNat ||| 2^r%18446744073709551616)=(s q ||| BitVec.twoPow 64 r).toNat:=by rw[BitVec.toNat_or,BitVec.toNat_twoPow]
 refine bodyPost_end (v:=.tuple #[]) (by simp[results,Tryz.results129,go_sem]) rfl ⟨⟨_,rfl⟩,?_⟩;rw[hval];exact nu (aa.ah HX.out fun _ h=>h) _ _
def ey (w:World) (g off:Nat) (z:Nat->BitVec 64):Nat->World
 | 0=>w
 | i+1=>(ey w g off z i).setCell ⟨g,off+i,none⟩ (.int .u64 (z i).toNat)
theorem bT (w:World) (g off:Nat) (z:Nat->BitVec 64):∀ i,aa (· ≠g) w (ey w g off z i)
 | 0=>aa.refl _ _
 | i+1=>(bT w g off z i).setCell (fun h=>h rfl) _
theorem lS (w:World) (g off:Nat) (z:Nat->BitVec 64) {j:Nat} {v:Value} (h:w.cell? ⟨g,j,none⟩=some v):∀ i,(off+i<=j)->(ey w g off z i).cell? ⟨g,j,none⟩=some v
 | 0,_=>h
 | i+1,hj=>by
  have ih:=lS w g off z h i (by omega);exact(World.cell?_setCell_other _ _ _ _ (by intro e;injection e with _ e2;omega)).trans ih
theorem nw (w:World) (g off:Nat) (z:Nat->BitVec 64) {j:Nat} (h:w.frozen? ⟨g,j,none⟩=false):∀ i,(ey w g off z i).frozen? ⟨g,j,none⟩=false
 | 0=>h
 | i+1=>by
  have ih:=nw w g off z h i;show((ey w g off z i).setCell _ _).frozen? _=false;rw[World.frozen?_setCell];exact ih
theorem iM (s c:Nat->BitVec 64) (b off:Nat) (w:World) (h:eR w b off s) (hz:∀ i,i<7->w.frozen? ⟨b,off+i,none⟩=false): Calls Tryz.prog 145 #[.pointer (some ⟨b,off,none⟩),.agg (bK c)] w fun e w'=>(∃ u,e=.returned u)/\aa (· <w.heap.size) (ey w b off (fun i=>s i ||| c i) 7) w':=by
 have H:=hid h;have HZ:=hid hz;have JW:=h.1;obtain⟨z,hz0⟩:∃ z:Nat->BitVec 64,z=fun i=>s i ||| c i:=⟨_,rfl⟩
 rw[<-hz0];have HZ0:=hid hz0;clear h hz hz0;obtain⟨cv,hcv⟩:∃ v,v=bK c:=⟨_,rfl⟩;rw[<-hcv];have HCV:=hid hcv;clear hcv;unfold bK at HCV;rw[HCV.out];go_enter Tryz.func145,Tryz.ntmps145;go_wp2;refine au ?_;intro V hV;have B1:Hid (ak V w.heap.size (bK c) 129):=by rw[hV];exact hid (ak.new _ _ _)
 have X1:Hid (aa (· <w.heap.size) w V):=by rw[hV];exact hid ((Ext.refl _).alloc _).keeps
 have Bg:V.heap.size=w.heap.size+1:=by rw[hV];simp
 clear hV;go_loopw [5] (fun iv wr=>∃ i:Nat,i<=7/\iv=.int .i64 i/\ak wr w.heap.size (bK c) 129/\aa (· <w.heap.size) (ey w b off z i) wr) (fun iv _=>7-(intOf iv).toNat);case atStart=>exact⟨0,by omega,rfl,B1.out,X1.out⟩
 case round=>
  obtain⟨i,hi,rfl,hb,hx⟩:=hrel;obtain⟨wo,rfl⟩:∃ wo:World,wo=wr:=⟨_,rfl⟩;have HB:=hid hb;have HX:=hid hx;clear hb hx;by_cases hlt:i<7
  ·have ed:(i:Int)<7:=by omega
   have c1:wo.cell? ⟨b,off+i,none⟩=some (.int .u64 (s i).toNat):=(HX.out.cell (p:=⟨b,off+i,none⟩) JW).trans (lS w b off z (H.out.2 i hlt) i (Nat.le_refl _));have c2:wo.cell? ⟨w.heap.size,i,none⟩=some (.int .u64 (c i).toNat):=(HB.out.cell i).trans (jJ c hlt);have z1:wo.frozen? ⟨b,off+i,none⟩=false:=by have e:wo.heap[b]? =(ey w b off z i).heap[b]? :=HX.out.keep b JW;have e3:=nw w b off z (HZ.out i hlt) i;unfold World.frozen? at e3 ⊢;rw[e];exact e3
   have Sk:b<wo.heap.size:=Nat.lt_of_lt_of_le JW (Nat.le_trans (bT w b off z i).size HX.out.size);have Z1:=hid z1;clear z1;go_upto_region 4 with fail
   refine aA false (fun _=>False) (by kernel_rfl) 10 [0,0,1,7,15,0,32,96,255,1,1023,2047] (fun i=>i==11) (by kernel_rfl) (fun _=>aO.any _) ?_;intro C hC hne;have HC:=hid hC;have f1:=ay hC (p:=⟨b,off+i,none⟩) Sk (fun h=>h) c1;have f2:=ay hC (p:=⟨w.heap.size,i,none⟩) HB.out.lt (fun h=>h) c2;clear hC c1 c2
   repeat (refine ai (fun K hK=>?_);first | (refine br rfl ?_;try go_simp;refine hK _ _ ?_;clear hK K) | (refine aZ rfl rfl ?_;unfold ar;go_simp;refine hK _ _ ?_;clear hK K))
   refine aY (fun W hW hH=>?_);have hM:=((HC.out W).1 hW);have KX:Hid (aa (· <wo.heap.size) wo W):=hid (hM.keeps.mono fun k hk=>⟨hk,fun h=>h⟩);have z2:W.frozen? ⟨b,off+i,none⟩=false:=by
    have e:W.heap[b]? =wo.heap[b]? :=KX.out.keep b Sk;have e3:=Z1.out;unfold World.frozen? at e3 ⊢;rw[e];exact e3
   have c3:W.cell? ⟨b,off+i,none⟩=some (.int .u64 (s i).toNat):=(KX.out.cell (p:=⟨b,off+i,none⟩) Sk).trans ((HX.out.cell (p:=⟨b,off+i,none⟩) JW).trans (lS w b off z (H.out.2 i hlt) i (Nat.le_refl _)));clear hM hW hH HC hne f1 f2;go_wp2;go_roundw;case rel=>
    refine⟨i+1,by omega,by go_num,?_,?_⟩
    ·exact(HB.out.keeps KX.out HB.out.lt).other (by show b≠_;omega) _
    ·rw[x9]
     have e:(s i ||| c i)=z i:=by rw[HZ0.out]
     rw[e];exact nu (HX.out.tr (KX.out.mono fun k hk=>by have h1:=HX.out.size;have h2:=(bT w b off z i).size;have h3:k<w.heap.size:=hk;omega)) _ _
   case measure=>simp[intOf];omega
  ·obtain rfl:i=7:=by omega
   have ed:¬ (((7:Nat):Int)<7):=by omega
   go_wp2;refine bodyPost_end (v:=.tuple #[]) (by simp[results,Tryz.results145,go_sem]) rfl ⟨⟨_,rfl⟩,HX.out⟩
end Go.Proofs.YtbiboekhakbnpaaGreatDoor
