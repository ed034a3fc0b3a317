/- (*maker).state: the number of a state, which may be new. -/
import Derived.Test.YtjgccapbphadjaaGreatDoorOM15
set_option maxRecDepth 100000
set_option maxHeartbeats 16000000
open Go.Lib (hid)
namespace Go.Proofs.YtjgccapbphadjaaGreatDoor
open Go Go.RowKit Go.Shelf Go.Maps
theorem KJ {ps:List PT} {fuel:Nat} {st:List (List (List Int))×List (List Nat)} (h:sO ps fuel=some st):XH fuel (partsOf (cC ps)).length (pC ps) (lN ps) fuel st:=by
 unfold sO at h;split at h
 ·cases h
 ·rename_i hf
  exact Bk (by omega) (Br ps) (fun row k hr _=>ry hr _) fuel h
theorem Rv {ps:List PT} {fuel:Nat} (hf2:fuel<=4000) {st:List (List (List Int))×List (List Nat)} (h:sO ps fuel=some st):Rt ⟨partsOf (cC ps),st.2.map fun r=>r.map Int.ofNat,st.1.map (dM ps)⟩:=by
 have I:=KJ h;have hlen:st.2.length=st.1.length:=by have:=I.len;have:=I.le;omega
 have hrow:∀ s,s<st.2.length->((st.2.map fun r=>r.map Int.ofNat).getD s [])=(st.2.getD s []).map Int.ofNat/\(st.2.getD s [])∈st.2:=fun s hs=>by
  have e:=aV (l:=st.2) [] hs;refine⟨?_,aw e⟩;rw[bh,aO,e];rfl
 refine⟨?_,?_,?_,mD _,?_,?_,?_⟩
 ·show 1<=(st.2.map fun r=>r.map Int.ofNat).length
  have:=(List.getElem?_eq_some_iff.1 I.head).1;simp;omega
 ·show(st.2.map fun r=>r.map Int.ofNat).length<=4000
  have:=I.le;simp;omega
 ·simp[hlen]
 ·intro s hs
  rw[aQ]at hs;obtain⟨e,hm⟩:=hrow s hs;show((st.2.map fun r=>r.map Int.ofNat).getD s []).length=_;rw[e,aQ];exact(I.rows _ hm).1
 ·intro s hs t ht
  rw[aQ]at hs;obtain⟨e,hm⟩:=hrow s hs;replace ht:t∈((st.2.map fun r=>r.map Int.ofNat).getD s []):=ht;rw[e]at ht;obtain⟨q,hq,rfl⟩:=List.mem_map.1 ht;have h2:=(I.rows _ hm).2 q hq;show(0:Int)<=(q:Int)/\(q:Int)<(((st.2.map fun r=>r.map Int.ofNat).length:Nat):Int);rw[aQ];omega
 ·intro s hs
  rw[aQ]at hs;show rh ((st.1.map (dM ps)).getD s [])=true;rw[bh,aO,az (by omega)];exact Ig ps _
theorem Nb {ps:List PT} {fuel:Int} {d:DF} (h:kP ps fuel=(d,0)):Rt d:=by
 unfold kP at h;split at h
 ·cases h
 ·split at h
  ·cases h
  ·split at h
   ·cases h
   ·rename_i hf
    split at h
    ·cases h
    ·rename_i st hst
     have e:(⟨partsOf (cC ps),st.2.map fun r=>r.map Int.ofNat,st.1.map (dM ps)⟩:DF)=d:=(Prod.mk.inj h).1;rw[<-e];exact Rv (by omega) hst
section
variable {α:Type} [DecidableEq α]
end
theorem Nc {ps:List PT} {f:Int} (h:(kP ps f).2=0):¬64<ps.length/\ps.all PT.ok=true/\0<=f/\f<=4000/\∃ st,sO ps f.toNat=some st/\(kP ps f).1=⟨partsOf (cC ps),st.2.map fun r=>r.map Int.ofNat,st.1.map (dM ps)⟩:=by
 unfold kP at h ⊢;split at h
 ·exact absurd h (by decide)
 ·rename_i h1
  split at h
  ·exact absurd h (by decide)
  ·rename_i h2
   split at h
   ·exact absurd h (by decide)
   ·rename_i h3
    rw[if_neg h1,if_neg h2,if_neg h3];rcases e:sO ps f.toNat with _ | st
    ·rw[e]at h
     have h':(181:Int)=0:=h;omega
    ·exact⟨h1,by simpa using h2,by omega,by omega,st,rfl,rfl⟩
theorem Rt.UZ {d:DF} (h:Rt d):Sm d:=by
 have hn:=h.le;have hk:=h.En;have idx:∀ (ll:List (List Int)) (l:List Int),l∈ll->∃ i,i<ll.length/\ll.getD i []=l:=fun ll l hl=>by
  obtain⟨i,hi⟩:=List.getElem?_of_mem hl;exact⟨i,(List.getElem?_eq_some_iff.1 hi).1,getD_some hi⟩
 refine⟨by omega,by omega,by have:=h.mr;omega,fun l hl=>?_,fun l hl=>?_⟩
 ·obtain⟨i,h1,h2⟩:=idx _ _ hl
  have:=h.len i h1;rw[h2]at this;omega
 ·obtain⟨i,h1,h2⟩:=idx _ _ hl
  have hr:=h.Tm i (by have:=h.mr;omega);rw[h2]at hr;by_cases h0:l.length=0
  ·omega
  ·have:=KH hr (l.length-1) (by omega)
   omega
def Rw (v0 v1 v2 v3:Value) (x:PT):List Value:=[v0,v1,v2,v3,.bool x.nf.emp,.bool x.zP,.int .i64 x.mark]
theorem U0 {xs:List Value} {k i j:Nat} (hl:xs.length=k*7) (c:List Value) (hj:j<7) (hi:i<k):(xs++c)[i*7+j]? =xs[i*7+j]? :=bJ (by omega)
theorem Ja {xs:List Value} {k j:Nat} (hl:xs.length=k*7) (c:List Value):(xs++c)[k*7+j]? =c[j]? :=by rw[cH (by omega),hl];congr 1;omega
theorem im.form {base:Nat} {w:World} {v:Value} {a:NF} (h:im base w v a):∃ a0 n0 c0 a1 n1 c1 a2 n2 c2 a3 n3 c3,v=.agg #[.slice a0 n0 c0,.slice a1 n1 c1,.slice a2 n2 c2,.slice a3 n3 c3,.bool a.emp]:=by obtain⟨v0,v1,v2,v3,rfl,h0,h1,h2,h3⟩:=h;obtain⟨a0,c0,rfl⟩:=ownsRow_form h0;obtain⟨a1,c1,rfl⟩:=h1.form;obtain⟨a2,c2,rfl⟩:=ownsRow_form h2;obtain⟨a3,c3,rfl⟩:=ownsRow_form h3;exact⟨_,_,_,_,_,_,_,_,_,_,_,_,rfl⟩
theorem Tryz.Y0:(Tryz.prog.info? 124).map (fun i=>(i.zero,i.size,i.bytes))=some (some (.agg #[.slice none 0 0,.slice none 0 0,.slice none 0 0,.slice none 0 0,.bool false,.bool false,.int .i64 0]),7,120):=by kernel_rfl
def eB (base:Nat) (w:World) (v:Value) (ps:List PT):Prop:=∃ cs:List Value,w.ownsRow base 124 7 v ps.length cs/\∀ (i:Nat) (x:PT),ps[i]? =some x->Ql (im base) w x fun j=>cs[i*7+j]?
theorem eB.nil (base:Nat) (w:World):eB base w (.slice none 0 0) []:=⟨[],World.ownsRow_nil _ _ _ _,fun i x h=>by simp at h⟩
theorem eB.form {base:Nat} {w:World} {v:Value} {ps:List PT} (h:eB base w v ps):∃ a c,v=.slice a ps.length c:=by obtain⟨cs,h1,_⟩:=h;exact ownsRow_form h1
theorem eB.below {base:Nat} {w w':World} {v:Value} {ps:List PT} (h:eB base w v ps) (hk:aa w w'):eB base w' v ps:=by obtain⟨cs,h1,h2⟩:=h;exact⟨cs,aj h1 hk,fun i x hx=>(h2 i x hx).mono (fun _ hv=>hv.below hk) fun _ _ _ hu=>hu⟩
theorem eB.pts {base:Nat} {w:World} {v:Value} {ps:List PT} (h:eB base w v ps):iW w v ps:=by
 obtain⟨cs,h1,h2⟩:=h;have hlt:=h1.lt;rcases h1.2 with⟨rfl,e2⟩ | ⟨g,cap,cur,rfl,e2,e3,e4,e5,_⟩
 ·exact .inl ⟨rfl,List.eq_nil_of_length_eq_zero e2⟩
 ·refine .inr ⟨g,0,cap,rfl,(hlt g rfl).2,fun i x hx=>?_⟩
  obtain⟨v0,v1,v2,v3,h0,c0,c1,c2,c3,c4,c5,c6⟩:=h2 i x hx;have ce:∀ (j:Nat) (u:Value),cs[i*7+j]? =some u->w.cell? ⟨g,0+i*7+j,none⟩=some u:=fun j u hj=>by
   have:=h1.cells (g:=g) rfl _ _ hj;rw[Addr.add_mid]at this;rw[show 0+i*7+j=i*7+j by omega];simpa using this
  exact⟨v0,v1,v2,v3,h0.nf,ce 0 _ c0,ce 1 _ c1,ce 2 _ c2,ce 3 _ c3,ce 4 _ c4,ce 5 _ c5,ce 6 _ c6⟩
theorem eB.more {base:Nat} {w w':World} {v v' v0 v1 v2 v3:Value} {ps:List PT} {cs:List Value} {x:PT} (h1:w.ownsRow base 124 7 v ps.length cs) (h2:∀ (i:Nat) (x:PT),ps[i]? =some x->Ql (im base) w x fun j=>cs[i*7+j]?) (hn:im base w (.agg #[v0,v1,v2,v3,.bool x.nf.emp]) x.nf) (hg:w.grownBy w' v.ownBlock) (ho:w'.ownsRow base 124 7 v' (ps.length+1) (cs++Rw v0 v1 v2 v3 x)):eB base w' v' (ps++ [x]):=by
 have uk:ae (fun y=>y<w.heap.size/\v.ownBlock≠some y) w w':=ae.bw hg fun y hy=>⟨hy.1,fun e=>hy.2 e.symm⟩
 have hl:=h1.1;refine⟨cs++Rw v0 v1 v2 v3 x,by rw[aG];exact ho,fun i y hy=>?_⟩;by_cases e:i<ps.length
 ·rw[bJ e]at hy
  exact(h2 i y hy).mono (fun _ hv=>hv.far h1 (by decide) (by decide) (by decide) uk) fun j hj u hu=>(U0 hl _ hj e).trans hu
 ·have hl2:=(List.getElem?_eq_some_iff.1 hy).1
  rw[aG,List.length_singleton]at hl2;obtain rfl:i=ps.length:=by omega
  rw[cH (aD _),Nat.sub_self]at hy;cases hy;refine⟨v0,v1,v2,v3,hn.far h1 (by decide) (by decide) (by decide) uk,?_,?_,?_,?_,?_,?_,?_⟩<;>exact Ja hl _
theorem xm {n:Nat} {l:List Int} (h:dT 0 ((n:Int)-1) l=true):l.length<=n:=by
 obtain⟨h1,h2⟩:=dU h;have hn:(l.map fun x=>x.toNat).Nodup:=by rw[List.nodup_iff_pairwise_ne,List.pairwise_map];exact h1.imp_of_mem fun {a b} ha hb hab=>by have:=h2 a ha;have:=h2 b hb;omega
 have:=List.Nodup.length_le_of_subset hn (l₂:=List.range n) fun x hx=>by
  obtain⟨y,hy,rfl⟩:=List.mem_map.1 hx;have:=h2 y hy;exact List.mem_range.2 (by omega)
 simpa using this
theorem Nt.smn {a:NF} (h:Nt a):PZ a:=by have hle:=h.le;refine⟨by omega,by have:=h.cF;omega,by have:=xm h.fst;omega,by have:=xm h.cR;omega,fun l hl=>?_⟩;obtain⟨p,hp⟩:=List.getElem?_of_mem hl;have hpl:=(List.getElem?_eq_some_iff.1 hp).1;have:=xm (h.row p (by rw[<-h.cF];exact hpl));rw[bh,hp]at this;have e:(some l).getD []=l:=rfl;rw[e]at this;omega
def Y4 (s:List (Nat×Nat×Nat)×Bool×Nat):PT:=⟨(hZ s.1).nf,s.2.1,s.2.2⟩
def U4 (l:List (List (Nat×Nat×Nat)×Bool×Nat)):List PT:=(l.take 4).map Y4
def oV (n0 n1 n2:Nat) (code:Int) (d:DF) (W:World) (e:Ending) (w':World):Prop:=
 ∃ a0 c0 a1 c1 a2 c2,e=.returned (.tuple #[.agg #[.slice a0 n0 c0,.slice a1 n1 c1,.slice a2 n2 c2],.int .i64 code])/\bA W.heap.size w' (.agg #[.slice a0 n0 c0,.slice a1 n1 c1,.slice a2 n2 c2]) d/\aa W w'
theorem bA.mO {w:World} {b:Nat} {t:TypeId} {v0 v1 v2:Value} (h:ar w b #[v0,v1,v2] t):w.cell? ⟨b,0,none⟩=some v0/\w.cell? ⟨b,1,none⟩=some v1/\w.cell? ⟨b,2,none⟩=some v2:=⟨h.cell 0,h.cell 1,h.cell 2⟩
def dy (ps:List PT) (ls:List Nat) (row:List (List Int)) (k:Nat):List (List Int):=eZ ps row (ls.getD k 0)
def xo (ps:List PT) (ls:List Nat) (f:Nat):Option (List (List (List Int))×List (List Nat)):=
 if f=0 then none else ju f (dy ps ls) ls.length (lN ps) f
theorem U5 {f:Nat} {rows:List (List (List Int))} {row:List Nat} {q:List (List Int)} (h:q∈rows):uO f (rows,row) q=some (rows,row++ [Yb rows q]):=PU (st:=(rows,row)) h
theorem Rx {f:Nat} {rows:List (List (List Int))} {row:List Nat} {q:List (List Int)} (h:q∉rows) (hf:rows.length<f):uO f (rows,row) q=some (rows++ [q],row++ [rows.length]):=PQ (st:=(rows,row)) h (Nat.ne_of_lt hf)
theorem Nd {f:Nat} {rows:List (List (List Int))} {row:List Nat} {q:List (List Int)} (h:q∉rows) (hf:rows.length=f):uO f (rows,row) q=none:=Mb (st:=(rows,row)) h hf
theorem KM {ps:List PT} {ls:List Nat} {f n:Nat} (hf:1<=f) {st:List (List (List Int))×List (List Nat)} (h:ju f (dy ps ls) ls.length (lN ps) n=some st):XH f ls.length (pC ps) (lN ps) n st:=
 Bk hf (Br ps) (fun _ _ hr _=>ry hr _) n h
theorem U6 {ps:List PT} {ls:List Nat} {f n:Nat} (hf:1<=f) {st:List (List (List Int))×List (List Nat)} (h:ju f (dy ps ls) ls.length (lN ps) n=some st) (hn:st.1.length=n):xo ps ls f=some st:=by unfold xo;rw[if_neg (by omega)];exact PC h (by omega) f (by have:=(KM hf h).le;omega)
theorem Ry {ps:List PT} {ls:List Nat} {f n:Nat} {rows:List (List (List Int))} {Bl:List (List Nat)} (h:ju f (dy ps ls) ls.length (lN ps) n=some (rows,Bl)) {p:List (List Int)} (hp:rows[n]? =some p): ju f (dy ps ls) ls.length (lN ps) (n+1)=(gS f (dy ps ls p) rows ls.length).map fun r=>(r.1,Bl++ [r.2]):=by rw[ju,h];show pR f (dy ps ls) ls.length n (rows,Bl)=_;unfold pR;simp only[hp]
theorem U7 {ps:List PT} {ls:List Nat} {f n k:Nat} (hf:1<=f) {rows:List (List (List Int))} {Bl:List (List Nat)} (h:ju f (dy ps ls) ls.length (lN ps) n=some (rows,Bl)) {p:List (List Int)} (hp:rows[n]? =some p) {Rz:List (List (List Int))} {row':List Nat} (hr:gS f (dy ps ls p) rows k=some (Rz,row')) (hk:k<ls.length) (hq:dy ps ls p k∉Rz) (nY:f<=Rz.length):xo ps ls f=none:=by
 have I:=KM hf h;have R:=ri (P:=fun _=>True) I.nodup I.le (fun _ _=>trivial) k (fun _ _=>trivial) hr;have h1:gS f (dy ps ls p) rows (k+1)=none:=by rw[gS,hr];exact Nd hq (Nat.le_antisymm R.le nY)
 have h2:=Hz h1 ls.length (by omega);have h3:=Ry h hp;rw[h2]at h3;have hn:n<rows.length:=(List.getElem?_eq_some_iff.1 hp).1;have hle:rows.length<=f:=I.le;unfold xo;rw[if_neg (by omega)];exact LZ h3 f (by omega)
theorem xp {wm wg:World} {mb base L:Nat} {cs:Array Value} {nv:Value} {ns:List Value} (hb:ar wm mb cs 196) (hn:wm.ownsRow base 39 1 nv L ns) (K:ae (fun x=>x<wm.heap.size/\x≠mb/\nv.ownBlock≠some x) wm wg) {b n:Nat} {e:TypeId} {v:Value} {xs:List Value} (h:wm.ownsRow b e 1 v n xs) (h1:196≠e) (h3:e≠39\/∀ x,v.ownBlock=some x->nv.ownBlock≠some x):wg.ownsRow b e 1 v n xs:=
 ai h K fun x hx=>⟨(h.lt x hx).2,cm hb h h1 x hx,fun e2=>by
  rcases h3 with h3 | h3
  ·rcases ownBlock_ne h3 h hn with h5 | h5
   ·rw[h5]at hx;cases hx
   ·exact h5 (by rw[hx,e2])
  ·exact h3 x hx e2⟩
theorem py.not {u v:Value} (h:py u v):∀ x,u.ownBlock=some x->v.ownBlock≠some x:=fun x e e2=>by
 rcases h with h | h
 ·rw[h]at e;cases e
 ·exact h (by rw[e,e2])
theorem py.not' {u v:Value} (h:py u v):∀ x,v.ownBlock=some x->u.ownBlock≠some x:=fun x e e2=>h.not x e2 e
theorem Mk.next {F:Nat->Prop} {wm wg:World} {base mb ob f L:Nat} {pv cv:Value} {ps:List PT} {rows:List (List (List Int))} {nx:List (List Int)} {sv nv kv nv' xv:Value} {us ns ks:List Value} {l:List Int} (M:Mk F wm base mb ob f pv cv ps rows nx sv nv kv us ns ks) (hL:L=nx.length) (K:ae (fun x=>x<wm.heap.size/\x≠mb/\nv.ownBlock≠some x) wm wg) (hblk:ar wg mb #[pv,.int .i64 f,sv,.map (some ob),cv,nv',kv] 196) (Ty:ik F wg base 39 nv' (L+1) (ns++ [xv])) (hx:ik F wg base 3 xv l.length (l.map aN)) (Dx:nv'.ownBlock=nv.ownBlock\/∀ x,nv'.ownBlock=some x->wm.heap.size<=x):Mk F wg base mb ob f pv cv ps rows (nx++ [l]) sv nv' kv us (ns++ [xv]) ks where
 blk:=hblk
 map:=M.map.keeps K ⟨M.map.lt,(fun e=>by have h2:wm.heap[mb]? =_:=M.blk;have h3:wm.heap[ob]? =_:=M.map;rw[e,h2]at h3;cases h3),fun e=>lW M.uS.1 M.map (fun c fz e=>by cases e) ob e rfl⟩
 fm:=M.fm
 fo:=M.fo
 bm:=M.bm
 bo:=M.bo
 st:=⟨xp M.blk M.uS.1 K M.st.1 (by decide) (.inl (by decide)),M.st.2⟩
 Tp:=fun i u q hu hq=>by
  obtain⟨⟨vs,h1,h2⟩,h3,h4⟩:=M.Tp i u q hu hq;exact⟨⟨vs,⟨xp M.blk M.uS.1 K h1.1 (by decide) (.inr h3.not),h1.2⟩,fun i u l hu hl=>⟨xp M.blk M.uS.1 K (h2 i u l hu hl).1 (by decide) (.inl (by decide)),(h2 i u l hu hl).2⟩⟩,h3.step Dx fun b e=>(h1.1.lt b e).2,h4⟩
 uS:=by rw[aG, <-hL];exact Ty
 Oj:=fun i u l' hu hl=>by
  have QJ:ns.length=L:=by have:=M.uS.1.1;omega
  by_cases hi:i<L
  ·rw[bJ (by omega)]at hu
   rw[bJ (by omega)]at hl;exact⟨xp M.blk M.uS.1 K (M.Oj i u l' hu hl).1 (by decide) (.inl (by decide)),(M.Oj i u l' hu hl).2⟩
  ·have gL:=(List.getElem?_eq_some_iff.1 hu).1
   simp at gL;obtain rfl:i=L:=by omega
   rw[cH (by omega),QJ,Nat.sub_self]at hu;rw[cH (by omega), <-hL,Nat.sub_self]at hl;cases hu;cases hl;exact hx
 uh:=⟨xp M.blk M.uS.1 K M.uh.1 (by decide) (.inr M.far.not'),M.uh.2⟩
 Ol:=fun i u l hu hl=>⟨xp M.blk M.uS.1 K (M.Ol i u l hu hl).1 (by decide) (.inl (by decide)),(M.Ol i u l hu hl).2⟩
 far:=by
  rcases Dx with h | h
  ·rcases M.far with h5 | h5
   ·exact .inl (h.trans h5)
   ·exact .inr (by rw[h];exact h5)
  ·cases e:nv'.ownBlock with
   | none=>exact .inl e
   | some x=>exact .inr fun e2=>by have:=h x e;have:=(M.uh.1.lt x (by rw[<-e2,e])).2;omega
def gv (ps:List PT) (row:List (List Int)) (k:Nat):List Int:=((List.zip ps row).take k).filterMap fun y=>if y.1.nf.acc y.2 then some y.1.mark else none
theorem Jb {ps:List PT} {row:List (List Int)} {k:Nat} {x:PT} {l:List Int} (hx:ps[k]? =some x) (hl:row[k]? =some l):gv ps row (k+1)=gv ps row k++if x.nf.acc l then [x.mark]else []:=by
 have hz:(List.zip ps row)[k]? =some (x,l):=by rw[List.getElem?_zip_eq_some];exact⟨hx,hl⟩
 unfold gv;rw[List.take_add_one,hz,List.filterMap_append];by_cases h:x.nf.acc l=true<;>simp[h]
theorem Nf {ps:List PT} {row:List (List Int)} (h:row.length=ps.length):gv ps row ps.length=gX ps row:=by unfold gv gX;rw[List.take_of_length_le];rw[List.length_zip,h];omega
theorem Ng (ps:List PT) (row:List (List Int)) (k:Nat):(gv ps row k).length<=k:=by unfold gv;exact Nat.le_trans (List.length_filterMap_le _ _) (by rw[List.length_take];omega)
def Y8 (F:Nat→Prop) (base mb ob f:Nat) (pv cv:Value) (ps:List PT) (rows:List (List (List Int))) (nx:List (List Int)) (r:List (List Int)) (w1 w:World) (e:Ending) (w':World):Prop:=
  ae (fun x=>x<w1.heap.size∧(x<base∨¬F x)) w w'∧
  ((r∈rows∧e=.returned (.int .i64 (Yb rows r))∧Wi F w' base mb ob f pv cv ps rows nx)∨
   (r∉rows∧rows.length<f∧e=.returned (.int .i64 rows.length)∧Wi F w' base mb ob f pv cv ps (rows++ [r]) nx)∨
   (r∉rows∧f≤rows.length∧e=.panicked [{v:=.iface 265 (.agg #[]),recovered:=false}]))
theorem Au (F:Nat->Prop) (base mb ob f:Nat) (pv cv:Value) (ps:List PT) (rows:List (List (List Int))) (nx:List (List Int)) (ok:Ux ps) (w1 w:World) (hM:Wi F w1 base mb ob f pv cv ps rows nx) (hk:aa w1 w) (hF:∀ x,w1.heap.size<=x->F x) (lv:Value) (r:List (List Int)) (hl:br w1.heap.size w lv r) (hr:pC ps r) (hn:rows.Nodup) (uo:∀ p∈rows,pC ps p) (hf:f<=4000) (hlen:rows.length<=f) (hP:∀ W,Below base w1 W->iW W pv ps) (hT:∀ W,Below base w1 W->nE W): ah 171 #[.pointer (some ⟨mb,0,none⟩),lv] w fun e w'=>Y8 F base mb ob f pv cv ps rows nx r w1 w e w':=by
 obtain⟨iLL,agV,acJ,acK,acL⟩:=info_parts Tryz.Yk;obtain⟨iL,zX,mK,mL,mM⟩:=info_parts Tryz.tR;obtain⟨iI,y7,kJ,kK,kL⟩:=info_parts Tryz.mB;obtain⟨sv,nv,kv,us,ns,ks,M⟩:=hM;have hb1:base<=w1.heap.size:=Nat.le_trans M.bm (Nat.le_of_lt M.blk.lt);have HB0:Hid (Below base w1 w):=hid (hk.mono hb1);have CK:Hid (ah 212 #[lv] w fun e w'=>e=.returned (Io r)/\aa w w'):=hid (Uw lv r (BU ok hr) w hl.ll fun W hW=>hT W (HB0.out.trans (hW.mono (Nat.le_trans hb1 hk.size))));have MW:=hid (M.below hk);have M1:=hid M;have HK:=hid hk;have HL:=hid hl;have KI:Hid (∀ p∈rows,tY p):=hid fun p hp=>(BU ok (uo p hp)).in
 have KR:Hid (tY r):=hid (BU ok hr).in;have HP:=hid hP;have OK:=hid ok;have HR:=hid hr;have HNn:=hid hn;have HF:=hid hF;obtain⟨L,hL⟩:=ag rows.length;have Dw:=hid hL;have hLf:L<=f:=by omega
 have hst:=M.st.1;rw[<-hL]at hst;obtain⟨sa,sc,rfl⟩:=ownsRow_form hst;obtain⟨la,lc,rfl⟩:=hl.form;obtain⟨K0,zB⟩:=ag (Io r);obtain⟨n,Kl⟩:=ag ps.length;have sU:n<=64:=by rw[Kl];exact ok.1
 obtain⟨pa,pc,rfl⟩:=(hP w1 (Below.refl _ _)).form;rw[<-Kl]at MW M1 HP hP M ⊢;have RA:=hid Kl;rw[<-zB]at CK;have LK:=hid zB;have Za:base<=w.heap.size:=Nat.le_trans hb1 hk.size;clear M hk hl hr hn uo hP hT hF hL hst zB ok hlen Kl;go_enter Tryz.func171,Tryz.ntmps171;go_wp2_with fail
 refine CK.out.mono ?_;rintro e wa ⟨rfl,hx⟩;have MA:=hid (MW.out.below hx);have XA:=hid hx;have LA:=hid (HL.out.below hx);clear hx MW CK;obtain⟨m0,m1,m2,m3,m4,m5,m6⟩:=MA.out.blk.seven;have oX:=Uv MA.out.map HNn.out KI.out r KR.out;rw[<-LK.out]at oX;rcases oX with⟨hq,hlk⟩ | ⟨hq,hlk⟩
 ·have HQ:=hid hq
  clear hq;go_wp2_with fail
  by_cases nY:f<=L
  ·have hfi:(f:Int)<=(L:Int):=by omega
   have d1:decide ((f:Int)<=(L:Int))=true:=decide_eq_true hfi
   go_quiet (fail)
   go_wp2_with fail
   exact⟨rfl,(ae.ak XA.out fun x hx=>aA hx.1 HK.out.size:ae (fun x=>x<w1.heap.size/\(x<base\/¬F x)) w wa).drewN _,.inr (.inr ⟨HQ.out,by rw[<-Dw.out];exact nY,rfl⟩)⟩
  ·have hfi:¬ ((f:Int)<=(L:Int)):=by omega
   have d1:decide ((f:Int)<=(L:Int))=false:=decide_eq_false hfi
   go_quiet (fail)
   go_wp2_with fail
   refine ax ?_;intro wb hwb;have MB:Hid (Mk F wb base mb ob f (.slice pa n pc) cv ps rows nx (.slice sa L sc) nv kv us ns ks):=hid (by rw[hwb];exact MA.out.keeps ((ae.refl (fun _=>True) wa).drewN _) fun _ _ _=>trivial);have LB:Hid (br w1.heap.size wb (.slice la r.length lc) r):=hid (by rw[hwb];exact LA.out);have XB:Hid (aa w wb):=hid (by rw[hwb];exact((ae.ak XA.out fun _ h=>h:ae (· <w.heap.size) w wa).drewN _).below);have agX:wb.heap.size=wa.heap.size:=by rw[hwb];rfl
   clear hwb m0 m1 m2 m3 m4 m5 m6 MA LA XA hlk;obtain⟨m0,m1,m2,m3,m4,m5,m6⟩:=MB.out.blk.seven;refine aK false (fun _=>False) (by kernel_rfl) 10 [0,1,3,7,0,0,32,96,224,480,1023] (fun i=>i==10) (by kernel_rfl) (fun _=>aZ.any _) ?_;intro C hC hne;have HC:=hid hC;have f2:=aC hC (p:=⟨mb,2,none⟩) MB.out.blk.lt (fun h=>h) m2;have f3:=aC hC (p:=⟨mb,3,none⟩) MB.out.blk.lt (fun h=>h) m3;clear hC m0 m1 m2 m3 m4 m5 m6
   repeat (refine au (fun K hK=>?_);first | (refine bX rfl ?_;try go_simp;refine hK _ _ ?_;clear hK K) | (refine bR rfl rfl ?_;unfold aB;go_simp;refine hK _ _ ?_;clear hK K))
   refine bG (fun wm hW hH=>?_);have j5:=(HC.out wm).1 hW;have MW:=hid (MB.out.below j5.below);have LW:=hid (LB.out.below j5.below);have XW:=hid (XB.out.trans (j5.below.mono XB.out.size));clear j5 hW hH HC hne f2 f3 MB LB XB agX;obtain⟨wc,hput,Jc,yE,Zb⟩:=Yc (w:=wm) MW.out.map KI.out r KR.out HQ.out;rw[<-LK.out, <-Dw.out]at hput;have BC:=hid (MW.out.blk.keeps yE (fun e=>by have h1:=MW.out.map;have h2:wm.heap[mb]? =_:=MW.out.blk;rw[e]at h2;have h3:wm.heap[ob]? =_:=h1;rw[h2]at h3;cases h3));have SC:Hid (wc.ownsRow base 27 1 (.slice sa L sc) L us):=hid (by have h5:=ai MW.out.st.1 yE (fun x hx=>lW MW.out.st.1 MW.out.map (fun c fz e=>by cases e) x hx);rw[<-Dw.out]at h5;exact h5);have hbc:base<=wc.heap.size:=by rw[Zb];exact Nat.le_trans Za XW.out.size
   have U8:=hid Zb;clear Zb;obtain⟨c0,c1,c2,c3,c4,c5,c6⟩:=BC.out.seven;go_wp2_with (at_builtin;refine Hid.out ?_);refine hid ?_;refine wpList_append_own_at _ rfl (.tmp 52) (.tmp 54) 194 rfl base 27 iLL (.slice none 0 0) 1 24 Tryz.underlying194 agV acJ acK acL rfl (by decide) _ _ _ rfl (SC.out.alloc _) ⟨wc.heap.size,0,none⟩ 1 1 [.slice la r.length lc] rfl rfl (eX _ _ _) (by simp[Value.oneCell']) (by unfold maxLen;omega) (by omega) (by simp;omega) ?_;intro v' wd hown' hgrow hh hat;have HO:=hid hown';have HG:=hid hgrow;have LL:=hid hat;clear hown' hgrow hh hat;obtain⟨sa2,sc2,rfl⟩:=ownsRow_form HO.out;have BD:=hid ((BC.out.alloc _).grown HG.out (fun e=>cm BC.out SC.out (by decide) mb e.symm rfl));clear c0 c1 c2 c3 c4 c5 c6 hput;obtain⟨c0,c1,c2,c3,c4,c5,c6⟩:=BD.out.seven;have z2:=BD.out.frozen 2;go_wp2;refine ax ?_;intro we hwe;have BE:Hid (ar we mb #[.slice pa n pc,.int .i64 f,.slice sa2 (L+1) sc2,.map (some ob),cv,nv,kv] 196):=hid (by rw[hwe];exact BD.out.set 2 _);have Zc:∀ x,(Value.slice sa L sc).ownBlock=some x->base<=x/\x<w1.heap.size:=fun x e=>M1.out.st.1.lt x e
   have KG:Hid (ae (fun x=>x<wm.heap.size/\(Value.slice sa L sc).ownBlock≠some x) wc wd):=hid (((ae.refl _ _).alloc (fun x hx=>by rw[U8.out];exact hx.1) _).tr (ae.bw HG.out fun x hx=>⟨by have:=hx.1;rw[<-U8.out]at this;simp;omega,fun e=>hx.2 e.symm⟩))
   have KE:Hid (ae (fun x=>x<wm.heap.size/\x≠ob/\x≠mb/\(Value.slice sa L sc).ownBlock≠some x) wm we):=hid (by
    rw[hwe]
    exact((yE.mono fun x hx=>hx.2.1).tr (KG.out.mono fun x hx=>⟨hx.1,hx.2.2.2⟩)).setCell (fun h=>h.2.2.1 rfl) _)
   have SE:Hid (we.ownsRow base 27 1 (.slice sa2 (L+1) sc2) (L+1) (us++ [.slice la r.length lc])):=hid (by
    rw[hwe]
    exact ai HO.out ((ae.refl (· ≠mb) wd).setCell (p:=⟨mb,2,none⟩) (fun h=>h rfl) _) fun x hx=>cm BD.out HO.out (by decide) x hx)
   have ME:Hid (lp we ob (rows++ [r])):=hid (by
    rw[hwe];have h5:ob≠mb:=fun e=>by
     have h2:wc.heap[mb]? =_:=BC.out;have h3:wc.heap[ob]? =_:=Jc;rw[e,h2]at h3;cases h3
    have h6:lp wd ob (rows++ [r]):=Jc.keeps KG.out ⟨by rw[<-U8.out];exact Jc.lt,fun e=>lW SC.out Jc (fun c fz e=>by cases e) ob e rfl⟩
    exact h6.keeps ((ae.refl (· ≠mb) wd).setCell (p:=⟨mb,2,none⟩) (fun h=>h rfl) _) h5)
   have XE:Hid (Below base w1 we):=hid ((HB0.out.trans (XW.out.mono Za)).trans (KE.out.mono fun x hx=>⟨aA (aA hx Za) XW.out.size,by have h1:x<base:=hx;have:=M1.out.bo;omega,by have h1:x<base:=hx;have:=M1.out.bm;omega,fun e=>by have h1:x<base:=hx;have:=(Zc x e).1;omega⟩:ae (· <base) wm we).below);have LE:Hid (br w1.heap.size we (.slice la r.length lc) r):=hid (LW.out.keeps KE.out fun x h1 h2=>⟨h2,by have:=M1.out.map.lt;omega,by have:=M1.out.blk.lt;omega,fun e=>by have:=(Zc x e).2;omega⟩);have hrn:r.length=n:=by rw[RA.out];exact HR.out.1
   have HRN:=hid hrn;have acO:base<=we.heap.size:=by rw[hwe];have:=BD.out.lt;have:=M1.out.bm;simp;omega
   clear hwe c0 c1 c2 c3 c4 c5 c6 z2 hrn Zc;go_loopw [8,63] (fun mv iv wr=>∃ k:Nat,k<=n/\iv=.int .i64 k/\wr.ownsRow we.heap.size 3 1 mv (gv ps r k).length ((gv ps r k).map aN)/\aa we wr) (fun _ iv _=>n-(intOf iv).toNat);case atStart=>exact⟨0,by omega,rfl,World.ownsRow_nil _ _ _ _,Below.refl _ _⟩
   case round=>
    obtain⟨k,hk,rfl,ho,hx⟩:=hrel;obtain⟨wo,rfl⟩:=ag (wr:World);have HX:=hid hx;have nX:=Ng ps r k;obtain⟨am,ham⟩:=ag ((gv ps r k).length);rw[<-ham]at ho nX;obtain⟨ma,mc,rfl⟩:=ownsRow_form ho;have HOm:=hid ho;have HAM:=hid ham;clear hx ho ham;by_cases hlt:k<n
    ·have eG:(k:Int)<n:=by omega
     have EX:(k:Int)<(r.length:Int):=by have:=HRN.out;omega
     obtain⟨x,hx⟩:∃ x,ps[k]? =some x:=⟨_,az (by have:=RA.out;omega)⟩;obtain⟨l,hl⟩:∃ l,r[k]? =some l:=⟨_,az (by have:=HRN.out;omega)⟩;obtain⟨b,off,v0,v1,v2,v3,rfl,hb,Dx,q0,q1,q2,q3,q4,q5,q6⟩:=(HP.out wo (XE.out.trans (HX.out.mono acO))).elem hx;obtain⟨b2,fV,a',c',rfl,hb2,cl,lQ⟩:=(LE.out.ll.below HX.out).elem hl;obtain⟨x0,n0,y0,x1,n1,y1,x2,n2,y2,x3,n3,y3,rfl,rfl,rfl,rfl⟩:=Dx.Qj;have Kp:=hid Dx;have Ez:=hid lQ;have h2:=OK.out.2 x (aw hx);have hst:=HR.out.2 k x l hx hl;obtain⟨B,hB⟩:=ag (x.nf.acc l);have CA:Hid (∀ (v u:Value) (W:World),kX W v x.nf->bZ aN W u l->ah 213 #[v,u] W fun e w'=>e=.returned (.tuple #[.bool B,.int .i64 0])/\aa W w'):=hid fun v u W hv hu=>by rw[hB];exact BH v u x.nf h2.1 l hst W hv h2.2.1 hu (Nat.le_trans (Ir h2.1 hst) (by decide))
     have pO:Hid (gv ps r (k+1)=gv ps r k++if B then [x.mark]else []):=hid (by rw[hB];exact Jb hx hl);clear hx hl Dx lQ h2 hst hB;go_wp2;refine ax ?_;intro V hV;have BX:Hid (ar V wo.heap.size #[.slice x0 n0 y0,.slice x1 n1 y1,.slice x2 n2 y2,.slice x3 n3 y3,.bool x.nf.emp,.bool x.zP,.int .i64 x.mark] 124):=hid (by rw[hV];exact ar.new wo _ _);have XV:Hid (aa wo V):=hid (by rw[hV];exact((Ext.refl wo).alloc _).below);have ED:V.cell? ⟨b2,fV+k,none⟩=some (.slice a' l.length c'):=((ae.ak XV.out fun _ h=>h:ae (· <wo.heap.size) wo V).cell (p:=⟨b2,fV+k,none⟩) hb2).trans cl;clear hV q0 q1 q2 q3 q4 q5 q6 cl;refine aK false (fun _=>False) (by kernel_rfl) 11 [0,1,0,0,12,28,63,127,255,255,511,2047] (fun i=>i==6) (by kernel_rfl) (fun i=>if i=6 then aZ.Du _ (.tuple #[.bool B,.int .i64 0])else aZ.any _) ?_;intro C hC hne;have HC:=hid hC;have f0:=aC hC (p:=⟨wo.heap.size,0,none⟩) BX.out.lt (fun h=>h) (BX.out.cell 0);have f1:=aC hC (p:=⟨wo.heap.size,1,none⟩) BX.out.lt (fun h=>h) (BX.out.cell 1);have f2:=aC hC (p:=⟨wo.heap.size,2,none⟩) BX.out.lt (fun h=>h) (BX.out.cell 2);have f3:=aC hC (p:=⟨wo.heap.size,3,none⟩) BX.out.lt (fun h=>h) (BX.out.cell 3);have f4:=aC hC (p:=⟨wo.heap.size,4,none⟩) BX.out.lt (fun h=>h) (BX.out.cell 4);have f5:=aC hC (p:=⟨b2,fV+k,none⟩) (World.block_lt_of_cell? _ _ ED) (fun h=>h) ED;clear hC ED
     repeat (refine au (fun K hK=>?_);first | (refine bX rfl ?_;try go_simp;refine hK _ _ ?_;clear hK K) | (refine bR rfl rfl ?_;unfold aB;go_simp;refine hK _ _ ?_;clear hK K))
     refine au (fun K hK=>?_);refine ck rfl rfl (aZ.Du _ (.tuple #[.bool B,.int .i64 0])) rfl (fun W hW hN=>?_) (fun v hv=>?_)
     ·have hM:=(HC.out W).1 hW
      clear hW;go_simp;refine bM ((CA.out _ _ _ ((Kp.out.below XV.out).below hM.below) ((Ez.out.below XV.out).below hM.below)).mono ?_);rintro e w2 ⟨rfl,hx⟩;exact⟨_,rfl,Move.ak hx,rfl,trivial⟩
     replace hv:v=_:=hv;subst hv;go_simp;refine hK _ _ ?_;clear hK K
     repeat (refine au (fun K hK=>?_);first | (refine bX rfl ?_;try go_simp;refine hK _ _ ?_;clear hK K) | (refine bR rfl rfl ?_;unfold aB;go_simp;refine hK _ _ ?_;clear hK K))
     refine bG (fun W hW hH=>?_);have j5:=(HC.out W).1 hW;have BW:=hid (BX.out.below j5.below BX.out.lt);have XW2:=hid (XV.out.trans (j5.below.mono XV.out.size));clear j5 hW hH HC hne f0 f1 f2 f3 f4 f5;have i6:=BW.out.seven.2.2.2.2.2.2;have OW:=hid (aj HOm.out XW2.out);have UA:wo.heap.size<W.heap.size:=BW.out.lt;have ag0:we.heap.size<=wo.heap.size:=HX.out.size;cases B with
     | false=>
      go_wp2;go_roundw;case rel=>exact⟨k+1,by omega,by go_num,by rw[pO.out];simp only[Bool.false_eq_true,if_false,List.append_nil];rw[<-HAM.out];exact OW.out,HX.out.trans (XW2.out.mono ag0)⟩
      case measure=>simp[intOf];omega
     | true=>
      go_wp2_with (at_builtin;refine wpList_append_own_at _ rfl (.tmp 79) (.tmp 82) 39 rfl we.heap.size 3 iI (.int .i64 0) 1 8 Tryz.underlying39 y7 kJ kK kL rfl (by decide) _ _ _ rfl (OW.out.alloc _) ⟨W.heap.size,0,none⟩ 1 1 [.int .i64 x.mark] rfl rfl (eX _ _ _) (by simp[Value.oneCell']) (by unfold maxLen;omega) (by omega) (by simp;omega) ?_;intro v' w2 hown' hgrow hh hat;have j8:=hid hown';have HG2:=hid hgrow;clear hown' hgrow hh hat)
      go_roundw
      case rel=>
       refine⟨k+1,by omega,by go_num,?_,?_⟩
       ·rw[pO.out]
        simp only[if_true];rw[aG,List.map_append, <-HAM.out];exact j8.out
       ·have XX:=HX.out.trans (XW2.out.mono HX.out.size)
        exact(XX.alloc XX.size _).grown HG2.out (by have:=XX.size;simp;omega) (fun c e=>(OW.out.lt c e).1)
      case measure=>simp[intOf];omega
    ·obtain rfl:k=n:=by omega
     have Ii:¬ ((k:Int)<k):=by omega
     have CSo:Hid (ah 214 #[.slice ma am mc] wo fun e w'=>e=.returned (.tuple #[])/\w'.ownsRow we.heap.size 3 1 (.slice ma am mc) am ((fF (gv ps r k)).map aN)/\ae (fun x=>x<wo.heap.size/\(Value.slice ma am mc).ownBlock≠some x) wo w'):=hid (Mg _ _ _ _ _ HOm.out (by omega));go_wp2_with fail
     refine CSo.out.mono ?_;rintro e wf ⟨rfl,ho,hx⟩;have OF:=hid ho;have Rg:∀ x,(Value.slice ma am mc).ownBlock=some x->we.heap.size<=x:=fun x e=>(HOm.out.lt x e).1
     have XF:Hid (aa we wf):=hid (HX.out.trans (hx.mono fun x yV=>⟨aA yV HX.out.size,fun e=>by have h1:x<we.heap.size:=yV;have:=Rg x e;omega⟩:ae (· <we.heap.size) wo wf).below);clear ho hx HOm HX CSo Rg;have lC:gv ps r k=gX ps r:=by have:=Nf (ps:=ps) (row:=r) HR.out.1;rw[<-RA.out]at this;exact this
     obtain⟨cn,hcn⟩:=ag ((Lib.compact (fF (gv ps r k))).length);obtain⟨cx,Pp⟩:=ag ((Lib.compact (fF (gv ps r k))).map aN);have MKS:Hid (Lib.compact (fF (gv ps r k))=dM ps r):=hid (by rw[lC];exact yU fun x hx=>(OK.out.2 x hx).2.2);have anO:cn<=64:=by have h5:=Lib.compact_length_le (fF (gv ps r k));rw[<-hcn,kW, <-HAM.out]at h5;omega
     have CC:Hid (∀ W,W.ownsRow we.heap.size 3 1 (.slice ma am mc) am ((fF (gv ps r k)).map aN)->ah 215 #[.slice ma am mc] W fun e w'=>e=.returned (.slice ma cn mc)/\w'.ownsRow we.heap.size 3 1 (.slice ma cn mc) cn cx/\ae (fun x=>x<W.heap.size/\(Value.slice ma am mc).ownBlock≠some x) W w'):=hid fun W hW=>(Ci _ _ _ _ W hW (by omega)).mono fun e w' ⟨u,he,h1,h2,h3⟩=>by
      have h4:=y8 (by rw[kW, <-HAM.out]) h3;rw[<-hcn]at h4 h1;rw[<-Pp]at h1;rw[h4]at he h1;exact⟨he,h1,h2⟩
     have HCN:Hid (cn=(dM ps r).length/\cx=(dM ps r).map aN):=hid ⟨by rw[hcn,MKS.out],by rw[Pp,MKS.out]⟩;have EX:wm.ownsRow base 39 1 kv L ks:=by have:=MW.out.uh.1;rw[<-Dw.out]at this;exact this
     obtain⟨ka,kc,rfl⟩:=ownsRow_form EX;have KR0:=hid EX;have sX:wm.ownsRow base 27 1 (.slice sa L sc) L us:=by have:=MW.out.st.1;rw[<-Dw.out]at this;exact this
     have SW:=hid sX
     have KRE:Hid (we.ownsRow base 39 1 (.slice ka L kc) L ks):=hid (ai EX KE.out fun x hx=>⟨(EX.lt x hx).2,lW EX MW.out.map (fun c fz e=>by cases e) x hx,cm MW.out.blk EX (by decide) x hx,fun e2=>by
      rcases ownBlock_ne (by decide) EX sX with h5 | h5
      ·rw[h5]at hx;cases hx
      ·exact h5 (by rw[hx,e2])⟩)
     have acQ:∀ x,(Value.slice ka L kc).ownBlock=some x->x<we.heap.size:=fun x e=>(KRE.out.lt x e).2
     have HKV:=hid acQ;have BF:=hid (BE.out.below XF.out BE.out.lt);have KRF:=hid (aj KRE.out XF.out);have acR:(Value.slice ka L kc).ownBlock≠some mb:=fun e=>cm BE.out KRE.out (by decide) mb e rfl
     have ag1:we.heap.size<=wf.heap.size:=XF.out.size;clear lC hcn Pp EX sX acQ;obtain⟨c0,c1,c2,c3,c4,c5,c6⟩:=BF.out.seven;go_wp2_with fail
     refine RegQ.bB (yz we.heap.size base L cn (.slice ka L kc) (.slice ma cn mc) ks cx) yz.drew (fun _ _ _ h k=>h.trans k) (by kernel_rfl) 10 [0,0,2,6,14,30,0,64,192,510,1023,2047,4095,8191] (fun i=>i==7 || i==8 || i==9 || i==13) (by kernel_rfl) (fun i=>if i=7 then wT.Yl we.heap.size base L cn (.slice ka L kc) (.slice ma cn mc) ks cx else if i=8 then wT.box we.heap.size base L cn (.slice ka L kc) (.slice ma cn mc) ks cx else if i=9 then wT.new we.heap.size base L cn (.slice ka L kc) (.slice ma cn mc) ks cx else aZ.any _) (fun j W=>j=7->W.ownsRow we.heap.size 3 1 (.slice ma am mc) am ((fF (gv ps r k)).map aN)) (fun _ _ _=>OF.out) ?_;intro C hC hne;have HC:=hid hC;have f6:∀ W: {W//C W},W.1.cell? ⟨mb,6,none⟩=some (.slice ka L kc):=fun W=>(((hC W.1).1 W.2).keep.cell (p:=⟨mb,6,none⟩) ⟨BE.out.lt,BF.out.lt,acR⟩).trans c6
     clear hC c0 c1 c2 c3 c4 c5 c6
     repeat (refine RegQ.au (fun K hK=>?_);first | (refine RegQ.bX rfl ?_;try go_simp;refine hK _ _ ?_;clear hK K) | (refine RegQ.bR rfl rfl ?_;unfold aB;go_simp;refine hK _ _ ?_;clear hK K))
     refine RegQ.au (fun K hK=>?_);refine RegQ.ck rfl rfl (wT.Yl we.heap.size base L cn (.slice ka L kc) (.slice ma cn mc) ks cx) rfl (fun W hW hD hN=>?_) (fun v hv=>?_)
     ·have hD7:=hD rfl
      clear hW hD hN hK K;go_simp;refine bM ((CC.out W hD7).mono ?_);rintro e w2 ⟨rfl,ho,hk2⟩;exact⟨_,rfl,⟨yz.compact hD7 hk2 ho,fun j hj _ e=>absurd e hj⟩,rfl,ho⟩
     replace hv:v=_:=hv;subst hv;go_simp;refine hK _ _ ?_;clear hK K;refine RegQ.au (fun K hK=>?_);refine RegQ.ck rfl rfl (wT.box we.heap.size base L cn (.slice ka L kc) (.slice ma cn mc) ks cx) rfl (fun W hW hD hN=>?_) (fun v hv=>?_)
     ·have hMz:=((HC.out W).1 hW).size
      clear hW hN hK K;go_simp;exact⟨⟨yz.below ((Ext.refl _).alloc _).below,fun j _ _ h e=>(h e).alloc _⟩,⟨_,by omega,rfl⟩,fun b hb=>by cases hb;exact ar.new _ _ _⟩
     obtain⟨bx,YF,rfl⟩:=hv;go_simp;refine hK _ _ ?_;clear hK K;refine RegQ.au (fun K hK=>?_);refine RegQ.ck rfl rfl (wT.new we.heap.size base L cn (.slice ka L kc) (.slice ma cn mc) ks cx) rfl (fun W hW hD hN=>?_) (fun v hv=>?_)
     ·have j5:=(HC.out W).1 hW
      have rH:ar W bx #[.slice ma cn mc] 39:=hN.at 0 rfl (by kernel_rfl) bx rfl;have hkw:=j5.old KRF.out;have hMz:=j5.size;have HBW:=hid rH;have y9:=hid hkw;clear hW hN hK K j5 rH hkw;refine lX (.tmp 92) (.tmp 95) 27 rfl base 39 iL (.slice none 0 0) 1 24 Tryz.underlying27 zX mK mL mM rfl (by decide) (.slice ka L kc) L ks rfl y9.out ⟨bx,0,none⟩ 1 1 [.slice ma cn mc] rfl HBW.out.VW rfl (by simp[Value.oneCell']) (by unfold maxLen;omega) (by omega) (by omega) (by decide) ?_;intro v' w2 ho hg kE;refine⟨⟨yz.append y9.out HKV.out ho hg (kE.imp (fun h=>h.1) id),fun j _ _ h e=>(h e).kept hg (ownBlock_ne (by decide) (h e) y9.out)⟩,ownsRow_form ho,ho,?_⟩;rcases kE with⟨_,h⟩ | ⟨g,cap,h1,h2,_⟩
      ·exact .inr fun x hx=>by rw[h]at hx;cases hx;omega
      ·exact .inl (by rw[h2,h1];rfl)
     obtain⟨kb,kd,rfl⟩:=hv;go_simp;refine hK _ _ ?_;clear hK K;refine RegQ.bG (fun W hW hH=>?_);have j5:=(HC.out W).1 hW;have NR:Hid (W.ownsRow base 39 1 (.slice kb (L+1) kd) (L+1) (ks++ [.slice ma cn mc])/\((Value.slice kb (L+1) kd).ownBlock=(Value.slice ka L kc).ownBlock\/∀ x,(Value.slice kb (L+1) kd).ownBlock=some x->we.heap.size<=x)):=hid (hH _ (aw (show _=some _ from rfl:_[0]? =some _)));have CR:Hid (W.ownsRow we.heap.size 3 1 (.slice ma cn mc) cn cx):=hid (hH _ (aw (show _=some _ from rfl:_[2]? =some _)));have BG:=hid (BF.out.keeps j5.keep ⟨BE.out.lt,BF.out.lt,acR⟩);have KV:=hid j5.keep;clear j5 hW hH HC hne f6 CC OF;obtain⟨c0,c1,c2,c3,c4,c5,c6⟩:=BG.out.seven;have z6:=BG.out.frozen 6;have wL:IntKind.i64.wrap (L:Int)=L:=IntWalk.i64_in _ (by omega);go_wp2;refine Es ?_;intro wg hwg;go_ret;have hem:wm.heap.size<=we.heap.size:=KE.out.size;have h1m:w1.heap.size<=wm.heap.size:=Nat.le_trans HK.out.size XW.out.size;have Zd:∀ x,(Value.slice ka L kc).ownBlock=some x->base<=x/\x<w1.heap.size:=fun x e=>M1.out.uh.1.lt x e
     have ag2:∀ x,(Value.slice sa L sc).ownBlock=some x->base<=x/\x<w1.heap.size:=fun x e=>M1.out.st.1.lt x e
     have anQ:=M1.out.blk.lt;have anR:=M1.out.map.lt;have K2:ae (fun x=>x<we.heap.size/\x≠mb/\(Value.slice ka L kc).ownBlock≠some x) we wg:=by rw[hwg];exact((ae.ak XF.out fun x hx=>hx.1:ae (fun x=>x<we.heap.size/\x≠mb/\(Value.slice ka L kc).ownBlock≠some x) we wf).tr (KV.out.mono fun x hx=>⟨hx.1,aA hx.1 ag1,hx.2.2⟩)).setCell (fun h=>h.2.1 rfl) _
     have K:ae (fun x=>x<wm.heap.size/\x≠ob/\x≠mb/\(Value.slice sa L sc).ownBlock≠some x/\(Value.slice ka L kc).ownBlock≠some x) wm wg:=(KE.out.mono fun x hx=>⟨hx.1,hx.2.1,hx.2.2.1,hx.2.2.2.1⟩).tr (K2.mono fun x hx=>⟨aA hx.1 hem,hx.2.2.1,hx.2.2.2.2⟩);obtain⟨lus,ll1,ll2,ll3⟩:=LE.out;have Ze:∀ x,(Value.slice la r.length lc).ownBlock=some x->w1.heap.size<=x/\x<we.heap.size:=fun x e=>ll2.lt x e
     have RB:∀ (v y:Value) (N:Nat),(∀ x,v.ownBlock=some x->N<=x)->(∀ x,y.ownBlock=some x->x<N)->py v y:=fun v y N h1 h2=>by
      cases e:v.ownBlock with
      | none=>exact .inl e
      | some x=>exact .inr fun e2=>by have:=h1 x e;have:=h2 x (by rw[<-e2,e]);omega
     have zB:ae (fun x=>x<w1.heap.size/\(x<base\/¬F x)) w wg:=(ae.ak XW.out fun x hx=>aA hx.1 HK.out.size:ae (fun x=>x<w1.heap.size/\(x<base\/¬F x)) w wm).tr (K.mono fun x hx=>⟨by omega,fun e=>by subst e;rcases hx.2 with h | h;exact absurd M1.out.bo (by omega);exact h M1.out.fo,fun e=>by subst e;rcases hx.2 with h | h;exact absurd M1.out.bm (by omega);exact h M1.out.fm,fun e=>by rcases hx.2 with h | h;exact absurd (ag2 x e).1 (by omega);exact h (M1.out.st.2 x e),fun e=>by rcases hx.2 with h | h;exact absurd (Zd x e).1 (by omega);exact h (M1.out.uh.2 x e)⟩);have q1:ar wg mb #[.slice pa k pc,.int .i64 f,.slice sa2 (L+1) sc2,.map (some ob),cv,nv,.slice kb (L+1) kd] 196:=by rw[hwg];exact BG.out.set 6 _
     have q2:lp wg ob (rows++ [r]):=ME.out.keeps K2 ⟨ME.out.lt,(fun e=>by have h2:we.heap[mb]? =_:=BE.out;have h3:we.heap[ob]? =_:=ME.out;rw[e,h2]at h3;cases h3),fun e=>lW KRE.out ME.out (fun c fz e=>by cases e) ob e rfl⟩
     have q3:ik F wg base 27 (.slice sa2 (L+1) sc2) (L+1) (us++ [.slice la r.length lc]):=⟨ai SE.out K2 fun x hx=>⟨(SE.out.lt x hx).2,cm BE.out SE.out (by decide) x hx,fun e2=>by
      rcases ownBlock_ne (by decide) SE.out KRE.out with h5 | h5
      ·rw[h5]at hx;cases hx
      ·exact h5 (by rw[hx,e2])⟩,fun x hx=>by
      rcases LL.out with h | h
      ·exact M1.out.st.2 x (h.symm.trans hx)
      ·rw[h]at hx;cases hx;exact HF.out _ (by have:=U8.out;simp;omega)⟩
     have q4:MG F wg base (.slice la r.length lc) r:=(MG.of (LE.out.keeps K2 fun x h1 h2=>⟨h2,by omega,fun e=>by have:=(Zd x e).2;omega⟩) HF.out).base hb1;have q5:py (.slice la r.length lc) nv:=RB _ _ w1.heap.size (fun x e=>(Ze x e).1) (fun x e=>(M1.out.uS.1.lt x e).2);have q6:py (.slice la r.length lc) (.slice kb (L+1) kd):=by
      rcases NR.out.2 with h | h
      ·exact RB _ _ w1.heap.size (fun x e=>(Ze x e).1) (fun x e=>(Zd x (h.symm.trans e)).2)
      ·cases e:(Value.slice la r.length lc).ownBlock with
       | none=>exact .inl e
       | some x=>exact .inr fun e2=>by have:=(Ze x e).2;have:=h x (by rw[<-e2,e]);omega
     have q7:ik F wg base 39 (.slice kb (L+1) kd) (L+1) (ks++ [.slice ma cn mc]):=⟨by rw[hwg];exact ai NR.out.1 ((ae.refl (· ≠mb) W).setCell (p:=⟨mb,6,none⟩) (fun h=>h rfl) _) fun x hx=>cm BG.out NR.out.1 (by decide) x hx,fun x hx=>by
      rcases NR.out.2 with h | h
      ·exact M1.out.uh.2 x (h.symm.trans hx)
      ·exact HF.out x (by have:=h x hx;omega)⟩
     have q8:ik F wg base 3 (.slice ma cn mc) cn cx:=⟨by rw[hwg];exact aF (ai CR.out ((ae.refl (· ≠mb) W).setCell (p:=⟨mb,6,none⟩) (fun h=>h rfl) _) fun x hx=>cm BG.out CR.out (by decide) x hx) acO,fun x hx=>HF.out x (by have:=(CR.out.lt x hx).1;omega)⟩;have q9:∀ v,(∀ x,v.ownBlock=some x->x<wm.heap.size)->py v (.slice ka L kc)->py v (.slice kb (L+1) kd):=fun v h1 h2=>h2.step NR.out.2 fun b e=>aA (h1 b e) hem
     have MF:=Mk.more MW.out Dw.out K q1 q2 q3 q4 q5 q6 q7 q8 HCN.out.1 HCN.out.2 q9;exact⟨zB,.inr (.inl ⟨HQ.out,by rw[<-Dw.out];omega,by rw[<-Dw.out];rfl,_,_,_,_,_,_,MF⟩)⟩
 ·have HQ:=hid hq
  obtain⟨ix,U9⟩:=ag (Yb rows r);rw[<-U9]at hlk;have HIX:=hid U9;clear hq U9;go_wp2;go_ret;refine⟨ae.ak XA.out fun x hx=>aA hx.1 HK.out.size,.inl ⟨HQ.out,by rw[HIX.out];rfl,_,_,_,_,_,_,MA.out⟩⟩
end Go.Proofs.YtjgccapbphadjaaGreatDoor
