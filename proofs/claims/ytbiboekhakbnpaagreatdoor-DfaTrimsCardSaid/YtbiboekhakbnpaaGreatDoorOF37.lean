/- The law's same and dfa.Same, of any two automata. Printed by wip/gen/smg.py. -/
import Derived.Test.YtbiboekhakbnpaaGreatDoorOF36
set_option maxRecDepth 100000
set_option maxHeartbeats 16000000
open Go.Lib (hid)
namespace Go.Proofs.YtbiboekhakbnpaaGreatDoor
open Go Go.RowKit
def mX (d:DF) (s:Nat):List Nat:=(d.nx.getD s []).map Int.toNat
def dG (L:List Nat) (t:Nat):List Nat:=if t∈L then L else L++ [t]
def jz (d:DF):Nat->List Nat
 | 0=>[0]
 | n+1=>match(jz d n)[n]? with
  | none=>jz d n
  | some s=>(mX d s).foldl dG (jz d n)
def cB (d:DF):List Nat:=jz d d.nx.length
structure Hg (N:Nat) (L:List Nat):Prop where
 nodup:L.Nodup
 lt:∀ t∈L,t<N
 pos:0<L.length
theorem Hg.len {N:Nat} {L:List Nat} (h:Hg N L):L.length<=N:=AY _ _ h.nodup h.lt
theorem Hg.add {N:Nat} {L:List Nat} (h:Hg N L) {t:Nat} (ht:t<N):Hg N (dG L t):=by
 unfold dG;split
 ·exact h
 ·rename_i hn
  refine⟨?_,fun x hx=>?_,by simp⟩
  ·rw[List.nodup_append]
   refine⟨h.nodup,by simp,fun a ha b hb=>?_⟩;simp at hb;subst hb;intro e;subst e;exact hn ha
  ·rcases List.mem_append.1 hx with hx | hx
   ·exact h.lt x hx
   ·simp at hx;omega
theorem Hg.fold {N:Nat} :∀ (ts:List Nat) {L:List Nat},Hg N L->(∀ t∈ts,t<N)->Hg N (ts.foldl dG L)
 | [],_,h,_=>h
 | t::ts,L,h,ht=>by
  rw[List.foldl_cons];exact Hg.fold ts (h.add (ht t (List.mem_cons_self ..))) fun x hx=>ht x (List.mem_cons_of_mem _ hx)
theorem Jy {l:List Nat} {k t:Nat} (L:List Nat) (h:l[k]? =some t):(l.take (k+1)).foldl dG L=dG ((l.take k).foldl dG L) t:=by rw[List.take_add_one,h,Option.toList_some,List.foldl_append];rfl
theorem NI (L:List Nat) (t:Nat):L.length<=(dG L t).length:=by unfold dG;split<;>simp
theorem CY:∀ (ts L:List Nat),L.length<=(ts.foldl dG L).length
 | [],_=>Nat.le_refl _
 | t::ts,L=>Nat.le_trans (NI L t) (CY ts _)
theorem NJ (L:List Nat) (t:Nat) {i x:Nat} (h:L[i]? =some x):(dG L t)[i]? =some x:=by
 unfold dG;split
 ·exact h
 ·rw[List.getElem?_append_left (List.getElem?_eq_some_iff.1 h).1];exact h
theorem CZ {i x:Nat} :∀ (ts L:List Nat),L[i]? =some x->(ts.foldl dG L)[i]? =some x
 | [],_,h=>h
 | t::ts,L,h=>CZ ts _ (NJ L t h)
theorem FX {d:DF} (rt:Rt d) {s k:Nat} (hs:s<d.nx.length) (hk:k<d.cl.length):∃ t:Nat,t<d.nx.length/\(d.nx.getD s [])[k]? =some (t:Int)/\(mX d s)[k]? =some t:=by have hl:=rt.len s hs;have hz:(d.nx.getD s [])[k]? =some ((d.nx.getD s [])[k]'(by omega)):=List.getElem?_eq_getElem (by omega);have hr:=rt.iV s hs _ (List.mem_of_getElem? hz);refine⟨((d.nx.getD s [])[k]'(by omega)).toNat,by omega,by rw[hz];congr 1;omega,?_⟩;unfold mX;rw[List.getElem?_map,hz];rfl
theorem sB {d:DF} (rt:Rt d) {s:Nat} (hs:s<d.nx.length):(mX d s).length=d.cl.length:=by unfold mX;rw[List.length_map,rt.len s hs]
theorem zk {d:DF} (rt:Rt d) {s:Nat} (hs:s<d.nx.length):∀ t∈mX d s,t<d.nx.length:=fun t ht=>by
 obtain⟨z,hz,rfl⟩:=List.mem_map.1 ht;have:=rt.iV s hs z hz;omega
theorem uL {d:DF} (rt:Rt d):∀ n,Hg d.nx.length (jz d n)
 | 0=>⟨by simp[jz],fun t ht=>by simp[jz]at ht;have:=rt.pos;omega,by simp[jz]⟩
 | n+1=>by
  have h:=uL rt n;rw[jz];cases e:(jz d n)[n]? with
  | none=>exact h
  | some s=>
   have hs:=h.lt s (List.mem_of_getElem? e);exact h.fold _ (zk rt hs)
theorem uM {d:DF} {n s:Nat} (h:(jz d n)[n]? =some s):jz d (n+1)=(mX d s).foldl dG (jz d n):=by rw[jz,h]
theorem uN {d:DF} {n:Nat} (h:(jz d n).length<=n):∀ k,jz d (n+k)=jz d n
 | 0=>rfl
 | k+1=>by
  have ih:=uN h k;rw[<-Nat.add_assoc,jz,ih,List.getElem?_eq_none (by omega)]
theorem C0 {d:DF} {n:Nat} (h:(jz d n).length<=n) (hn:n<=d.nx.length):cB d=jz d n:=by have:=uN h (d.nx.length-n);rw[show n+(d.nx.length-n)=d.nx.length by omega]at this;exact this
theorem qJ {d:DF} (rt:Rt d):Hg d.nx.length (cB d):=uL rt _
def lZ (N:Nat) (L:List Nat):List Int:=(List.range N).map fun t=>if t∈L then 1 else 0
theorem mM (N:Nat) (L:List Nat):(lZ N L).length=N:=by simp[lZ]
theorem pP {N t:Nat} (L:List Nat) (h:t<N):(lZ N L)[t]? =some (if t∈L then 1 else 0):=by unfold lZ;rw[List.getElem?_map,List.getElem?_range h];rfl
theorem xI {N t:Nat} (L:List Nat) (h:t<N):(lZ N L).set t 1=lZ N (L++ [t]):=by
 apply List.ext_getElem?;intro j;rw[List.getElem?_set];by_cases hj:j<N
 ·rw[pP _ hj,pP _ hj]
  by_cases e:t=j
  ·subst e;simp[mM,h]
  ·rw[if_neg e]
   have:(j∈L++ [t])↔j∈L:=by simp;intro e2;exact absurd e2.symm e
   simp only[this]
 ·rw[if_neg (by omega),List.getElem?_eq_none (by rw[mM];omega),List.getElem?_eq_none (by rw[mM];omega)]
theorem C3 {N:Nat} (h:0<N):(List.replicate N (0:Int)).set 0 1=lZ N [0]:=by
 have e:List.replicate N (0:Int)=lZ N []:=by
  apply List.ext_getElem?;intro j;by_cases hj:j<N
  ·rw[pP _ hj,List.getElem?_replicate,if_pos hj];simp
  ·rw[List.getElem?_eq_none (by simp;omega),List.getElem?_eq_none (by rw[mM];omega)]
 rw[e,xI [] h];rfl
theorem NK (L:List Nat) (t:Nat):t∈dG L t:=by unfold dG;split<;>simp_all
theorem NL {L:List Nat} {t x:Nat} (h:x∈L):x∈dG L t:=by unfold dG;split<;>simp_all
theorem sub_fold {x:Nat} :∀ (ts:List Nat) {L:List Nat},x∈L->x∈ts.foldl dG L
 | [],_,h=>h
 | _::ts,_,h=>sub_fold ts (NL h)
theorem C4 {x:Nat} :∀ (ts:List Nat) (L:List Nat),x∈ts->x∈ts.foldl dG L
 | t::ts,L,h=>by
  rw[List.foldl_cons];rcases List.mem_cons.1 h with rfl | h
  ·exact sub_fold ts (NK _ _)
  ·exact C4 ts _ h
theorem uO {d:DF} {n i x:Nat} (h:(jz d n)[i]? =some x):∀ k,(jz d (n+k))[i]? =some x
 | 0=>h
 | k+1=>by
  have ih:=uO h k;rw[<-Nat.add_assoc,jz];cases (jz d (n+k))[n+k]? with
  | none=>exact ih
  | some s=>exact CZ _ _ ih
theorem zl {d:DF} (rt:Rt d) {s t:Nat} (hs:s∈cB d) (ht:t∈mX d s):t∈cB d:=by
 obtain⟨k,hk⟩:=List.getElem?_of_mem hs;have vr:=(List.getElem?_eq_some_iff.1 hk).1;have hle:=(qJ rt).len;have PI:k<(jz d k).length:=by
  rcases Nat.lt_or_ge k (jz d k).length with h | h
  ·exact h
  ·have:=C0 h (by omega)
   rw[this]at vr;omega
 obtain⟨s',hs'⟩:∃ s',(jz d k)[k]? =some s':=⟨_,List.getElem?_eq_getElem PI⟩;have e:=uO hs' (d.nx.length-k);rw[show k+(d.nx.length-k)=d.nx.length by omega]at e;have e2:s'=s:=by have:(cB d)[k]? =some s':=e;rw[hk]at this;exact(Option.some.inj this).symm
 subst e2;have hm:t∈jz d (k+1):=by rw[uM hs'];exact C4 _ _ ht
 obtain⟨i,hi⟩:=List.getElem?_of_mem hm;have e3:=uO hi (d.nx.length-(k+1));rw[show k+1+(d.nx.length-(k+1))=d.nx.length by omega]at e3;exact List.mem_of_getElem? e3
def oo (d:DF) (s:Nat):List Int:=(mX d s).map fun t=>((cB d).idxOf t:Int)
def l4 (d:DF):DF:=⟨d.cl,(cB d).map (oo d),(cB d).map fun s=>d.mr.getD s []⟩
def uP (N:Nat) (L:List Nat) (i:Nat):List Int:=(List.range N).map fun t=>if L.idxOf t<i then(L.idxOf t:Int)else 0
theorem pQ (N:Nat) (L:List Nat) (i:Nat):(uP N L i).length=N:=by simp[uP]
theorem sD {N t:Nat} (L:List Nat) (i:Nat) (h:t<N):(uP N L i)[t]? =some (if L.idxOf t<i then(L.idxOf t:Int)else 0):=by unfold uP;rw[List.getElem?_map,List.getElem?_range h];rfl
theorem Jz (N:Nat) (L:List Nat):List.replicate N (0:Int)=uP N L 0:=by
 apply List.ext_getElem?;intro j;by_cases hj:j<N
 ·rw[sD _ _ hj,List.getElem?_replicate,if_pos hj,if_neg (by omega)]
 ·rw[List.getElem?_eq_none (by simp;omega),List.getElem?_eq_none (by rw[pQ];omega)]
theorem xJ {L:List Nat} (hn:L.Nodup) {i s:Nat} (h:L[i]? =some s):L.idxOf s=i:=by obtain⟨hi,he⟩:=List.getElem?_eq_some_iff.1 h;subst he;exact hn.idxOf_getElem i hi
theorem FY {L:List Nat} {t:Nat} (h:t∈L):L[L.idxOf t]? =some t:=by have:=List.idxOf_lt_length_of_mem h;rw[List.getElem?_eq_getElem this,List.getElem_idxOf this]
theorem NM {N i s:Nat} {L:List Nat} (hn:L.Nodup) (h:L[i]? =some s) (hs:s<N):(uP N L i).set s (i:Int)=uP N L (i+1):=by
 apply List.ext_getElem?;intro j;rw[List.getElem?_set];by_cases hj:j<N
 ·rw[sD _ _ hj,sD _ _ hj]
  by_cases e:s=j
  ·subst e
   rw[if_pos rfl,pQ,if_pos hs,xJ hn h,if_pos (by omega)]
  ·rw[if_neg e]
   have hne:L.idxOf j≠i:=fun e2=>by
    have hi:=(List.getElem?_eq_some_iff.1 h).1;have hm:j∈L:=List.idxOf_lt_length_iff.1 (by omega);have:=FY hm;rw[e2,h]at this;exact e (Option.some.inj this)
   by_cases e3:L.idxOf j<i
   ·rw[if_pos e3,if_pos (by omega)]
   ·rw[if_neg e3,if_neg (by omega)]
 ·rw[if_neg (by omega),List.getElem?_eq_none (by rw[pQ];omega),List.getElem?_eq_none (by rw[pQ];omega)]
theorem NN {N t:Nat} {L:List Nat} (h:t∈L) (hs:t<N):(uP N L L.length)[t]? =some (L.idxOf t:Int):=by rw[sD _ _ hs,if_pos (List.idxOf_lt_length_of_mem h)]
section
variable {α:Type}
def xK (g:Nat->α) (st:List α×List Nat):Prop:=∀ (k t:Nat),st.2[k]? =some t->st.1[t]? =some (g k)
def aab (f:α->Nat->α) (st:List α×List (List Nat)):Prop:=∀ (s:Nat) (r:List Nat),st.2[s]? =some r->∃ p,st.1[s]? =some p/\xK (f p) (st.1,r)
theorem xK.more {g:Nat->α} {t:List α} {r:List Nat} (h:xK g (t,r)) (ys:List α):xK g (t++ys,r):=fun k u hk=>by
 have h1:=h k u hk;show(t++ys)[u]? =_;rw[List.getElem?_append_left (List.getElem?_eq_some_iff.1 h1).1];exact h1
end
section
variable {α β:Type} [DecidableEq α] [DecidableEq β]
theorem NP {f:Nat} {st nI:List α×List Nat} {q:α} (h:gY f st q=some nI):∃ t ys,nI=(st.1++ys,st.2++ [t])/\(st.1++ys)[t]? =some q:=by
 unfold gY at h;split at h
 ·split at h
  ·cases h
  ·cases h
   exact⟨_,[q],rfl,by simp⟩
 ·rename_i he
  cases h
  have hlt:st.1.idxOf q<st.1.length:=by have:=List.idxOf_le_length (a:=q) (l:=st.1);omega
  refine⟨_,[],by rw[List.append_nil],?_⟩;rw[List.append_nil,List.getElem?_eq_getElem hlt,List.getElem_idxOf hlt]
theorem C7 {f:Nat} {g:Nat->α} {todo:List α} :∀ {k:Nat} {st:List α×List Nat},bY f g todo k=some st->(∃ ys,st.1=todo++ys)/\st.2.length=k/\xK g st
 | 0,st,h=>by cases h;exact⟨⟨[],by simp⟩,rfl,fun k t e=>by simp at e⟩
 | k+1,st,h=>by
  rw[bY]at h;obtain⟨s1,h1,h2⟩:=Option.bind_eq_some_iff.1 h;obtain⟨⟨ys,e1⟩,e2,e3⟩:=C7 h1;obtain⟨t,zs,e4,e5⟩:=NP h2;subst e4;refine⟨⟨ys++zs,by simp[e1]⟩,by simp[e2],fun j u hj=>?_⟩;rcases Nat.lt_or_ge j k with hjk | hjk
  ·have iz:s1.2[j]? =some u:=by
    have:(s1.2++ [t])[j]? =some u:=hj;rwa[List.getElem?_append_left (by omega)]at this
   have h3:=e3 j u iz;show(s1.1++zs)[u]? =_;rw[List.getElem?_append_left (List.getElem?_eq_some_iff.1 h3).1];exact h3
  ·have iz:(s1.2++ [t])[j]? =some u:=hj
   have hl:=(List.getElem?_eq_some_iff.1 iz).1;simp[e2]at hl;obtain rfl:j=k:=by omega
   rw[List.getElem?_append_right (by omega),e2,Nat.sub_self]at iz;cases iz;exact e5
theorem zn {fuel K:Nat} {f:α->Nat->α} {p0:α} :∀ (n:Nat) {st:List α×List (List Nat)},cQ fuel f K p0 n=some st->st.2.length=min n st.1.length/\aab f st
 | 0,st,h=>by cases h;exact⟨by simp,fun s r e=>by simp at e⟩
 | n+1,st,h=>by
  rw[cQ]at h;obtain⟨s1,h1,h2⟩:=Option.bind_eq_some_iff.1 h;obtain⟨i1,i2⟩:=zn n h1;unfold cV at h2;split at h2
  ·rename_i he
   have e:=Option.some.inj h2;subst e;have hl:s1.1.length<=n:=by simpa using he
   exact⟨by omega,i2⟩
  ·rename_i p he
   obtain⟨r,h3,rfl⟩:=Option.map_eq_some_iff.1 h2;have hlt:n<s1.1.length:=(List.getElem?_eq_some_iff.1 he).1;obtain⟨⟨ys,e1⟩,e2,e3⟩:=C7 h3;have OC:s1.1.length<=r.1.length:=by rw[e1];simp
   refine⟨by simp;omega,fun s x hx=>?_⟩;have hx:(s1.2++ [r.2])[s]? =some x:=hx;rcases Nat.lt_or_ge s n with hs | hs
   ·rw[List.getElem?_append_left (by omega)]at hx
    obtain⟨q,g1,g2⟩:=i2 s x hx;refine⟨q,?_,?_⟩
    ·show r.1[s]? =_
     rw[e1,List.getElem?_append_left (by omega)];exact g1
    ·show xK (f q) (r.1,x)
     rw[e1];exact g2.more ys
   ·have hl:=(List.getElem?_eq_some_iff.1 hx).1
    simp at hl;obtain rfl:s=n:=by omega
    rw[List.getElem?_append_right (by omega)]at hx;have:s-s1.2.length=0:=by omega
    rw[this]at hx;cases hx;refine⟨p,?_,e3⟩;show r.1[s]? =_;rw[e1,List.getElem?_append_left (by omega)];exact he
/-! The order in which states are found. -/
theorem NQ {f:Nat} {st nI:List α×List Nat} {q:α} (h:gY f st q=some nI):∃ t,nI.2=st.2++ [t]/\dG (List.range st.1.length) t=List.range nI.1.length:=by
 unfold gY at h;split at h
 ·split at h
  ·cases h
  ·cases h
   refine⟨_,rfl,?_⟩;unfold dG;rw[if_neg (by simp)];simp[List.range_succ]
 ·rename_i he
  cases h
  have hlt:st.1.idxOf q<st.1.length:=by have:=List.idxOf_le_length (a:=q) (l:=st.1);omega
  refine⟨_,rfl,?_⟩;unfold dG;rw[if_pos (List.mem_range.2 hlt)]
theorem xL {f:Nat} {g:Nat->α} {todo:List α} :∀ {k:Nat} {st:List α×List Nat},bY f g todo k=some st->st.2.foldl dG (List.range todo.length)=List.range st.1.length
 | 0,st,h=>by cases h;rfl
 | k+1,st,h=>by
  rw[bY]at h;obtain⟨s1,h1,h2⟩:=Option.bind_eq_some_iff.1 h;have ih:=xL h1;obtain⟨t,e1,e2⟩:=NQ h2;rw[e1,List.foldl_append,ih];exact e2
theorem FZ {fuel:Nat} {f:α->Nat->α} {K n:Nat} {st nI:List α×List (List Nat)} (h:cV fuel f K n st=some nI):∃ ys,nI.2=st.2++ys:=by
 unfold cV at h;split at h
 ·cases h;exact⟨[],by simp⟩
 ·obtain⟨r,h3,rfl⟩:=Option.map_eq_some_iff.1 h
  exact⟨[r.2],rfl⟩
theorem C9 {fuel:Nat} {f:α->Nat->α} {K:Nat} {p0:α} {n:Nat} :∀ (k:Nat) {st nI:List α×List (List Nat)},cQ fuel f K p0 n=some st->cQ fuel f K p0 (n+k)=some nI->∃ ys,nI.2=st.2++ys
 | 0,st,nI,h,h'=>by rw[Nat.add_zero,h]at h';cases h';exact⟨[],by simp⟩
 | k+1,st,nI,h,h'=>by
  rw[<-Nat.add_assoc,cQ]at h';obtain⟨s1,h1,h2⟩:=Option.bind_eq_some_iff.1 h';obtain⟨ys,e⟩:=C9 k h h1;obtain⟨zs,e2⟩:=FZ h2;exact⟨ys++zs,by rw[e2,e,List.append_assoc]⟩
theorem Da {fuel:Nat} {f:α->Nat->α} {K:Nat} {p0:α} {d:DF} {N:Nat} {st:List α×List (List Nat)} (h:cQ fuel f K p0 N=some st) (hd:∀ s,mX d s=st.2.getD s []):∀ n,n<=N->∃ s1,cQ fuel f K p0 n=some s1/\jz d n=List.range s1.1.length
 | 0,_=>⟨([p0],[]),rfl,rfl⟩
 | n+1,hn=>by
  obtain⟨s1,h1,h2⟩:=Da h hd n (by omega);obtain⟨s2,h3⟩:∃ s2,cQ fuel f K p0 (n+1)=some s2:=by
   rcases e:cQ fuel f K p0 (n+1)with _ | s2
   ·have:=qi e N hn
    rw[h]at this;cases this
   ·exact⟨s2,rfl⟩
  refine⟨s2,h3,?_⟩;obtain⟨ys,Gx⟩:=C9 (N-(n+1)) h3 (by rw[show n+1+(N-(n+1))=N by omega];exact h);obtain⟨i1,_⟩:=zn n h1;rw[cQ,h1]at h3;have h3:cV fuel f K n s1=some s2:=h3;unfold cV at h3;split at h3
  ·rename_i he
   cases h3
   rw[jz,h2,List.getElem?_eq_none (by simpa using he)]
  ·rename_i p he
   obtain⟨r,h4,rfl⟩:=Option.map_eq_some_iff.1 h3;have hlt:n<s1.1.length:=(List.getElem?_eq_some_iff.1 he).1;have hb:(jz d n)[n]? =some n:=by rw[h2,List.getElem?_range hlt]
   rw[uM hb,h2,hd n,Gx];have:(((s1.2++ [r.2])++ys).getD n [])=r.2:=by
    rw[List.getD_eq_getElem?_getD,List.append_assoc,List.getElem?_append_right (by omega)];have:n-s1.2.length=0:=by omega
    rw[this];rfl
   rw[this];exact xL h4
/-! States under other names. -/
theorem uQ {φ:α->β} (Pf:∀ x y,φ x=φ y->x=y) (q:α):∀ l:List α,(l.map φ).idxOf (φ q)=l.idxOf q
 | []=>rfl
 | x::l=>by
  rw[List.map_cons,List.idxOf_cons,List.idxOf_cons,uQ Pf q l];have:(φ x==φ q)=(x==q):=by
   rw[Bool.eq_iff_iff,beq_iff_eq,beq_iff_eq];exact⟨fun h=>Pf _ _ h,fun h=>by rw[h]⟩
  rw[this]
theorem NS {φ:α->β} (Pf:∀ x y,φ x=φ y->x=y) (f:Nat) (st:List α×List Nat) (q:α):gY f (st.1.map φ,st.2) (φ q)=(gY f st q).map fun s=>(s.1.map φ,s.2):=by
 unfold gY;simp only[uQ Pf,List.length_map];split
 ·split
  ·rfl
  ·simp
 ·rfl
theorem xM {φ:α->β} (Pf:∀ x y,φ x=φ y->x=y) (f:Nat) {g:Nat->α} {g':Nat->β} (todo:List α):∀ k,(∀ j,j<k->g' j=φ (g j))->bY f g' (todo.map φ) k=(bY f g todo k).map fun s=>(s.1.map φ,s.2)
 | 0,_=>rfl
 | k+1,h=>by
  rw[bY,bY,xM Pf f todo k fun j hj=>h j (by omega),h k (by omega)];cases bY f g todo k with
  | none=>rfl
  | some s=>exact NS Pf f s (g k)
theorem Db {φ:α->β} (Pf:∀ x y,φ x=φ y->x=y) {fuel K:Nat} (hf:1<=fuel) {f:α->Nat->α} {f':β->Nat->β} {P:α->Prop} {p0:α} (h0:P p0) (hP:∀ p k,P p->k<K->P (f p k)) (WI:∀ p k,P p->k<K->f' (φ p) k=φ (f p k)):∀ n,cQ fuel f' K (φ p0) n=(cQ fuel f K p0 n).map fun s=>(s.1.map φ,s.2)
 | 0=>rfl
 | n+1=>by
  rw[cQ,cQ,Db Pf hf h0 hP WI n];rcases e:cQ fuel f K p0 n with _ | s
  ·rfl
  ·have I:=mq hf h0 hP n e
   show cV fuel f' K n (s.1.map φ,s.2)=(cV fuel f K n s).map _;unfold cV;rw[List.getElem?_map];rcases e2:s.1[n]? with _ | p
   ·rfl
   ·have hp:=I.all p (List.mem_of_getElem? e2)
    show(bY fuel (f' (φ p)) (s.1.map φ) K).map _=((bY fuel (f p) s.1 K).map _).map _;rw[xM Pf fuel s.1 K fun j hj=>WI p j hp hj];cases bY fuel (f p) s.1 K<;>rfl
end
theorem zo {α:Type} {P:List α->Prop} (h0:P []) (h1:∀ l x,P l->P (l++ [x])) (l:List α):P l:=by
 have key:∀ r:List α,P r.reverse:=fun r=>by
  induction r with
  | nil=>exact h0
  | cons x r ih=>rw[List.reverse_cons];exact h1 _ _ ih
 have:=key l.reverse;rwa[List.reverse_reverse]at this
def rowAt (ps:List PT) (b:List Nat):List (List Int):=b.foldl (fun r c=>bU ps r c) (gh ps)
def PT.at (x:PT) (b:List Nat):List Int:=b.foldl (fun l c=>x.step l c) [-1]
theorem uR (ps:List PT) (b:List Nat) (c:Nat):rowAt ps (b++ [c])=bU ps (rowAt ps b) c:=by unfold rowAt;rw[List.foldl_append];rfl
theorem PT.Rj (x:PT) (b:List Nat) (c:Nat):x.at (b++ [c])=x.step (x.at b) c:=by unfold PT.at;rw[List.foldl_append];rfl
theorem qK (ps:List PT) (b:List Nat):rowAt ps b=ps.map fun x=>x.at b:=by
 refine zo (P:=fun b=>rowAt ps b=ps.map fun x=>x.at b) rfl (fun b c ih=>?_) b;show rowAt ps (b++ [c])=_;rw[uR,ih];unfold bU;rw[List.zipWith_map_right];apply List.ext_getElem?;intro i;simp only[List.getElem?_zipWith,List.getElem?_map];cases ps[i]? with
 | none=>rfl
 | some x=>simp[PT.Rj]
theorem NF.JA {a:NF} {L:List BS} (ha:∀ s∈a.az,s∈L) {c d:Nat} (hc:c<256) (hd:d<256) (h:cls (partsOf L) c=cls (partsOf L) d) (l:List Int) (q:Nat):a.hit l c q=a.hit l d q:=by
 have e:(a.az.getD q 0).getLsbD c=(a.az.getD q 0).getLsbD d:=by
  rcases Nat.lt_or_ge q a.az.length with hq | hq
  ·have hm:=ha _ (List.mem_of_getElem? (bh (l:=a.az) 0 hq))
   have h1:=Ij L hc hd;rw[decide_eq_true h]at h1;have h2:=List.any_eq_false.1 (show(L.any fun s=>s.getLsbD c != s.getLsbD d)=false by rw[h1];rfl) _ hm;simpa using h2
  ·rw[List.getD_eq_getElem?_getD,List.getElem?_eq_none hq];simp
 unfold NF.hit;rw[e]
theorem NF.F5 {a:NF} {L:List BS} (ha:∀ s∈a.az,s∈L) {c d:Nat} (hc:c<256) (hd:d<256) (h:cls (partsOf L) c=cls (partsOf L) d) (l:List Int):a.step l c=a.step l d:=by unfold NF.step;congr 1;exact List.filter_congr fun q _=>NF.JA ha hc hd h l q
theorem Dc (ps:List PT) (row:List (List Int)) {c d:Nat} (hc:c<256) (hd:d<256) (h:cls (partsOf (aL ps)) c=cls (partsOf (aL ps)) d):bU ps row c=bU ps row d:=by
 unfold bU;apply List.ext_getElem?;intro i;simp only[List.getElem?_zipWith];rcases e:ps[i]? with _ | x
 ·rfl
 ·cases row[i]? with
  | none=>rfl
  | some l=>
   have hx:∀ s∈x.nf.az,s∈aL ps:=fun s hs=>List.mem_flatMap.2 ⟨x,List.mem_of_getElem? e,hs⟩
   show some (x.step l c)=some (x.step l d);unfold PT.step;rw[NF.F5 hx hc hd h]
theorem VB {d:DF} (rt:Rt d) {c:Nat} (hc:c<256):lb d.cl (cls d.cl c)<256/\cls d.cl (lb d.cl (cls d.cl c))=cls d.cl c:=by have h:=P3 rt (rt.part.lp hc);exact⟨h.1,h.2.1⟩
def gy (ps:List PT) (st:List (List (List Int))×List (List Nat)):DF:=⟨partsOf (aL ps),st.2.map fun r=>r.map Int.ofNat,st.1.map (bX ps)⟩
theorem Rk {ps:List PT} {st:List (List (List Int))×List (List Nat)} {s:Nat} {r:List Nat} (h:st.2[s]? =some r) (k:Nat):rb (gy ps st) s k=r.getD k 0:=by
 unfold rb gy;show(((st.2.map fun (r:List Nat)=>r.map Int.ofNat).getD s []).getD k 0).toNat=_;have e1:(st.2.map fun (r:List Nat)=>r.map Int.ofNat).getD s []=r.map Int.ofNat:=by rw[List.getD_eq_getElem?_getD,List.getElem?_map,h];rfl
 rw[e1,List.getD_eq_getElem?_getD,List.getD_eq_getElem?_getD,List.getElem?_map];cases r[k]? <;>rfl
theorem Rl {ps:List PT} {f:Nat} (hf:f<=4000) {st:List (List (List Int))×List (List Nat)} (h:fD ps f=some st) (b:List Nat) (hb:∀ c∈b,c<256):st.1[cA (gy ps st) 0 b]? =some (rowAt ps b):=by
 have rt:Rt (gy ps st):=Bp hf h;have I:=pI h;have hl:aab (fun row k=>bU ps row (lb (partsOf (aL ps)) k)) st:=by
  unfold fD at h;split at h
  ·cases h
  ·exact(zn f h).2
 have hn:st.2.length=st.1.length:=by have:=I.len;have:=I.le;omega
 revert hb;refine zo (P:=fun b=>(∀ c∈b,c<256)->st.1[cA (gy ps st) 0 b]? =some (rowAt ps b)) (fun _=>I.head) (fun b c ih hb=>?_) b;have ih:=ih fun x hx=>hb x (List.mem_append_left _ hx)
 have hc:c<256:=hb c (by simp);obtain⟨s,hs⟩:∃ s,s=cA (gy ps st) 0 b:=⟨_,rfl⟩;have e:cA (gy ps st) 0 (b++ [c])=rb (gy ps st) s (cls (gy ps st).cl c):=by rw[hs];unfold cA;rw[List.foldl_append];rfl
 rw[e];rw[<-hs]at ih;have dI:=(List.getElem?_eq_some_iff.1 ih).1;obtain⟨r,hr⟩:∃ r,st.2[s]? =some r:=⟨_,List.getElem?_eq_getElem (by omega)⟩;obtain⟨p,h1,h2⟩:=hl s r hr;rw[ih]at h1;cases h1;rw[Rk hr];have hk:cls (gy ps st).cl c<r.length:=by rw[(I.rows r (List.mem_of_getElem? hr)).1];exact bH.lp (Rt.part rt) hc
 have h3:=h2 (cls (gy ps st).cl c) (r.getD (cls (gy ps st).cl c) 0) (bh 0 hk);rw[show st.1[r.getD (cls (gy ps st).cl c) 0]? =some _ from h3,uR];have hq:=VB (d:=gy ps st) rt hc;exact congrArg some (Dc ps (rowAt ps b) hq.1 hc hq.2)
theorem xN {ps:List PT} {f:Nat} (hf:f<=4000) {st:List (List (List Int))×List (List Nat)} (h:fD ps f=some st) (b:List Nat) (hb:∀ c∈b,c<256):(gy ps st).mr.getD (cA (gy ps st) 0 b) []=bX ps (rowAt ps b):=by show(st.1.map (bX ps)).getD _ []=_;rw[List.getD_eq_getElem?_getD,List.getElem?_map,Rl hf h b hb];rfl
end Go.Proofs.YtbiboekhakbnpaaGreatDoor
namespace Go.Proofs.YtbiboekhakbnpaaGreatDoor
open Go Go.RowKit Go.Shelf Go.Maps
theorem jQ.form {w:World} {v:Value} {l:List (List (Nat×Nat×Nat)×Bool×Nat)} (h:jQ w v l):∃ a c,v=.slice a l.length c:=by
 rcases h with⟨p,c,rfl,rfl⟩ | ⟨b,off,c,rfl,_⟩
 ·exact⟨_,_,rfl⟩
 ·exact⟨_,_,rfl⟩
theorem jQ.small {w:World} {v:Value} {l:List (List (Nat×Nat×Nat)×Bool×Nat)} (h:jQ w v l):∀ s∈l,s.2.2<256:=by
 rcases h with⟨p,c,rfl,rfl⟩ | ⟨b,off,c,rfl,_,_,_,h⟩
 ·intro s hs;cases hs
 ·intro s hs
  obtain⟨i,hi⟩:=List.getElem?_of_mem hs;exact(h i s hi).2.1
structure Ps (ps:List PT):Prop where
 len:ps.length<=64
 ok:∀ x∈ps,Nt x.nf/\vR x.nf/\0<=x.mark/\x.mark<=255
theorem Ps.all {ps:List PT} (h:Ps ps):ps.all PT.ok=true:=by rw[List.all_eq_true];intro x hx;obtain⟨h1,_,h3,h4⟩:=h.ok x hx;unfold PT.ok;rw[(dW _).2 h1,decide_eq_true h3,decide_eq_true h4];rfl
theorem oq {w:World} {v:Value} {l:List (List (Nat×Nat×Nat)×Bool×Nat)} (h:jQ w v l):Ps (cy l):=⟨by rw[jl];omega,Fc l h.small⟩
theorem zq {ps:List PT} (h:Ps ps) {f:Int} (h0:0<=f) (h1:f<=4000):(fJ ps f).2=0\/(fJ ps f).2=181:=by
 unfold fJ;rw[if_neg (by have:=h.len;omega),if_neg (by rw[h.all];simp),if_neg (by omega)];split
 ·exact .inr rfl
 ·exact .inl rfl
theorem uS {ps:List PT} {f:Int} {d:DF} (h:fJ ps f=(d,0)):∃ st,f<=4000/\0<=f/\fD ps f.toNat=some st/\d=gy ps st:=by obtain⟨_,_,h0,h1,st,h2,h3⟩:=qy (ps:=ps) (f:=f) (by rw[h]);rw[h]at h3;exact⟨st,h1,h0,h2,h3⟩
def Rm (n0 n1 n2:Nat) (code:Int) (d:DF) (W:World) (e:Ending) (w':World):Prop:=
 ∃ a0 c0 a1 c1 a2 c2,e=.returned (.tuple #[.agg #[.slice a0 n0 c0,.slice a1 n1 c1,.slice a2 n2 c2],.int .i64 code])/\aP W.heap.size w' (.agg #[.slice a0 n0 c0,.slice a1 n1 c1,.slice a2 n2 c2]) d/\Below W.heap.size W w'
theorem jT {P:List PT} (h:Ps P) {f:Int} {d:DF} {code:Int} (he:fJ P f=(d,code)) {n0 n1 n2:Nat} (h0:n0=d.cl.length) (h1:n1=d.nx.length) (h2:n2=d.mr.length) (W:World) (u:Value) (hu:dh W u P) (hT:∀ V,Below W.heap.size W V->gO V): Calls Tryz.prog 11 #[u,.int .i64 f] W (Rm n0 n1 n2 code d W):=(mL u P f W hu (fun x hx=>(h.ok x hx).2.1) hT).mono fun e w' ⟨r,hr,hd,hx⟩=>by
 rw[he]at hr hd;subst h0 h1 h2;obtain⟨a0,c0,a1,c1,a2,c2,rfl⟩:=hd.form;exact⟨a0,c0,a1,c1,a2,c2,hr,hd,hx⟩
theorem aP.mN {w:World} {b:Nat} {t:TypeId} {v0 v1 v2:Value} (h:ak w b #[v0,v1,v2] t):w.cell? ⟨b,0,none⟩=some v0/\w.cell? ⟨b,1,none⟩=some v1/\w.cell? ⟨b,2,none⟩=some v2:=⟨h.cell 0,h.cell 1,h.cell 2⟩
end Go.Proofs.YtbiboekhakbnpaaGreatDoor
namespace Go.Proofs.YtbiboekhakbnpaaGreatDoor
open Go Go.ChangeShapes Go.WideShapes Go.ChangeAt Go.RowKit Go.Deep
section
variable {H:Type} {enc:TypeId×Value→H} {W:World}
theorem pR {t e:TypeId} {fuel:Nat} {a:Option Addr} {n c:Nat} {x:DataW H×List MemPlace} (ht:Tryz.prog.underlying t=some (.slice e)) (hb:1<=Tryz.prog.bytesOf e) (h:DataW.trod enc Tryz.prog W 0 (fun _=>true) true fuel t [.slice a n c]=some x) (hs:∀ m∈x.1.weights Tryz.prog t,m<=reachBytes):n<=1000000000000000:=by
 rcases open_slice ht h with⟨hcs,_⟩ | ⟨a',len,cap,m,k,D,Pl,hcs,_,_,_,_,rfl,_⟩
 ·have:Value.slice a n c=.slice none 0 0:=by simpa using hcs
  cases this
  omega
 ·have:Value.slice a n c=.slice (some a') len cap:=by simpa using hcs
  cases this
  have h1:=hs ((((List.range n).map D).length+((List.range (m-n)).map fun j=>D (n+j)).length)*Tryz.prog.bytesOf e) (by simp[DataW.weights,ht]);have h2:n*1<=(((List.range n).map D).length+((List.range (m-n)).map fun j=>D (n+j)).length)*Tryz.prog.bytesOf e:=Nat.mul_le_mul (by simp) hb;unfold reachBytes at h1;omega
theorem pS {t:TypeId} (ht:Tryz.prog.underlying t=some (.int .u8)) {fuel:Nat} {c:Value} {y:DataW H×List MemPlace} (h:DataW.trod enc Tryz.prog W 0 (fun _=>true) true fuel t [c]=some y):∃ n:Nat,c=.int .u8 n/\n<256:=by
 obtain⟨z,hz,_,hw⟩:=DataW.trod_int ht h;obtain rfl:c=.int .u8 z:=by simpa using hz
 have:=oW hw;exact⟨z.toNat,by rw[Int.toNat_of_nonneg this.1],by omega⟩
theorem Dd {fuel:Nat} {v:Value} {y:DataW H×List MemPlace} (h:DataW.trod enc Tryz.prog W 0 (fun _=>true) true fuel 79 [v]=some y) (hz:∀ m∈y.1.weights Tryz.prog 79,m<=reachBytes): ∃ l:List (Nat×Nat×Nat),gJ W v l/\l.length<=1000000000000000:=by
 have hb3:1<=Tryz.prog.bytesOf 135:=by
  have:Tryz.prog.bytesOf 135=3:=by kernel_rfl
  omega
 have h0:=h;rcases open_slice Tryz.underlying79 h with⟨hcs,_⟩ | ⟨a,len,cap,m,n,D,Pl,hcs,_,hl,hm,s5,_,hi⟩
 ·obtain rfl:v=.slice none 0 0:=by simpa using hcs
  exact⟨[],.inl ⟨rfl,rfl⟩,by simp⟩
 ·obtain rfl:v=.slice (some a) len cap:=by simpa using hcs
  have hbd:=pR Tryz.underlying79 hb3 h0 hz;have hc:Tryz.prog.cellsOf 135=3:=by kernel_rfl
  rw[hc]at hi;rw[if_pos rfl]at s5;rcases Nat.eq_zero_or_pos len with h1 | h1
  ·subst h1
   exact⟨[],.inr (.inl ⟨a,cap,rfl,rfl⟩),by simp⟩
  ·obtain⟨b,off,spot⟩:=a
   have el:∀ i,i<len->∃ s:Nat×Nat×Nat,(s.1<256/\s.2.1<256/\s.2.2<256)/\W.cell? ((⟨b,off,spot⟩:Addr).add (i*3))=some (.int .u8 s.1)/\W.cell? (((⟨b,off,spot⟩:Addr).add (i*3)).add 1)=some (.int .u8 s.2.1)/\W.cell? (((⟨b,off,spot⟩:Addr).add (i*3)).add 2)=some (.int .u8 s.2.2):=fun i fU=>by
    obtain⟨cs',h2,h3⟩:=hi i (by omega);obtain⟨_,Cc,hat⟩:=World.cells?_some h2;match cs',Cc with
    | [c0,c1,c2],_=>
    obtain⟨y0,y1,y2,k,_,_,t0,t1,t2⟩:=trod_struct3 Tryz.underlying135 h3;obtain⟨n0,rfl,q0⟩:=pS Tryz.underlying5 (show DataW.trod enc Tryz.prog W 0 (fun _=>true) true k 5 [c0]=some y0 from t0);obtain⟨n1,rfl,q1⟩:=pS Tryz.underlying5 (show DataW.trod enc Tryz.prog W 0 (fun _=>true) true k 5 [c1]=some y1 from t1);obtain⟨n2,rfl,q2⟩:=pS Tryz.underlying5 (show DataW.trod enc Tryz.prog W 0 (fun _=>true) true k 5 [c2]=some y2 from t2);have g0:=hat 0 (by decide);have g1:=hat 1 (by decide);have g2:=hat 2 (by decide);refine⟨(n0,n1,n2),⟨q0,q1,q2⟩,?_,g1,g2⟩;have e:∀ A:Addr,A.add 0=A:=fun A=>by simp[Addr.add]
    rwa[e]at g0
   have hspot:spot=none:=by obtain⟨s,_,g0,_⟩:=el 0 h1;simpa[Addr.add]using World.cell?_spot g0
   subst hspot;have hb:b<W.heap.size:=by
    obtain⟨s,_,g0,_⟩:=el 0 h1;rw[lM]at g0;exact EW g0
   obtain⟨S,hS⟩:=choose_lt (α:=Nat×Nat×Nat) (p:=fun i s=>s.1<256/\s.2.1<256/\s.2.2<256/\W.cell? ⟨b,off+i*3,none⟩=some (.int .u8 s.1)/\W.cell? ⟨b,off+i*3+1,none⟩=some (.int .u8 s.2.1)/\W.cell? ⟨b,off+i*3+2,none⟩=some (.int .u8 s.2.2)) (n:=len) (fun i fU=>by
    obtain⟨s,⟨q0,q1,q2⟩,g0,g1,g2⟩:=el i fU;rw[lM]at g0 g1 g2;rw[lM]at g1 g2
    exact⟨s,q0,q1,q2,g0,g1,g2⟩)
   refine⟨(List.range len).map S,.inr (.inr ⟨b,off,cap,by simp,hb,by simpa using hl,?_,fun i s Pt=>?_⟩),by simpa using hbd⟩
   ·intro e
    have:=congrArg List.length e;simp at this;omega
   ·simp only[List.getElem?_map,Option.map_eq_some_iff,List.getElem?_eq_some_iff]at Pt
    obtain⟨k,⟨hk,rfl⟩,rfl⟩:=Pt;simp at hk ⊢;exact hS i hk
theorem uT {r:Go.Reach} {v:Value} {d:DataW H} {p:List MemPlace} {b0:Nat} (nD:Value.okWide Tryz.prog W r b0 22 v) (h:DataW.Trod enc Tryz.prog W 0 (fun _=>true) true 22 v d p) (hz:∀ m∈d.weights Tryz.prog 22,m<=reachBytes): ∃ l:List (List (Nat×Nat×Nat)×Bool×Nat),jQ W v l/\l.length<=1000000000000000:=by
 have UK:1<=Tryz.prog.bytesOf 81:=by
  have:Tryz.prog.bytesOf 81=32:=by kernel_rfl
  omega
 obtain⟨a,len,cap,rfl⟩:=okWide_slice Tryz.underlying22 nD;obtain⟨fuel,hf⟩:=h;have WV:DataW.trod enc Tryz.prog W 0 (fun _=>true) true fuel 22 [.slice a len cap]=some (d,p):=hf;have hbd:=pR Tryz.underlying22 UK WV hz;rcases open_slice Tryz.underlying22 WV with⟨hcs,_⟩ | ⟨a',len',cap',m,n,D,Pl,hcs,_,hl,hm,s5,hd,hi⟩
 ·have:Value.slice a len cap=.slice none 0 0:=by simpa using hcs
  cases this
  exact⟨[],.inl ⟨none,0,rfl,rfl⟩,by simp⟩
 ·have:Value.slice a len cap=.slice (some a') len' cap':=by simpa using hcs
  cases this
  rcases Nat.eq_zero_or_pos len with h1 | h1
  ·subst h1
   exact⟨[],.inl ⟨some a',cap,rfl,rfl⟩,by simp⟩
  obtain⟨hs,hb⟩:=s7 Tryz.underlying22 nD;obtain⟨b,off,spot⟩:=a';have hs':spot=none:=hs;subst hs';have hc:Tryz.prog.cellsOf 81=3:=by kernel_rfl
  rw[hc]at hi;rw[if_pos rfl]at s5;have WD:d=.slice ((List.range len).map D) ((List.range (m-len)).map fun j=>D (len+j)):=congrArg Prod.fst hd;have hD:∀ i,i<len->∀ w∈(D i).weights Tryz.prog 81,w<=reachBytes:=fun i fU w hw=>by
   refine hz w ?_;rw[WD];simp only[DataW.weights,Tryz.underlying22,List.mem_cons,List.mem_append];exact .inr (.inl (ni (List.mem_map.2 ⟨i,List.mem_range.2 fU,rfl⟩) w hw))
  obtain⟨L,hL⟩:=choose_lt (α:=List (Nat×Nat×Nat)×Bool×Nat) (p:=fun i s=>s.1.length<=1000000000000000/\s.2.2<256/\∃ u,gJ W u s.1/\W.cell? ⟨b,off+i*3,none⟩=some u/\W.cell? ⟨b,off+i*3+1,none⟩=some (.bool s.2.1)/\W.cell? ⟨b,off+i*3+2,none⟩=some (.int .u8 s.2.2)) (n:=len) (fun i fU=>by
   obtain⟨cs',h1,h2⟩:=hi i (by omega);obtain⟨_,Cc,hat⟩:=World.cells?_some h1;match cs',Cc with
   | [c0,c1,c2],_=>
   obtain⟨y0,y1,y2,k,hy,_,t0,t1,t2⟩:=trod_struct3 Tryz.underlying81 h2
   have hz0:∀ m∈y0.1.weights Tryz.prog 79,m<=reachBytes:=fun m hm=>hD i fU m (by
    rw[show D i=_ from congrArg Prod.fst hy];simp only[DataW.weights,Tryz.underlying81]
    exact DataW.weights_mem_each (j:=0) (ds:=[y0.1,y1.1,y2.1]) rfl rfl m hm)
   obtain⟨st,s0,sl⟩:=Dd (show DataW.trod enc Tryz.prog W 0 (fun _=>true) true k 79 [c0]=some y0 from t0) hz0;obtain⟨e,he,_⟩:=DataW.trod_bool Tryz.underlying4 (show DataW.trod enc Tryz.prog W 0 (fun _=>true) true k 4 [c1]=some y1 from t1);obtain rfl:c1=.bool e:=by simpa using he
   obtain⟨n2,rfl,q2⟩:=pS Tryz.underlying5 (show DataW.trod enc Tryz.prog W 0 (fun _=>true) true k 5 [c2]=some y2 from t2);have g0:=hat 0 (by decide);have g1:=hat 1 (by decide);have g2:=hat 2 (by decide);rw[lM,lM]at g0 g1 g2
   exact⟨(st,e,n2),sl,q2,c0,s0,g0,g1,g2⟩)
  refine⟨(List.range len).map L,.inr ⟨b,off,cap,by simp,hb,by simpa using hl,?_,fun i s hx=>?_⟩,by simpa using hbd⟩
  ·intro e
   have:=congrArg List.length e;simp at this;omega
  ·simp only[List.getElem?_map,Option.map_eq_some_iff,List.getElem?_eq_some_iff]at hx
   obtain⟨k,⟨hk,rfl⟩,rfl⟩:=hx;simp at hk ⊢;exact hL i hk
end
end Go.Proofs.YtbiboekhakbnpaaGreatDoor
namespace Go.Proofs.YtbiboekhakbnpaaGreatDoor
open Go Go.RowKit Go.Shelf Go.Maps
theorem NT (a1 a2:Option Addr) (c1 c2:Nat) (w:World):Calls Tryz.prog 16 #[.slice a1 0 c1,.slice a2 0 c2] w fun e w'=>e=.returned (.bool true)/\Ext w w':=by
 go_enter Tryz.func16,Tryz.ntmps16
 go_wp2;go_loopw [13] (fun i wr=>i=.int .i64 0/\Ext w wr) (fun _ _=>0);case atStart=>exact⟨rfl,Ext.refl _⟩
 case round=>
  obtain⟨rfl,hx⟩:=hrel;obtain⟨wo,rfl⟩:∃ wo:World,wo=wr:=⟨_,rfl⟩;have HX:=hid hx;clear hx;go_wp2;go_ret;exact⟨rfl,HX.out⟩
theorem take_eq_all {α:Type} {l1 l2:List α} {n:Nat} (h1:n=l1.length) (h2:n=l2.length) (h:l1.take n=l2.take n):l1=l2:=by rw[List.take_of_length_le (by omega),List.take_of_length_le (by omega)]at h;exact h
theorem JB {α:Type} {l1 l2:List α} {k:Nat} {x:α} (h:l1.take k=l2.take k) (h1:l1[k]? =some x) (h2:l2[k]? =some x):l1.take (k+1)=l2.take (k+1):=by rw[List.take_add_one,List.take_add_one,h,h1,h2]
theorem Hh {α:Type} [BEq α] [LawfulBEq α] {l1 l2:List α} (h:l1.length≠l2.length):(l1==l2)=false:=by rw[beq_eq_false_iff_ne];intro e;exact h (by rw[e])
theorem VC {α:Type} [BEq α] [LawfulBEq α] {l1 l2:List α} {k:Nat} {x y:α} (h1:l1[k]? =some x) (h2:l2[k]? =some y) (h:x≠y):(l1==l2)=false:=by rw[beq_eq_false_iff_ne];intro e;rw[e,h2]at h1;exact h (Option.some.inj h1).symm
theorem NV (a1 a2:Option Addr) (n m c1 c2:Nat) (h:n≠m) (w:World):Calls Tryz.prog 16 #[.slice a1 n c1,.slice a2 m c2] w fun e w'=>e=.returned (.bool false)/\Ext w w':=by
 have d1:((n:Int)==m)=false:=by rw[beq_eq_false_iff_ne];omega
 have d2:((n:Int) != m)=true:=by rw[bne_iff_ne];omega
 have d3:¬ (n:Int)=m:=by omega
 go_enter Tryz.func16,Tryz.ntmps16
 go_wp2;go_ret;exact⟨rfl,Ext.refl _⟩
theorem JC (v1 v2:Value) (l1 l2:List Int) (w:World) (h1:iG aF w v1 l1) (h2:iG aF w v2 l2) (hn:l1.length<=1000000): Calls Tryz.prog 16 #[v1,v2] w fun e w'=>e=.returned (.bool (l1==l2))/\Ext w w':=by
 by_cases hl:l1.length=l2.length
 ·rcases Nat.eq_zero_or_pos l1.length with h0 | h0
  ·have e1:=List.eq_nil_of_length_eq_zero h0
   have e2:=List.eq_nil_of_length_eq_zero (hl▸h0);subst e1 e2;obtain⟨a1,c1,rfl⟩:=h1.form;obtain⟨a2,c2,rfl⟩:=h2.form;exact NT a1 a2 c1 c2 w
  ·have g1:bg aF w v1 l1:=by
    rcases h1 with h | ⟨h,_⟩
    ·exact h
    ·rw[h]at h0;exact absurd h0 (by simp)
   have g2:bg aF w v2 l2:=by
    rcases h2 with h | ⟨h,_⟩
    ·exact h
    ·rw[h]at hl;simp at hl;rw[hl]at h0;exact absurd h0 (by simp)
   exact jg v1 v2 l1 l2 w g1 g2 hn
 ·rw[Hh hl]
  obtain⟨a1,c1,rfl⟩:=h1.form;obtain⟨a2,c2,rfl⟩:=h2.form;exact NV _ _ _ _ _ _ hl w
theorem xO (v1 v2:Value) (l1 l2:List (List Int)) (w:World) (h1:pA w v1 l1) (h2:pA w v2 l2) (hn:l1.length<=1000000) (hs:∀ l∈l1,l.length<=1000000): Calls Tryz.prog 48 #[v1,v2,.func (.func 16) #[] #[]] w fun e w'=>e=.returned (.bool (l1==l2))/\Below w.heap.size w w':=by
 obtain⟨a1,c1,rfl⟩:=h1.form;obtain⟨a2,c2,rfl⟩:=h2.form;obtain⟨n,gM⟩:∃ n,n=l1.length:=⟨_,rfl⟩;obtain⟨m,s5⟩:∃ m,m=l2.length:=⟨_,rfl⟩;rw[<-gM]at h1 hn ⊢;rw[<-s5]at h2 ⊢;obtain⟨r,hr⟩:∃ r,r=(l1==l2):=⟨_,rfl⟩;rw[<-hr];have HN:=hid gM;have HM:=hid s5;have HR:=hid hr;have H1:=hid h1;have H2:=hid h2;have HS:=hid hs;have eg:=Lq;clear h1 h2 gM s5 hr hs;by_cases Wk:n=m
 ·subst Wk
  go_enter Tryz.func48,Tryz.ntmps48
  go_wp2;go_loopw [17] (fun i wr=>∃ k:Nat,k<=n/\i=.int .i64 k/\l1.take k=l2.take k/\Below w.heap.size w wr) (fun i _=>n-(intOf i).toNat);case atStart=>exact⟨0,by omega,rfl,rfl,Below.refl _ _⟩
  case round=>
   obtain⟨k,hk,rfl,ht,hx⟩:=hrel;obtain⟨wo,rfl⟩:∃ wo:World,wo=wr:=⟨_,rfl⟩;have HX:=hid hx;have HT:=hid ht;by_cases hlt:k<n
   ·obtain⟨l,hl⟩:∃ l,l1[k]? =some l:=⟨_,List.getElem?_eq_getElem (by have:=HN.out;omega)⟩
    obtain⟨l',hl'⟩:∃ l,l2[k]? =some l:=⟨_,List.getElem?_eq_getElem (by have:=HM.out;omega)⟩;obtain⟨b,off,e1,k1,rfl,hb,x1,y1⟩:=(H1.out.below hx).elem hl;obtain⟨b',off',e2,k2,rfl,hb',x2,y2⟩:=(H2.out.below hx).elem hl';have ed:(k:Int)<n:=by omega
    obtain⟨q,hq⟩:∃ q,q=(l==l'):=⟨_,rfl⟩
    have CE:Hid (Calls Tryz.prog 16 #[.slice e1 l.length k1,.slice e2 l'.length k2] wo fun e w'=>e=.returned (.bool q)/\Ext wo w'):=hid (by
     rw[hq];exact JC _ _ l l' wo y1 y2 (HS.out l (List.mem_of_getElem? hl)))
    obtain⟨j,hj⟩:∃ j,j=l.length:=⟨_,rfl⟩;obtain⟨j',hj'⟩:∃ j,j=l'.length:=⟨_,rfl⟩;rw[<-hj]at x1 CE;rw[<-hj']at x2 CE;have HQ:=hid hq;have TK:=hid hl;have XG:=hid hl';clear hl hl' y1 y2 hx hj hj' ht hq;go_wp2_with fail
    refine(CE.out).mono ?_;rintro e w2 ⟨rfl,hx⟩;have XX:=hid (HX.out.trans (hx.below.mono HX.out.size));clear hx x1 x2;cases q with
    | true=>
     go_wp2;go_roundw;case rel=>exact⟨k+1,by omega,by go_num,JB HT.out TK.out (by rw[XG.out,eq_of_beq HQ.out.symm]),XX.out⟩
     case measure=>simp[intOf];omega
    | false=>
     have hf:r=false:=by rw[HR.out];exact VC TK.out XG.out (by intro e;have:=HQ.out;rw[e]at this;simp at this)
     go_wp2;go_ret;exact⟨by rw[hf];rfl,XX.out⟩
   ·obtain rfl:k=n:=by omega
    have hf:r=true:=by rw[HR.out,take_eq_all HN.out HM.out HT.out];simp
    clear hx ht;go_wp2;go_ret;exact⟨by rw[hf];rfl,HX.out⟩
 ·have hf:r=false:=by
   rw[HR.out];exact Hh (by have:=HN.out;have:=HM.out;omega)
  have d1:((n:Int)==m)=false:=by rw[beq_eq_false_iff_ne];omega
  have d2:((n:Int) != m)=true:=by rw[bne_iff_ne];omega
  have d3:¬ (n:Int)=m:=by omega
  go_enter Tryz.func48,Tryz.ntmps48
  go_wp2;go_ret;exact⟨by rw[hf];rfl,Below.refl _ _⟩
def eqD (a b:DF):Bool:=a.cl==b.cl&&a.nx==b.nx&&a.mr==b.mr
theorem mO {a b:DF} :eqD a b=true↔a=b:=by obtain⟨a0,a1,a2⟩:=a;obtain⟨b0,b1,b2⟩:=b;unfold eqD;simp[and_assoc]
theorem eX (v v':Value) (d x:DF) (w:World) (h:Gy w v d) (h':Gy w v' x) (sm:Sm d): Calls Tryz.prog 14 #[v,v'] w fun e w'=>e=.returned (.bool (eqD d x))/\Below w.heap.size w w':=by
 obtain⟨v0,v1,v2,rfl,h0,h1,h2⟩:=h;obtain⟨a0,c0,rfl⟩:=h0.1.form;obtain⟨a1,c1,rfl⟩:=h1.form;obtain⟨a2,c2,rfl⟩:=h2.form;obtain⟨u0,u1,u2,rfl,g0,g1,g2⟩:=h';obtain⟨b0,e0,rfl⟩:=g0.1.form;obtain⟨b1,e1,rfl⟩:=g1.form;obtain⟨b2,e2,rfl⟩:=g2.form;have SM:=hid sm;have eg:=Lq;have H0:=hid h0.1;have H1:=hid h1;have H2:=hid h2;have G0:=hid g0.1;have G1:=hid g1;have G2:=hid g2;clear h0 h1 h2 g0 g1 g2 sm;obtain⟨r,hr⟩:∃ r,r=eqD d x:=⟨_,rfl⟩;rw[<-hr];have HR:Hid (r=(d.cl==x.cl&&d.nx==x.nx&&d.mr==x.mr)):=hid hr;clear hr;generalize d.cl.length=n0 at*;generalize d.nx.length=n1 at*;generalize d.mr.length=n2 at*;generalize x.cl.length=m0 at*;generalize x.nx.length=m1 at*;generalize x.mr.length=m2 at*;go_enter Tryz.func14,Tryz.ntmps14;go_wp2_with fail
 refine aw ?_;intro V hV;have B3:Hid (ak V w.heap.size #[.slice a0 n0 c0,.slice a1 n1 c1,.slice a2 n2 c2] 31):=by rw[hV];exact(ak.new _ _ _).alloc _
 have B4:Hid (ak V (w.heap.size+1) #[.slice b0 m0 e0,.slice b1 m1 e1,.slice b2 m2 e2] 31):=by rw[hV];exact(ak.new (w.alloc _) _ _).at (by simp)
 have HX:Hid (Below w.heap.size w V):=by rw[hV];exact(((Ext.refl w).alloc _).alloc _).below
 clear hV;refine(tC _ _ d.cl x.cl V (H0.out.below HX.out) (G0.out.below HX.out) SM.out.cl).mono ?_;rintro e w3 ⟨rfl,hx⟩;have X3:=hid (HX.out.trans (hx.below.mono HX.out.size));have D3:=hid (B3.out.ext hx);have D5:=hid (B4.out.ext hx);clear hx B3 B4 HX;obtain⟨⟨k0,k1,k2⟩,_⟩:=D3.out.three;obtain⟨⟨l0,l1,l2⟩,_⟩:=D5.out.three;obtain⟨q,hq⟩:∃ q,q=(d.cl==x.cl):=⟨_,rfl⟩;rw[<-hq]at HR ⊢;clear hq;cases q with
 | false=>
  go_wp2;go_ret;exact⟨by rw[HR.out];rfl,X3.out⟩
 | true=>
  go_wp2_with fail
  refine(xO _ _ d.nx x.nx _ (.inl (H1.out.below X3.out)) (.inl (G1.out.below X3.out)) SM.out.nx SM.out.vO).mono ?_;rintro e w4 ⟨rfl,hx⟩;have X4:=hid (X3.out.trans (hx.mono X3.out.size));have E3:=hid (D3.out.below hx D3.out.lt);have E5:=hid (D5.out.below hx D5.out.lt);clear hx k0 k1 k2 l0 l1 l2;obtain⟨⟨k0,k1,k2⟩,_⟩:=E3.out.three;obtain⟨⟨l0,l1,l2⟩,_⟩:=E5.out.three;obtain⟨q,hq⟩:∃ q,q=(d.nx==x.nx):=⟨_,rfl⟩;rw[<-hq]at HR ⊢;clear hq;cases q with
  | false=>
   go_wp2;go_ret;exact⟨by rw[HR.out];rfl,X4.out⟩
  | true=>
   go_wp2_with fail
   refine(xO _ _ d.mr x.mr _ (.inl (H2.out.below X4.out)) (.inl (G2.out.below X4.out)) SM.out.mr SM.out.PS).mono ?_;rintro e w5 ⟨rfl,hx⟩;have X5:=hid (X4.out.trans (hx.mono X4.out.size));clear hx k0 k1 k2 l0 l1 l2;rw[show(d.mr==x.mr)=r from HR.out.symm];go_wp2;go_ret;exact⟨rfl,X5.out⟩
end Go.Proofs.YtbiboekhakbnpaaGreatDoor
