/- Blocks of states in plain words: rounds that part states further; the last round's blocks are the states that agree. -/
import Derived.Test.YtjgccapbphadjaaGreatDoorOM17
import Derived.Lib.BufferRead
set_option maxRecDepth 100000
set_option maxHeartbeats 16000000
open Go.Lib (hid)
namespace Go.Proofs.YtjgccapbphadjaaGreatDoor
section
open Go Go.RowKit
def rS (d:DF) (s:Nat):List Nat:=(d.nx.getD s []).map Int.toNat
def eF (L:List Nat) (t:Nat):List Nat:=if t∈L then L else L++ [t]
def kf (d:DF):Nat->List Nat
 | 0=>[0]
 | n+1=>match(kf d n)[n]? with
  | none=>kf d n
  | some s=>(rS d s).foldl eF (kf d n)
def bD (d:DF):List Nat:=kf d d.nx.length
structure KQ (N:Nat) (L:List Nat):Prop where
 nodup:L.Nodup
 lt:∀ t∈L,t<N
 pos:0<L.length
theorem KQ.len {N:Nat} {L:List Nat} (h:KQ N L):L.length<=N:=kV _ _ h.nodup h.lt
theorem KQ.add {N:Nat} {L:List Nat} (h:KQ N L) {t:Nat} (ht:t<N):KQ N (eF L t):=by
 unfold eF;split
 ·exact h
 ·rename_i hn
  refine⟨?_,fun x hx=>?_,by simp⟩
  ·rw[List.nodup_append]
   refine⟨h.nodup,by simp,fun a ha b hb=>?_⟩;simp at hb;subst hb;intro e;subst e;exact hn ha
  ·rcases List.mem_append.1 hx with hx | hx
   ·exact h.lt x hx
   ·simp at hx;omega
theorem KQ.fold {N:Nat} :∀ (ts:List Nat) {L:List Nat},KQ N L->(∀ t∈ts,t<N)->KQ N (ts.foldl eF L)
 | [],_,h,_=>h
 | t::ts,L,h,ht=>by
  rw[List.foldl_cons];exact KQ.fold ts (h.add (ht t (aW ..))) fun x hx=>ht x (bF _ hx)
theorem Nl {l:List Nat} {k t:Nat} (L:List Nat) (h:l[k]? =some t):(l.take (k+1)).foldl eF L=eF ((l.take k).foldl eF L) t:=by rw[List.take_add_one,h,Option.toList_some,List.foldl_append];rfl
theorem RQ (L:List Nat) (t:Nat):L.length<=(eF L t).length:=by unfold eF;split<;>simp
theorem FD:∀ (ts L:List Nat),L.length<=(ts.foldl eF L).length
 | [],_=>aD _
 | t::ts,L=>Nat.le_trans (RQ L t) (FD ts _)
theorem RS (L:List Nat) (t:Nat) {i x:Nat} (h:L[i]? =some x):(eF L t)[i]? =some x:=by
 unfold eF;split
 ·exact h
 ·rw[bJ (List.getElem?_eq_some_iff.1 h).1];exact h
theorem FE {i x:Nat} :∀ (ts L:List Nat),L[i]? =some x->(ts.foldl eF L)[i]? =some x
 | [],_,h=>h
 | t::ts,L,h=>FE ts _ (RS L t h)
theorem RU {d:DF} (rt:Rt d) {s k:Nat} (hs:s<d.nx.length) (hk:k<d.cl.length):∃ t:Nat,t<d.nx.length/\(d.nx.getD s [])[k]? =some (t:Int)/\(rS d s)[k]? =some t:=by have hl:=rt.len s hs;have hz:(d.nx.getD s [])[k]? =some ((d.nx.getD s [])[k]'(by omega)):=az (by omega);have hr:=rt.je s hs _ (aw hz);refine⟨((d.nx.getD s [])[k]'(by omega)).toNat,by omega,by rw[hz];congr 1;omega,?_⟩;unfold rS;rw[aO,hz];rfl
theorem vo {d:DF} (rt:Rt d) {s:Nat} (hs:s<d.nx.length):(rS d s).length=d.cl.length:=by unfold rS;rw[aQ,rt.len s hs]
theorem Cz {d:DF} (rt:Rt d) {s:Nat} (hs:s<d.nx.length):∀ t∈rS d s,t<d.nx.length:=fun t ht=>by
 obtain⟨z,hz,rfl⟩:=List.mem_map.1 ht;have:=rt.je s hs z hz;omega
theorem qi {d:DF} (rt:Rt d):∀ n,KQ d.nx.length (kf d n)
 | 0=>⟨by simp[kf],fun t ht=>by simp[kf]at ht;have:=rt.pos;omega,by simp[kf]⟩
 | n+1=>by
  have h:=qi rt n;rw[kf];cases e:(kf d n)[n]? with
  | none=>exact h
  | some s=>
   have hs:=h.lt s (aw e);exact h.fold _ (Cz rt hs)
theorem FH {d:DF} {n s:Nat} (h:(kf d n)[n]? =some s):kf d (n+1)=(rS d s).foldl eF (kf d n):=by rw[kf,h]
theorem rT {d:DF} {n:Nat} (h:(kf d n).length<=n):∀ k,kf d (n+k)=kf d n
 | 0=>rfl
 | k+1=>by
  have ih:=rT h k;rw[<-Nat.add_assoc,kf,ih,aX (by omega)]
theorem FJ {d:DF} {n:Nat} (h:(kf d n).length<=n) (hn:n<=d.nx.length):bD d=kf d n:=by have:=rT h (d.nx.length-n);rw[show n+(d.nx.length-n)=d.nx.length by omega]at this;exact this
theorem dA {d:DF} (rt:Rt d):KQ d.nx.length (bD d):=qi rt _
def nQ (N:Nat) (L:List Nat):List Int:=(List.range N).map fun t=>if t∈L then 1 else 0
theorem oI (N:Nat) (L:List Nat):(nQ N L).length=N:=by simp[nQ]
theorem rU {N t:Nat} (L:List Nat) (h:t<N):(nQ N L)[t]? =some (if t∈L then 1 else 0):=by unfold nQ;rw[aO,List.getElem?_range h];rfl
theorem Aw {N t:Nat} (L:List Nat) (h:t<N):(nQ N L).set t 1=nQ N (L++ [t]):=by
 apply List.ext_getElem?;intro j;rw[List.getElem?_set];by_cases hj:j<N
 ·rw[rU _ hj,rU _ hj]
  by_cases e:t=j
  ·subst e;simp[oI,h]
  ·rw[if_neg e]
   have:(j∈L++ [t])↔j∈L:=by simp;intro e2;exact absurd e2.symm e
   simp only[this]
 ·rw[if_neg (by omega),aX (by rw[oI];omega),aX (by rw[oI];omega)]
theorem FK {N:Nat} (h:0<N):(List.replicate N (0:Int)).set 0 1=nQ N [0]:=by
 have e:List.replicate N (0:Int)=nQ N []:=by
  apply List.ext_getElem?;intro j;by_cases hj:j<N
  ·rw[rU _ hj,List.getElem?_replicate,if_pos hj];simp
  ·rw[aX (by simp;omega),aX (by rw[oI];omega)]
 rw[e,Aw [] h];rfl
theorem RV (L:List Nat) (t:Nat):t∈eF L t:=by unfold eF;split<;>simp_all
theorem RY {L:List Nat} {t x:Nat} (h:x∈L):x∈eF L t:=by unfold eF;split<;>simp_all
theorem sub_fold {x:Nat} :∀ (ts:List Nat) {L:List Nat},x∈L->x∈ts.foldl eF L
 | [],_,h=>h
 | _::ts,_,h=>sub_fold ts (RY h)
theorem FM {x:Nat} :∀ (ts:List Nat) (L:List Nat),x∈ts->x∈ts.foldl eF L
 | t::ts,L,h=>by
  rw[List.foldl_cons];rcases List.mem_cons.1 h with rfl | h
  ·exact sub_fold ts (RV _ _)
  ·exact FM ts _ h
theorem rV {d:DF} {n i x:Nat} (h:(kf d n)[i]? =some x):∀ k,(kf d (n+k))[i]? =some x
 | 0=>h
 | k+1=>by
  have ih:=rV h k;rw[<-Nat.add_assoc,kf];cases (kf d (n+k))[n+k]? with
  | none=>exact ih
  | some s=>exact FE _ _ ih
theorem l8 {d:DF} (rt:Rt d) {s t:Nat} (hs:s∈bD d) (ht:t∈rS d s):t∈bD d:=by
 obtain⟨k,hk⟩:=List.getElem?_of_mem hs;have AZ:=(List.getElem?_eq_some_iff.1 hk).1;have hle:=(dA rt).len;have hkk:k<(kf d k).length:=by
  rcases Nat.lt_or_ge k (kf d k).length with h | h
  ·exact h
  ·have:=FJ h (by omega)
   rw[this]at AZ;omega
 obtain⟨s',hs'⟩:∃ s',(kf d k)[k]? =some s':=⟨_,az hkk⟩;have e:=rV hs' (d.nx.length-k);rw[show k+(d.nx.length-k)=d.nx.length by omega]at e;have e2:s'=s:=by have:(bD d)[k]? =some s':=e;rw[hk]at this;exact(Option.some.inj this).symm
 subst e2;have hm:t∈kf d (k+1):=by rw[FH hs'];exact FM _ _ ht
 obtain⟨i,hi⟩:=List.getElem?_of_mem hm;have e3:=rV hi (d.nx.length-(k+1));rw[show k+1+(d.nx.length-(k+1))=d.nx.length by omega]at e3;exact aw e3
def qj (d:DF) (s:Nat):List Int:=(rS d s).map fun t=>((bD d).idxOf t:Int)
def aI (d:DF):DF:=⟨d.cl,(bD d).map (qj d),(bD d).map fun s=>d.mr.getD s []⟩
def xz (N:Nat) (L:List Nat) (i:Nat):List Int:=(List.range N).map fun t=>if L.idxOf t<i then(L.idxOf t:Int)else 0
theorem rW (N:Nat) (L:List Nat) (i:Nat):(xz N L i).length=N:=by simp[xz]
theorem vq {N t:Nat} (L:List Nat) (i:Nat) (h:t<N):(xz N L i)[t]? =some (if L.idxOf t<i then(L.idxOf t:Int)else 0):=by unfold xz;rw[aO,List.getElem?_range h];rfl
theorem Nn (N:Nat) (L:List Nat):List.replicate N (0:Int)=xz N L 0:=by
 apply List.ext_getElem?;intro j;by_cases hj:j<N
 ·rw[vq _ _ hj,List.getElem?_replicate,if_pos hj,if_neg (by omega)]
 ·rw[aX (by simp;omega),aX (by rw[rW];omega)]
theorem Np {L:List Nat} (hn:L.Nodup) {i s:Nat} (h:L[i]? =some s):L.idxOf s=i:=by obtain⟨hi,he⟩:=List.getElem?_eq_some_iff.1 h;subst he;exact hn.idxOf_getElem i hi
theorem Ji {L:List Nat} {t:Nat} (h:t∈L):L[L.idxOf t]? =some t:=by have:=List.idxOf_lt_length_of_mem h;rw[az this,List.getElem_idxOf this]
theorem RZ {N i s:Nat} {L:List Nat} (hn:L.Nodup) (h:L[i]? =some s) (hs:s<N):(xz N L i).set s (i:Int)=xz N L (i+1):=by
 apply List.ext_getElem?;intro j;rw[List.getElem?_set];by_cases hj:j<N
 ·rw[vq _ _ hj,vq _ _ hj]
  by_cases e:s=j
  ·subst e
   rw[if_pos rfl,rW,if_pos hs,Np hn h,if_pos (by omega)]
  ·rw[if_neg e]
   have hne:L.idxOf j≠i:=fun e2=>by
    have hi:=(List.getElem?_eq_some_iff.1 h).1;have hm:j∈L:=List.idxOf_lt_length_iff.1 (by omega);have:=Ji hm;rw[e2,h]at this;exact e (Option.some.inj this)
   by_cases e3:L.idxOf j<i
   ·rw[if_pos e3,if_pos (by omega)]
   ·rw[if_neg e3,if_neg (by omega)]
 ·rw[if_neg (by omega),aX (by rw[rW];omega),aX (by rw[rW];omega)]
theorem Sa {N t:Nat} {L:List Nat} (h:t∈L) (hs:t<N):(xz N L L.length)[t]? =some (L.idxOf t:Int):=by rw[vq _ _ hs,if_pos (List.idxOf_lt_length_of_mem h)]
end
section
open Go Go.RowKit Go.Shelf Go.Maps
def bU (d:DF) (s:Nat) (b:List Nat):Nat:=b.foldl (fun s c=>dL d s (cls d.cl c)) s
theorem eN {d:DF} (rt:Rt d) {s:Nat} (hs:s<d.nx.length):∀ (b:List Nat),(∀ c∈b,c<256)->bU d s b<d.nx.length:=by
 intro b;induction b generalizing s with
 | nil=>intro _;exact hs
 | cons c r ih=>intro h;exact ih (rt.fH hs (rt.part.cZ (h c (by simp)))) (fun x hx=>h x (by simp[hx]))
end
section
open Go Go.RowKit
theorem Vf {α:Type} {P:List α->Prop} (h0:P []) (h1:∀ l x,P l->P (l++ [x])) (l:List α):P l:=by
 have key:∀ r:List α,P r.reverse:=fun r=>by
  induction r with
  | nil=>exact h0
  | cons x r ih=>rw[List.reverse_cons];exact h1 _ _ ih
 have:=key l.reverse;rwa[List.reverse_reverse]at this
def ahm (ps:List PT) (st:List (List (List Int))×List (List Nat)):DF:=⟨partsOf (cC ps),st.2.map fun r=>r.map Int.ofNat,st.1.map (dM ps)⟩
end
section
open Go Go.RowKit Go.Shelf Go.Maps
structure Ps (ps:List PT):Prop where
 len:ps.length<=64
 ok:∀ x∈ps,Nt x.nf/\PZ x.nf/\0<=x.mark/\x.mark<=255
theorem Ps.all {ps:List PT} (h:Ps ps):ps.all PT.ok=true:=by rw[List.all_eq_true];intro x hx;obtain⟨h1,_,h3,h4⟩:=h.ok x hx;unfold PT.ok;rw[(eY _).2 h1,decide_eq_true h3,decide_eq_true h4];rfl
theorem Vg {w:World} {b:Nat} {v0 v1 v2 v3:Value} {x:PT} {t:TypeId} (h:ar w b #[v0,v1,v2,v3,.bool x.nf.emp,.bool x.zP,.int .i64 x.mark] t) (hn:kX w (.agg #[v0,v1,v2,v3,.bool x.nf.emp]) x.nf):iW w (.slice (some ⟨b,0,none⟩) 1 1) [x]:=by
 obtain⟨h0,h1,h2,h3,h4,h5,h6⟩:=h.seven;refine .inr ⟨b,0,1,rfl,h.lt,fun i y hy=>?_⟩;cases i with
 | zero=>cases hy;exact⟨v0,v1,v2,v3,hn,h0,h1,h2,h3,h4,h5,h6⟩
 | succ i=>simp at hy
theorem Vh {ps:List PT} (h:Ps ps) {f:Int} (h0:0<=f) (h1:f<=4000):(kP ps f).2=0\/(kP ps f).2=181:=by
 unfold kP;rw[if_neg (by have:=h.len;omega),if_neg (by rw[h.all];simp),if_neg (by omega)];split
 ·exact .inr rfl
 ·exact .inl rfl
theorem Sb {ps:List PT} {f:Int} {d:DF} (h:kP ps f=(d,0)):∃ st,f<=4000/\0<=f/\sO ps f.toNat=some st/\d=ahm ps st:=by obtain⟨_,_,h0,h1,st,h2,h3⟩:=Nc (ps:=ps) (f:=f) (by rw[h]);rw[h]at h3;exact⟨st,h1,h0,h2,h3⟩
theorem xA {P:List PT} (h:Ps P) {f:Int} {d:DF} {code:Int} (he:kP P f=(d,code)) {n0 n1 n2:Nat} (h0:n0=d.cl.length) (h1:n1=d.nx.length) (h2:n2=d.mr.length) (W:World) (u:Value) (hu:iW W u P) (hT:∀ V,aa W V->nE V): ah 61 #[u,.int .i64 f] W (oV n0 n1 n2 code d W):=(Nk u P f W hu (fun x hx=>(h.ok x hx).2.1) hT).mono fun e w' ⟨r,hr,hd,hx⟩=>by
 rw[he]at hr hd;subst h0 h1 h2;obtain⟨a0,c0,a1,c1,a2,c2,rfl⟩:=hd.form;exact⟨a0,c0,a1,c1,a2,c2,hr,hd,hx⟩
def T1 (l:List (Nat×Nat×Nat)) (zP:Bool):List PT:=U4 [(l,zP,0)]
theorem Sc {ps:List PT} {f:Int} (h:(kP ps f).2=181):(kP ps f).1=⟨[],[],[]⟩:=by
 unfold kP at h ⊢;split
 ·rfl
 ·split
  ·rfl
  ·split
   ·rfl
   ·split
    ·rfl
    ·rename_i h1 h2 h3 _ st hs
     rw[if_neg h1,if_neg h2,if_neg h3,hs]at h;cases h
def ql (fl i:Nat) (s:List (Nat×Nat×Nat)):PT:=⟨(hZ (s.take 12)).nf,fl/2^i%2==1,((i*(fl/64):Nat):Int)⟩
def cI (l:List (List (Nat×Nat×Nat))) (fl:Nat):List PT:=(l.take 3).mapIdx (ql fl)
theorem uw (l:List (List (Nat×Nat×Nat))) (fl:Nat):(cI l fl).length=min 3 l.length:=by unfold cI;rw[List.length_mapIdx,List.length_take]
theorem FN {l:List (List (Nat×Nat×Nat))} {fl k:Nat} {s:List (Nat×Nat×Nat)} (h:l[k]? =some s) (hk:k<3):(cI l fl)[k]? =some (ql fl k s):=by unfold cI;rw[List.getElem?_mapIdx,List.getElem?_take_of_lt hk,h];rfl
theorem CD {l:List (List (Nat×Nat×Nat))} {fl k:Nat} {s:List (Nat×Nat×Nat)} (h:l[k]? =some s) (hk:k<3):(cI l fl).take (k+1)=(cI l fl).take k++ [ql fl k s]:=by rw[List.take_add_one,FN h hk];rfl
theorem qm (l:List (List (Nat×Nat×Nat))) (fl:Nat) (hf:fl<256):Ps (cI l fl):=⟨by rw[uw];omega,fun x hx=>by
 obtain⟨i,hi⟩:=List.mem_iff_getElem?.1 hx;unfold cI at hi;rw[List.getElem?_mapIdx]at hi;obtain⟨s,hs,rfl⟩:=Option.map_eq_some_iff.1 hi;have hi3:=(List.getElem?_eq_some_iff.1 hs).1;rw[List.length_take]at hi3;have ht:Nt (hZ (s.take 12)).nf:=ET (nK _).clean (nK _).cD;have h1:i*(fl/64)<=2*3:=Nat.mul_le_mul (by omega) (by omega)
 exact⟨ht,ht.smn,by unfold ql;dsimp only;omega,by unfold ql;dsimp only;omega⟩⟩
theorem Nq (l:List (List (Nat×Nat×Nat))) (fl:Nat) (hf:fl<256):(∃ d,kP (cI l fl) 60=(d,0)/\Rt d/\d.nx.length<=60)\/kP (cI l fl) 60=(⟨[],[],[]⟩,181):=by
 rcases Vh (qm l fl hf) (f:=60) (by decide) (by decide)with h | h
 ·refine .inl ⟨(kP (cI l fl) 60).1,Prod.ext rfl h,Nb (Prod.ext rfl h),?_⟩
  obtain⟨st,_,_,h2,h3⟩:=Sb (ps:=cI l fl) (f:=60) (d:=(kP (cI l fl) 60).1) (Prod.ext rfl h);have I:=KJ h2;rw[h3];show(st.2.map _).length<=60;rw[aQ,I.len];exact Nat.min_le_left _ _
 ·exact .inr (Prod.ext (Sc h) h)
theorem Zq {t:RX} (tf:t.fine) (ts:t.size<=120) (tp:t.cD<=400) (zP:Bool):Ps [⟨t.nf,zP,0⟩]:=⟨by show 1<=64;omega,fun x hx=>by
 obtain rfl:=List.mem_singleton.1 hx
 have hn:Nt t.nf:=ET (by
  unfold RX.clean;rw[Bool.and_eq_true,List.all_eq_true]
  exact⟨decide_eq_true (by omega),tf⟩) tp
 exact⟨hn,hn.smn,Int.le_refl _,by show(0:Int)<=255;decide⟩⟩
theorem ky (v:Value) (t:RX) (tf:t.fine) (ts:t.size<=120) (tp:t.cD<=400) (zP:Bool) (f:Int) {d:DF} {code:Int} (he:kP [⟨t.nf,zP,0⟩] f=(d,code)) {m0 m1 m2:Nat} (h0:m0=d.cl.length) (h1:m1=d.nx.length) (h2:m2=d.mr.length) (w:World) (h:aJ (· <w.heap.size) w v t) (hT:∀ W,aa w W->nE W): ah 53 #[v,.bool zP,.int .i64 f] w (oV m0 m1 m2 code d w):=by
 have CN:Hid (∀ W,aa w W->ah 59 #[v] W fun e w'=>∃ u,e=.returned (.tuple #[u,.int .i64 0])/\im W.heap.size w' u t.nf/\aa W w'):=hid fun W hW=>(Ak v t W ((h.mN hW).mono fun b hb=>aA hb hW.size) tf ts tp)
 have CO:Hid (∀ W u,aa w W->iW W u [⟨t.nf,zP,0⟩]->ah 61 #[u,.int .i64 f] W (oV m0 m1 m2 code d W)):=hid fun W u hW hu=>xA (Zq tf ts tp zP) he h0 h1 h2 W u hu fun V hV=>hT V (hW.trans (hV.mono hW.size))
 obtain⟨ta,tc,rfl⟩:=h.form;clear h hT he h0 h1 h2;generalize t.kind=nk at*;generalize t.set=ns at*;generalize t.mn=ni at*;generalize t.mx=nx at*;generalize t.subs.length=nl at*;unfold aq at*;go_enter Tryz.func53,Tryz.ntmps53;go_upto_region 1 with fail
 refine ax ?_;intro V0 hV;have BR:Hid (ar V0 w.heap.size #[.int .u8 nk,.int .u64 (wd ns 0).toNat,.int .u64 (wd ns 1).toNat,.int .u64 (wd ns 2).toNat,.int .u64 (wd ns 3).toNat,.int .i64 ni,.int .i64 nx,.slice ta nl tc] 97):=hid (by rw[hV];exact(ar.new w _ _).alloc _);have BZ:Hid (ar V0 (w.heap.size+1) #[.slice none 0 0,.slice none 0 0,.slice none 0 0] 29):=hid (by rw[hV];exact(ar.new (w.alloc _) _ _).at (by simp));have X0:Hid (aa w V0):=hid (by rw[hV];exact(((Ext.refl w).alloc _).alloc _).below);clear hV;have r0:=BR.out.cell 0;have r1:=BR.out.cell 1;have r2:=BR.out.cell 2;have r3:=BR.out.cell 3;have r4:=BR.out.cell 4;have r5:=BR.out.cell 5;have r6:=BR.out.cell 6;have r7:=BR.out.cell 7;simp only[List.getElem?_toArray,List.getElem?_cons_zero,List.getElem?_cons_succ]at r0 r1 r2 r3 r4 r5 r6 r7;go_wp2_with fail
 refine(CN.out V0 X0.out).mono ?_;rintro e w1 ⟨u,rfl,ho,hx⟩;obtain⟨a0,n0,c0,a1,n1,c1,a2,n2,c2,a3,n3,c3,rfl⟩:=ho.form;have HO:=hid ho;have X1:=hid (X0.out.trans (hx.mono X0.out.size));have XA:Hid (aa V0 w1):=hid hx;clear ho hx CN r0 r1 r2 r3 r4 r5 r6 r7 X0 BR;go_upto_region 2 with fail
 refine ax ?_;intro V hV;have BN:Hid (ar V w1.heap.size #[.slice a0 n0 c0,.slice a1 n1 c1,.slice a2 n2 c2,.slice a3 n3 c3,.bool t.nf.emp] 118):=hid (by rw[hV];exact ar.new w1 _ _);have XV:Hid (aa w1 V):=hid (by rw[hV];exact((Ext.refl w1).alloc _).below);clear hV;have j8:=hid (HO.out.below XV.out);have X2:=hid (X1.out.trans (XV.out.mono X1.out.size));have f0:V.cell? ⟨w1.heap.size,0,none⟩=some (.slice a0 n0 c0):=BN.out.cell 0;have f1:V.cell? ⟨w1.heap.size,1,none⟩=some (.slice a1 n1 c1):=BN.out.cell 1;have f2:V.cell? ⟨w1.heap.size,2,none⟩=some (.slice a2 n2 c2):=BN.out.cell 2;have f3:V.cell? ⟨w1.heap.size,3,none⟩=some (.slice a3 n3 c3):=BN.out.cell 3;have f4:V.cell? ⟨w1.heap.size,4,none⟩=some (.bool t.nf.emp):=BN.out.cell 4;have qE:Hid (V0.heap.size<=V.heap.size):=hid (XA.out.trans (XV.out.mono XA.out.size)).size;have Y1:=hid (XA.out.trans (XV.out.mono XA.out.size));clear XV BN HO X1 XA;go_wp2_with fail
 refine(CO.out _ _ (X2.out.trans (((Ext.refl V).alloc _).below.mono X2.out.size)) (Vg (x:=⟨t.nf,zP,0⟩) (ar.new V _ _) (j8.out.nf.below ((Ext.refl V).alloc _).below))).mono ?_;rintro e w2 ⟨x0,y0,x1,y1,x2,y2,rfl,ho,hx⟩;have hx2:aa V w2:=((Ext.refl V).alloc _).below.trans (hx.mono (by simp));have X3:=hid (X2.out.trans (hx2.mono X2.out.size));have BZ2:=hid (BZ.out.below (Y1.out.trans (hx2.mono Y1.out.size)) BZ.out.lt);have HD:=hid ho;clear ho hx hx2 CO f0 f1 f2 f3 f4 j8 X2 Y1;obtain⟨z0,z1,z2⟩:=bA.mO BZ2.out;have z3:=BZ2.out.frozen 0;have z4:=BZ2.out.frozen 1;have z5:=BZ2.out.frozen 2;go_wp2;generalize hW:((w2.setCell ⟨w.heap.size+1,0,none⟩ (.slice x0 m0 y0)).setCell ⟨w.heap.size+1,1,none⟩ (.slice x1 m1 y1)).setCell ⟨w.heap.size+1,2,none⟩ (.slice x2 m2 y2)=W3;have BF:Hid (ar W3 (w.heap.size+1) #[.slice x0 m0 y0,.slice x1 m1 y1,.slice x2 m2 y2] 29):=hid (by rw[<-hW];exact((BZ2.out.set 0 _).set 1 _).set 2 _);have KF:ae (· ≠w.heap.size+1) w2 W3:=by
  rw[<-hW];exact(((ae.refl _ _).setCell (p:=⟨w.heap.size+1,0,none⟩) (fun h=>h rfl) _).setCell (p:=⟨w.heap.size+1,1,none⟩) (fun h=>h rfl) _).setCell (p:=⟨w.heap.size+1,2,none⟩) (fun h=>h rfl) _
 have HKF:=hid KF;clear hW z0 z1 z2 z3 z4 z5 KF;obtain⟨z0,z1,z2⟩:=bA.mO BF.out;have hVw:w.heap.size+1<V.heap.size:=aA BZ.out.lt qE.out;refine bodyPost_ret (v:=.tuple #[.agg #[.slice x0 m0 y0,.slice x1 m1 y1,.slice x2 m2 y2],.int .i64 code]) (by simp[results,Tryz.results53,go_sem,z0,z1,z2]) rfl ⟨x0,y0,x1,y1,x2,y2,rfl,(HD.out.keeps HKF.out fun b hb _=>?_).base ?_,?_⟩
 ·have:V.heap.size+1<=b:=by simpa using hb
  show b≠w.heap.size+1;omega
 ·simp;omega
 ·exact X3.out.trans (HKF.out.mono fun x (hx:x<w.heap.size)=>by show x≠w.heap.size+1;omega:ae (· <w.heap.size) w2 W3).below
structure fO (b:Nat) (t:TypeId) (x:Array Value) (W W':World):Prop where
 mv:Move false (· =b) W W'
 old:(∃ c,ar W b c t/\c.size=x.size)->∃ c,ar W' b c t/\c.size=x.size
 new:ar W b x t->ar W' b x t
theorem fO.trans {b:Nat} {t:TypeId} {x:Array Value} {A B C:World} (h:fO b t x A B) (k:fO b t x B C):fO b t x A C:=⟨h.mv.trans k.mv,fun hb=>k.old (h.old hb),fun hb=>k.new (h.new hb)⟩
theorem fO.below {b:Nat} {t:TypeId} {x:Array Value} {W W':World} (h:aa W W'):fO b t x W W':=
 ⟨((Move.ak h:Move false (fun _=>False) W W').mono fun _ h=>False.elim h),fun ⟨d,hc,hs⟩=>⟨d,hc.below h hc.lt,hs⟩,fun hc=>hc.below h hc.lt⟩
theorem fO.drew (b:Nat) (t:TypeId) (x:Array Value) (w:World):fO b t x w w.drew:=.below (Ext.refl w).drew.below
theorem fO.store {b:Nat} {t:TypeId} {x:Array Value} {W W':World} (h:Move false (· =b) W W') (hn:ar W' b x t):fO b t x W W':=⟨h,fun _=>⟨x,hn,rfl⟩,fun _=>hn⟩
theorem fO.keeps {b:Nat} {t:TypeId} {x:Array Value} {W W':World} (h:fO b t x W W'):ae (fun k=>k<W.heap.size/\¬k=b) W W':=h.mv.keeps
def aZ.wrote (b:Nat) (t:TypeId) (x:Array Value):aZ (fO b t x):=⟨fun _=>True,fun _ W=>ar W b x t,undef,trivial,fun _ _ _ hm _ h=>hm.new h⟩
def aZ.rowOf (n:Nat) (cs:Array Value) (t:TypeId):aZ (Move false (fun _=>False)) where
 P:=fun v=>∃ b,v=.slice (some ⟨b,0,none⟩) n n
 H:=fun v W=>∀ b,v=.slice (some ⟨b,0,none⟩) n n->ar W b cs t
 nW:=.slice (some ⟨0,0,none⟩) n n
 pw:=⟨0,rfl⟩
 st:=fun _ _ _ hm _ h b hb=>(h b hb).below hm.below (h b hb).lt
end
section
open Go Go.RowKit
set_option maxRecDepth 100000
def l9 (l:List Nat):List Nat:=l.flatMap fun x=>[x%256,x/256%256,x/65536%256,x/16777216%256]
theorem FP:∀ {l m:List Nat},(∀ x∈l,x<4294967296)->(∀ x∈m,x<4294967296)->l9 l=l9 m->l=m
 | [],[],_,_,_=>rfl
 | [],y::m,_,_,h=>by simp[l9]at h
 | x::l,[],_,_,h=>by simp[l9]at h
 | x::l,y::m,hl,hm,h=>by
  have hx:=hl x aW;have hy:=hm y aW;unfold l9 at h;rw[List.flatMap_cons,List.flatMap_cons]at h;injection h with h0 h
  injection h with h1 h
  injection h with h2 h
  injection h with h3 h
  rw[FP (l:=l) (m:=m) (fun z hz=>hl z (bF _ hz)) (fun z hz=>hm z (bF _ hz)) h,show x=y by omega]
theorem FQ (l:List Nat):(l9 l).length=4*l.length:=by
 induction l with
 | nil=>rfl
 | cons x l ih=>
  unfold l9 at ih ⊢;rw[List.flatMap_cons,aG,ih];simp only[List.length_cons,List.length_nil];omega
theorem CQ (l:List Nat):∀ c∈l9 l,c<256:=fun c hc=>by
 unfold l9 at hc;obtain⟨x,_,hx⟩:=List.mem_flatMap.1 hc;simp only[List.mem_cons,List.not_mem_nil,or_false]at hx;rcases hx with rfl | rfl | rfl | rfl<;>exact Nat.mod_lt _ (by decide)
end
section
open Go Go.RowKit Go.Shelf Go.Maps
def G5 (l:List Nat):List UInt8:=l.map UInt8.ofNat
theorem KU:∀ {a b:List Nat},(∀ c∈a,c<256)->(∀ c∈b,c<256)->G5 a=G5 b->a=b
 | [],[],_,_,_=>rfl
 | [],y::b,_,_,h=>by simp[G5]at h
 | x::a,[],_,_,h=>by simp[G5]at h
 | x::a,y::b,ha,hb,h=>by
  unfold G5 at h;rw[List.map_cons,List.map_cons]at h;injection h with h0 h1
  have hx:=ha x aW;have hy:=hb y aW;have h2:=congrArg UInt8.toNat h0;rw[UInt8.toNat_ofNat',UInt8.toNat_ofNat']at h2;rw[KU (fun c hc=>ha c (bF _ hc)) (fun c hc=>hb c (bF _ hc)) h1,show x=y by omega]
def kM (l:List Nat):List UInt8:=G5 (l9 l)
theorem xB (l:List Nat):(kM l).length=4*l.length:=by unfold kM G5;rw[aQ,FQ]
theorem xC {l m:List Nat} (hl:∀ x∈l,x<4294967296) (hm:∀ x∈m,x<4294967296) (h:kM l=kM m):l=m:=FP hl hm (KU (CQ l) (CQ m) h)
theorem Vi {W:World} {base n:Nat} {a:Option Addr} {c:Nat} {bs:List Nat} (hn:n=bs.length) (hb:∀ c∈bs,c<256) (h:W.ownsRow base 5 1 (.slice a n c) n (bs.map et)):(convert 44 9 (.slice a n c)).run Tryz.prog W=.ok (jf (G5 bs)) W:=by
 rcases h.2 with⟨e1,e2⟩ | ⟨g,cap,cur,e1,_,_,_⟩
 ·cases e1
  obtain rfl:=List.eq_nil_of_length_eq_zero hn.symm;exact Lib.run_convert_nil_bytes W _ _ _ 0 Tryz.underlying44 Tryz.underlying5 Tryz.underlying9
 ·cases e1
  subst hn;have hsz:(⟨(G5 bs).toArray⟩:ByteArray).size=bs.length:=by show(G5 bs).toArray.size=_;rw[List.size_toArray];exact aQ _
  have hc:Lib.Bytes W g 0 ⟨(G5 bs).toArray⟩:=fun i hi=>by
   rw[hsz]at hi;have h5:=h.cells (g:=g) rfl i (et bs[i]) (by rw[aO,az hi];rfl);rw[Addr.add_mid]at h5;rw[h5];have h6:=hb bs[i] (List.getElem_mem hi);have h7:((⟨(G5 bs).toArray⟩:ByteArray)[i]'(by rw[hsz];exact hi))=UInt8.ofNat bs[i]:=by show(G5 bs).toArray[i]'_=_;simp[G5]
   rw[h7,UInt8.toNat_ofNat',show bs[i]%2^8=bs[i] by omega];rfl
  have h8:=Lib.run_convert_whole (P:=Tryz.prog) W 44 5 9 Tryz.underlying44 Tryz.underlying5 Tryz.underlying9 g 0 ⟨(G5 bs).toArray⟩ hc c;rw[hsz]at h8;exact h8
theorem Nr (l:List Nat) (x:Nat):l9 (l++ [x])=l9 l++ [x%256,x/256%256,x/65536%256,x/16777216%256]:=by unfold l9;rw[List.flatMap_append];simp
theorem Ns (w:World) (x y z u:Value) (t:TypeId):∀ j v,[x,y,z,u][j]? =some v->(w.alloc (.cells #[x,y,z,u] t)).cell? ((⟨w.heap.size,0,none⟩:Addr).add j)=some v:=by
 intro j v hj;match j,hj with
 | 0,hj=>simp at hj;subst hj;simp[Addr.add]
 | 1,hj=>simp at hj;subst hj;simp[Addr.add]
 | 2,hj=>simp at hj;subst hj;simp[Addr.add]
 | 3,hj=>simp at hj;subst hj;simp[Addr.add]
theorem Tryz.Sd:(Tryz.prog.info? 5).map (fun i=>(i.zero,i.size,i.bytes))=some (some (.int .u8 0),1,1):=by kernel_rfl
theorem qo (v:Value) (l:List Int) (hl:∀ x∈l,0<=x/\x<4294967296) (hn:l.length<=100000) (w:World) (h:bZ aN w v l): ah 139 #[v] w fun e w'=>e=.returned (jf (kM (l.map Int.toNat)))/\aa w w':=by
 obtain⟨iB,Ym,IJ,IK,IM⟩:=info_parts Tryz.Sd;obtain⟨a,c,rfl⟩:=h.form;obtain⟨n,iY⟩:=ag l.length;rw[<-iY]at h hn ⊢;have H:=hid h;have HN:=hid iY;have HL:=hid hl;obtain⟨R,hR⟩:=ag (jf (kM (l.map Int.toNat)));have HR:=hid hR;rw[<-hR];clear h iY hl hR;go_enter Tryz.func139,Tryz.ntmps139;go_wp2;go_loopw [3,8] (fun ov iv wr=>∃ k:Nat,k<=n/\iv=.int .i64 k/\wr.ownsRow w.heap.size 5 1 ov (4*k) ((l9 ((l.take k).map Int.toNat)).map et)/\aa w wr) (fun _ iv _=>n-(intOf iv).toNat);case atStart=>exact⟨0,Nat.zero_le _,rfl,World.ownsRow_nil _ _ _ _,Below.refl _ _⟩
 case round=>
  obtain⟨k,hk,rfl,ho,hx⟩:=hrel;obtain⟨wo,rfl⟩:=ag (wr:World);have HO:=hid ho;have HX:=hid hx;obtain⟨oa,oc,rfl⟩:=ownsRow_form ho;clear ho hx;by_cases hlt:k<n
  ·have eG:(k:Int)<n:=by omega
   obtain⟨x,Vj⟩:∃ x,l[k]? =some x:=⟨_,az (by have:=HN.out;omega)⟩;obtain⟨hx0,hx1⟩:=HL.out x (aw Vj);obtain⟨z,rfl⟩:∃ z:Nat,x=(z:Int):=⟨x.toNat,by omega⟩;obtain⟨b,o,e1,hb,hcell⟩:=(H.out.below HX.out).elem Vj;cases e1;have hc2:wo.cell? ⟨b,o+k,none⟩=some (.int .i64 z):=hcell
   have HZ:Hid (l9 ((l.take (k+1)).map Int.toNat)=l9 ((l.take k).map Int.toNat)++ [z%256,z/256%256,z/65536%256,z/16777216%256]):=hid (by
    rw[List.take_add_one,Vj];show l9 ((l.take k++ [(z:Int)]).map Int.toNat)=_;rw[List.map_append, <-Nr]
    rfl)
   have q0:IntKind.u8.wrap (z:Int)=((z%256:Nat):Int):=by rw[IntKind.wrap_u8];omega
   have q1:IntKind.u8.wrap ((z:Int)/256)=((z/256%256:Nat):Int):=by rw[IntKind.wrap_u8];omega
   have q2:IntKind.u8.wrap ((z:Int)/65536)=((z/65536%256:Nat):Int):=by rw[IntKind.wrap_u8];omega
   have q3:IntKind.u8.wrap ((z:Int)/16777216)=((z/16777216%256:Nat):Int):=by rw[IntKind.wrap_u8];omega
   have GN:w.heap.size<=wo.heap.size:=HX.out.size;clear hcell Vj hx0 hx1;go_wp2_with (at_builtin;refine Hid.out ?_);refine hid ?_;refine wpList_append_own_at _ rfl (.tmp 12) (.tmp 24) 44 rfl w.heap.size 5 iB (.int .u8 0) 1 1 Tryz.underlying44 Ym IJ IK IM rfl (by decide) (.slice oa (4*k) oc) (4*k) _ rfl (HO.out.alloc _) ⟨wo.heap.size,0,none⟩ 4 4 [.int .u8 (z%256:Nat),.int .u8 (z/256%256:Nat),.int .u8 (z/65536%256:Nat),.int .u8 (z/16777216%256:Nat)] rfl rfl (Ns _ _ _ _ _ _) (by simp[Value.oneCell']) (by unfold maxLen;omega) (by omega) (by simp;omega) ?_;intro v' w5 hown' hgrow hh hat;have Jg:=hid hown';have lF:=hid hgrow;clear hown' hgrow hh hat;go_wp2;go_roundw;case rel=>
    refine⟨k+1,by omega,by go_num,?_,?_⟩
    ·rw[HZ.out,List.map_append,show 4*(k+1)=4*k+4 by omega]
     exact Jg.out
    ·exact(HX.out.trans (((Ext.refl wo).alloc _).below.mono GN)).trans (((Below.refl _ _).grown lF.out (by simp;omega) fun x e=>(HO.out.lt x e).1))
   case measure=>simp[intOf];omega
  ·obtain rfl:k=n:=by omega
   have eG:¬ ((k:Int)<k):=by omega
   have hcv:=Vi (bs:=l9 ((l.take k).map Int.toNat)) (by rw[FQ,aQ,List.length_take, <-HN.out];omega) (CQ _) HO.out;have HV:Hid (jf (G5 (l9 ((l.take k).map Int.toNat)))=R):=hid (by rw[HR.out,List.take_of_length_le (by rw[<-HN.out];exact aD _)];rfl);rw[HV.out]at hcv;go_wp2;go_ret;exact⟨rfl,HX.out⟩
def xD (f:Nat->Nat) (n k:Nat):List Value:=(List.range n).map fun s=>if s<k then cQ (f s)else .int .i64 0
theorem Jj (f:Nat->Nat) (n:Nat):xD f n 0=(List.replicate n (0:Int)).map aN:=by
 unfold xD;rw[List.map_replicate];refine List.ext_getElem? fun i=>?_
 rw[aO,List.getElem?_replicate];by_cases h:i<n
 ·rw[List.getElem?_range h,if_pos h];rfl
 ·rw[aX (by simpa using h),if_neg h];rfl
theorem Ax (f:Nat->Nat) {n k:Nat} (hk:k<n):(xD f n k).set k (.int .i64 (f k))=xD f n (k+1):=by
 unfold xD;refine List.ext_getElem? fun i=>?_
 rw[List.getElem?_set];by_cases h:i<n
 ·rw[aO,aO,List.getElem?_range h]
  by_cases e:k=i
  ·subst e
   rw[if_pos rfl,if_pos (by simpa using hk)];show _=some (if k<k+1 then cQ (f k)else _);rw[if_pos (Nat.lt_succ_self k)];rfl
  ·rw[if_neg e]
   show some (if i<k then _ else _)=some (if i<k+1 then _ else _);by_cases h2:i<k
   ·rw[if_pos h2,if_pos (by omega)]
   ·rw[if_neg h2,if_neg (by omega)]
 ·rw[aX (by simpa using h),aX (by simpa using h),if_neg (by omega)]
theorem Nu (f:Nat->Nat) (n:Nat):xD f n n=(List.range n).map fun s=>cQ (f s):=List.map_congr_left fun _ hs=>if_pos (List.mem_range.1 hs)
theorem qp (g:Nat) (lb:Array Value) (key:Nat->List UInt8) (n:Nat) (hn:n<=4000) (w:World) (hl:∀ s,s<n->(key s).length<=1000000000) (eg:∀ args w,(callFunc g args).run Tryz.prog w=.ok (.enter g args) w) (hf:∀ s W,s<n->aa w W->ah g (#[.int .i64 s]++lb) W fun e w'=>e=.returned (jf (key s))/\aa W w'): ah 137 #[.int .i64 n,.func (.func g) #[] lb] w fun e w'=>∃ u,e=.returned (.tuple #[u,.int .i64 (dP key n)])/\w'.ownsRow w.heap.size 3 1 u n ((List.range n).map fun s=>cQ (dF key n s))/\aa w w':=by
 obtain⟨iI,y7,kJ,kK,kL⟩:=info_parts Tryz.mB;have HF:=hid hf;have KI:Hid (∀ k,k<=n->∀ p∈bQ key k,yY p):=hid fun k hk p hp=>by
  obtain⟨s,hs,rfl⟩:=mem_keys.1 hp;unfold yY maxLen;have:=hl s (by omega);omega
 have KS:Hid (∀ s,s<n->yY (key s)):=hid fun s hs=>by
  unfold yY maxLen;have:=hl s hs;omega
 clear hf hl;have sw:= @run_makeMap Tryz.prog;go_enter Tryz.func137,Tryz.ntmps137;go_upto_region 2 with fail
 refine ax ?_;intro V hV;have M0:Hid (lT V w.heap.size []):=hid (by rw[hV];exact World.alloc_heap_new w _);have X0:Hid (aa w V):=hid (by rw[hV];exact((Ext.refl w).alloc _).below);have HV1:Hid (V.heap.size=w.heap.size+1):=hid (by rw[hV];exact World.size_alloc _ _);clear hV;go_wp2_with (at_make;refine wpList_make_full _ rfl (.tmp 13) (.tmp 13) 39 rfl V.heap.size 3 iI (.int .i64 0) 1 Tryz.underlying39 y7 kJ kK .i64 .i64 _ _ n rfl rfl rfl rfl (by rw[kL];omega) (by unfold maxLen;omega) (aD _) ?_;intro w3 hr hg;refine Hid.out ?_);refine hid ?_;have ID:V.heap.size<w3.heap.size:=by
  rcases hr.2 with⟨h5,_⟩ | ⟨g,c,cur,h5,_,h6,_⟩
  ·cases h5
  ·cases h5;exact(Array.getElem?_eq_some_iff.1 h6).1
 have hb3:aa V w3:=(ae.bw hg fun x hx=>⟨hx,fun e=>by cases e⟩:ae (· <V.heap.size) V w3).below;rw[sM]at hr;have N3:=hid hr;have M3:=hid (M0.out.below hb3);have X3:=hid (X0.out.trans (hb3.mono X0.out.size));clear hr hg hb3 M0 X0;obtain⟨g5,Sg⟩:=ag V.heap.size;obtain⟨mb,sy⟩:=ag w.heap.size;have hV1:=HV1.out;rw[<-Sg]at N3 ID hV1 ⊢;have hgm:g5≠mb:=by omega
 have hgw:w.heap.size<=g5:=by omega
 have hmw:w.heap.size<=mb:=by omega
 rw[<-sy]at M3 ⊢;clear Sg sy hV1 HV1;go_wp2;go_loopw [17] (fun iv wr=>∃ k:Nat,k<=n/\iv=.int .i64 k/\lT wr mb (bQ key k)/\wr.ownsRow g5 3 1 (.slice (some ⟨g5,0,none⟩) n n) n (xD (dF key n) n k)/\aa w wr) (fun iv _=>n-(intOf iv).toNat);case atStart=>exact⟨0,Nat.zero_le _,rfl,M3.out,by rw[Jj];exact N3.out,X3.out⟩
 case round=>
  obtain⟨k,hk,rfl,hm,hr,hx⟩:=hrel;obtain⟨wo,rfl⟩:=ag (wr:World);have HM:=hid hm;have HR:=hid hr;have HX:=hid hx;clear hm hr hx M3 N3 X3;by_cases hlt:k<n
  ·have eG:(k:Int)<n:=by omega
   have H5:=hid (HF.out k wo hlt HX.out);go_wp2_with fail
   refine H5.out.mono ?_;rintro e w2 ⟨rfl,hx2⟩;have M2:=hid (HM.out.below hx2);have R2:=hid (aj HR.out hx2);have X2:=hid (HX.out.trans (hx2.mono HX.out.size));clear hx2 H5 HM HR HX;have oX:=Ko M2.out (l6 key k) (KI.out k hk) (key k) (KS.out k hlt);obtain⟨K0,zB⟩:=ag (jf (key k));rw[<-zB]at oX ⊢;have LK:=hid zB;clear zB;rcases oX with⟨hq,hlk⟩ | ⟨hq,hlk⟩
   ·have iK:bQ key (k+1)=bQ key k++ [key k]:=by rw[bQ,if_neg hq]
    have Dy:dF key n k=(bQ key k).length:=by rw[lG hlt,if_neg hq]
    obtain⟨w4,hput,ui,hk4,hsz⟩:=Qh M2.out (KI.out k hk) (key k) (KS.out k hlt) hq;rw[<-LK.out]at hput;obtain⟨m,sw⟩:=ag ((bQ key k).length);rw[<-sw]at hput Dy;have HMM:=hid sw;have GK:=hid iK;have GV:=hid Dy;have M4:=hid ui
    have R4:=hid (ai R2.out hk4 fun x e=>by
     have e':g5=x:=by simpa[Value.ownBlock]using e
     rw[<-e'];exact hgm)
    have X4:Hid (aa w w4):=hid ((ae.ak X2.out fun _ h=>h:ae (· <w.heap.size) w w2).tr (hk4.mono fun x (hx:x<w.heap.size)=>by show x≠mb;omega)).below;clear hq iK Dy sw ui hk4 hsz R2 X2;obtain⟨sg,su,se,_,hsg,hsu,hsc,hsf⟩:=fB R4.out hlt;cases se;go_wp2_with (at_len;refine pE rfl _ rfl mb _ rfl M2.out ?_;rw[<-HMM.out]);go_roundw;case rel=>
     refine⟨k+1,by omega,by go_num,?_,?_,?_⟩
     ·rw[GK.out]
      exact M4.out.keeps ((ae.refl (· ≠g5) _).setCell (p:=⟨g5,k,none⟩) (fun h=>h rfl) _) (Ne.symm hgm)
     ·rw[<-Ax _ hlt,GV.out]
      exact(R4.out.stored k _).1
     ·exact((ae.ak X4.out fun _ h=>h:ae (· <w.heap.size) w w4).setCell (p:=⟨g5,k,none⟩) (fun h=>by have:g5<w.heap.size:=h;omega) _).below
    case measure=>simp[intOf];omega
   ·have iK:bQ key (k+1)=bQ key k:=by rw[bQ,if_pos hq]
    have Dy:dF key n k=ixU (bQ key k) (key k):=by rw[lG hlt,if_pos hq];unfold ixU;congr 1
    obtain⟨m,sw⟩:=ag (ixU (bQ key k) (key k));rw[<-sw]at hlk Dy;have GK:=hid iK;have GV:=hid Dy;clear iK Dy sw hq;obtain⟨sg,su,se,_,hsg,hsu,hsc,hsf⟩:=fB R2.out hlt;cases se;go_wp2;go_roundw;case rel=>
     refine⟨k+1,by omega,by go_num,?_,?_,?_⟩
     ·rw[GK.out]
      exact M2.out.keeps ((ae.refl (· ≠g5) _).setCell (p:=⟨g5,k,none⟩) (fun h=>h rfl) _) (Ne.symm hgm)
     ·rw[<-Ax _ hlt,GV.out]
      exact(R2.out.stored k _).1
     ·exact((ae.ak X2.out fun _ h=>h:ae (· <w.heap.size) w w2).setCell (p:=⟨g5,k,none⟩) (fun h=>by have:g5<w.heap.size:=h;omega) _).below
    case measure=>simp[intOf];omega
  ·obtain rfl:k=n:=by omega
   have eG:¬ ((k:Int)<k):=by omega
   have hrr:=HR.out;rw[Nu]at hrr;have ig:=hid (aF hrr hgw);clear hrr;go_wp2_with (at_len;refine pE rfl _ rfl mb _ rfl HM.out ?_);exact bodyPost_ret (v:=.tuple #[.slice (some ⟨g5,0,none⟩) k k,.int .i64 (dP key k)]) (by simp[results,Tryz.results137,go_sem,dP]) rfl ⟨_,rfl,ig.out,HX.out⟩
structure Kn (d:DF):Prop where
 ks:∀ l∈d.mr,l.length<=100000/\∀ x∈l,0<=x/\x<4294967296
theorem FT (db:Nat) (d:DF) (kn:Kn d) (v2:Value) (s:Nat) (hs:s<d.mr.length) (W:World) (hd:W.cell? ⟨db,2,none⟩=some v2) (h2:gT W v2 d.mr): ah 138 #[.int .i64 s,.pointer (some ⟨db,0,none⟩)] W fun e w'=>e=.returned (jf (kM ((d.mr.getD s []).map Int.toNat)))/\aa W w':=by
 obtain⟨a2,c2,rfl⟩:=h2.form;have hrow:d.mr[s]? =some (d.mr.getD s []):=by rw[bh,az hs];rfl
 obtain⟨l,hl⟩:=ag (d.mr.getD s []);rw[<-hl]at hrow ⊢;obtain⟨b,o,a',c',rfl,hb,hc,lQ⟩:=h2.elem hrow;obtain⟨kn1,kn2⟩:=kn.ks l (aw hrow);have CN:=hid (qo _ l kn2 kn1 W lQ);obtain⟨R,hR⟩:=ag (jf (kM (l.map Int.toNat)));rw[<-hR]at CN ⊢;obtain⟨n,hn⟩:=ag l.length;obtain⟨m,hm⟩:=ag d.mr.length;rw[<-hn]at CN hc;rw[<-hm]at hd hs;have Ls:(s:Int)<m:=by omega
 clear hrow hl lQ kn1 kn2 kn hR hn hm h2;go_enter Tryz.func138,Tryz.ntmps138;go_wp2_with fail
 refine CN.out.mono ?_;rintro e w2 ⟨rfl,hx⟩;go_wp2;go_ret;exact⟨rfl,hx⟩
theorem zf {α β:Type} {f:α->β} {l:List α} {k:Nat} {x:α} (h:l[k]? =some x):(l.take (k+1)).map f=(l.take k).map f++ [f x]:=by rw[List.take_add_one,h,List.map_append];rfl
theorem FU (s pb db:Nat) (d:DF) (Vk:∀ t∈d.nx.getD s [],0<=t/\t<d.nx.length) (p:Nat->Nat) (hp:∀ t,t<d.nx.length->p t<4294967296) (v1 pv:Value) (hlen:(d.nx.getD s []).length<=1000) (hs:s<d.nx.length) (W:World) (om:W.cell? ⟨pb,0,none⟩=some pv) (hd:W.cell? ⟨db,1,none⟩=some v1) (h1:gT W v1 d.nx) (Vl:bZ (fun u:Value=>u) W pv ((List.range d.nx.length).map fun s=>cQ (p s))): ah 140 #[.int .i64 s,.pointer (some ⟨pb,0,none⟩),.pointer (some ⟨db,0,none⟩)] W fun e w'=>e=.returned (jf (kM (p s::(d.nx.getD s []).map fun t=>p t.toNat)))/\aa W w':=by
 obtain⟨iI,y7,kJ,kK,kL⟩:=info_parts Tryz.mB;obtain⟨a1,c1,rfl⟩:=h1.form;obtain⟨pa,pc,rfl⟩:=Vl.form;rw[aQ,List.length_range]at Vl om;have hrow:d.nx[s]? =some (d.nx.getD s []):=by rw[bh,az hs];rfl
 obtain⟨l,hl⟩:=ag (d.nx.getD s []);rw[<-hl]at hrow Vk hlen ⊢;obtain⟨b,o,a',c',rfl,hb,hc,lQ⟩:=h1.elem hrow;obtain⟨m,hm⟩:=ag d.nx.length;rw[<-hm]at Vk hp hs om hd Vl;have PG:Hid (∀ t,t<m->∃ (b o:Nat),pa=some ⟨b,o,none⟩/\b<W.heap.size/\W.cell? ⟨b,o+t,none⟩=some (.int .i64 (p t))):=hid fun t ht=>by
  obtain⟨b,o,e,h2,h3⟩:=Vl.elem (i:=t) (x:=cQ (p t)) (by rw[aO,List.getElem?_range ht];rfl);exact⟨b,o,e,h2,h3⟩
 obtain⟨b2,o2,rfl,hb2,hc2⟩:=PG.out s hs;obtain⟨n,hn⟩:=ag l.length;rw[<-hn]at hc lQ hlen;obtain⟨R,hR⟩:=ag (jf (kM (p s::l.map fun t=>p t.toNat)));rw[<-hR];have HR:=hid hR;have HN:=hid hn;have Ez:=hid lQ;have HRG:=hid Vk;have HP:=hid hp;have Ls:(s:Int)<m:=by omega
 have ahp:pb<W.heap.size:=World.block_lt_of_cell? _ _ om;have ac1:db<W.heap.size:=World.block_lt_of_cell? _ _ hd;clear Vl hrow hl hR hn hm h1 lQ Vk hp;go_enter Tryz.func140,Tryz.ntmps140;go_upto_region 2 with fail
 refine ax ?_;intro V hV
 have R0:Hid (V.ownsRow W.heap.size 3 1 (.slice (some ⟨W.heap.size,0,none⟩) 1 1) 1 [cQ (p s)]):=hid (by
  rw[hV]
  exact⟨rfl,.inr ⟨W.heap.size,1, #[.int .i64 (p s)],rfl,aD _,World.alloc_heap_new _ _,aD _,by unfold maxLen;omega,rfl,rfl⟩⟩)
 have X0:Hid (aa W V):=hid (by rw[hV];exact((Ext.refl W).alloc _).below);clear hV;have hk:∀ (wo:World),aa W wo->∀ b o u,b<W.heap.size->W.cell? ⟨b,o,none⟩=some u->wo.cell? ⟨b,o,none⟩=some u:=fun wo hx b o u hb h=>((ae.ak hx fun _ h=>h:ae (· <W.heap.size) W wo).cell (p:=⟨b,o,none⟩) hb).trans h
 have HK:=hid hk;have d1:=hk V X0.out _ _ _ ac1 hd;have d2:=hk V X0.out _ _ _ hb hc;have Dv:=hid om;clear hk hd hc hc2 om;go_wp2;go_loopw [5,19] (fun ov iv wr=>∃ k:Nat,k<=n/\iv=.int .i64 k/\wr.ownsRow W.heap.size 3 1 ov (k+1) (cQ (p s)::(l.take k).map fun t=>cQ (p t.toNat))/\aa W wr) (fun _ iv _=>n-(intOf iv).toNat);case atStart=>exact⟨0,Nat.zero_le _,rfl,R0.out,X0.out⟩
 case round=>
  obtain⟨k,hk,rfl,ho,hx⟩:=hrel;obtain⟨wo,rfl⟩:=ag (wr:World);have HO:=hid ho;have HX:=hid hx;obtain⟨oa,oc,rfl⟩:=ownsRow_form ho;have GN:W.heap.size<=wo.heap.size:=hx.size;clear ho hx R0 X0 d1 d2;by_cases hlt:k<n
  ·have eG:(k:Int)<n:=by omega
   obtain⟨x,Vj⟩:∃ x,l[k]? =some x:=⟨_,az (by have:=HN.out;omega)⟩;obtain⟨hx0,hx1⟩:=HRG.out x (aw Vj);obtain⟨t,rfl⟩:∃ t:Nat,x=(t:Int):=⟨x.toNat,by omega⟩;have GY:t<m:=by omega
   obtain⟨b5,o5,rfl,YI,hc5⟩:=Ez.out.elem Vj;replace hc5:W.cell? ⟨b5,o5+k,none⟩=some (.int .i64 t):=hc5;obtain⟨b6,o6,e6,qK,hc6⟩:=PG.out t GY;cases e6;have f1:=HK.out wo HX.out _ _ _ YI hc5;have f2:=HK.out wo HX.out _ _ _ qK hc6;have f3:=HK.out wo HX.out _ _ _ ahp Dv.out;have HT:Hid (cQ (p s)::(l.take (k+1)).map (fun t=>cQ (p t.toNat))=(cQ (p s)::(l.take k).map fun t=>cQ (p t.toNat))++ [.int .i64 (p t)]):=hid (by rw[zf Vj];rfl);clear hc5 hc6 Vj;go_wp2_with (at_builtin;refine Hid.out ?_);refine hid ?_;refine wpList_append_own_at _ rfl (.tmp 23) (.tmp 28) 39 rfl W.heap.size 3 iI (.int .i64 0) 1 8 Tryz.underlying39 y7 kJ kK kL rfl (by decide) (.slice oa (k+1) oc) (k+1) _ rfl (HO.out.alloc _) ⟨wo.heap.size,0,none⟩ 1 1 [.int .i64 (p t)] rfl rfl (eX _ _ _) (by simp[Value.oneCell']) (by unfold maxLen;omega) (by omega) (by simp;omega) ?_;intro v' w5 hown' hgrow hh hat;have Jg:=hid hown';have lF:=hid hgrow;clear hown' hgrow hh hat;go_wp2;go_roundw;case rel=>
    refine⟨k+1,by omega,by go_num,?_,?_⟩
    ·rw[HT.out]
     exact Jg.out
    ·exact(HX.out.trans (((Ext.refl wo).alloc _).below.mono GN)).trans (((Below.refl _ _).grown lF.out (by simp;omega) fun x e=>(HO.out.lt x e).1))
   case measure=>simp[intOf];omega
  ·obtain rfl:k=n:=by omega
   have eG:¬ ((k:Int)<k):=by omega
   have HE:Hid (cQ (p s)::(l.take k).map (fun t=>cQ (p t.toNat))=(((p s:Nat):Int)::l.map fun t=>((p t.toNat:Nat):Int)).map aN):=hid (by
    rw[List.take_of_length_le (by rw[<-HN.out];exact aD _),List.map_cons,List.map_map];rfl)
   have xE:bZ aN wo (.slice oa (k+1) oc) (((p s:Nat):Int)::l.map fun t=>((p t.toNat:Nat):Int)):=by have h5:=HO.out;rw[HE.out]at h5;exact dc h5 (by simp[<-HN.out])
   have CN:=hid (qo _ _ (fun x hx=>by
    rcases List.mem_cons.1 hx with rfl | hx
    ·have:=HP.out s hs;omega
    ·obtain⟨t,ht,rfl⟩:=List.mem_map.1 hx
     have h7:=HRG.out t ht;have:=HP.out t.toNat (by omega)
     omega) (by simp[<-HN.out];omega) wo xE)
   have HV:Hid (jf (kM ((((p s:Nat):Int)::l.map fun t=>((p t.toNat:Nat):Int)).map Int.toNat))=R):=hid (by
    rw[HR.out,List.map_cons,List.map_map]
    rfl)
   rw[HV.out]at CN;clear xE;go_wp2_with fail
   refine CN.out.mono ?_;rintro e w2 ⟨rfl,hx⟩;go_wp2;go_ret;exact⟨rfl,HX.out.trans (hx.mono GN)⟩
end
section
open Go Go.RowKit
theorem iH (d:DF) (s:Nat) (b:List Nat) (c:Nat):bU d s (b++ [c])=dL d (bU d s b) (cls d.cl c):=by unfold bU;rw[List.foldl_append];rfl
theorem FX {a:DF} (ha:Rt a) {L:List BS} (hL:∀ s∈a.cl,s∈L) {c e:Nat} (hc:c<256) (he:e<256) (h:cls (partsOf L) c=cls (partsOf L) e):cls a.cl c=cls a.cl e:=by have h1:Alike L c e:=((bS.jK L).nu hc he).1 h;exact(ha.part.nu hc he).2 fun s hs=>h1 s (hL s hs)
theorem Sh {n m:Nat} :∀ (l:List (Nat×Nat)),l.Nodup->(∀ p∈l,p.1<n/\p.2<m)->l.length<=n*m:=fun l hn hl=>by
 have h1:(l.map fun p=>p.1*m+p.2).Nodup:=by
  rw[List.nodup_iff_pairwise_ne,List.pairwise_map];refine(List.nodup_iff_pairwise_ne.1 hn).imp_of_mem fun {p q} hp hq hne e=>hne ?_
  have h2:=hl p hp;have h3:=hl q hq;have hm:0<m:=by omega
  have e1:(p.1*m+p.2)/m=(q.1*m+q.2)/m:=by rw[e]
  have e2:(p.1*m+p.2)%m=(q.1*m+q.2)%m:=by rw[e]
  rw[Nat.mul_comm,Nat.mul_add_div hm,Nat.div_eq_of_lt h2.2,Nat.mul_comm q.1,Nat.mul_add_div hm,Nat.div_eq_of_lt h3.2]at e1;rw[Nat.mul_comm,Nat.mul_add_mod,Nat.mod_eq_of_lt h2.2,Nat.mul_comm q.1,Nat.mul_add_mod,Nat.mod_eq_of_lt h3.2]at e2;exact Prod.ext (by omega) e2
 have h2:=kV (n*m) _ h1 fun t ht=>by
  obtain⟨p,hp,rfl⟩:=List.mem_map.1 ht;have h3:=hl p hp;have:(p.1+1)*m<=n*m:=Nat.mul_le_mul_right _ (by omega);rw[Nat.add_mul,Nat.one_mul]at this;omega
 rwa[aQ]at h2
def bK (d:DF):Nat->Nat->Nat
 | 0=>dF (fun s=>d.mr.getD s []) d.nx.length
 | i+1=>dF (fun s=>bK d i s::(d.nx.getD s []).map fun t=>bK d i t.toNat) d.nx.length
def jh (d:DF) (i s:Nat):List Nat:=bK d i s::(d.nx.getD s []).map fun t=>bK d i t.toNat
def ed (d:DF):Nat->Nat
 | 0=>dP (fun s=>d.mr.getD s []) d.nx.length
 | i+1=>dP (jh d i) d.nx.length
theorem xF (d:DF) (i:Nat):bK d (i+1)=dF (jh d i) d.nx.length:=rfl
theorem Jk {d:DF} {i s t:Nat} (hs:s<d.nx.length) (ht:t<d.nx.length) (h:bK d (i+1) s=bK d (i+1) t):bK d i s=bK d i t:=by rw[xF]at h;have:=(dK hs ht).1 h;exact(List.cons.inj this).1
def dN (d:DF) (i:Nat):Prop:=ed d (i+1)=ed d i
theorem KY {κ:Type} [DecidableEq κ] (k:Nat->κ) (n:Nat):dP (dF k n) n=dP k n:=by have h1:=(rQ (k:=dF k n) (k':=k) (n:=n) fun s t hs ht e=>(dK hs ht).2 e).1;have h2:=(rQ (k:=k) (k':=dF k n) (n:=n) fun s t hs ht e=>(dK hs ht).1 e).1;omega
theorem CU (d:DF) (i:Nat):dP (bK d i) d.nx.length=ed d i:=by
 cases i with
 | zero=>exact KY _ _
 | succ i=>exact KY _ _
theorem xG (d:DF) (i:Nat):ed d i<=ed d (i+1)/\ed d i<=d.nx.length:=by
 refine⟨?_,?_⟩
 ·rw[<-CU d i]
  exact(rQ (k:=bK d i) (k':=jh d i) fun s t hs ht e=>(List.cons.inj e).1).1
 ·rw[<-CU d i]
  exact rP _ _
theorem Jl {d:DF} {i:Nat} (h:dN d i) {s t:Nat} (hs:s<d.nx.length) (ht:t<d.nx.length):bK d i s=bK d i t↔jh d i s=jh d i t:=by
 constructor
 ·intro e
  refine(rQ (k:=bK d i) (k':=jh d i) (n:=d.nx.length) fun s t _ _ e=>(List.cons.inj e).1).2 ?_ s t hs ht e;rw[CU];exact h.symm
 ·exact fun e=>(List.cons.inj e).1
theorem xH (d:DF):∃ i,i<=d.nx.length/\dN d i/\∀ j,j<i->¬dN d j:=by
 -- else the count rises with each round
 have key:∀ m,(∀ j,j<m->¬dN d j)->m<=ed d m:=by
  intro m;induction m with
  | zero=>intro _;exact Nat.zero_le _
  | succ m ih=>
   intro h;have h1:=ih fun j hj=>h j (by omega)
   have h2:=(xG d m).1;have h3:=h m (by omega);unfold dN at h3;omega
 have ex:∃ i,dN d i:=by
  refine Classical.byContradiction fun hno=>?_
  have h1:=key (d.nx.length+1) fun j _ hj=>hno ⟨j,hj⟩
  have h2:=(xG d (d.nx.length+1)).2;omega
 obtain⟨i,hi⟩:=ex;induction i using Nat.strongRecOn with
 | ind i ih=>
  by_cases e:∃ j,j<i/\dN d j
  ·obtain⟨j,h1,h2⟩:=e;exact ih j h1 h2
  ·refine⟨i,?_,hi,fun j hj h=>e ⟨j,hj,h⟩⟩
   have h1:=key i fun j hj h=>e ⟨j,hj,h⟩
   have h2:=(xG d i).2;omega
def xI (d:DF) (s t:Nat):Prop:=∀ w:List Nat,(∀ c∈w,c<256)->d.mr.getD (bU d s w) []=d.mr.getD (bU d t w) []
theorem Jm {d:DF} (h:Rt d) {s t k:Nat} (hk:k<d.cl.length) (ha:xI d s t):xI d (dL d s k) (dL d t k):=fun w hw=>by
 obtain⟨h1,h2,_⟩:=gU h hk;have:=ha (lb d.cl k::w) fun c hc=>by
  rcases List.mem_cons.1 hc with rfl | hc
  ·exact h1
  ·exact hw c hc
 have e:∀ u,bU d u (lb d.cl k::w)=bU d (dL d u k) w:=fun u=>by
  show bU d (dL d u (cls d.cl (lb d.cl k))) w=_;rw[h2]
 rwa[e,e]at this
theorem kz {d:DF} (h:Rt d) {s:Nat} (hs:s<d.nx.length) (f:Nat->Nat):(d.nx.getD s []).map (fun t=>f t.toNat)=(List.range d.cl.length).map fun k=>f (dL d s k):=by
 have hl:=h.len s hs;refine List.ext_getElem? fun k=>?_
 rw[aO,aO];by_cases hk:k<d.cl.length
 ·rw[List.getElem?_range hk,aV (l:=d.nx.getD s []) 0 (by omega)];rfl
 ·rw[aX (by omega),aX (by simp;omega)];rfl
theorem mf {d:DF} (h:Rt d):∀ (i:Nat) {s t:Nat},s<d.nx.length->t<d.nx.length->xI d s t->bK d i s=bK d i t
 | 0,s,t,hs,ht,ha=>(dK hs ht).2 (ha [] fun _ hc=>by cases hc)
 | i+1,s,t,hs,ht,ha=>by
  rw[xF];refine(dK hs ht).2 ?_;unfold jh;rw[mf h i hs ht ha,kz h hs (bK d i),kz h ht (bK d i)];congr 1;refine List.map_congr_left fun k hk=>?_
  have hk:=List.mem_range.1 hk;exact mf h i (h.fH hs hk) (h.fH ht hk) (Jm h hk ha)
theorem xJ {d:DF} :∀ (i:Nat) {s t:Nat},s<d.nx.length->t<d.nx.length->bK d i s=bK d i t->d.mr.getD s []=d.mr.getD t []
 | 0,_,_,hs,ht,e=>(dK (key:=fun s=>d.mr.getD s []) hs ht).1 e
 | i+1,_,_,hs,ht,e=>xJ i hs ht (Jk hs ht e)
theorem FY {d:DF} (h:Rt d) {i:Nat} (hi:dN d i) {s t k:Nat} (hs:s<d.nx.length) (ht:t<d.nx.length) (hk:k<d.cl.length) (e:bK d i s=bK d i t):bK d i (dL d s k)=bK d i (dL d t k):=by have h1:=(Jl hi hs ht).1 e;unfold jh at h1;rw[kz h hs (bK d i),kz h ht (bK d i)]at h1;have h2:=(List.cons.inj h1).2;have h3:=congrArg (fun l:List Nat=>l[k]?) h2;simp only[aO,List.getElem?_range hk,Option.map_some]at h3;exact Option.some.inj h3
theorem Ay {d:DF} (h:Rt d) {i:Nat} (hi:dN d i) {s t:Nat} (hs:s<d.nx.length) (ht:t<d.nx.length):bK d i s=bK d i t↔xI d s t:=by
 refine⟨fun e w=>?_,mf h i hs ht⟩;induction w generalizing s t with
 | nil=>exact fun _=>xJ i hs ht e
 | cons c w ih=>
  intro hw;have hk:=h.part.cZ (hw c (aW ..));exact ih (h.fH hs hk) (h.fH ht hk) (FY h hi hs ht hk e) fun x hx=>hw x (bF _ hx)
end
end Go.Proofs.YtjgccapbphadjaaGreatDoor
