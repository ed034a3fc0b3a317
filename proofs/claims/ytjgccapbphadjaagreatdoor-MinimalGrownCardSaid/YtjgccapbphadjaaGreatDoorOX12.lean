/- Two automata from two states, in plain words: the first word behind which they have not the same marks; how short it is if both are one automaton. -/
import Derived.Test.YtjgccapbphadjaaGreatDoorOX11
import Derived.Lib.BufferRead
set_option maxRecDepth 100000
set_option maxHeartbeats 16000000
open Go.Lib (hid)
open List renaming getElem?_eq_some_iff->An,getElem?_range->As,ext_getElem?->AM,idxOf_lt_length_of_mem->AN,range->Bm,getElem?_replicate->Bs,take_add_one->By,length_singleton->Cd,map_append->C',map_congr_left->DH,mem_map->DP,replicate->DQ,mem_singleton->DS,mem_range->D_,nodup_iff_pairwise_ne->D',getElem?_set->EV,flatMap_cons->E_,mem_cons->Ft,map_cons->FF,length_take->FG,take_of_length_le->GO,map_map->GS,getElem?_of_mem->G',getElem?_mapIdx->H_,nodup_append->It,length_range->Iv,all_eq_true->IF,mem_append->I_,foldl_cons->I'
open Option renaming some->AF,none->AS
open Go.Value renaming slice->AI,int->A',oneCell'->K_,bool->L7,pointer->L_,tuple->MY
open Int renaming toNat->AT,ofNat->Lw
open Go.Lib renaming hid->A_
open Go.IntKind renaming i64->B_,wrap_u8->DE,u8->Is
open Go renaming World->B',TypeId->GB,wpList_append_own_at->If,info_parts->Kx
open List.cons renaming inj->C_
open UInt8 renaming toNat_ofNat'->D0,ofNat->Ly
open Go.Ending renaming returned->F_
open Nat renaming mul_comm->GW,zero_le->H',div_eq_of_lt->IN,mod_eq_of_lt->IT,mul_add_div->J_,mul_add_mod->J',add_assoc->Lo
open Option.some renaming inj->G_
namespace Go.Proofs.YtjgccapbphadjaaGreatDoor
section
open Go Go.RowKit
def zK (d:DF) (s:Nat):List Nat:=(d.nx.getD s []).map AT
def gV (L:List Nat) (t:Nat):List Nat:=if t∈L then L else L++ [t]
def qi (d:DF):Nat->List Nat
 | 0=>[0]
 | n+1=>match(qi d n)[n]? with
  | none=>qi d n
  | some s=>(zK d s).foldl gV (qi d n)
def dI (d:DF):List Nat:=qi d d.nx.length
structure Ke (N:Nat) (L:List Nat):Prop where
 nodup:L.Nodup
 lt:∀ t∈L,t<N
 pos:0<L.length
theorem Ke.len {N:Nat} {L:List Nat} (h:Ke N L):L.length<=N:=nw _ _ h.nodup h.lt
theorem Ke.add {N:Nat} {L:List Nat} (h:Ke N L) {t:Nat} (ht:t<N):Ke N (gV L t):=by
 unfold gV;split
 ·exact h
 ·rename_i hn
  refine⟨?_,fun x hx=>?_,by simp⟩
  ·rw[It]
   refine⟨h.nodup,by simp,fun a ha b hb=>?_⟩;simp at hb;subst hb;intro e;subst e;exact hn ha
  ·rcases I_.1 hx with hx | hx
   ·exact h.lt x hx
   ·simp at hx;omega
theorem Ke.fold {N:Nat} :∀ (ts:List Nat) {L:List Nat},Ke N L->(∀ t∈ts,t<N)->Ke N (ts.foldl gV L)
 | [],_,h,_=>h
 | t::ts,L,h,ht=>by
  rw[I'];exact Ke.fold ts (h.add (ht t (bu ..))) fun x hx=>ht x (bM _ hx)
theorem MK {l:List Nat} {k t:Nat} (L:List Nat) (h:l[k]? =AF t):(l.take (k+1)).foldl gV L=gV ((l.take k).foldl gV L) t:=by rw[By,h,Option.toList_some,List.foldl_append];rfl
theorem Rw (L:List Nat) (t:Nat):L.length<=(gV L t).length:=by unfold gV;split<;>simp
theorem EK:∀ (ts L:List Nat),L.length<=(ts.foldl gV L).length
 | [],_=>aF _
 | t::ts,L=>Nat.le_trans (Rw L t) (EK ts _)
theorem Rx (L:List Nat) (t:Nat) {i x:Nat} (h:L[i]? =AF x):(gV L t)[i]? =AF x:=by
 unfold gV;split
 ·exact h
 ·rw[bH (An.1 h).1];exact h
theorem EL {i x:Nat} :∀ (ts L:List Nat),L[i]? =AF x->(ts.foldl gV L)[i]? =AF x
 | [],_,h=>h
 | t::ts,L,h=>EL ts _ (Rx L t h)
theorem Ry {d:DF} (rt:Rt d) {s k:Nat} (hs:s<d.nx.length) (hk:k<d.cl.length):∃ t:Nat,t<d.nx.length/\(d.nx.getD s [])[k]? =AF (t:Int)/\(zK d s)[k]? =AF t:=by have hl:=rt.len s hs;have hz:(d.nx.getD s [])[k]? =AF ((d.nx.getD s [])[k]'(by omega)):=aB (by omega);have hr:=rt.iK s hs _ (ax hz);refine⟨((d.nx.getD s [])[k]'(by omega)).toNat,by omega,by rw[hz];congr 1;omega,?_⟩;unfold zK;rw[aN,hz];rfl
theorem Bq {d:DF} (rt:Rt d) {s:Nat} (hs:s<d.nx.length):(zK d s).length=d.cl.length:=by unfold zK;rw[aP,rt.len s hs]
theorem Rz {d:DF} (rt:Rt d) {s:Nat} (hs:s<d.nx.length):∀ t∈zK d s,t<d.nx.length:=fun t ht=>by
 obtain⟨z,hz,rfl⟩:=DP.1 ht;have:=rt.iK s hs z hz;omega
theorem Iz {d:DF} (rt:Rt d):∀ n,Ke d.nx.length (qi d n)
 | 0=>⟨by simp[qi],fun t ht=>by simp[qi]at ht;have:=rt.pos;omega,by simp[qi]⟩
 | n+1=>by
  have h:=Iz rt n;rw[qi];cases e:(qi d n)[n]? with
  | none=>exact h
  | some s=>
   have hs:=h.lt s (ax e);exact h.fold _ (Rz rt hs)
theorem EM {d:DF} {n s:Nat} (h:(qi d n)[n]? =AF s):qi d (n+1)=(zK d s).foldl gV (qi d n):=by rw[qi,h]
theorem EN {d:DF} {n:Nat} (h:(qi d n).length<=n):∀ k,qi d (n+k)=qi d n
 | 0=>rfl
 | k+1=>by
  have ih:=EN h k;rw[<-Lo,qi,ih,aT (by omega)]
theorem EO {d:DF} {n:Nat} (h:(qi d n).length<=n) (hn:n<=d.nx.length):dI d=qi d n:=by have:=EN h (d.nx.length-n);rw[show n+(d.nx.length-n)=d.nx.length by omega]at this;exact this
theorem jz {d:DF} (rt:Rt d):Ke d.nx.length (dI d):=Iz rt _
def nO (N:Nat) (L:List Nat):List Int:=(Bm N).map fun t=>if t∈L then 1 else 0
theorem oF (N:Nat) (L:List Nat):(nO N L).length=N:=by simp[nO]
theorem rF {N t:Nat} (L:List Nat) (h:t<N):(nO N L)[t]? =AF (if t∈L then 1 else 0):=by unfold nO;rw[aN,As h];rfl
theorem zL {N t:Nat} (L:List Nat) (h:t<N):(nO N L).set t 1=nO N (L++ [t]):=by
 apply AM;intro j;rw[EV];by_cases hj:j<N
 ·rw[rF _ hj,rF _ hj]
  by_cases e:t=j
  ·subst e;simp[oF,h]
  ·rw[if_neg e]
   have:(j∈L++ [t])↔j∈L:=by simp;intro e2;exact absurd e2.symm e
   simp only[this]
 ·rw[if_neg (by omega),aT (by rw[oF];omega),aT (by rw[oF];omega)]
theorem ER {N:Nat} (h:0<N):(DQ N (0:Int)).set 0 1=nO N [0]:=by
 have e:DQ N (0:Int)=nO N []:=by
  apply AM;intro j;by_cases hj:j<N
  ·rw[rF _ hj,Bs,if_pos hj];simp
  ·rw[aT (by simp;omega),aT (by rw[oF];omega)]
 rw[e,zL [] h];rfl
theorem RB (L:List Nat) (t:Nat):t∈gV L t:=by unfold gV;split<;>simp_all
theorem RD {L:List Nat} {t x:Nat} (h:x∈L):x∈gV L t:=by unfold gV;split<;>simp_all
theorem sub_fold {x:Nat} :∀ (ts:List Nat) {L:List Nat},x∈L->x∈ts.foldl gV L
 | [],_,h=>h
 | _::ts,_,h=>sub_fold ts (RD h)
theorem ES {x:Nat} :∀ (ts:List Nat) (L:List Nat),x∈ts->x∈ts.foldl gV L
 | t::ts,L,h=>by
  rw[I'];rcases Ft.1 h with rfl | h
  ·exact sub_fold ts (RB _ _)
  ·exact ES ts _ h
theorem wK {d:DF} {n i x:Nat} (h:(qi d n)[i]? =AF x):∀ k,(qi d (n+k))[i]? =AF x
 | 0=>h
 | k+1=>by
  have ih:=wK h k;rw[<-Lo,qi];cases (qi d (n+k))[n+k]? with
  | none=>exact ih
  | some s=>exact EL _ _ ih
theorem rG {d:DF} (rt:Rt d) {s t:Nat} (hs:s∈dI d) (ht:t∈zK d s):t∈dI d:=by
 obtain⟨k,hk⟩:=G' hs;have Ae:=(An.1 hk).1;have hle:=(jz rt).len;have VS:k<(qi d k).length:=by
  rcases Nat.lt_or_ge k (qi d k).length with h | h
  ·exact h
  ·have:=EO h (by omega)
   rw[this]at Ae;omega
 obtain⟨s',hs'⟩:∃ s',(qi d k)[k]? =AF s':=⟨_,aB VS⟩;have e:=wK hs' (d.nx.length-k);rw[show k+(d.nx.length-k)=d.nx.length by omega]at e;have e2:s'=s:=by have:(dI d)[k]? =AF s':=e;rw[hk]at this;exact(G_ this).symm
 subst e2;have hm:t∈qi d (k+1):=by rw[EM hs'];exact ES _ _ ht
 obtain⟨i,hi⟩:=G' hm;have e3:=wK hi (d.nx.length-(k+1));rw[show k+1+(d.nx.length-(k+1))=d.nx.length by omega]at e3;exact ax e3
def wM (d:DF) (s:Nat):List Int:=(zK d s).map fun t=>((dI d).idxOf t:Int)
def cN (d:DF):DF:=⟨d.cl,(dI d).map (wM d),(dI d).map fun s=>d.mr.getD s []⟩
def wN (N:Nat) (L:List Nat) (i:Nat):List Int:=(Bm N).map fun t=>if L.idxOf t<i then(L.idxOf t:Int)else 0
theorem rH (N:Nat) (L:List Nat) (i:Nat):(wN N L i).length=N:=by simp[wN]
theorem uG {N t:Nat} (L:List Nat) (i:Nat) (h:t<N):(wN N L i)[t]? =AF (if L.idxOf t<i then(L.idxOf t:Int)else 0):=by unfold wN;rw[aN,As h];rfl
theorem ML (N:Nat) (L:List Nat):DQ N (0:Int)=wN N L 0:=by
 apply AM;intro j;by_cases hj:j<N
 ·rw[uG _ _ hj,Bs,if_pos hj,if_neg (by omega)]
 ·rw[aT (by simp;omega),aT (by rw[rH];omega)]
theorem MM {L:List Nat} (hn:L.Nodup) {i s:Nat} (h:L[i]? =AF s):L.idxOf s=i:=by obtain⟨hi,he⟩:=An.1 h;subst he;exact hn.idxOf_getElem i hi
theorem IA {L:List Nat} {t:Nat} (h:t∈L):L[L.idxOf t]? =AF t:=by have:=AN h;rw[aB this,List.getElem_idxOf this]
theorem RG {N i s:Nat} {L:List Nat} (hn:L.Nodup) (h:L[i]? =AF s) (hs:s<N):(wN N L i).set s (i:Int)=wN N L (i+1):=by
 apply AM;intro j;rw[EV];by_cases hj:j<N
 ·rw[uG _ _ hj,uG _ _ hj]
  by_cases e:s=j
  ·subst e
   rw[if_pos rfl,rH,if_pos hs,MM hn h,if_pos (by omega)]
  ·rw[if_neg e]
   have hne:L.idxOf j≠i:=fun e2=>by
    have hi:=(An.1 h).1;have hm:j∈L:=List.idxOf_lt_length_iff.1 (by omega);have:=IA hm;rw[e2,h]at this;exact e (G_ this)
   by_cases e3:L.idxOf j<i
   ·rw[if_pos e3,if_pos (by omega)]
   ·rw[if_neg e3,if_neg (by omega)]
 ·rw[if_neg (by omega),aT (by rw[rH];omega),aT (by rw[rH];omega)]
theorem RH {N t:Nat} {L:List Nat} (h:t∈L) (hs:t<N):(wN N L L.length)[t]? =AF (L.idxOf t:Int):=by rw[uG _ _ hs,if_pos (AN h)]
end
section
open Go Go.RowKit Go.Shelf Go.Maps
def sM (d:DF) (s:Nat) (b:List Nat):Nat:=b.foldl (fun s c=>eH d s (cls d.cl c)) s
theorem Vh {d:DF} (rt:Rt d) {s:Nat} (hs:s<d.nx.length):∀ (b:List Nat),(∀ c∈b,c<256)->sM d s b<d.nx.length:=by
 intro b;induction b generalizing s with
 | nil=>intro _;exact hs
 | cons c r ih=>intro h;exact ih (rt.jJ hs (rt.part.ft (h c (by simp)))) (fun x hx=>h x (by simp[hx]))
end
section
open Go Go.RowKit
def ah7 (ps:List PT) (st:List (List (List Int))×List (List Nat)):DF:=⟨partsOf (cw ps),st.2.map fun r=>r.map Lw,st.1.map (dH ps)⟩
end
section
open Go Go.RowKit Go.Shelf Go.Maps
structure Ps (ps:List PT):Prop where
 len:ps.length<=64
 ok:∀ x∈ps,Nt x.nf/\Py x.nf/\0<=x.mark/\x.mark<=255
theorem Ps.all {ps:List PT} (h:Ps ps):ps.all PT.ok=true:=by rw[IF];intro x hx;obtain⟨h1,_,h3,h4⟩:=h.ok x hx;unfold PT.ok;rw[(eP _).2 h1,decide_eq_true h3,decide_eq_true h4];rfl
theorem Vi {w:B'} {b:Nat} {v0 v1 v2 v3:Value} {x:PT} {t:GB} (h:ar w b #[v0,v1,v2,v3,L7 x.nf.emp,L7 x.za,A' B_ x.mark] t) (hn:kT w (.agg #[v0,v1,v2,v3,L7 x.nf.emp]) x.nf):iX w (AI (AF ⟨b,0,AS⟩) 1 1) [x]:=by
 obtain⟨h0,h1,h2,h3,h4,h5,h6⟩:=h.seven;refine .inr ⟨b,0,1,rfl,h.lt,fun i y hy=>?_⟩;cases i with
 | zero=>cases hy;exact⟨v0,v1,v2,v3,hn,h0,h1,h2,h3,h4,h5,h6⟩
 | succ i=>simp at hy
theorem Vj {ps:List PT} (h:Ps ps) {f:Int} (h0:0<=f) (h1:f<=4000):(kR ps f).2=0\/(kR ps f).2=181:=by
 unfold kR;rw[if_neg (by have:=h.len;omega),if_neg (by rw[h.all];simp),if_neg (by omega)];split
 ·exact .inr rfl
 ·exact .inl rfl
theorem RJ {ps:List PT} {f:Int} {d:DF} (h:kR ps f=(d,0)):∃ st,f<=4000/\0<=f/\si ps f.toNat=AF st/\d=ah7 ps st:=by obtain⟨_,_,h0,h1,st,h2,h3⟩:=Mz (ps:=ps) (f:=f) (by rw[h]);rw[h]at h3;exact⟨st,h1,h0,h2,h3⟩
theorem ET {P:List PT} (h:Ps P) {f:Int} {d:DF} {code:Int} (he:kR P f=(d,code)) {n0 n1 n2:Nat} (h0:n0=d.cl.length) (h1:n1=d.nx.length) (h2:n2=d.mr.length) (W:B') (u:Value) (hu:iX W u P) (hT:∀ V,aa W V->nB V): ah 61 #[u,A' B_ f] W (rD n0 n1 n2 code d W):=(MJ u P f W hu (fun x hx=>(h.ok x hx).2.1) hT).mono fun e w' ⟨r,hr,hd,hx⟩=>by
 rw[he]at hr hd;subst h0 h1 h2;obtain⟨a0,c0,a1,c1,a2,c2,rfl⟩:=hd.form;exact⟨a0,c0,a1,c1,a2,c2,hr,hd,hx⟩
def T1 (l:List (Nat×Nat×Nat)) (za:Bool):List PT:=U5 [(l,za,0)]
theorem RM {ps:List PT} {f:Int} (h:(kR ps f).2=181):(kR ps f).1=⟨[],[],[]⟩:=by
 unfold kR at h ⊢;split
 ·rfl
 ·split
  ·rfl
  ·split
   ·rfl
   ·split
    ·rfl
    ·rename_i h1 h2 h3 _ st hs
     rw[if_neg h1,if_neg h2,if_neg h3,hs]at h;cases h
def qj (fl i:Nat) (s:List (Nat×Nat×Nat)):PT:=⟨(gP (s.take 12)).nf,fl/2^i%2==1,((i*(fl/64):Nat):Int)⟩
def cT (l:List (List (Nat×Nat×Nat))) (fl:Nat):List PT:=(l.take 3).mapIdx (qj fl)
theorem tN (l:List (List (Nat×Nat×Nat))) (fl:Nat):(cT l fl).length=min 3 l.length:=by unfold cT;rw[List.length_mapIdx,FG]
theorem EU {l:List (List (Nat×Nat×Nat))} {fl k:Nat} {s:List (Nat×Nat×Nat)} (h:l[k]? =AF s) (hk:k<3):(cT l fl)[k]? =AF (qj fl k s):=by unfold cT;rw[H_,List.getElem?_take_of_lt hk,h];rfl
theorem Br {l:List (List (Nat×Nat×Nat))} {fl k:Nat} {s:List (Nat×Nat×Nat)} (h:l[k]? =AF s) (hk:k<3):(cT l fl).take (k+1)=(cT l fl).take k++ [qj fl k s]:=by rw[By,EU h hk];rfl
theorem wO (l:List (List (Nat×Nat×Nat))) (fl:Nat) (hf:fl<256):Ps (cT l fl):=⟨by rw[tN];omega,fun x hx=>by
 obtain⟨i,hi⟩:=List.mem_iff_getElem?.1 hx;unfold cT at hi;rw[H_]at hi;obtain⟨s,hs,rfl⟩:=Option.map_eq_some_iff.1 hi;have hi3:=(An.1 hs).1;rw[FG]at hi3;have ht:Nt (gP (s.take 12)).nf:=Eh (nG _).clean (nG _).cy;have h1:i*(fl/64)<=2*3:=Nat.mul_le_mul (by omega) (by omega)
 exact⟨ht,ht.smn,by unfold qj;dsimp only;omega,by unfold qj;dsimp only;omega⟩⟩
theorem MN (l:List (List (Nat×Nat×Nat))) (fl:Nat) (hf:fl<256):(∃ d,kR (cT l fl) 60=(d,0)/\Rt d/\d.nx.length<=60)\/kR (cT l fl) 60=(⟨[],[],[]⟩,181):=by
 rcases Vj (wO l fl hf) (f:=60) (by decide) (by decide)with h | h
 ·refine .inl ⟨(kR (cT l fl) 60).1,Prod.ext rfl h,My (Prod.ext rfl h),?_⟩
  obtain⟨st,_,_,h2,h3⟩:=RJ (ps:=cT l fl) (f:=60) (d:=(kR (cT l fl) 60).1) (Prod.ext rfl h);have I:=J8 h2;rw[h3];show(st.2.map _).length<=60;rw[aP,I.len];exact Nat.min_le_left _ _
 ·exact .inr (Prod.ext (RM h) h)
theorem ZO {t:RX} (tf:t.fine) (ts:t.size<=120) (tp:t.cy<=400) (za:Bool):Ps [⟨t.nf,za,0⟩]:=⟨by show 1<=64;omega,fun x hx=>by
 obtain rfl:=DS.1 hx
 have hn:Nt t.nf:=Eh (by
  unfold RX.clean;rw[Bool.and_eq_true,IF]
  exact⟨decide_eq_true (by omega),tf⟩) tp
 exact⟨hn,hn.smn,Int.le_refl _,by show(0:Int)<=255;decide⟩⟩
theorem ku (v:Value) (t:RX) (tf:t.fine) (ts:t.size<=120) (tp:t.cy<=400) (za:Bool) (f:Int) {d:DF} {code:Int} (he:kR [⟨t.nf,za,0⟩] f=(d,code)) {m0 m1 m2:Nat} (h0:m0=d.cl.length) (h1:m1=d.nx.length) (h2:m2=d.mr.length) (w:B') (h:aH (· <w.heap.size) w v t) (hT:∀ W,aa w W->nB W): ah 53 #[v,L7 za,A' B_ f] w (rD m0 m1 m2 code d w):=by
 have CN:Hid (∀ W,aa w W->ah 59 #[v] W fun e w'=>∃ u,e=F_ (MY #[u,A' B_ 0])/\gX W.heap.size w' u t.nf/\aa W w'):=A_ fun W hW=>(zC v t W ((h.mF hW).mono fun b hb=>ay hb hW.size) tf ts tp)
 have CO:Hid (∀ W u,aa w W->iX W u [⟨t.nf,za,0⟩]->ah 61 #[u,A' B_ f] W (rD m0 m1 m2 code d W)):=A_ fun W u hW hu=>ET (ZO tf ts tp za) he h0 h1 h2 W u hu fun V hV=>hT V (hW.trans (hV.mono hW.size))
 obtain⟨ta,tc,rfl⟩:=h.form;clear h hT he h0 h1 h2;generalize t.kind=nk at*;generalize t.set=ns at*;generalize t.mn=ni at*;generalize t.mx=nx at*;generalize t.subs.length=nl at*;unfold aq at*;go_enter Tryz.func53,Tryz.ntmps53;go_upto_region 1 with fail
 refine aw ?_;intro V0 hV;have BR:Hid (ar V0 w.heap.size #[A' Is nk,A' .u64 (wd ns 0).toNat,A' .u64 (wd ns 1).toNat,A' .u64 (wd ns 2).toNat,A' .u64 (wd ns 3).toNat,A' B_ ni,A' B_ nx,AI ta nl tc] 97):=A_ (by rw[hV];exact(ar.new w _ _).alloc _);have BZ:Hid (ar V0 (w.heap.size+1) #[AI AS 0 0,AI AS 0 0,AI AS 0 0] 29):=A_ (by rw[hV];exact(ar.new (w.alloc _) _ _).at (by simp));have X0:Hid (aa w V0):=A_ (by rw[hV];exact(((Ext.refl w).alloc _).alloc _).below);clear hV;have r0:=BR.cell 0;have r1:=BR.cell 1;have r2:=BR.cell 2;have r3:=BR.cell 3;have r4:=BR.cell 4;have r5:=BR.cell 5;have r6:=BR.cell 6;have r7:=BR.cell 7;simp only[List.getElem?_toArray,List.getElem?_cons_zero,List.getElem?_cons_succ]at r0 r1 r2 r3 r4 r5 r6 r7;go_wp2_with fail
 refine(CN V0 X0).mono ?_;rintro e w1 ⟨u,rfl,ho,hx⟩;obtain⟨a0,n0,c0,a1,n1,c1,a2,n2,c2,a3,n3,c3,rfl⟩:=ho.form;have HO:=A_ ho;have X1:=A_ (X0.trans (hx.mono X0.size));have XA:Hid (aa V0 w1):=A_ hx;clear ho hx CN r0 r1 r2 r3 r4 r5 r6 r7 X0 BR;go_upto_region 2 with fail
 refine aw ?_;intro V hV;have BN:Hid (ar V w1.heap.size #[AI a0 n0 c0,AI a1 n1 c1,AI a2 n2 c2,AI a3 n3 c3,L7 t.nf.emp] 118):=A_ (by rw[hV];exact ar.new w1 _ _);have XV:Hid (aa w1 V):=A_ (by rw[hV];exact((Ext.refl w1).alloc _).below);clear hV;have jF:=A_ (HO.below XV);have X2:=A_ (X1.trans (XV.mono X1.size));have f0:V.cell? ⟨w1.heap.size,0,AS⟩=AF (AI a0 n0 c0):=BN.cell 0;have f1:V.cell? ⟨w1.heap.size,1,AS⟩=AF (AI a1 n1 c1):=BN.cell 1;have f2:V.cell? ⟨w1.heap.size,2,AS⟩=AF (AI a2 n2 c2):=BN.cell 2;have f3:V.cell? ⟨w1.heap.size,3,AS⟩=AF (AI a3 n3 c3):=BN.cell 3;have f4:V.cell? ⟨w1.heap.size,4,AS⟩=AF (L7 t.nf.emp):=BN.cell 4;have qu:Hid (V0.heap.size<=V.heap.size):=A_ (XA.trans (XV.mono XA.size)).size;have Y1:=A_ (XA.trans (XV.mono XA.size));clear XV BN HO X1 XA;go_wp2_with fail
 refine(CO _ _ (X2.trans (((Ext.refl V).alloc _).below.mono X2.size)) (Vi (x:=⟨t.nf,za,0⟩) (ar.new V _ _) (jF.nf.below ((Ext.refl V).alloc _).below))).mono ?_;rintro e w2 ⟨x0,y0,x1,y1,x2,y2,rfl,ho,hx⟩;have hx2:aa V w2:=((Ext.refl V).alloc _).below.trans (hx.mono (by simp));have X3:=A_ (X2.trans (hx2.mono X2.size));have BZ2:=A_ (BZ.below (Y1.trans (hx2.mono Y1.size)) BZ.lt);have HD:=A_ ho;clear ho hx hx2 CO f0 f1 f2 f3 f4 jF X2 Y1;obtain⟨z0,z1,z2⟩:=aM.fj BZ2;have z3:=BZ2.frozen 0;have z4:=BZ2.frozen 1;have z5:=BZ2.frozen 2;go_wp2;generalize hW:((w2.setCell ⟨w.heap.size+1,0,AS⟩ (AI x0 m0 y0)).setCell ⟨w.heap.size+1,1,AS⟩ (AI x1 m1 y1)).setCell ⟨w.heap.size+1,2,AS⟩ (AI x2 m2 y2)=W3;have BF:Hid (ar W3 (w.heap.size+1) #[AI x0 m0 y0,AI x1 m1 y1,AI x2 m2 y2] 29):=A_ (by rw[<-hW];exact((BZ2.set 0 _).set 1 _).set 2 _);have KF:ae (· ≠w.heap.size+1) w2 W3:=by
  rw[<-hW];exact(((ae.refl _ _).setCell (p:=⟨w.heap.size+1,0,AS⟩) (fun h=>h rfl) _).setCell (p:=⟨w.heap.size+1,1,AS⟩) (fun h=>h rfl) _).setCell (p:=⟨w.heap.size+1,2,AS⟩) (fun h=>h rfl) _
 have HKF:=A_ KF;clear hW z0 z1 z2 z3 z4 z5 KF;obtain⟨z0,z1,z2⟩:=aM.fj BF;have hVw:w.heap.size+1<V.heap.size:=ay BZ.lt qu;refine bodyPost_ret (v:=MY #[.agg #[AI x0 m0 y0,AI x1 m1 y1,AI x2 m2 y2],A' B_ code]) (by simp[results,Tryz.results53,go_sem,z0,z1,z2]) rfl ⟨x0,y0,x1,y1,x2,y2,rfl,(HD.keeps HKF fun b hb _=>?_).base ?_,?_⟩
 ·have:V.heap.size+1<=b:=by simpa using hb
  show b≠w.heap.size+1;omega
 ·simp;omega
 ·exact X3.trans (HKF.mono fun x (hx:x<w.heap.size)=>by show x≠w.heap.size+1;omega:ae (· <w.heap.size) w2 W3).below
structure iF (b:Nat) (t:GB) (x:Array Value) (W W':B'):Prop where
 mv:Move false (· =b) W W'
 old:(∃ c,ar W b c t/\c.size=x.size)->∃ c,ar W' b c t/\c.size=x.size
 new:ar W b x t->ar W' b x t
theorem iF.trans {b:Nat} {t:GB} {x:Array Value} {A B C:B'} (h:iF b t x A B) (k:iF b t x B C):iF b t x A C:=⟨h.mv.trans k.mv,fun hb=>k.old (h.old hb),fun hb=>k.new (h.new hb)⟩
theorem iF.below {b:Nat} {t:GB} {x:Array Value} {W W':B'} (h:aa W W'):iF b t x W W':=
 ⟨((Move.aj h:Move false (fun _=>False) W W').mono fun _ h=>False.elim h),fun ⟨d,hc,hs⟩=>⟨d,hc.below h hc.lt,hs⟩,fun hc=>hc.below h hc.lt⟩
theorem iF.drew (b:Nat) (t:GB) (x:Array Value) (w:B'):iF b t x w w.drew:=.below (Ext.refl w).drew.below
theorem iF.store {b:Nat} {t:GB} {x:Array Value} {W W':B'} (h:Move false (· =b) W W') (hn:ar W' b x t):iF b t x W W':=⟨h,fun _=>⟨x,hn,rfl⟩,fun _=>hn⟩
theorem iF.keeps {b:Nat} {t:GB} {x:Array Value} {W W':B'} (h:iF b t x W W'):ae (fun k=>k<W.heap.size/\¬k=b) W W':=h.mv.keeps
def aU.wrote (b:Nat) (t:GB) (x:Array Value):aU (iF b t x):=⟨fun _=>True,fun _ W=>ar W b x t,undef,trivial,fun _ _ _ hm _ h=>hm.new h⟩
def aU.rowOf (n:Nat) (cs:Array Value) (t:GB):aU (Move false (fun _=>False)) where
 P:=fun v=>∃ b,v=AI (AF ⟨b,0,AS⟩) n n
 H:=fun v W=>∀ b,v=AI (AF ⟨b,0,AS⟩) n n->ar W b cs t
 nU:=AI (AF ⟨0,0,AS⟩) n n
 pw:=⟨0,rfl⟩
 st:=fun _ _ _ hm _ h b hb=>(h b hb).below hm.below (h b hb).lt
end
section
open Go Go.RowKit
set_option maxRecDepth 100000
def lX (l:List Nat):List Nat:=l.flatMap fun x=>[x%256,x/256%256,x/65536%256,x/16777216%256]
theorem EW:∀ {l m:List Nat},(∀ x∈l,x<4294967296)->(∀ x∈m,x<4294967296)->lX l=lX m->l=m
 | [],[],_,_,_=>rfl
 | [],y::m,_,_,h=>by simp[lX]at h
 | x::l,[],_,_,h=>by simp[lX]at h
 | x::l,y::m,hl,hm,h=>by
  have hx:=hl x bu;have hy:=hm y bu;unfold lX at h;rw[E_,E_]at h;injection h with h0 h
  injection h with h1 h
  injection h with h2 h
  injection h with h3 h
  rw[EW (l:=l) (m:=m) (fun z hz=>hl z (bM _ hz)) (fun z hz=>hm z (bM _ hz)) h,show x=y by omega]
theorem EX (l:List Nat):(lX l).length=4*l.length:=by
 induction l with
 | nil=>rfl
 | cons x l ih=>
  unfold lX at ih ⊢;rw[E_,aJ,ih];simp only[List.length_cons,List.length_nil];omega
theorem Bt (l:List Nat):∀ c∈lX l,c<256:=fun c hc=>by
 unfold lX at hc;obtain⟨x,_,hx⟩:=List.mem_flatMap.1 hc;simp only[Ft,List.not_mem_nil,or_false]at hx;rcases hx with rfl | rfl | rfl | rfl<;>exact Nat.mod_lt _ (by decide)
end
section
open Go Go.RowKit Go.Shelf Go.Maps
def Gh (l:List Nat):List UInt8:=l.map Ly
theorem Kf:∀ {a b:List Nat},(∀ c∈a,c<256)->(∀ c∈b,c<256)->Gh a=Gh b->a=b
 | [],[],_,_,_=>rfl
 | [],y::b,_,_,h=>by simp[Gh]at h
 | x::a,[],_,_,h=>by simp[Gh]at h
 | x::a,y::b,ha,hb,h=>by
  unfold Gh at h;rw[FF,FF]at h;injection h with h0 h1
  have hx:=ha x bu;have hy:=hb y bu;have h2:=congrArg UInt8.toNat h0;rw[D0,D0]at h2;rw[Kf (fun c hc=>ha c (bM _ hc)) (fun c hc=>hb c (bM _ hc)) h1,show x=y by omega]
def kI (l:List Nat):List UInt8:=Gh (lX l)
theorem wP (l:List Nat):(kI l).length=4*l.length:=by unfold kI Gh;rw[aP,EX]
theorem wQ {l m:List Nat} (hl:∀ x∈l,x<4294967296) (hm:∀ x∈m,x<4294967296) (h:kI l=kI m):l=m:=EW hl hm (Kf (Bt l) (Bt m) h)
theorem Vk {W:B'} {base n:Nat} {a:Option Addr} {c:Nat} {bs:List Nat} (hn:n=bs.length) (hb:∀ c∈bs,c<256) (h:W.ownsRow base 5 1 (AI a n c) n (bs.map en)):(convert 44 9 (AI a n c)).run Tryz.prog W=.ok (iR (Gh bs)) W:=by
 rcases h.2 with⟨e1,e2⟩ | ⟨g,cap,cur,e1,_,_,_⟩
 ·cases e1
  obtain rfl:=List.eq_nil_of_length_eq_zero hn.symm;exact Lib.run_convert_nil_bytes W _ _ _ 0 Tryz.underlying44 Tryz.underlying5 Tryz.underlying9
 ·cases e1
  subst hn;have hsz:(⟨(Gh bs).toArray⟩:ByteArray).size=bs.length:=by show(Gh bs).toArray.size=_;rw[List.size_toArray];exact aP _
  have hc:Lib.Bytes W g 0 ⟨(Gh bs).toArray⟩:=fun i hi=>by
   rw[hsz]at hi;have h5:=h.cells (g:=g) rfl i (en bs[i]) (by rw[aN,aB hi];rfl);rw[Addr.add_mid]at h5;rw[h5];have h6:=hb bs[i] (List.getElem_mem hi);have h7:((⟨(Gh bs).toArray⟩:ByteArray)[i]'(by rw[hsz];exact hi))=Ly bs[i]:=by show(Gh bs).toArray[i]'_=_;simp[Gh]
   rw[h7,D0,show bs[i]%2^8=bs[i] by omega];rfl
  have h8:=Lib.run_convert_whole (P:=Tryz.prog) W 44 5 9 Tryz.underlying44 Tryz.underlying5 Tryz.underlying9 g 0 ⟨(Gh bs).toArray⟩ hc c;rw[hsz]at h8;exact h8
theorem MP (l:List Nat) (x:Nat):lX (l++ [x])=lX l++ [x%256,x/256%256,x/65536%256,x/16777216%256]:=by unfold lX;rw[List.flatMap_append];simp
theorem MQ (w:B') (x y z u:Value) (t:GB):∀ j v,[x,y,z,u][j]? =AF v->(w.alloc (.cells #[x,y,z,u] t)).cell? ((⟨w.heap.size,0,AS⟩:Addr).add j)=AF v:=by
 intro j v hj;match j,hj with
 | 0,hj=>simp at hj;subst hj;simp[Addr.add]
 | 1,hj=>simp at hj;subst hj;simp[Addr.add]
 | 2,hj=>simp at hj;subst hj;simp[Addr.add]
 | 3,hj=>simp at hj;subst hj;simp[Addr.add]
theorem Tryz.RP:(Tryz.prog.info? 5).map (fun i=>(i.zero,i.size,i.bytes))=AF (AF (A' Is 0),1,1):=by kernel_rfl
theorem ql (v:Value) (l:List Int) (hl:∀ x∈l,0<=x/\x<4294967296) (hn:l.length<=100000) (w:B') (h:bw aG w v l): ah 139 #[v] w fun e w'=>e=F_ (iR (kI (l.map AT)))/\aa w w':=by
 obtain⟨iB,YH,Hu,Hv,Hw⟩:=Kx Tryz.RP;obtain⟨a,c,rfl⟩:=h.form;obtain⟨n,iV⟩:=ag l.length;rw[<-iV]at h hn ⊢;have H:=A_ h;have HN:=A_ iV;have HL:=A_ hl;obtain⟨R,hR⟩:=ag (iR (kI (l.map AT)));have HR:=A_ hR;rw[<-hR];clear h iV hl hR;go_enter Tryz.func139,Tryz.ntmps139;go_wp2;go_loopw [3,8] (fun ov iv wr=>∃ k:Nat,k<=n/\iv=A' B_ k/\wr.ownsRow w.heap.size 5 1 ov (4*k) ((lX ((l.take k).map AT)).map en)/\aa w wr) (fun _ iv _=>n-(intOf iv).toNat);case atStart=>exact⟨0,H' _,rfl,World.ownsRow_nil _ _ _ _,Below.refl _ _⟩
 case round=>
  obtain⟨k,hk,rfl,ho,hx⟩:=hrel;obtain⟨wo,rfl⟩:=ag (wr:B');have HO:=A_ ho;have HX:=A_ hx;obtain⟨oa,oc,rfl⟩:=ownsRow_form ho;clear ho hx;by_cases hlt:k<n
  ·have ed:(k:Int)<n:=by omega
   obtain⟨x,MR⟩:∃ x,l[k]? =AF x:=⟨_,aB (by have:=HN.out;omega)⟩;obtain⟨hx0,hx1⟩:=HL.out x (ax MR);obtain⟨z,rfl⟩:∃ z:Nat,x=(z:Int):=⟨x.toNat,by omega⟩;obtain⟨b,o,e1,hb,hcell⟩:=(H.below HX).elem MR;cases e1;have hc2:wo.cell? ⟨b,o+k,AS⟩=AF (A' B_ z):=hcell
   have HZ:Hid (lX ((l.take (k+1)).map AT)=lX ((l.take k).map AT)++ [z%256,z/256%256,z/65536%256,z/16777216%256]):=A_ (by
    rw[By,MR];show lX ((l.take k++ [(z:Int)]).map AT)=_;rw[C', <-MP]
    rfl)
   have q0:Is.wrap (z:Int)=((z%256:Nat):Int):=by rw[DE];omega
   have q1:Is.wrap ((z:Int)/256)=((z/256%256:Nat):Int):=by rw[DE];omega
   have q2:Is.wrap ((z:Int)/65536)=((z/65536%256:Nat):Int):=by rw[DE];omega
   have q3:Is.wrap ((z:Int)/16777216)=((z/16777216%256:Nat):Int):=by rw[DE];omega
   have F8:w.heap.size<=wo.heap.size:=HX.size;clear hcell MR hx0 hx1;go_wp2_with (at_builtin;refine Hid.out ?_);refine A_ ?_;refine If _ rfl (.tmp 12) (.tmp 24) 44 rfl w.heap.size 5 iB (A' Is 0) 1 1 Tryz.underlying44 YH Hu Hv Hw rfl (by decide) (AI oa (4*k) oc) (4*k) _ rfl (HO.alloc _) ⟨wo.heap.size,0,AS⟩ 4 4 [A' Is (z%256:Nat),A' Is (z/256%256:Nat),A' Is (z/65536%256:Nat),A' Is (z/16777216%256:Nat)] rfl rfl (MQ _ _ _ _ _ _) (by simp[K_]) (by unfold maxLen;omega) (by omega) (by simp;omega) ?_;intro v' w5 hown' hgrow hh hat;have Iw:=A_ hown';have lB:=A_ hgrow;clear hown' hgrow hh hat;go_wp2;go_roundw;case rel=>
    refine⟨k+1,by omega,by go_num,?_,?_⟩
    ·rw[HZ.out,C',show 4*(k+1)=4*k+4 by omega]
     exact Iw
    ·exact(HX.trans (((Ext.refl wo).alloc _).below.mono F8)).trans (((Below.refl _ _).grown lB (by simp;omega) fun x e=>(HO.lt x e).1))
   case measure=>simp[intOf];omega
  ·obtain rfl:k=n:=by omega
   have ed:¬ ((k:Int)<k):=by omega
   have hcv:=Vk (bs:=lX ((l.take k).map AT)) (by rw[EX,aP,FG, <-HN.out];omega) (Bt _) HO;have HV:Hid (iR (Gh (lX ((l.take k).map AT)))=R):=A_ (by rw[HR.out,GO (by rw[<-HN.out];exact aF _)];rfl);rw[HV.out]at hcv;go_wp2;go_ret;exact⟨rfl,HX⟩
def wR (f:Nat->Nat) (n k:Nat):List Value:=(Bm n).map fun s=>if s<k then cK (f s)else A' B_ 0
theorem ID (f:Nat->Nat) (n:Nat):wR f n 0=(DQ n (0:Int)).map aG:=by
 unfold wR;rw[List.map_replicate];refine AM fun i=>?_
 rw[aN,Bs];by_cases h:i<n
 ·rw[As h,if_pos h];rfl
 ·rw[aT (by simpa using h),if_neg h];rfl
theorem zM (f:Nat->Nat) {n k:Nat} (hk:k<n):(wR f n k).set k (A' B_ (f k))=wR f n (k+1):=by
 unfold wR;refine AM fun i=>?_
 rw[EV];by_cases h:i<n
 ·rw[aN,aN,As h]
  by_cases e:k=i
  ·subst e
   rw[if_pos rfl,if_pos (by simpa using hk)];show _=AF (if k<k+1 then cK (f k)else _);rw[if_pos (Nat.lt_succ_self k)];rfl
  ·rw[if_neg e]
   show AF (if i<k then _ else _)=AF (if i<k+1 then _ else _);by_cases h2:i<k
   ·rw[if_pos h2,if_pos (by omega)]
   ·rw[if_neg h2,if_neg (by omega)]
 ·rw[aT (by simpa using h),aT (by simpa using h),if_neg (by omega)]
theorem MT (f:Nat->Nat) (n:Nat):wR f n n=(Bm n).map fun s=>cK (f s):=DH fun _ hs=>if_pos (D_.1 hs)
theorem qm (g:Nat) (lb:Array Value) (key:Nat->List UInt8) (n:Nat) (hn:n<=4000) (w:B') (hl:∀ s,s<n->(key s).length<=1000000000) (eg:∀ args w,(callFunc g args).run Tryz.prog w=.ok (.enter g args) w) (hf:∀ s W,s<n->aa w W->ah g (#[A' B_ s]++lb) W fun e w'=>e=F_ (iR (key s))/\aa W w'): ah 137 #[A' B_ n,.func (.func g) #[] lb] w fun e w'=>∃ u,e=F_ (MY #[u,A' B_ (dK key n)])/\w'.ownsRow w.heap.size 3 1 u n ((Bm n).map fun s=>cK (dC key n s))/\aa w w':=by
 obtain⟨iI,uD,jl,jm,jn⟩:=Kx Tryz.ki;have HF:=A_ hf;have KI:Hid (∀ k,k<=n->∀ p∈bQ key k,yh p):=A_ fun k hk p hp=>by
  obtain⟨s,hs,rfl⟩:=mem_keys.1 hp;unfold yh maxLen;have:=hl s (by omega);omega
 have KS:Hid (∀ s,s<n->yh (key s)):=A_ fun s hs=>by
  unfold yh maxLen;have:=hl s hs;omega
 clear hf hl;have tX:= @run_makeMap Tryz.prog;go_enter Tryz.func137,Tryz.ntmps137;go_upto_region 2 with fail
 refine aw ?_;intro V hV;have M0:Hid (lO V w.heap.size []):=A_ (by rw[hV];exact World.alloc_heap_new w _);have X0:Hid (aa w V):=A_ (by rw[hV];exact((Ext.refl w).alloc _).below);have HV1:Hid (V.heap.size=w.heap.size+1):=A_ (by rw[hV];exact World.size_alloc _ _);clear hV;go_wp2_with (at_make;refine wpList_make_full _ rfl (.tmp 13) (.tmp 13) 39 rfl V.heap.size 3 iI (A' B_ 0) 1 Tryz.underlying39 uD jl jm B_ B_ _ _ n rfl rfl rfl rfl (by rw[jn];omega) (by unfold maxLen;omega) (aF _) ?_;intro w3 hr hg;refine Hid.out ?_);refine A_ ?_;have Hq:V.heap.size<w3.heap.size:=by
  rcases hr.2 with⟨h5,_⟩ | ⟨g,c,cur,h5,_,h6,_⟩
  ·cases h5
  ·cases h5;exact(Array.getElem?_eq_some_iff.1 h6).1
 have hb3:aa V w3:=(ae.aZ hg fun x hx=>⟨hx,fun e=>by cases e⟩:ae (· <V.heap.size) V w3).below;rw[om]at hr;have N3:=A_ hr;have M3:=A_ (M0.below hb3);have X3:=A_ (X0.trans (hb3.mono X0.size));clear hr hg hb3 M0 X0;obtain⟨g5,N7⟩:=ag V.heap.size;obtain⟨mb,pC⟩:=ag w.heap.size;have hV1:=HV1.out;rw[<-N7]at N3 Hq hV1 ⊢;have hgm:g5≠mb:=by omega
 have hgw:w.heap.size<=g5:=by omega
 have hmw:w.heap.size<=mb:=by omega
 rw[<-pC]at M3 ⊢;clear N7 pC hV1 HV1;go_wp2;go_loopw [17] (fun iv wr=>∃ k:Nat,k<=n/\iv=A' B_ k/\lO wr mb (bQ key k)/\wr.ownsRow g5 3 1 (AI (AF ⟨g5,0,AS⟩) n n) n (wR (dC key n) n k)/\aa w wr) (fun iv _=>n-(intOf iv).toNat);case atStart=>exact⟨0,H' _,rfl,M3,by rw[ID];exact N3,X3⟩
 case round=>
  obtain⟨k,hk,rfl,hm,hr,hx⟩:=hrel;obtain⟨wo,rfl⟩:=ag (wr:B');have HM:=A_ hm;have HR:=A_ hr;have HX:=A_ hx;clear hm hr hx M3 N3 X3;by_cases hlt:k<n
  ·have ed:(k:Int)<n:=by omega
   have Th:=A_ (HF.out k wo hlt HX);go_wp2_with fail
   refine Th.mono ?_;rintro e w2 ⟨rfl,hx2⟩;have M2:=A_ (HM.below hx2);have R2:=A_ (ai HR hx2);have X2:=A_ (HX.trans (hx2.mono HX.size));clear hx2 Th HM HR HX;have oV:=JQ M2 (lW key k) (KI k hk) (key k) (KS k hlt);obtain⟨K0,yJ⟩:=ag (iR (key k));rw[<-yJ]at oV ⊢;have NJ:=A_ yJ;clear yJ;rcases oV with⟨hq,hlk⟩ | ⟨hq,hlk⟩
   ·have mj:bQ key (k+1)=bQ key k++ [key k]:=by rw[bQ,if_neg hq]
    have Ct:dC key n k=(bQ key k).length:=by rw[lC hlt,if_neg hq]
    obtain⟨w4,hput,tG,hk4,hsz⟩:=PU M2 (KI k hk) (key k) (KS k hlt) hq;rw[<-NJ.out]at hput;obtain⟨m,tX⟩:=ag ((bQ key k).length);rw[<-tX]at hput Ct;have XC:=A_ tX;have Lc:=A_ mj;have Bl:=A_ Ct;have M4:=A_ tG
    have R4:=A_ (ak R2 hk4 fun x e=>by
     have e':g5=x:=by simpa[Value.ownBlock]using e
     rw[<-e'];exact hgm)
    have X4:Hid (aa w w4):=A_ ((ae.aj X2 fun _ h=>h:ae (· <w.heap.size) w w2).tr (hk4.mono fun x (hx:x<w.heap.size)=>by show x≠mb;omega)).below;clear hq mj Ct tX tG hk4 hsz R2 X2;obtain⟨sg,su,se,_,hsg,hsu,hsc,hsf⟩:=eE R4 hlt;cases se;go_wp2_with (at_len;refine pB rfl _ rfl mb _ rfl M2 ?_;rw[<-XC.out]);go_roundw;case rel=>
     refine⟨k+1,by omega,by go_num,?_,?_,?_⟩
     ·rw[Lc.out]
      exact M4.keeps ((ae.refl (· ≠g5) _).setCell (p:=⟨g5,k,AS⟩) (fun h=>h rfl) _) (Ne.symm hgm)
     ·rw[<-zM _ hlt,Bl.out]
      exact(R4.stored k _).1
     ·exact((ae.aj X4 fun _ h=>h:ae (· <w.heap.size) w w4).setCell (p:=⟨g5,k,AS⟩) (fun h=>by have:g5<w.heap.size:=h;omega) _).below
    case measure=>simp[intOf];omega
   ·have mj:bQ key (k+1)=bQ key k:=by rw[bQ,if_pos hq]
    have Ct:dC key n k=ixU (bQ key k) (key k):=by rw[lC hlt,if_pos hq];unfold ixU;congr 1
    obtain⟨m,tX⟩:=ag (ixU (bQ key k) (key k));rw[<-tX]at hlk Ct;have Lc:=A_ mj;have Bl:=A_ Ct;clear mj Ct tX hq;obtain⟨sg,su,se,_,hsg,hsu,hsc,hsf⟩:=eE R2 hlt;cases se;go_wp2;go_roundw;case rel=>
     refine⟨k+1,by omega,by go_num,?_,?_,?_⟩
     ·rw[Lc.out]
      exact M2.keeps ((ae.refl (· ≠g5) _).setCell (p:=⟨g5,k,AS⟩) (fun h=>h rfl) _) (Ne.symm hgm)
     ·rw[<-zM _ hlt,Bl.out]
      exact(R2.stored k _).1
     ·exact((ae.aj X2 fun _ h=>h:ae (· <w.heap.size) w w2).setCell (p:=⟨g5,k,AS⟩) (fun h=>by have:g5<w.heap.size:=h;omega) _).below
    case measure=>simp[intOf];omega
  ·obtain rfl:k=n:=by omega
   have ed:¬ ((k:Int)<k):=by omega
   have hrr:=HR.out;rw[MT]at hrr;have iz:=A_ (aC hrr hgw);clear hrr;go_wp2_with (at_len;refine pB rfl _ rfl mb _ rfl HM ?_);exact bodyPost_ret (v:=MY #[AI (AF ⟨g5,0,AS⟩) k k,A' B_ (dK key k)]) (by simp[results,Tryz.results137,go_sem,dK]) rfl ⟨_,rfl,iz,HX⟩
structure Kn (d:DF):Prop where
 ks:∀ l∈d.mr,l.length<=100000/\∀ x∈l,0<=x/\x<4294967296
theorem EY (db:Nat) (d:DF) (kn:Kn d) (v2:Value) (s:Nat) (hs:s<d.mr.length) (W:B') (hd:W.cell? ⟨db,2,AS⟩=AF v2) (h2:fy W v2 d.mr): ah 138 #[A' B_ s,L_ (AF ⟨db,0,AS⟩)] W fun e w'=>e=F_ (iR (kI ((d.mr.getD s []).map AT)))/\aa W w':=by
 obtain⟨a2,c2,rfl⟩:=h2.form;have hrow:d.mr[s]? =AF (d.mr.getD s []):=by rw[bB,aB hs];rfl
 obtain⟨l,hl⟩:=ag (d.mr.getD s []);rw[<-hl]at hrow ⊢;obtain⟨b,o,a',c',rfl,hb,hc,mm⟩:=h2.elem hrow;obtain⟨kn1,kn2⟩:=kn.ks l (ax hrow);have CN:=A_ (ql _ l kn2 kn1 W mm);obtain⟨R,hR⟩:=ag (iR (kI (l.map AT)));rw[<-hR]at CN ⊢;obtain⟨n,hn⟩:=ag l.length;obtain⟨m,hm⟩:=ag d.mr.length;rw[<-hn]at CN hc;rw[<-hm]at hd hs;have Gi:(s:Int)<m:=by omega
 clear hrow hl mm kn1 kn2 kn hR hn hm h2;go_enter Tryz.func138,Tryz.ntmps138;go_wp2_with fail
 refine CN.mono ?_;rintro e w2 ⟨rfl,hx⟩;go_wp2;go_ret;exact⟨rfl,hx⟩
theorem yr {α β:Type} {f:α->β} {l:List α} {k:Nat} {x:α} (h:l[k]? =AF x):(l.take (k+1)).map f=(l.take k).map f++ [f x]:=by rw[By,h,C'];rfl
theorem EZ (s pb db:Nat) (d:DF) (Vl:∀ t∈d.nx.getD s [],0<=t/\t<d.nx.length) (p:Nat->Nat) (hp:∀ t,t<d.nx.length->p t<4294967296) (v1 pv:Value) (hlen:(d.nx.getD s []).length<=1000) (hs:s<d.nx.length) (W:B') (lG:W.cell? ⟨pb,0,AS⟩=AF pv) (hd:W.cell? ⟨db,1,AS⟩=AF v1) (h1:fy W v1 d.nx) (Vm:bw (fun u:Value=>u) W pv ((Bm d.nx.length).map fun s=>cK (p s))): ah 140 #[A' B_ s,L_ (AF ⟨pb,0,AS⟩),L_ (AF ⟨db,0,AS⟩)] W fun e w'=>e=F_ (iR (kI (p s::(d.nx.getD s []).map fun t=>p t.toNat)))/\aa W w':=by
 obtain⟨iI,uD,jl,jm,jn⟩:=Kx Tryz.ki;obtain⟨a1,c1,rfl⟩:=h1.form;obtain⟨pa,pc,rfl⟩:=Vm.form;rw[aP,Iv]at Vm lG;have hrow:d.nx[s]? =AF (d.nx.getD s []):=by rw[bB,aB hs];rfl
 obtain⟨l,hl⟩:=ag (d.nx.getD s []);rw[<-hl]at hrow Vl hlen ⊢;obtain⟨b,o,a',c',rfl,hb,hc,mm⟩:=h1.elem hrow;obtain⟨m,hm⟩:=ag d.nx.length;rw[<-hm]at Vl hp hs lG hd Vm;have PG:Hid (∀ t,t<m->∃ (b o:Nat),pa=AF ⟨b,o,AS⟩/\b<W.heap.size/\W.cell? ⟨b,o+t,AS⟩=AF (A' B_ (p t))):=A_ fun t ht=>by
  obtain⟨b,o,e,h2,h3⟩:=Vm.elem (i:=t) (x:=cK (p t)) (by rw[aN,As ht];rfl);exact⟨b,o,e,h2,h3⟩
 obtain⟨b2,o2,rfl,hb2,hc2⟩:=PG.out s hs;obtain⟨n,hn⟩:=ag l.length;rw[<-hn]at hc mm hlen;obtain⟨R,hR⟩:=ag (iR (kI (p s::l.map fun t=>p t.toNat)));rw[<-hR];have HR:=A_ hR;have HN:=A_ hn;have yV:=A_ mm;have HRG:=A_ Vl;have HP:=A_ hp;have Gi:(s:Int)<m:=by omega
 have aia:pb<W.heap.size:=World.block_lt_of_cell? _ _ lG;have ads:db<W.heap.size:=World.block_lt_of_cell? _ _ hd;clear Vm hrow hl hR hn hm h1 mm Vl hp;go_enter Tryz.func140,Tryz.ntmps140;go_upto_region 2 with fail
 refine aw ?_;intro V hV
 have R0:Hid (V.ownsRow W.heap.size 3 1 (AI (AF ⟨W.heap.size,0,AS⟩) 1 1) 1 [cK (p s)]):=A_ (by
  rw[hV]
  exact⟨rfl,.inr ⟨W.heap.size,1, #[A' B_ (p s)],rfl,aF _,World.alloc_heap_new _ _,aF _,by unfold maxLen;omega,rfl,rfl⟩⟩)
 have X0:Hid (aa W V):=A_ (by rw[hV];exact((Ext.refl W).alloc _).below);clear hV;have hk:∀ (wo:B'),aa W wo->∀ b o u,b<W.heap.size->W.cell? ⟨b,o,AS⟩=AF u->wo.cell? ⟨b,o,AS⟩=AF u:=fun wo hx b o u hb h=>((ae.aj hx fun _ h=>h:ae (· <W.heap.size) W wo).cell (p:=⟨b,o,AS⟩) hb).trans h
 have HK:=A_ hk;have d1:=hk V X0 _ _ _ ads hd;have d2:=hk V X0 _ _ _ hb hc;have Cn:=A_ lG;clear hk hd hc hc2 lG;go_wp2;go_loopw [5,19] (fun ov iv wr=>∃ k:Nat,k<=n/\iv=A' B_ k/\wr.ownsRow W.heap.size 3 1 ov (k+1) (cK (p s)::(l.take k).map fun t=>cK (p t.toNat))/\aa W wr) (fun _ iv _=>n-(intOf iv).toNat);case atStart=>exact⟨0,H' _,rfl,R0,X0⟩
 case round=>
  obtain⟨k,hk,rfl,ho,hx⟩:=hrel;obtain⟨wo,rfl⟩:=ag (wr:B');have HO:=A_ ho;have HX:=A_ hx;obtain⟨oa,oc,rfl⟩:=ownsRow_form ho;have F8:W.heap.size<=wo.heap.size:=hx.size;clear ho hx R0 X0 d1 d2;by_cases hlt:k<n
  ·have ed:(k:Int)<n:=by omega
   obtain⟨x,MR⟩:∃ x,l[k]? =AF x:=⟨_,aB (by have:=HN.out;omega)⟩;obtain⟨hx0,hx1⟩:=HRG.out x (ax MR);obtain⟨t,rfl⟩:∃ t:Nat,x=(t:Int):=⟨x.toNat,by omega⟩;have Gd:t<m:=by omega
   obtain⟨b5,o5,rfl,Gb,WM⟩:=yV.elem MR;replace WM:W.cell? ⟨b5,o5+k,AS⟩=AF (A' B_ t):=WM;obtain⟨b6,o6,e6,uq,hc6⟩:=PG.out t Gd;cases e6;have f1:=HK.out wo HX _ _ _ Gb WM;have f2:=HK.out wo HX _ _ _ uq hc6;have f3:=HK.out wo HX _ _ _ aia Cn;have HT:Hid (cK (p s)::(l.take (k+1)).map (fun t=>cK (p t.toNat))=(cK (p s)::(l.take k).map fun t=>cK (p t.toNat))++ [A' B_ (p t)]):=A_ (by rw[yr MR];rfl);clear WM hc6 MR;go_wp2_with (at_builtin;refine Hid.out ?_);refine A_ ?_;refine If _ rfl (.tmp 23) (.tmp 28) 39 rfl W.heap.size 3 iI (A' B_ 0) 1 8 Tryz.underlying39 uD jl jm jn rfl (by decide) (AI oa (k+1) oc) (k+1) _ rfl (HO.alloc _) ⟨wo.heap.size,0,AS⟩ 1 1 [A' B_ (p t)] rfl rfl (dO _ _ _) (by simp[K_]) (by unfold maxLen;omega) (by omega) (by simp;omega) ?_;intro v' w5 hown' hgrow hh hat;have Iw:=A_ hown';have lB:=A_ hgrow;clear hown' hgrow hh hat;go_wp2;go_roundw;case rel=>
    refine⟨k+1,by omega,by go_num,?_,?_⟩
    ·rw[HT.out]
     exact Iw
    ·exact(HX.trans (((Ext.refl wo).alloc _).below.mono F8)).trans (((Below.refl _ _).grown lB (by simp;omega) fun x e=>(HO.lt x e).1))
   case measure=>simp[intOf];omega
  ·obtain rfl:k=n:=by omega
   have ed:¬ ((k:Int)<k):=by omega
   have HE:Hid (cK (p s)::(l.take k).map (fun t=>cK (p t.toNat))=(((p s:Nat):Int)::l.map fun t=>((p t.toNat:Nat):Int)).map aG):=A_ (by
    rw[GO (by rw[<-HN.out];exact aF _),FF,GS];rfl)
   have rI:bw aG wo (AI oa (k+1) oc) (((p s:Nat):Int)::l.map fun t=>((p t.toNat:Nat):Int)):=by have h5:=HO.out;rw[HE.out]at h5;exact bU h5 (by simp[<-HN.out])
   have CN:=A_ (ql _ _ (fun x hx=>by
    rcases Ft.1 hx with rfl | hx
    ·have:=HP.out s hs;omega
    ·obtain⟨t,ht,rfl⟩:=DP.1 hx
     have h7:=HRG.out t ht;have:=HP.out t.toNat (by omega)
     omega) (by simp[<-HN.out];omega) wo rI)
   have HV:Hid (iR (kI ((((p s:Nat):Int)::l.map fun t=>((p t.toNat:Nat):Int)).map AT))=R):=A_ (by
    rw[HR.out,FF,GS]
    rfl)
   rw[HV.out]at CN;clear rI;go_wp2_with fail
   refine CN.mono ?_;rintro e w2 ⟨rfl,hx⟩;go_wp2;go_ret;exact⟨rfl,HX.trans (hx.mono F8)⟩
end
section
open Go Go.RowKit
theorem RS {n m:Nat} :∀ (l:List (Nat×Nat)),l.Nodup->(∀ p∈l,p.1<n/\p.2<m)->l.length<=n*m:=fun l hn hl=>by
 have h1:(l.map fun p=>p.1*m+p.2).Nodup:=by
  rw[D',List.pairwise_map];refine(D'.1 hn).imp_of_mem fun {p q} hp hq hne e=>hne ?_
  have h2:=hl p hp;have h3:=hl q hq;have hm:0<m:=by omega
  have e1:(p.1*m+p.2)/m=(q.1*m+q.2)/m:=by rw[e]
  have e2:(p.1*m+p.2)%m=(q.1*m+q.2)%m:=by rw[e]
  rw[GW,J_ hm,IN h2.2,GW q.1,J_ hm,IN h3.2]at e1;rw[GW,J',IT h2.2,GW q.1,J',IT h3.2]at e2;exact Prod.ext (by omega) e2
 have h2:=nw (n*m) _ h1 fun t ht=>by
  obtain⟨p,hp,rfl⟩:=DP.1 ht;have h3:=hl p hp;have:(p.1+1)*m<=n*m:=Nat.mul_le_mul_right _ (by omega);rw[Nat.add_mul,Nat.one_mul]at this;omega
 rwa[aP]at h2
def cR (d:DF):Nat->Nat->Nat
 | 0=>dC (fun s=>d.mr.getD s []) d.nx.length
 | i+1=>dC (fun s=>cR d i s::(d.nx.getD s []).map fun t=>cR d i t.toNat) d.nx.length
def jU (d:DF) (i s:Nat):List Nat:=cR d i s::(d.nx.getD s []).map fun t=>cR d i t.toNat
def dX (d:DF):Nat->Nat
 | 0=>dK (fun s=>d.mr.getD s []) d.nx.length
 | i+1=>dK (jU d i) d.nx.length
theorem Fa (d:DF) (i:Nat):cR d (i+1)=dC (jU d i) d.nx.length:=rfl
theorem IE {d:DF} {i s t:Nat} (hs:s<d.nx.length) (ht:t<d.nx.length) (h:cR d (i+1) s=cR d (i+1) t):cR d i s=cR d i t:=by rw[Fa]at h;have:=(ez hs ht).1 h;exact(C_ this).1
def dY (d:DF) (i:Nat):Prop:=dX d (i+1)=dX d i
theorem Kg {κ:Type} [DecidableEq κ] (k:Nat->κ) (n:Nat):dK (dC k n) n=dK k n:=by have h1:=(rC (k:=dC k n) (k':=k) (n:=n) fun s t hs ht e=>(ez hs ht).2 e).1;have h2:=(rC (k:=k) (k':=dC k n) (n:=n) fun s t hs ht e=>(ez hs ht).1 e).1;omega
theorem Bu (d:DF) (i:Nat):dK (cR d i) d.nx.length=dX d i:=by
 cases i with
 | zero=>exact Kg _ _
 | succ i=>exact Kg _ _
theorem wS (d:DF) (i:Nat):dX d i<=dX d (i+1)/\dX d i<=d.nx.length:=by
 refine⟨?_,?_⟩
 ·rw[<-Bu d i]
  exact(rC (k:=cR d i) (k':=jU d i) fun s t hs ht e=>(C_ e).1).1
 ·rw[<-Bu d i]
  exact rB _ _
theorem IG {d:DF} {i:Nat} (h:dY d i) {s t:Nat} (hs:s<d.nx.length) (ht:t<d.nx.length):cR d i s=cR d i t↔jU d i s=jU d i t:=by
 constructor
 ·intro e
  refine(rC (k:=cR d i) (k':=jU d i) (n:=d.nx.length) fun s t _ _ e=>(C_ e).1).2 ?_ s t hs ht e;rw[Bu];exact h.symm
 ·exact fun e=>(C_ e).1
theorem Fb (d:DF):∃ i,i<=d.nx.length/\dY d i/\∀ j,j<i->¬dY d j:=by
 -- else the count rises with each round
 have key:∀ m,(∀ j,j<m->¬dY d j)->m<=dX d m:=by
  intro m;induction m with
  | zero=>intro _;exact H' _
  | succ m ih=>
   intro h;have h1:=ih fun j hj=>h j (by omega)
   have h2:=(wS d m).1;have h3:=h m (by omega);unfold dY at h3;omega
 have ex:∃ i,dY d i:=by
  refine Classical.byContradiction fun hno=>?_
  have h1:=key (d.nx.length+1) fun j _ hj=>hno ⟨j,hj⟩
  have h2:=(wS d (d.nx.length+1)).2;omega
 obtain⟨i,hi⟩:=ex;induction i using Nat.strongRecOn with
 | ind i ih=>
  by_cases e:∃ j,j<i/\dY d j
  ·obtain⟨j,h1,h2⟩:=e;exact ih j h1 h2
  ·refine⟨i,?_,hi,fun j hj h=>e ⟨j,hj,h⟩⟩
   have h1:=key i fun j hj h=>e ⟨j,hj,h⟩
   have h2:=(wS d i).2;omega
def wT (d:DF) (s t:Nat):Prop:=∀ w:List Nat,(∀ c∈w,c<256)->d.mr.getD (sM d s w) []=d.mr.getD (sM d t w) []
theorem II {d:DF} (h:Rt d) {s t k:Nat} (hk:k<d.cl.length) (ha:wT d s t):wT d (eH d s k) (eH d t k):=fun w hw=>by
 obtain⟨h1,h2,_⟩:=Az h hk;have:=ha (lb d.cl k::w) fun c hc=>by
  rcases Ft.1 hc with rfl | hc
  ·exact h1
  ·exact hw c hc
 have e:∀ u,sM d u (lb d.cl k::w)=sM d (eH d u k) w:=fun u=>by
  show sM d (eH d u (cls d.cl (lb d.cl k))) w=_;rw[h2]
 rwa[e,e]at this
theorem rJ {d:DF} (h:Rt d) {s:Nat} (hs:s<d.nx.length) (f:Nat->Nat):(d.nx.getD s []).map (fun t=>f t.toNat)=(Bm d.cl.length).map fun k=>f (eH d s k):=by
 have hl:=h.len s hs;refine AM fun k=>?_
 rw[aN,aN];by_cases hk:k<d.cl.length
 ·rw[As hk,bn (l:=d.nx.getD s []) 0 (by omega)];rfl
 ·rw[aT (by omega),aT (by simp;omega)];rfl
theorem lY {d:DF} (h:Rt d):∀ (i:Nat) {s t:Nat},s<d.nx.length->t<d.nx.length->wT d s t->cR d i s=cR d i t
 | 0,s,t,hs,ht,ha=>(ez hs ht).2 (ha [] fun _ hc=>by cases hc)
 | i+1,s,t,hs,ht,ha=>by
  rw[Fa];refine(ez hs ht).2 ?_;unfold jU;rw[lY h i hs ht ha,rJ h hs (cR d i),rJ h ht (cR d i)];congr 1;refine DH fun k hk=>?_
  have hk:=D_.1 hk;exact lY h i (h.jJ hs hk) (h.jJ ht hk) (II h hk ha)
theorem wU {d:DF} :∀ (i:Nat) {s t:Nat},s<d.nx.length->t<d.nx.length->cR d i s=cR d i t->d.mr.getD s []=d.mr.getD t []
 | 0,_,_,hs,ht,e=>(ez (key:=fun s=>d.mr.getD s []) hs ht).1 e
 | i+1,_,_,hs,ht,e=>wU i hs ht (IE hs ht e)
theorem Fc {d:DF} (h:Rt d) {i:Nat} (hi:dY d i) {s t k:Nat} (hs:s<d.nx.length) (ht:t<d.nx.length) (hk:k<d.cl.length) (e:cR d i s=cR d i t):cR d i (eH d s k)=cR d i (eH d t k):=by have h1:=(IG hi hs ht).1 e;unfold jU at h1;rw[rJ h hs (cR d i),rJ h ht (cR d i)]at h1;have h2:=(C_ h1).2;have h3:=congrArg (fun l:List Nat=>l[k]?) h2;simp only[aN,As hk,Option.map_some]at h3;exact G_ h3
theorem MU {d:DF} (h:Rt d) {i:Nat} (hi:dY d i) {s t:Nat} (hs:s<d.nx.length) (ht:t<d.nx.length):cR d i s=cR d i t↔wT d s t:=by
 refine⟨fun e w=>?_,lY h i hs ht⟩;induction w generalizing s t with
 | nil=>exact fun _=>wU i hs ht e
 | cons c w ih=>
  intro hw;have hk:=h.part.ft (hw c (bu ..));exact ih (h.jJ hs hk) (h.jJ ht hk) (Fc h hi hs ht hk e) fun x hx=>hw x (bM _ hx)
def cO (p:Nat->Nat):Nat->Nat
 | 0=>0
 | s+1=>max (cO p s) (p s+1)
theorem zN {p:Nat→Nat} {m:Nat} :∀ {n:Nat},m≤n→cO p m≤cO p n
  | 0, h => by obtain rfl : m = 0 := by omega
               exact aF _
  | n + 1, h => by
    by_cases e : m = n + 1
    · rw [e]; exact aF _
    · have := zN (p := p) (m := m) (n := n) (by omega)
      rw[cO];omega
theorem jw {p:Nat->Nat} {n s:Nat} (h:s<n):p s<cO p n:=by have:=zN (p:=p) (m:=s+1) (n:=n) h;rw[cO]at this;omega
def IJ (p:Nat->Nat) (n:Nat):Prop:=∀ s,s<n->p s<=cO p s
theorem Bv {κ:Type} [DecidableEq κ] (key:Nat->κ) (n:Nat):∀ s,s<=n->cO (dC key n) s=dK key s
 | 0,_=>rfl
 | s+1,h=>by
  have e:=lC (key:=key) (n:=n) (s:=s) (by omega);have ih:=Bv key n s (by omega);rw[cO,ih,e];unfold dK;rw[bQ];split
  ·rename_i hm
   have:=AN hm;omega
  ·rw[aJ,Cd];omega
theorem rK {κ:Type} [DecidableEq κ] (key:Nat->κ) (n:Nat):IJ (dC key n) n:=fun s hs=>by
 rw[Bv key n s (by omega),lC hs];unfold dK;split
 ·rename_i hm
  have:=AN hm;omega
 ·omega
def bh (d:DF) (p:Nat->Nat):Nat->List (List Int)×List (List Int)
 | 0=>([],[])
 | s+1=>if p s<(bh d p s).1.length then bh d p s else((bh d p s).1++ [(d.nx.getD s []).map fun t=>((p t.toNat:Nat):Int)],(bh d p s).2++ [d.mr.getD s []])
def bI (d:DF) (p:Nat->Nat):DF:=⟨d.cl,(bh d p d.nx.length).1,(bh d p d.nx.length).2⟩
theorem sN {d:DF} {p:Nat->Nat} :∀ {n:Nat},IJ p n->(bh d p n).1.length=cO p n/\(bh d p n).2.length=cO p n
 | 0,_=>⟨rfl,rfl⟩
 | n+1,h=>by
  have ih:=sN (d:=d) (p:=p) (n:=n) fun s hs=>h s (by omega)
  have hn:=h n (by omega);rw[bh,cO];split
  ·rename_i hl
   rw[ih.1]at hl;exact⟨by rw[ih.1];omega,by rw[ih.2];omega⟩
  ·rename_i hl
   rw[ih.1]at hl;exact⟨by rw[aJ,ih.1,Cd];omega,by rw[aJ,ih.2,Cd];omega⟩
theorem jV {d:DF} {p:Nat->Nat} :∀ {n:Nat},IJ p n->∀ b,b<cO p n->∃ s,s<n/\p s=b/\(bh d p n).1[b]? =AF ((d.nx.getD s []).map fun t=>((p t.toNat:Nat):Int))/\(bh d p n).2[b]? =AF (d.mr.getD s [])
 | 0,_,b,hb=>by cases hb
 | n+1,h,b,hb=>by
  have hN:IJ p n:=fun s hs=>h s (by omega)
  have hl:=sN (d:=d) hN;have hn:=h n (by omega);have ih:=jV (d:=d) hN;rw[cO]at hb;rw[bh];split
  ·rename_i hp
   rw[hl.1]at hp;obtain⟨s,hs,e,e1,e2⟩:=ih b (by omega);exact⟨s,by omega,e,e1,e2⟩
  ·rename_i hp
   rw[hl.1]at hp;by_cases PN:b<cO p n
   ·obtain⟨s,hs,e,e1,e2⟩:=ih b PN
    refine⟨s,by omega,e,?_,?_⟩
    ·rw[bH (by rw[hl.1];exact PN)];exact e1
    ·rw[bH (by rw[hl.2];exact PN)];exact e2
   ·refine⟨n,by omega,by omega,?_,?_⟩
    ·rw[cF (by rw[hl.1];omega),show b-(bh d p n).1.length=0 by rw[hl.1];omega];rfl
    ·rw[cF (by rw[hl.2];omega),show b-(bh d p n).2.length=0 by rw[hl.2];omega];rfl
structure Fits (d:DF) (p:Nat->Nat):Prop where
 num:IJ p d.nx.length
 mark:∀ s t,s<d.nx.length->t<d.nx.length->p s=p t->d.mr.getD s []=d.mr.getD t []
 next:∀ s t k,s<d.nx.length->t<d.nx.length->k<d.cl.length->p s=p t->p (eH d s k)=p (eH d t k)
theorem RU {d:DF} (h:Rt d) {i:Nat} (hi:dY d i):Fits d (cR d i):=
  ⟨by cases i with
     | zero=>exact rK _ _
     | succ i=>exact rK _ _,
   fun _ _ hs ht e=>wU i hs ht e,fun _ _ _ hs ht hk e=>Fc h hi hs ht hk e⟩
theorem oG {d:DF} {p:Nat->Nat} (h:Rt d) (hf:Fits d p) {s:Nat} (hs:s<d.nx.length):(bI d p).nx[p s]? =AF ((Bm d.cl.length).map fun k=>((p (eH d s k):Nat):Int))/\(bI d p).mr[p s]? =AF (d.mr.getD s []):=by
 obtain⟨t,ht,e,e1,e2⟩:=jV (d:=d) hf.num (p s) (jw hs);refine⟨?_,?_⟩
 ·show(bh d p d.nx.length).1[p s]? =_
  rw[e1];congr 1;have:=rJ h ht (fun t=>p t);have r2:(d.nx.getD t []).map (fun t=>((p t.toNat:Nat):Int))=((d.nx.getD t []).map fun t=>p t.toNat).map Lw:=by rw[GS];rfl
  rw[r2,this,GS];refine DH fun k hk=>?_
  show Lw (p (eH d t k))=_;rw[hf.next t s k ht hs (D_.1 hk) e];rfl
 ·show(bh d p d.nx.length).2[p s]? =_
  rw[e2,hf.mark t s ht hs e]
theorem zO {d:DF} {p:Nat->Nat} (h:Rt d) (hf:Fits d p) {s k:Nat} (hs:s<d.nx.length) (hk:k<d.cl.length):eH (bI d p) (p s) k=p (eH d s k):=by unfold eH;rw[getD_some (oG h hf hs).1,getD_some (x:=((p (eH d s k):Nat):Int)) (by rw[aN,As hk];rfl)];rfl
theorem qo {d:DF} {p:Nat->Nat} (h:Rt d) (hf:Fits d p) {s:Nat} (hs:s<d.nx.length):(bI d p).mr.getD (p s) []=d.mr.getD s []:=getD_some (oG h hf hs).2
theorem fR {d:DF} {p:Nat->Nat} (hf:Fits d p):(bI d p).nx.length=cO p d.nx.length/\(bI d p).mr.length=cO p d.nx.length:=sN hf.num
theorem Bw {p:Nat->Nat} :∀ {n:Nat},IJ p n->cO p n<=n
 | 0,_=>aF _
 | n+1,h=>by
  have ih:=Bw (p:=p) (n:=n) fun s hs=>h s (by omega)
  have:=h n (by omega);rw[cO];omega
theorem RV {d:DF} {p:Nat->Nat} (h:Rt d) (hf:Fits d p):Rt (bI d p) where
 pos:=by rw[(fR hf).1];have:=jw (p:=p) (show 0<d.nx.length from h.pos);omega
 le:=by rw[(fR hf).1];have:=Bw hf.num;have:=h.le;omega
 mr:=by rw[(fR hf).1,(fR hf).2]
 cl:=h.cl
 len:=fun b hb=>by
  rw[(fR hf).1]at hb;obtain⟨s,hs,e,_,_⟩:=jV (d:=d) hf.num b hb;rw[<-e,getD_some (oG h hf hs).1,aP,Iv];rfl
 iK:=fun b hb t ht=>by
  rw[(fR hf).1]at hb ⊢;obtain⟨s,hs,e,_,_⟩:=jV (d:=d) hf.num b hb;rw[<-e,getD_some (oG h hf hs).1]at ht;obtain⟨k,hk,rfl⟩:=DP.1 ht;have:=jw (p:=p) (h.jJ hs (D_.1 hk));omega
 Ud:=fun b hb=>by
  rw[(fR hf).1]at hb;obtain⟨s,hs,e,_,_⟩:=jV (d:=d) hf.num b hb;rw[<-e,qo h hf hs];exact h.Ud s hs
theorem zP {d:DF} {p:Nat->Nat} (h:Rt d) (hf:Fits d p):∀ (w:List Nat) {s:Nat},s<d.nx.length->(∀ c∈w,c<256)->sM (bI d p) (p s) w=p (sM d s w)
 | [],_,_,_=>rfl
 | c::w,s,hs,hw=>by
  have hk:=(h.part).ft (hw c bu);have:=zP h hf w (h.jJ hs hk) fun x hx=>hw x (bM _ hx)
  rw[<-zO h hf hs hk]at this;exact this
theorem tO {d:DF} {p:Nat->Nat} (h:Rt d) (hf:Fits d p) {w:List Nat} {s:Nat} (hs:s<d.nx.length) (hw:∀ c∈w,c<256):(bI d p).mr.getD (sM (bI d p) (p s) w) []=d.mr.getD (sM d s w) []:=by rw[zP h hf w hs hw,qo h hf (Vh h hs w hw)]
set_option maxRecDepth 100000
section
variable {α:Type} [DecidableEq α]
def Bx (E:List (α×List Nat)) (q:α) (w:List Nat):List (α×List Nat):=if q∈E.map Prod.fst then E else E++ [(q,w)]
def iu (F:α->Nat->α) (lt:Nat->Nat) (x:α×List Nat) (E:List (α×List Nat)):Nat->List (α×List Nat)
 | 0=>E
 | k+1=>Bx (iu F lt x E k) (F x.1 k) (x.2++ [lt k])
def iG (F:α->Nat->α) (lt:Nat->Nat) (K:Nat) (p0:α):Nat->List (α×List Nat)
 | 0=>[(p0,[])]
 | n+1=>match(iG F lt K p0 n)[n]? with
  | none=>iG F lt K p0 n
  | some x=>iu F lt x (iG F lt K p0 n) K
theorem RY (E:List (α×List Nat)) (q:α) (w:List Nat) {i:Nat} {x:α×List Nat} (h:E[i]? =AF x):(Bx E q w)[i]? =AF x:=by
 unfold Bx;split
 ·exact h
 ·rw[bH (An.1 h).1];exact h
theorem Fe (F:α->Nat->α) (lt:Nat->Nat) (y:α×List Nat) (E:List (α×List Nat)) {i:Nat} {x:α×List Nat} (h:E[i]? =AF x):∀ k,(iu F lt y E k)[i]? =AF x
 | 0=>h
 | k+1=>RY _ _ _ (Fe F lt y E h k)
end
set_option maxRecDepth 100000
def Ff (a b:DF) (p:Nat×Nat):Bool:=decide (a.mr.getD p.1 []≠b.mr.getD p.2 [])
def dc (a b:DF) (p:Nat×Nat):Nat->List ((Nat×Nat)×List Nat):=iG (vu a b) (lb (partsOf (a.cl++b.cl))) (partsOf (a.cl++b.cl)).length p
def kJ (a b:DF) (p:Nat×Nat):Nat->Nat->Option (List Nat)
 | 0,_=>AS
 | f+1,i=>match(dc a b p i)[i]? with
  | none=>AS
  | some x=>if Ff a b x.1 then AF x.2 else kJ a b p f (i+1)
def jW (a b:DF) (p:Nat×Nat):Option (List Nat):=kJ a b p (a.nx.length*b.nx.length+1) 0
section
variable {α:Type} [DecidableEq α]
theorem Bz {F:α->Nat->α} {lt:Nat->Nat} {P:α->Prop} {x:α×List Nat} {E:List (α×List Nat)} (hn:(E.map Prod.fst).Nodup) (ha:∀ y∈E,P y.1):∀ k,(∀ j,j<k->P (F x.1 j))->((iu F lt x E k).map Prod.fst).Nodup/\∀ y∈iu F lt x E k,P y.1
 | 0,_=>⟨hn,ha⟩
 | k+1,hF=>by
  obtain⟨h1,h2⟩:=Bz (lt:=lt) (x:=x) hn ha k fun j hj=>hF j (by omega)
  rw[iu];unfold Bx;split
  ·exact⟨h1,h2⟩
  ·rename_i hm
   refine⟨?_,fun y hy=>?_⟩
   ·rw[C',It]
    refine⟨h1,by simp,fun y hy z hz e=>hm ?_⟩;simp at hz;subst hz;rw[<-e];exact hy
   ·rcases I_.1 hy with hy | hy
    ·exact h2 y hy
    ·rw[DS.1 hy];exact hF k (by omega)
theorem Fg {F:α->Nat->α} {lt:Nat->Nat} {K:Nat} {p0:α} {P:α->Prop} (h0:P p0) (hF:∀ p k,P p->k<K->P (F p k)):∀ n,((iG F lt K p0 n).map Prod.fst).Nodup/\∀ y∈iG F lt K p0 n,P y.1
 | 0=>⟨by simp[iG],fun y hy=>by rw[DS.1 hy];exact h0⟩
 | n+1=>by
  obtain⟨h1,h2⟩:=Fg (lt:=lt) h0 hF n;rw[iG];split
  ·exact⟨h1,h2⟩
  ·rename_i x hx
   exact Bz h1 h2 K fun j hj=>hF _ j (h2 x (ax hx)) hj
end
theorem Fh {a b:DF} (ha:Rt a) (hb:Rt b) {p:Nat×Nat} (hp:gK a b p) (n:Nat):((dc a b p n).map Prod.fst).Nodup/\∀ y∈dc a b p n,gK a b y.1:=Fg hp (fun q k hq hk=>vv ha hb q k hq hk) n
theorem MX {a b:DF} (ha:Rt a) (hb:Rt b) {p:Nat×Nat} (hp:gK a b p) (n:Nat):(dc a b p n).length<=a.nx.length*b.nx.length:=by
 obtain⟨h1,h2⟩:=Fh ha hb hp n;have:=RS _ h1 fun q hq=>by
  obtain⟨y,hy,rfl⟩:=DP.1 hq;exact h2 y hy
 rwa[aP]at this
end
end Go.Proofs.YtjgccapbphadjaaGreatDoor
