/- States under other numbers, and states more to which nothing leads: the trimmed automaton is the same. -/
import Derived.Test.YtjgccapbphadjaaGreatDoorOM18
set_option maxRecDepth 100000
set_option maxHeartbeats 16000000
open Go.Lib (hid)
namespace Go.Proofs.YtjgccapbphadjaaGreatDoor
open Go Go.RowKit
def eC (p:Nat->Nat):Nat->Nat
 | 0=>0
 | s+1=>max (eC p s) (p s+1)
theorem Az {p:Nat→Nat} {m:Nat} :∀ {n:Nat},m≤n→eC p m≤eC p n
  | 0, h => by obtain rfl : m = 0 := by omega
               exact aD _
  | n + 1, h => by
    by_cases e : m = n + 1
    · rw [e]; exact aD _
    · have := Az (p := p) (m := m) (n := n) (by omega)
      rw[eC];omega
theorem iR {p:Nat->Nat} {n s:Nat} (h:s<n):p s<eC p n:=by have:=Az (p:=p) (m:=s+1) (n:=n) h;rw[eC]at this;omega
def Nv (p:Nat->Nat) (n:Nat):Prop:=∀ s,s<n->p s<=eC p s
theorem CV {κ:Type} [DecidableEq κ] (key:Nat->κ) (n:Nat):∀ s,s<=n->eC (dF key n) s=dP key s
 | 0,_=>rfl
 | s+1,h=>by
  have e:=lG (key:=key) (n:=n) (s:=s) (by omega);have ih:=CV key n s (by omega);rw[eC,ih,e];unfold dP;rw[bQ];split
  ·rename_i hm
   have:=List.idxOf_lt_length_of_mem hm;omega
  ·rw[aG,List.length_singleton];omega
theorem CX {κ:Type} [DecidableEq κ] (key:Nat->κ) (n:Nat):Nv (dF key n) n:=fun s hs=>by
 rw[CV key n s (by omega),lG hs];unfold dP;split
 ·rename_i hm
  have:=List.idxOf_lt_length_of_mem hm;omega
 ·omega
def bn (d:DF) (p:Nat->Nat):Nat->List (List Int)×List (List Int)
 | 0=>([],[])
 | s+1=>if p s<(bn d p s).1.length then bn d p s else((bn d p s).1++ [(d.nx.getD s []).map fun t=>((p t.toNat:Nat):Int)],(bn d p s).2++ [d.mr.getD s []])
def cA (d:DF) (p:Nat->Nat):DF:=⟨d.cl,(bn d p d.nx.length).1,(bn d p d.nx.length).2⟩
theorem s9 {d:DF} {p:Nat->Nat} :∀ {n:Nat},Nv p n->(bn d p n).1.length=eC p n/\(bn d p n).2.length=eC p n
 | 0,_=>⟨rfl,rfl⟩
 | n+1,h=>by
  have ih:=s9 (d:=d) (p:=p) (n:=n) fun s hs=>h s (by omega)
  have hn:=h n (by omega);rw[bn,eC];split
  ·rename_i hl
   rw[ih.1]at hl;exact⟨by rw[ih.1];omega,by rw[ih.2];omega⟩
  ·rename_i hl
   rw[ih.1]at hl;exact⟨by rw[aG,ih.1,List.length_singleton];omega,by rw[aG,ih.2,List.length_singleton];omega⟩
theorem jV {d:DF} {p:Nat->Nat} :∀ {n:Nat},Nv p n->∀ b,b<eC p n->∃ s,s<n/\p s=b/\(bn d p n).1[b]? =some ((d.nx.getD s []).map fun t=>((p t.toNat:Nat):Int))/\(bn d p n).2[b]? =some (d.mr.getD s [])
 | 0,_,b,hb=>by cases hb
 | n+1,h,b,hb=>by
  have hN:Nv p n:=fun s hs=>h s (by omega)
  have hl:=s9 (d:=d) hN;have hn:=h n (by omega);have ih:=jV (d:=d) hN;rw[eC]at hb;rw[bn];split
  ·rename_i hp
   rw[hl.1]at hp;obtain⟨s,hs,e,e1,e2⟩:=ih b (by omega);exact⟨s,by omega,e,e1,e2⟩
  ·rename_i hp
   rw[hl.1]at hp;by_cases Qf:b<eC p n
   ·obtain⟨s,hs,e,e1,e2⟩:=ih b Qf
    refine⟨s,by omega,e,?_,?_⟩
    ·rw[bJ (by rw[hl.1];exact Qf)];exact e1
    ·rw[bJ (by rw[hl.2];exact Qf)];exact e2
   ·refine⟨n,by omega,by omega,?_,?_⟩
    ·rw[cH (by rw[hl.1];omega),show b-(bn d p n).1.length=0 by rw[hl.1];omega];rfl
    ·rw[cH (by rw[hl.2];omega),show b-(bn d p n).2.length=0 by rw[hl.2];omega];rfl
structure Fits (d:DF) (p:Nat->Nat):Prop where
 num:Nv p d.nx.length
 mark:∀ s t,s<d.nx.length->t<d.nx.length->p s=p t->d.mr.getD s []=d.mr.getD t []
 next:∀ s t k,s<d.nx.length->t<d.nx.length->k<d.cl.length->p s=p t->p (dL d s k)=p (dL d t k)
theorem rX {d:DF} (h:Rt d) {i:Nat} (hi:dN d i):Fits d (bK d i):=
  ⟨by cases i with
     | zero=>exact CX _ _
     | succ i=>exact CX _ _,
   fun _ _ hs ht e=>xJ i hs ht e,fun _ _ _ hs ht hk e=>FY h hi hs ht hk e⟩
theorem oJ {d:DF} {p:Nat->Nat} (h:Rt d) (hf:Fits d p) {s:Nat} (hs:s<d.nx.length):(cA d p).nx[p s]? =some ((List.range d.cl.length).map fun k=>((p (dL d s k):Nat):Int))/\(cA d p).mr[p s]? =some (d.mr.getD s []):=by
 obtain⟨t,ht,e,e1,e2⟩:=jV (d:=d) hf.num (p s) (iR hs);refine⟨?_,?_⟩
 ·show(bn d p d.nx.length).1[p s]? =_
  rw[e1];congr 1;have:=kz h ht (fun t=>p t);have r2:(d.nx.getD t []).map (fun t=>((p t.toNat:Nat):Int))=((d.nx.getD t []).map fun t=>p t.toNat).map Int.ofNat:=by rw[List.map_map];rfl
  rw[r2,this,List.map_map];refine List.map_congr_left fun k hk=>?_
  show Int.ofNat (p (dL d t k))=_;rw[hf.next t s k ht hs (List.mem_range.1 hk) e];rfl
 ·show(bn d p d.nx.length).2[p s]? =_
  rw[e2,hf.mark t s ht hs e]
theorem Nw {d:DF} {p:Nat->Nat} (h:Rt d) (hf:Fits d p) {s k:Nat} (hs:s<d.nx.length) (hk:k<d.cl.length):dL (cA d p) (p s) k=p (dL d s k):=by unfold dL;rw[getD_some (oJ h hf hs).1,getD_some (x:=((p (dL d s k):Nat):Int)) (by rw[aO,List.getElem?_range hk];rfl)];rfl
theorem qq {d:DF} {p:Nat->Nat} (h:Rt d) (hf:Fits d p) {s:Nat} (hs:s<d.nx.length):(cA d p).mr.getD (p s) []=d.mr.getD s []:=getD_some (oJ h hf hs).2
theorem eD {d:DF} {p:Nat->Nat} (hf:Fits d p):(cA d p).nx.length=eC p d.nx.length/\(cA d p).mr.length=eC p d.nx.length:=s9 hf.num
theorem rY {p:Nat->Nat} :∀ {n:Nat},Nv p n->eC p n<=n
 | 0,_=>aD _
 | n+1,h=>by
  have ih:=rY (p:=p) (n:=n) fun s hs=>h s (by omega)
  have:=h n (by omega);rw[eC];omega
theorem FZ {d:DF} {p:Nat->Nat} (h:Rt d) (hf:Fits d p):Rt (cA d p) where
 pos:=by rw[(eD hf).1];have:=iR (p:=p) (show 0<d.nx.length from h.pos);omega
 le:=by rw[(eD hf).1];have:=rY hf.num;have:=h.le;omega
 mr:=by rw[(eD hf).1,(eD hf).2]
 cl:=h.cl
 len:=fun b hb=>by
  rw[(eD hf).1]at hb;obtain⟨s,hs,e,_,_⟩:=jV (d:=d) hf.num b hb;rw[<-e,getD_some (oJ h hf hs).1,aQ,List.length_range];rfl
 je:=fun b hb t ht=>by
  rw[(eD hf).1]at hb ⊢;obtain⟨s,hs,e,_,_⟩:=jV (d:=d) hf.num b hb;rw[<-e,getD_some (oJ h hf hs).1]at ht;obtain⟨k,hk,rfl⟩:=List.mem_map.1 ht;have:=iR (p:=p) (h.fH hs (List.mem_range.1 hk));omega
 Tm:=fun b hb=>by
  rw[(eD hf).1]at hb;obtain⟨s,hs,e,_,_⟩:=jV (d:=d) hf.num b hb;rw[<-e,qq h hf hs];exact h.Tm s hs
theorem td {d:DF} {p:Nat->Nat} (h:Rt d) (hf:Fits d p):∀ (w:List Nat) {s:Nat},s<d.nx.length->(∀ c∈w,c<256)->bU (cA d p) (p s) w=p (bU d s w)
 | [],_,_,_=>rfl
 | c::w,s,hs,hw=>by
  have hk:=(h.part).cZ (hw c aW);have:=td h hf w (h.fH hs hk) fun x hx=>hw x (bF _ hx)
  rw[<-Nw h hf hs hk]at this;exact this
theorem uy {d:DF} {p:Nat->Nat} (h:Rt d) (hf:Fits d p) {w:List Nat} {s:Nat} (hs:s<d.nx.length) (hw:∀ c∈w,c<256):(cA d p).mr.getD (bU (cA d p) (p s) w) []=d.mr.getD (bU d s w) []:=by rw[td h hf w hs hw,qq h hf (eN h hs w hw)]
theorem F5 {d:DF} {i:Nat} (h:Rt d) (hi:dN d i) {s t:Nat} (hs:s<d.nx.length) (ht:t<d.nx.length) (ha:xI (cA d (bK d i)) (bK d i s) (bK d i t)):bK d i s=bK d i t:=by
 have hf:=rX h hi;refine(Ay h hi hs ht).2 fun w hw=>?_
 rw[<-uy h hf hs hw, <-uy h hf ht hw];exact ha w hw
structure th (P:List Nat->Bool) (s:List Nat):Prop where
 ok:P s=true
 Um:∀ c∈s,c<256
 short:∀ w:List Nat,(∀ c∈w,c<256)->P w=true->s.length<=w.length
 lex:∀ w:List Nat,(∀ c∈w,c<256)->P w=true->w.length=s.length->∀ j x y,w.take j=s.take j->w[j]? =some x->s[j]? =some y->y<=x
theorem th.congr {P Q:List Nat->Bool} {s:List Nat} (h:th P s) (e:∀ w:List Nat,(∀ c∈w,c<256)->P w=Q w):th Q s:=
 ⟨by rw[<-e s h.Um];exact h.ok,h.Um,fun w hw ha=>h.short w hw (by rw[e w hw];exact ha),fun w hw ha=>h.lex w hw (by rw[e w hw];exact ha)⟩
set_option maxRecDepth 100000
def jC (w:List Nat):Nat:=w.foldl (fun a c=>a*257+c+1) 0
theorem gy (w:List Nat) (c:Nat):jC (w++ [c])=jC w*257+c+1:=by unfold jC;rw[List.foldl_append];rfl
theorem oK {α:Type} (l:List α):l=[]\/∃ u c,l=u++ [c]:=by
 rcases List.eq_nil_or_concat l with h | ⟨u,c,h⟩
 ·exact .inl h
 ·exact .inr ⟨u,c,by rw[h,List.concat_eq_append]⟩
theorem xK:∀ (n:Nat) {w s:List Nat},s.length=n->(∀ c∈w,c<256)->w.length<s.length->jC w<jC s
 | 0,w,s,hn,_,h=>by omega
 | n+1,w,s,hn,hb,h=>by
  rcases oK s with rfl | ⟨s',c,rfl⟩
  ·cases hn
  ·rw[aG,List.length_singleton]at hn h
   rw[gy];rcases oK w with rfl | ⟨w',e,rfl⟩
   ·exact Nat.succ_pos _
   ·rw[aG,List.length_singleton]at h
    have ih:=xK n (w:=w') (s:=s') (by omega) (fun x hx=>hb x (List.mem_append_left _ hx)) (by omega);have:=hb e (List.mem_append_right _ (List.mem_singleton.2 rfl));rw[gy];omega
theorem F6:∀ (n:Nat) {w s:List Nat},s.length=n->w.length=n->(∀ c∈w,c<256)->∀ j x y,w.take j=s.take j->w[j]? =some x->s[j]? =some y->x<y->jC w<jC s
 | 0,w,s,hn,hw,_,j,x,y,_,hx,_,_=>by
  obtain rfl:=List.length_eq_zero_iff.1 hw;cases hx
 | n+1,w,s,hn,hw,hb,j,x,y,ht,hx,hy,hlt=>by
  rcases oK s with rfl | ⟨s',c,rfl⟩
  ·cases hn
  rcases oK w with rfl | ⟨w',e,rfl⟩
  ·cases hw
  rw[aG,List.length_singleton]at hn hw;have he:=hb e (List.mem_append_right _ (List.mem_singleton.2 rfl));rw[gy,gy];by_cases hj:j<n
  ·rw[bJ (by omega)]at hx hy
   rw[List.take_append_of_le_length (by omega),List.take_append_of_le_length (by omega)]at ht;have:=F6 n (w:=w') (s:=s') (by omega) (by omega) (fun x hx=>hb x (List.mem_append_left _ hx)) j x y ht hx hy hlt;omega
  ·have hjn:j=n:=by
    have:=(List.getElem?_eq_some_iff.1 hx).1;rw[aG,List.length_singleton]at this;omega
   subst hjn;rw[List.take_append_of_le_length (by omega),List.take_append_of_le_length (by omega),List.take_of_length_le (by omega),List.take_of_length_le (by omega)]at ht;subst ht;rw[cH (by omega),show j-w'.length=0 by omega]at hx hy;cases hx;cases hy;omega
theorem Nx {P:List Nat->Bool} {s:List Nat} (h1:P s=true) (h2:∀ c∈s,c<256) (h:∀ w:List Nat,(∀ c∈w,c<256)->P w=true->jC s<=jC w):th P s where
 ok:=h1
 Um:=h2
 short:=fun w hw hp=>Nat.le_of_not_lt fun hl=>by have:=xK _ rfl hw hl;have:=h w hw hp;omega
 lex:=fun w hw hp hl j x y ht hx hy=>Nat.le_of_not_lt fun hlt=>by have:=F6 _ rfl hl hw j x y ht hx hy hlt;have:=h w hw hp;omega
section
variable {α:Type} [DecidableEq α]
def nR (E:List (α×List Nat)) (q:α) (w:List Nat):List (α×List Nat):=if q∈E.map Prod.fst then E else E++ [(q,w)]
def ib (F:α->Nat->α) (lt:Nat->Nat) (x:α×List Nat) (E:List (α×List Nat)):Nat->List (α×List Nat)
 | 0=>E
 | k+1=>nR (ib F lt x E k) (F x.1 k) (x.2++ [lt k])
def cY (F:α->Nat->α) (lt:Nat->Nat) (K:Nat) (p0:α):Nat->List (α×List Nat)
 | 0=>[(p0,[])]
 | n+1=>match(cY F lt K p0 n)[n]? with
  | none=>cY F lt K p0 n
  | some x=>ib F lt x (cY F lt K p0 n) K
theorem xL (E:List (α×List Nat)) (q:α) (w:List Nat) {i:Nat} {x:α×List Nat} (h:E[i]? =some x):(nR E q w)[i]? =some x:=by
 unfold nR;split
 ·exact h
 ·rw[bJ (List.getElem?_eq_some_iff.1 h).1];exact h
theorem xM (F:α->Nat->α) (lt:Nat->Nat) (y:α×List Nat) (E:List (α×List Nat)) {i:Nat} {x:α×List Nat} (h:E[i]? =some x):∀ k,(ib F lt y E k)[i]? =some x
 | 0=>h
 | k+1=>xL _ _ _ (xM F lt y E h k)
theorem AA {F:α->Nat->α} {lt:Nat->Nat} {K:Nat} {p0:α} {n i:Nat} {x:α×List Nat} (h:(cY F lt K p0 n)[i]? =some x):∀ k,(cY F lt K p0 (n+k))[i]? =some x
 | 0=>h
 | k+1=>by
  have ih:=AA h k;rw[<-Nat.add_assoc,cY];split
  ·exact ih
  ·exact xM _ _ _ _ ih _
structure Lets (lt κ:Nat->Nat) (K:Nat):Prop where
 cls:∀ c,c<256->κ c<K/\lt (κ c)<=c
 back:∀ k,k<K->lt k<256/\κ (lt k)=k
 mono:∀ k,k+1<K->lt k<lt (k+1)
def TA (F:α->Nat->α) (κ:Nat->Nat) (p:α) (w:List Nat):α:=w.foldl (fun p c=>F p (κ c)) p
omit [DecidableEq α]in
theorem xN (F:α->Nat->α) (κ:Nat->Nat) (p:α) (w:List Nat) (c:Nat):TA F κ p (w++ [c])=F (TA F κ p w) (κ c):=by unfold TA;rw[List.foldl_append];rfl
def Zr (lt:Nat->Nat):Nat->Nat
 | 0=>1
 | k+1=>lt k+2
structure KZ (F:α->Nat->α) (lt κ:Nat->Nat) (K:Nat) (p0:α) (E:List (α×List Nat)) (n:Nat):Prop where
 head:E[0]? =some (p0,[])
 ok:∀ x∈E,TA F κ p0 x.2=x.1/\∀ c∈x.2,c<256
 inc:∀ (i j:Nat) (x y:α×List Nat),i<j->E[i]? =some x->E[j]? =some y->jC x.2<jC y.2
 closed:∀ (i:Nat) (x:α×List Nat),i<n->E[i]? =some x->∀ k,k<K->∃ y∈E,y.1=F x.1 k/\jC y.2<=jC x.2*257+lt k+1
structure uz (F:α->Nat->α) (lt κ:Nat->Nat) (K:Nat) (p0:α) (E:List (α×List Nat)) (n k:Nat) (x:α×List Nat):Prop extends KZ F lt κ K p0 E n where
 at':E[n]? =some x
 bound:∀ y∈E,jC y.2<jC x.2*257+Zr lt k
 did:∀ j,j<k->∃ y∈E,y.1=F x.1 j/\jC y.2<=jC x.2*257+lt j+1
theorem uz.step {F:α->Nat->α} {lt κ:Nat->Nat} {K:Nat} {p0:α} (hL:Lets lt κ K) {E:List (α×List Nat)} {n k:Nat} {x:α×List Nat} (h:uz F lt κ K p0 E n k x) (hk:k<K):uz F lt κ K p0 (nR E (F x.1 k) (x.2++ [lt k])) n (k+1) x:=by
 have hb:Zr lt k<=lt k+1:=by
  cases k with
  | zero=>exact Nat.le_add_left _ _
  | succ k=>have:=hL.mono k hk;show lt k+2<=_;omega
 have hx:=h.ok x (aw h.at');have Zs:∀ y∈E,y∈nR E (F x.1 k) (x.2++ [lt k]):=fun y hy=>by
  unfold nR;split
  ·exact hy
  ·exact List.mem_append_left _ hy
 have Fz:∀ y∈nR E (F x.1 k) (x.2++ [lt k]),y∈E\/y=(F x.1 k,x.2++ [lt k]):=fun y hy=>by
  unfold nR at hy;split at hy
  ·exact .inl hy
  ·rcases List.mem_append.1 hy with hy | hy
   ·exact .inl hy
   ·exact .inr (List.mem_singleton.1 hy)
 have mJ:∀ i y,(nR E (F x.1 k) (x.2++ [lt k]))[i]? =some y->E[i]? =some y\/(i=E.length/\y=(F x.1 k,x.2++ [lt k])):=fun i y hy=>by
  unfold nR at hy;split at hy
  ·exact .inl hy
  ·by_cases hi:i<E.length
   ·rw[bJ hi]at hy;exact .inl hy
   ·rw[cH (by omega)]at hy
    have h0:=(List.getElem?_eq_some_iff.1 hy).1;rw[List.length_singleton]at h0;rw[show i-E.length=0 by omega]at hy;cases hy;exact .inr ⟨by omega,rfl⟩
 refine⟨⟨xL _ _ _ h.head,?_,?_,?_⟩,xL _ _ _ h.at',?_,?_⟩
 ·intro y hy
  rcases Fz y hy with hy | rfl
  ·exact h.ok y hy
  ·refine⟨?_,fun c hc=>?_⟩
   ·show TA F κ p0 (x.2++ [lt k])=F x.1 k
    rw[xN,hx.1,(hL.back k hk).2]
   ·rcases List.mem_append.1 hc with hc | hc
    ·exact hx.2 c hc
    ·rw[List.mem_singleton.1 hc];exact(hL.back k hk).1
 ·intro i j y z mz hy hz
  rcases mJ i y hy with hy' | ⟨rfl,rfl⟩
  ·rcases mJ j z hz with hz' | ⟨rfl,rfl⟩
   ·exact h.inc i j y z mz hy' hz'
   ·show _<jC (x.2++ [lt k])
    have:=h.bound y (aw hy');rw[gy];omega
  ·rcases mJ j z hz with hz' | ⟨rfl,rfl⟩
   ·have:=(List.getElem?_eq_some_iff.1 hz').1;omega
   ·omega
 ·intro i y hi hy j hj
  rcases mJ i y hy with hy' | ⟨rfl,rfl⟩
  ·obtain⟨z,hz,e⟩:=h.closed i y hi hy' j hj
   exact⟨z,Zs z hz,e⟩
  ·have:=(List.getElem?_eq_some_iff.1 h.at').1;omega
 ·intro y hy
  show _<_+(lt k+2);rcases Fz y hy with hy | rfl
  ·have:=h.bound y hy;omega
  ·show jC (x.2++ [lt k])<_
   rw[gy];omega
 ·intro j hj
  by_cases e:j=k
  ·subst e
   by_cases hm:F x.1 j∈E.map Prod.fst
   ·obtain⟨y,hy,e⟩:=List.mem_map.1 hm
    have:=h.bound y hy;exact⟨y,Zs y hy,e,by omega⟩
   ·refine⟨(F x.1 j,x.2++ [lt j]),?_,rfl,?_⟩
    ·unfold nR;rw[if_neg hm];exact List.mem_append_right _ (List.mem_singleton.2 rfl)
    ·show jC (x.2++ [lt j])<=_
     rw[gy];exact aD _
  ·obtain⟨y,hy,e⟩:=h.did j (by omega)
   exact⟨y,Zs y hy,e⟩
theorem uz.all {F:α->Nat->α} {lt κ:Nat->Nat} {K:Nat} {p0:α} (hL:Lets lt κ K) {E:List (α×List Nat)} {n:Nat} {x:α×List Nat} (h:uz F lt κ K p0 E n 0 x):∀ k,k<=K->uz F lt κ K p0 (ib F lt x E k) n k x
 | 0,_=>h
 | k+1,hk=>(uz.all hL h k (by omega)).step hL (by omega)
theorem oL {F:α->Nat->α} {lt κ:Nat->Nat} {K:Nat} {p0:α} (hL:Lets lt κ K):∀ n,KZ F lt κ K p0 (cY F lt K p0 n) n/\∀ x,(cY F lt K p0 n)[n]? =some x->uz F lt κ K p0 (cY F lt K p0 n) n 0 x
 | 0=>by
  have g:KZ F lt κ K p0 (cY F lt K p0 0) 0:=by
   refine⟨rfl,fun x hx=>?_,fun i j x y mz hx hy=>?_,fun i x hi=>by omega⟩
   ·rw[List.mem_singleton.1 hx];exact⟨rfl,fun c hc=>by cases hc⟩
   ·have:=(List.getElem?_eq_some_iff.1 hy).1
    rw[cY,List.length_singleton]at this;omega
  refine⟨g,fun x hx=>⟨g,hx,fun y hy=>?_,fun j hj=>by omega⟩⟩;rw[List.mem_singleton.1 hy];show 0<_+1;omega
 | n+1=>by
  obtain⟨g,hr⟩:=oL hL (F:=F) (p0:=p0) n;rw[cY];split
  ·rename_i hn
   have hlen:=List.getElem?_eq_none_iff.1 hn;refine⟨⟨g.head,g.ok,g.inc,fun i x hi hx k hk=>?_⟩,fun x hx=>?_⟩
   ·have:=(List.getElem?_eq_some_iff.1 hx).1
    exact g.closed i x (by omega) hx k hk
   ·have:=(List.getElem?_eq_some_iff.1 hx).1;omega
  ·rename_i x hx
   have R:=(hr x hx).all hL K (aD _);have g':KZ F lt κ K p0 (ib F lt x (cY F lt K p0 n) K) (n+1):=by
    refine⟨R.head,R.ok,R.inc,fun i y hi hy k hk=>?_⟩;by_cases e:i=n
    ·subst e
     have:y=x:=Option.some.inj (hy.symm.trans R.at');subst this;exact R.did k hk
    ·exact R.closed i y (by omega) hy k hk
   refine⟨g',fun z hz=>⟨g',hz,fun y hy=>?_,fun j hj=>by omega⟩⟩;have h1:=R.bound y hy;have h2:=R.inc n (n+1) x z (by omega) R.at' hz;have h3:Zr lt K<=257:=by
    cases K with
    | zero=>exact(by decide:1<=257)
    | succ K=>have:=(hL.back K (by omega)).1;show lt K+2<=_;omega
   show _<_+1;omega
theorem xO {F:α->Nat->α} {lt κ:Nat->Nat} {K:Nat} {p0:α} (hL:Lets lt κ K) {n:Nat} :∀ (m:Nat) (w:List Nat),w.length=m->(∀ c∈w,c<256)->(∃ i x,i<n/\(cY F lt K p0 n)[i]? =some x/\x.1=TA F κ p0 w/\jC x.2<=jC w)\/∃ x,(cY F lt K p0 n)[n]? =some x/\jC x.2<=jC w
 | 0,w,hw,_=>by
  obtain rfl:=List.length_eq_zero_iff.1 hw;have g:=(oL hL (F:=F) (p0:=p0) n).1;by_cases h0:0<n
  ·exact .inl ⟨0,_,h0,g.head,rfl,aD _⟩
  ·obtain rfl:n=0:=by omega
   exact .inr ⟨_,g.head,aD _⟩
 | m+1,w,hw,hb=>by
  rcases oK w with rfl | ⟨u,c,rfl⟩
  ·cases hw
  rw[aG,List.length_singleton]at hw;have hc:=hb c (List.mem_append_right _ (List.mem_singleton.2 rfl));have g:=(oL hL (F:=F) (p0:=p0) n).1;rw[gy,xN];rcases xO hL m u (by omega) (fun x hx=>hb x (List.mem_append_left _ hx))with⟨i,x,hi,hx,e,hv⟩ | ⟨x,hx,hv⟩
  ·obtain⟨y,hy,e1,e2⟩:=g.closed i x hi hx (κ c) (hL.cls c hc).1
   have hl:=(hL.cls c hc).2;obtain⟨j,hj⟩:=List.getElem?_of_mem hy;by_cases hjn:j<n
   ·exact .inl ⟨j,y,hjn,hj,by rw[e1,e],by omega⟩
   ·have Dt:=(List.getElem?_eq_some_iff.1 hj).1
    have hz:=az (l:=cY F lt K p0 n) (i:=n) (by omega);refine .inr ⟨_,hz,?_⟩;by_cases ahq:j=n
    ·subst ahq
     rw[hj]at hz;rw[<-Option.some.inj hz];omega
    ·have:=g.inc n j _ y (by omega) hz hj
     omega
  ·exact .inr ⟨x,hx,by omega⟩
theorem Jn {F:α->Nat->α} {lt κ:Nat->Nat} {K:Nat} {p0:α} (hL:Lets lt κ K) {bad:α->Bool} {n:Nat} (hno:∀ i x,i<n->(cY F lt K p0 n)[i]? =some x->bad x.1=false) {x:α×List Nat} (hx:(cY F lt K p0 n)[n]? =some x) (hb:bad x.1=true):th (fun w=>bad (TA F κ p0 w)) x.2:=by
 have g:=(oL hL (F:=F) (p0:=p0) n).1;have ho:=g.ok x (aw hx);refine Nx (by rw[ho.1];exact hb) ho.2 fun w hw hp=>?_
 rcases xO hL (F:=F) (p0:=p0) (n:=n) _ w rfl hw with⟨i,y,hi,hy,e,_⟩ | ⟨y,hy,hv⟩
 ·have:=hno i y hi hy
  rw[e]at this;have hp':bad (TA F κ p0 w)=true:=hp;rw[this]at hp';cases hp'
 ·rw[hx]at hy
  cases hy
  exact hv
theorem Ny {F:α->Nat->α} {lt κ:Nat->Nat} {K:Nat} {p0:α} (hL:Lets lt κ K) {bad:α->Bool} {n:Nat} (hno:∀ i x,i<n->(cY F lt K p0 n)[i]? =some x->bad x.1=false) (hn:(cY F lt K p0 n)[n]? =none) {w:List Nat} (hw:∀ c∈w,c<256):bad (TA F κ p0 w)=false:=by
 rcases xO hL (F:=F) (p0:=p0) (n:=n) _ w rfl hw with⟨i,y,hi,hy,e,_⟩ | ⟨y,hy,hv⟩
 ·rw[<-e];exact hno i y hi hy
 ·rw[hn]at hy;cases hy
end
set_option maxRecDepth 100000
def ahs (L:List BS):DF:=⟨partsOf L,[List.replicate (partsOf L).length 0],[[]]⟩
theorem CY (L:List BS):Rt (ahs L) where
 pos:=aD _
 le:=by show 1<=4000;omega
 mr:=rfl
 cl:=mD L
 len:=fun s hs=>by
  obtain rfl:s=0:=Nat.lt_one_iff.1 hs;exact List.length_replicate
 je:=fun s hs t ht=>by
  obtain rfl:s=0:=Nat.lt_one_iff.1 hs;have:=List.eq_of_mem_replicate (show t∈List.replicate (partsOf L).length 0 from ht);subst this;exact⟨Int.le_refl _,by show(0:Int)<((1:Nat):Int);decide⟩
 Tm:=fun s hs=>by
  obtain rfl:s=0:=Nat.lt_one_iff.1 hs;rfl
theorem qs (L:List BS):Lets (lb (partsOf L)) (cls (partsOf L)) (partsOf L).length where
 cls:=fun c hc=>by
  have h1:=(bS.jK L).cZ hc;exact⟨h1,(gU (CY L) (k:=cls (partsOf L) c) h1).2.2 c hc rfl⟩
 back:=fun k hk=>⟨(gU (CY L) (k:=k) hk).1,(gU (CY L) (k:=k) hk).2.1⟩
 mono:=fun k hk=>Bp (CY L) (Nat.lt_succ_self k) hk
theorem C0 {a b:DF} (ha:Rt a) (hb:Rt b) (p:Nat×Nat):∀ (m:Nat) (w:List Nat),w.length=m->(∀ c∈w,c<256)->TA (rj a b) (cls (partsOf (a.cl++b.cl))) p w=(bU a p.1 w,bU b p.2 w)
 | 0,w,hw,_=>by
  obtain rfl:=List.length_eq_zero_iff.1 hw;rfl
 | m+1,w,hw,hc=>by
  rcases oK w with rfl | ⟨u,c,rfl⟩
  ·cases hw
  rw[aG,List.length_singleton]at hw;have hcc:=hc c (List.mem_append_right _ (List.mem_singleton.2 rfl));have hL:=qs (a.cl++b.cl);have h1:=hL.cls c hcc;have h2:=hL.back _ h1.1;rw[xN,C0 ha hb p m u (by omega) (fun x hx=>hc x (List.mem_append_left _ hx)),iH,iH];unfold rj;rw[FX ha (L:=a.cl++b.cl) (fun s hs=>List.mem_append_left _ hs) h2.1 hcc h2.2,FX hb (L:=a.cl++b.cl) (fun s hs=>List.mem_append_right _ hs) h2.1 hcc h2.2]
def uW (a b:DF) (p:Nat×Nat):Bool:=decide (a.mr.getD p.1 []≠b.mr.getD p.2 [])
def cd (a b:DF) (p:Nat×Nat):Nat->List ((Nat×Nat)×List Nat):=cY (rj a b) (lb (partsOf (a.cl++b.cl))) (partsOf (a.cl++b.cl)).length p
def ic (a b:DF) (p:Nat×Nat):Nat->Nat->Option (List Nat)
 | 0,_=>none
 | f+1,i=>match(cd a b p i)[i]? with
  | none=>none
  | some x=>if uW a b x.1 then some x.2 else ic a b p f (i+1)
def ee (a b:DF) (p:Nat×Nat):Option (List Nat):=ic a b p (a.nx.length*b.nx.length+1) 0
section
variable {α:Type} [DecidableEq α]
theorem C7 {F:α->Nat->α} {lt:Nat->Nat} {P:α->Prop} {x:α×List Nat} {E:List (α×List Nat)} (hn:(E.map Prod.fst).Nodup) (ha:∀ y∈E,P y.1):∀ k,(∀ j,j<k->P (F x.1 j))->((ib F lt x E k).map Prod.fst).Nodup/\∀ y∈ib F lt x E k,P y.1
 | 0,_=>⟨hn,ha⟩
 | k+1,hF=>by
  obtain⟨h1,h2⟩:=C7 (lt:=lt) (x:=x) hn ha k fun j hj=>hF j (by omega)
  rw[ib];unfold nR;split
  ·exact⟨h1,h2⟩
  ·rename_i hm
   refine⟨?_,fun y hy=>?_⟩
   ·rw[List.map_append,List.nodup_append]
    refine⟨h1,by simp,fun y hy z hz e=>hm ?_⟩;simp at hz;subst hz;rw[<-e];exact hy
   ·rcases List.mem_append.1 hy with hy | hy
    ·exact h2 y hy
    ·rw[List.mem_singleton.1 hy];exact hF k (by omega)
theorem F7 {F:α->Nat->α} {lt:Nat->Nat} {K:Nat} {p0:α} {P:α->Prop} (h0:P p0) (hF:∀ p k,P p->k<K->P (F p k)):∀ n,((cY F lt K p0 n).map Prod.fst).Nodup/\∀ y∈cY F lt K p0 n,P y.1
 | 0=>⟨by simp[cY],fun y hy=>by rw[List.mem_singleton.1 hy];exact h0⟩
 | n+1=>by
  obtain⟨h1,h2⟩:=F7 (lt:=lt) h0 hF n;rw[cY];split
  ·exact⟨h1,h2⟩
  ·rename_i x hx
   exact C7 h1 h2 K fun j hj=>hF _ j (h2 x (aw hx)) hj
end
theorem F8 {a b:DF} (ha:Rt a) (hb:Rt b) {p:Nat×Nat} (hp:fU a b p) (n:Nat):((cd a b p n).map Prod.fst).Nodup/\∀ y∈cd a b p n,fU a b y.1:=F7 hp (fun q k hq hk=>vU ha hb q k hq hk) n
theorem AB {a b:DF} (ha:Rt a) (hb:Rt b) {p:Nat×Nat} (hp:fU a b p) (n:Nat):(cd a b p n).length<=a.nx.length*b.nx.length:=by
 obtain⟨h1,h2⟩:=F8 ha hb hp n;have:=Sh _ h1 fun q hq=>by
  obtain⟨y,hy,rfl⟩:=List.mem_map.1 hq;exact h2 y hy
 rwa[aQ]at this
theorem xP {a b:DF} {p:Nat×Nat} :∀ (f i:Nat) {w:List Nat},ic a b p f i=some w->∃ n x,i<=n/\(∀ j y,i<=j->j<n->(cd a b p j)[j]? =some y->uW a b y.1=false)/\(cd a b p n)[n]? =some x/\uW a b x.1=true/\x.2=w
 | 0,i,w,h=>by cases h
 | f+1,i,w,h=>by
  rw[ic]at h;split at h
  ·cases h
  ·rename_i x hx
   split at h
   ·rename_i hb
    cases h
    exact⟨i,x,aD _,fun j y h1 h2=>by omega,hx,hb,rfl⟩
   ·rename_i hb
    obtain⟨n,z,h1,h2,h3,h4,h5⟩:=xP f (i+1) h;refine⟨n,z,by omega,fun j y hj hn hy=>?_,h3,h4,h5⟩;by_cases e:j=i
    ·subst e
     rw[hx]at hy;cases hy;exact Bool.eq_false_iff.2 hb
    ·exact h2 j y (by omega) hn hy
theorem xQ {a b:DF} {p:Nat×Nat} :∀ (f i:Nat),(∀ n,(cd a b p n).length<i+f)->ic a b p f i=none->∃ n,i<=n/\(∀ j y,i<=j->j<n->(cd a b p j)[j]? =some y->uW a b y.1=false)/\(cd a b p n)[n]? =none
 | 0,i,hl,_=>⟨i,aD _,fun j y h1 h2=>by omega,List.getElem?_eq_none_iff.2 (by have:=hl i;omega)⟩
 | f+1,i,hl,h=>by
  rw[ic]at h;split at h
  ·rename_i hx
   exact⟨i,aD _,fun j y h1 h2=>by omega,hx⟩
  ·rename_i x hx
   split at h
   ·cases h
   ·rename_i hb
    obtain⟨n,h1,h2,h3⟩:=xQ f (i+1) (fun n=>by have:=hl n;omega) h;refine⟨n,by omega,fun j y hj hn hy=>?_,h3⟩;by_cases e:j=i
    ·subst e
     rw[hx]at hy;cases hy;exact Bool.eq_false_iff.2 hb
    ·exact h2 j y (by omega) hn hy
theorem Si {a b:DF} {p:Nat×Nat} {n j:Nat} {y:(Nat×Nat)×List Nat} (hj:j<n) (h:(cd a b p n)[j]? =some y) (hs:(cd a b p j)[j]? ≠none):(cd a b p j)[j]? =some y:=by obtain⟨z,hz⟩:=Option.ne_none_iff_exists'.1 hs;have:=AA hz (n-j);rw[show j+(n-j)=n by omega]at this;exact hz.trans (this.symm.trans h)
theorem xR {a b:DF} {p:Nat×Nat} {n j:Nat} {y:(Nat×Nat)×List Nat} (hj:j<n) (h:(cd a b p n)[j]? =some y):(cd a b p j)[j]? =some y:=by
 refine Si hj h fun hn=>?_
 have stop:∀ k,cd a b p (j+k)=cd a b p j:=fun k=>by
  induction k with
  | zero=>rfl
  | succ k ih=>
   have hlen:=List.getElem?_eq_none_iff.1 hn;have:(cd a b p (j+k))[j+k]? =none:=by rw[ih];exact List.getElem?_eq_none_iff.2 (by omega)
   rw[<-ih];unfold cd at this ⊢;rw[<-Nat.add_assoc,cY,this]
 have:=stop (n-j);rw[show j+(n-j)=n by omega]at this;rw[this,hn]at h;cases h
theorem uA {a b:DF} (ha:Rt a) (hb:Rt b) {p:Nat×Nat} {w:List Nat} (h:ee a b p=some w):th (fun w=>uW a b (bU a p.1 w,bU b p.2 w)) w:=by obtain⟨n,x,_,h2,h3,h4,rfl⟩:=xP _ _ h;have:=Jn (qs (a.cl++b.cl)) (fun j y hj hy=>h2 j y (Nat.zero_le _) hj (xR hj hy)) h3 h4;exact this.congr fun w hw=>by rw[C0 ha hb p _ w rfl hw]
theorem Ga {a b:DF} (ha:Rt a) (hb:Rt b) {p:Nat×Nat} (hp:fU a b p) (h:ee a b p=none) {w:List Nat} (hw:∀ c∈w,c<256):a.mr.getD (bU a p.1 w) []=b.mr.getD (bU b p.2 w) []:=by obtain⟨n,_,h2,h3⟩:=xQ _ _ (fun n=>by have:=AB ha hb hp n;omega) h;have:=Ny (qs (a.cl++b.cl)) (fun j y hj hy=>h2 j y (Nat.zero_le _) hj (xR hj hy)) h3 hw;rw[C0 ha hb p _ w rfl hw]at this;exact Decidable.not_not.1 (of_decide_eq_false this)
theorem Jo {d:DF} (h:Rt d) {s t:Nat} (hs:s<d.nx.length) (ht:t<d.nx.length):ee d d (s,t)=none↔xI d s t:=by
 refine⟨fun hn w hw=>Ga h h ⟨hs,ht⟩ hn hw,fun ha=>?_⟩;cases e:ee d d (s,t)with
 | none=>rfl
 | some w=>
  have f:=uA h h e;have:=of_decide_eq_true f.ok;exact absurd (ha w f.Um) this
theorem tj {d:DF} (h:Rt d):∀ (i:Nat) {s t:Nat},s<d.nx.length->t<d.nx.length->bK d i s≠bK d i t->∃ w:List Nat,w.length<=i/\(∀ c∈w,c<256)/\d.mr.getD (bU d s w) []≠d.mr.getD (bU d t w) []
 | 0,s,t,hs,ht,e=>⟨[],aD _,(fun c hc=>by cases hc),fun hm=>e ((dK hs ht).2 hm)⟩
 | i+1,s,t,hs,ht,e=>by
  by_cases e0:bK d i s=bK d i t
  ·have hk:∃ k,k<d.cl.length/\bK d i (dL d s k)≠bK d i (dL d t k):=by
    refine Classical.byContradiction fun hn=>e ?_
    rw[xF];refine(dK hs ht).2 ?_;unfold jh;rw[e0,kz h hs (bK d i),kz h ht (bK d i)];congr 1;refine List.map_congr_left fun k hk=>?_
    exact Classical.byContradiction fun hne=>hn ⟨k,List.mem_range.1 hk,hne⟩
   obtain⟨k,hk,hne⟩:=hk;obtain⟨w,h1,h2,h3⟩:=tj h i (h.fH hs hk) (h.fH ht hk) hne;have hl:=gU h hk;refine⟨lb d.cl k::w,by rw[List.length_cons];omega,fun c hc=>?_,?_⟩
   ·rcases List.mem_cons.1 hc with rfl | hc
    ·exact hl.1
    ·exact h2 c hc
   ·have e1:∀ x,bU d x (lb d.cl k::w)=bU d (dL d x k) w:=fun x=>by
     unfold bU;rw[List.foldl_cons,hl.2.1]
    rw[e1,e1];exact h3
  ·obtain⟨w,h1,h2,h3⟩:=tj h i hs ht e0
   exact⟨w,by omega,h2,h3⟩
theorem Jp {d:DF} (h:Rt d) {s t:Nat} (hs:s<d.nx.length) (ht:t<d.nx.length) {w:List Nat} (e:ee d d (s,t)=some w):w.length<=d.nx.length:=by
 obtain⟨i,hi,hend,_⟩:=xH d;have f:=uA h h e;have hne:bK d i s≠bK d i t:=fun hb=>absurd ((Ay h hend hs ht).1 hb w f.Um) (of_decide_eq_true f.ok)
 obtain⟨u,h1,h2,h3⟩:=tj h i hs ht hne;have:=f.short u h2 (decide_eq_true h3);omega
set_option maxRecDepth 100000
def cV (p:Nat->Nat):Nat->List Nat
 | 0=>[]
 | k+1=>if p k<(cV p k).length then cV p k else cV p k++ [k]
theorem rZ {p:Nat->Nat} :∀ {n:Nat},Nv p n->(cV p n).length=eC p n
 | 0,_=>rfl
 | n+1,h=>by
  have ih:=rZ (p:=p) (n:=n) fun s hs=>h s (by omega)
  have hn:=h n (by omega);rw[cV,eC];split
  ·omega
  ·rw[aG,List.length_singleton];omega
theorem C9 {p:Nat->Nat} :∀ {n:Nat},Nv p n->∀ b,b<eC p n->∃ k,(cV p n)[b]? =some k/\k<n/\p k=b/\∀ j,j<n->p j=b->k<=j
 | 0,_,b,hb=>by cases hb
 | n+1,h,b,hb=>by
  have hN:Nv p n:=fun s hs=>h s (by omega)
  have hl:=rZ hN;have hn:=h n (by omega);rw[eC]at hb;by_cases Qf:b<eC p n
  ·obtain⟨k,e,hk,hp,hm⟩:=C9 hN b Qf
   have WG:∀ j,j<n+1->p j=b->k<=j:=fun j hj hjb=>by
    by_cases e:j=n
    ·omega
    ·exact hm j (by omega) hjb
   rw[cV];split
   ·exact⟨k,e,by omega,hp,WG⟩
   ·exact⟨k,by rw[bJ (by omega)];exact e,by omega,hp,WG⟩
  ·rw[cV,if_neg (by omega)]
   refine⟨n,?_,by omega,by omega,fun j hj hjb=>?_⟩
   ·rw[cH (by omega),show b-(cV p n).length=0 by omega];rfl
   ·by_cases e:j=n
    ·omega
    ·have:=iR (p:=p) (show j<n by omega);omega
theorem xS {p:Nat->Nat} :∀ {n:Nat},∀ (i j x y:Nat),i<j->(cV p n)[i]? =some x->(cV p n)[j]? =some y->x<y
 | 0,i,j,x,y,_,hx,_=>by cases hx
 | n+1,i,j,x,y,mz,hx,hy=>by
  rw[cV]at hx hy;split at hx
  ·rename_i hp
   rw[if_pos hp]at hy;exact xS i j x y mz hx hy
  ·rename_i hp
   rw[if_neg hp]at hy;have lt:∀ m,∀ z∈cV p m,z<m:=fun m=>by
    induction m with
    | zero=>intro z hz;cases hz
    | succ m ih=>
     intro z hz;rw[cV]at hz;split at hz
     ·have:=ih z hz;omega
     ·rcases List.mem_append.1 hz with hz | hz
      ·have:=ih z hz;omega
      ·rw[List.mem_singleton.1 hz];omega
   by_cases hj:j<(cV p n).length
   ·rw[bJ hj]at hy
    rw[bJ (by omega)]at hx;exact xS i j x y mz hx hy
   ·have h0:=(List.getElem?_eq_some_iff.1 hy).1
    rw[aG,List.length_singleton]at h0;rw[cH (by omega),show j-(cV p n).length=0 by omega]at hy;cases hy;rw[bJ (by omega)]at hx;exact lt n x (aw hx)
def tk (cl:List BS) (p:Nat->Nat) (b:Nat):Nat->BS
 | 0=>0
 | k+1=>if p k=b then tk cl p b k ||| cl.getD k 0 else tk cl p b k
theorem K1 {cl:List BS} {p:Nat->Nat} {b c:Nat} :∀ n,(tk cl p b n).getLsbD c=true↔ ∃ k,k<n/\p k=b/\(cl.getD k 0).getLsbD c=true
 | 0=>⟨fun h=>by simp[tk]at h,fun ⟨k,h,_⟩=>by omega⟩
 | n+1=>by
  have ih:=K1 (cl:=cl) (p:=p) (b:=b) (c:=c) n;rw[tk];split
  ·rename_i hp
   rw[BitVec.getLsbD_or,Bool.or_eq_true,ih];constructor
   ·rintro(⟨k,h1,h2,h3⟩ | h)
    ·exact⟨k,by omega,h2,h3⟩
    ·exact⟨n,by omega,hp,h⟩
   ·rintro⟨k,h1,h2,h3⟩
    by_cases e:k=n
    ·subst e;exact .inr h3
    ·exact .inl ⟨k,by omega,h2,h3⟩
  ·rename_i hp
   rw[ih];constructor
   ·rintro⟨k,h1,h2,h3⟩
    exact⟨k,by omega,h2,h3⟩
   ·rintro⟨k,h1,h2,h3⟩
    by_cases e:k=n
    ·subst e;exact absurd h2 hp
    ·exact⟨k,by omega,h2,h3⟩
def xT (d:DF) (k:Nat):List Nat:=(List.range d.nx.length).map fun s=>dL d s k
def cg (d:DF):Nat->Nat:=dF (xT d) d.cl.length
def ie (d:DF):DF:=⟨(List.range (eC (cg d) d.cl.length)).map fun b=>tk d.cl (cg d) b d.cl.length,d.nx.map fun row=>(cV (cg d) d.cl.length).map fun k=>row.getD k 0,d.mr⟩
theorem kA (d:DF):Nv (cg d) d.cl.length:=CX _ _
theorem La {d:DF} {k j:Nat} (hk:k<d.cl.length) (hj:j<d.cl.length):cg d k=cg d j↔ ∀ s,s<d.nx.length->dL d s k=dL d s j:=by unfold cg;rw[dK hk hj];unfold xT;exact⟨fun h s hs=>List.map_inj_left.1 h s (List.mem_range.2 hs),fun h=>List.map_congr_left fun s hs=>h s (List.mem_range.1 hs)⟩
theorem Jq {d:DF} {b:Nat} (hb:b<eC (cg d) d.cl.length):(ie d).cl[b]? =some (tk d.cl (cg d) b d.cl.length):=by show((List.range _).map _)[b]? =_;rw[aO,List.getElem?_range hb];rfl
theorem r8 (d:DF):(ie d).cl.length=eC (cg d) d.cl.length:=by show((List.range _).map _).length=_;rw[aQ,List.length_range]
theorem kB {d:DF} (h:Rt d) {b c:Nat} (hc:c<256):(tk d.cl (cg d) b d.cl.length).getLsbD c=true↔cg d (cls d.cl c)=b:=by
 rw[K1];constructor
 ·rintro⟨k,hk,e,hb⟩
  rw[(h.part.iO hc).2 ⟨_,aV 0 hk,hb⟩];exact e
 ·intro e
  have hk:=h.part.cZ hc;refine⟨_,hk,e,?_⟩;obtain⟨q,hq,hb⟩:=(h.part.iO hc).1 rfl;rw[getD_some hq];exact hb
theorem Zt {q:BS} {c:Nat} (h:q.getLsbD c=true):c<256:=by
 refine Classical.byContradiction fun hn=>?_
 rw[BitVec.getLsbD_of_ge q c (by omega)]at h;cases h
theorem xU {d:DF} (h:Rt d):bS (ie d).cl (fun c e=>∀ s,s<d.nx.length->dL d s (cls d.cl c)=dL d s (cls d.cl e)):=by
 have get:∀ (b:Nat) (q:BS),(ie d).cl[b]? =some q->b<eC (cg d) d.cl.length/\q=tk d.cl (cg d) b d.cl.length:=fun b q hq=>by
  have hb:=(List.getElem?_eq_some_iff.1 hq).1;rw[r8]at hb;rw[Jq hb]at hq;exact⟨hb,(Option.some.inj hq).symm⟩
 have rep:∀ b,b<eC (cg d) d.cl.length->∃ k,(cV (cg d) d.cl.length)[b]? =some k/\k<d.cl.length/\cg d k=b/\(∀ j,j<d.cl.length->cg d j=b->k<=j)/\(tk d.cl (cg d) b d.cl.length).getLsbD (lb d.cl k)=true:=fun b hb=>by
  obtain⟨k,e,hk,hp,hm⟩:=C9 (kA d) b hb;have hl:=gU h hk;exact⟨k,e,hk,hp,hm,(kB h hl.1).2 (by rw[hl.2.1];exact hp)⟩
 have hne:∀ b,b<eC (cg d) d.cl.length->tk d.cl (cg d) b d.cl.length≠0:=fun b hb e=>by
  obtain⟨k,_,_,_,_,iU⟩:=rep b hb;rw[e]at iU;simp at iU
 have h0:0<eC (cg d) d.cl.length:=by have:=iR (p:=cg d) (show 0<d.cl.length from h.Pz);omega
 refine⟨?_,?_,?_,?_,?_,?_⟩
 ·refine Bool.eq_false_iff.2 fun e=>?_
  have e':=List.isEmpty_iff.1 e;have:=r8 d;rw[e',List.length_nil]at this;omega
 ·rw[List.pairwise_iff_getElem]
  intro i j hi hj mz c hc;have g1:=get i _ (az hi);have g2:=get j _ (az hj);rw[g1.2,g2.2]at hc;have hc':=Zt hc.1;have e1:=(kB h hc').1 hc.1;have e2:=(kB h hc').1 hc.2;omega
 ·intro q hq
  obtain⟨b,hb⟩:=List.getElem?_of_mem hq;have g:=get b q hb;rw[g.2];exact hne b g.1
 ·intro c hc
  have hk:=h.part.cZ hc;have hb:=iR (p:=cg d) hk;exact⟨_,_,Jq hb,(kB h hc).2 rfl⟩
 ·intro q hq c e hc he hb
  obtain⟨b,hq'⟩:=List.getElem?_of_mem hq;have g:=get b q hq';rw[g.2]at hb ⊢;rw[kB h he, <- (kB h hc).1 hb];rw[eq_comm,La (h.part.cZ hc) (h.part.cZ he)]
 ·intro i j x y hx hy mz
  have g1:=get i x hx;have g2:=get j y hy;obtain⟨k,e1,hk,hp,hm,iU⟩:=rep i g1.1;obtain⟨k',e1',tD,hp',WG,_⟩:=rep j g2.1;have f1:=eo (hne i g1.1);have f2:=eo (hne j g2.1);rw[g1.2,g2.2];have a1:(aS (tk d.cl (cg d) i d.cl.length)).1<=lb d.cl k:=Nat.le_of_not_lt fun hlt=>by
   have:=f1.2.2.2 _ hlt;rw[this]at iU;cases iU
  have c2:=(kB h f2.2.1).1 f2.2.2.1;have a2:=WG _ (h.part.cZ f2.2.1) c2;have a3:=(gU h (h.part.cZ f2.2.1)).2.2 _ f2.2.1 rfl;have a4:=Bp h (xS i j k k' mz e1 e1') tD;have a5:lb d.cl k'<=lb d.cl (cls d.cl (aS (tk d.cl (cg d) j d.cl.length)).1):=by
   by_cases e:k'=cls d.cl (aS (tk d.cl (cg d) j d.cl.length)).1
   ·rw[<-e];exact aD _
   ·exact Nat.le_of_lt (Bp h (by omega) (h.part.cZ f2.2.1))
  omega
theorem Nz {p:List BS} {R:Nat->Nat->Prop} (h:bS p R):partsOf p=p:=bS.uniq (bS.jK p) h fun _ _ hc hd=>h.zL hc hd
theorem Lb {d:DF} (h:Rt d) {c:Nat} (hc:c<256):cls (ie d).cl c=cg d (cls d.cl c):=((xU h).iO hc).2 ⟨_,Jq (iR (h.part.cZ hc)),(kB h hc).2 rfl⟩
theorem fk (d:DF):(ie d).nx.length=d.nx.length:=aQ _
theorem Da {d:DF} {s:Nat} (hs:s<d.nx.length):(ie d).nx.getD s []=(cV (cg d) d.cl.length).map fun k=>(d.nx.getD s []).getD k 0:=by refine getD_some ?_;show(d.nx.map _)[s]? =_;rw[aO,aV (l:=d.nx) [] hs];rfl
theorem Lc {d:DF} {s k:Nat} (hs:s<d.nx.length) (hk:k<d.cl.length):dL (ie d) s (cg d k)=dL d s k:=by obtain⟨j,e,hj,hp,_⟩:=C9 (kA d) (cg d k) (iR hk);have hc:=(La hj hk).1 hp s hs;rw[<-hc];unfold dL;rw[Da hs,getD_some (x:=(d.nx.getD s []).getD j 0) (by rw[aO,e];rfl)]
theorem Sj {d:DF} (h:Rt d):Rt (ie d) where
 pos:=by rw[fk];exact h.pos
 le:=by rw[fk];exact h.le
 mr:=by rw[fk];exact h.mr
 cl:=Nz (xU h)
 len:=fun s hs=>by
  rw[fk]at hs;rw[Da hs,aQ,rZ (kA d),r8]
 je:=fun s hs t ht=>by
  rw[fk]at hs ⊢;rw[Da hs]at ht;obtain⟨k,hk,rfl⟩:=List.mem_map.1 ht;obtain⟨b,hb⟩:=List.getElem?_of_mem hk;have hb':=(List.getElem?_eq_some_iff.1 hb).1;rw[rZ (kA d)]at hb';obtain⟨k',e,tD,_⟩:=C9 (kA d) b hb';rw[hb]at e;cases e;exact h.je s hs _ (aw (aV 0 (by rw[h.len s hs];exact tD)))
 Tm:=fun s hs=>by
  rw[fk]at hs;exact h.Tm s hs
theorem r9 {d:DF} (h:Rt d):∀ (w:List Nat) {s:Nat},s<d.nx.length->(∀ c∈w,c<256)->bU (ie d) s w=bU d s w
 | [],_,_,_=>rfl
 | c::w,s,hs,hw=>by
  have hc:=hw c aW;have hk:=h.part.cZ hc;have e:dL (ie d) s (cls (ie d).cl c)=dL d s (cls d.cl c):=by rw[Lb h hc,Lc hs hk]
  have:=r9 h w (h.fH hs hk) fun x hx=>hw x (bF _ hx)
  rw[<-e]at this;refine Eq.trans (this:bU (ie d) (dL (ie d) s (cls (ie d).cl c)) w=_) ?_;rw[e];rfl
structure xV (φ:Nat->Nat) (d d':DF):Prop where
 cl:d'.cl=d.cl
 zero:φ 0=0
 inj:∀ s t,s<d.nx.length->t<d.nx.length->φ s=φ t->s=t
 nx:∀ s,s<d.nx.length->rS d' (φ s)=(rS d s).map φ
 mr:∀ s,s<d.nx.length->d'.mr.getD (φ s) []=d.mr.getD s []
theorem Sk {φ:Nat->Nat} {N:Nat} (hi:∀ s t,s<N->t<N->φ s=φ t->s=t) {L:List Nat} (hL:∀ x∈L,x<N) {t:Nat} (ht:t<N):eF (L.map φ) (φ t)=(eF L t).map φ:=by
 unfold eF;have:φ t∈L.map φ↔t∈L:=by
  rw[List.mem_map];exact⟨fun ⟨x,hx,e⟩=>by rw[<-hi x t (hL x hx) ht e];exact hx,fun h=>⟨t,h,rfl⟩⟩
 simp only[this];split<;>simp
theorem fold_map {φ:Nat->Nat} {N:Nat} (hi:∀ s t,s<N->t<N->φ s=φ t->s=t):∀ (ts L:List Nat),(∀ x∈L,x<N)->(∀ x∈ts,x<N)->(ts.map φ).foldl eF (L.map φ)=(ts.foldl eF L).map φ
 | [],_,_,_=>rfl
 | t::ts,L,hL,ht=>by
  rw[List.map_cons,List.foldl_cons,List.foldl_cons,Sk hi hL (ht t (aW ..))];refine fold_map hi ts _ (fun x hx=>?_) fun x hx=>ht x (bF _ hx)
  unfold eF at hx;split at hx
  ·exact hL x hx
  ·rcases List.mem_append.1 hx with hx | hx
   ·exact hL x hx
   ·simp at hx;rw[hx];exact ht t (aW ..)
theorem xV.kf {φ:Nat->Nat} {d d':DF} (h:xV φ d d') (rt:Rt d):∀ n,kf d' n=(kf d n).map φ
 | 0=>by show [0]=[φ 0];rw[h.zero]
 | n+1=>by
  have ih:=xV.kf h rt n;have jY:=qi rt n;rw[Go.Proofs.YtjgccapbphadjaaGreatDoor.kf,Go.Proofs.YtjgccapbphadjaaGreatDoor.kf,ih,aO];rcases e:(Go.Proofs.YtjgccapbphadjaaGreatDoor.kf d n)[n]? with _ | s
  ·rfl
  ·have hs:=jY.lt s (aw e)
   show(rS d' (φ s)).foldl eF _=_;rw[h.nx s hs];exact fold_map h.inj _ _ jY.lt (Cz rt hs)
theorem xW {φ:Nat->Nat} {N:Nat} (hi:∀ s t,s<N->t<N->φ s=φ t->s=t) {t:Nat} (ht:t<N):∀ (L:List Nat),(∀ x∈L,x<N)->(L.map φ).idxOf (φ t)=L.idxOf t
 | [],_=>rfl
 | x::L,hL=>by
  rw[List.map_cons,List.idxOf_cons,List.idxOf_cons,xW hi ht L fun y hy=>hL y (bF _ hy)];have:(φ x==φ t)=(x==t):=by
   rw[Bool.eq_iff_iff,beq_iff_eq,beq_iff_eq];exact⟨fun e=>hi x t (hL x (aW ..)) ht e,fun e=>by rw[e]⟩
  rw[this]
theorem xV.trim {φ:Nat->Nat} {d d':DF} (h:xV φ d d') (rt:Rt d) (hN:d.nx.length<=d'.nx.length):aI d'=aI d:=by
 have hr:bD d'=(bD d).map φ:=by have h1:=h.kf rt d'.nx.length;have h2:=rT (d:=d) (n:=d.nx.length) (qi rt _).len (d'.nx.length-d.nx.length);rw[show d.nx.length+(d'.nx.length-d.nx.length)=d'.nx.length by omega]at h2;show Go.Proofs.YtjgccapbphadjaaGreatDoor.kf d' d'.nx.length=_;rw[h1,h2];rfl
 have hlt:=(dA rt).lt;unfold aI;rw[hr,h.cl];congr 1
 ·rw[List.map_map]
  refine List.map_congr_left fun s hs=>?_
  show qj d' (φ s)=qj d s;unfold qj;rw[h.nx s (hlt s hs),List.map_map];refine List.map_congr_left fun t ht=>?_
  show(((bD d').idxOf (φ t):Nat):Int)=_;rw[hr,xW h.inj (Cz rt (hlt s hs) t ht) _ hlt]
 ·rw[List.map_map]
  exact List.map_congr_left fun s hs=>h.mr s (hlt s hs)
theorem xV.run {φ:Nat->Nat} {d d':DF} (h:xV φ d d') (rt:Rt d) (b:List Nat) (hb:∀ c∈b,c<256):bU d' 0 b=φ (bU d 0 b):=by
 revert hb;refine Vf (P:=fun b=>(∀ c∈b,c<256)->bU d' 0 b=φ (bU d 0 b)) (fun _=>h.zero.symm) (fun b c ih hb=>?_) b;have hb':∀ x∈b,x<256:=fun x hx=>hb x (List.mem_append_left _ hx)
 have ih:=ih hb';have e:∀ d:DF,bU d 0 (b++ [c])=dL d (bU d 0 b) (cls d.cl c):=fun d=>by unfold bU;rw[List.foldl_append];rfl
 have e2:∀ (d:DF) (s k:Nat),k<(rS d s).length->dL d s k=(rS d s).getD k 0:=fun d s k hk=>by
  unfold dL;unfold rS at hk ⊢;rw[aQ]at hk;generalize d.nx.getD s []=r at hk ⊢;rw[bh,bh,aO,az hk];rfl
 have hs:=eN rt rt.pos b hb';have hk:cls d.cl c<(rS d (bU d 0 b)).length:=by rw[vo rt hs];exact rt.part.cZ (hb c (by simp))
 rw[e,e,ih,h.cl,e2 d' _ _ (by rw[h.nx _ hs,aQ];exact hk),e2 d _ _ hk,h.nx _ hs];rw[bh,bh,aO,az hk];rfl
theorem xV.marks {φ:Nat->Nat} {d d':DF} (h:xV φ d d') (rt:Rt d) (b:List Nat) (hb:∀ c∈b,c<256):d'.mr.getD (bU d' 0 b) []=d.mr.getD (bU d 0 b) []:=by rw[h.run rt b hb];exact h.mr _ (eN rt rt.pos b hb)
end Go.Proofs.YtjgccapbphadjaaGreatDoor
