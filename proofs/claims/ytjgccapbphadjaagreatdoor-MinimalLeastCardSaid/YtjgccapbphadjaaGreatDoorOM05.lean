/- Appends in drawn regions once more: what is appended is told by a property alone (a row that the region itself makes). -/
import Derived.Test.YtjgccapbphadjaaGreatDoorOM04
import Derived.Laws.EntriesVeiled
set_option maxRecDepth 100000
set_option maxHeartbeats 16000000
open Go.Lib (hid)
namespace Go.Proofs.YtjgccapbphadjaaGreatDoor
section
open Go Go.RowKit
structure DF where
 cl:List BS
 nx:List (List Int)
 mr:List (List Int)
def ny (l:List Int) (k:Nat):Int:=if k=0 then-1 else l.getD (k-1) 0
def tQ (l:List Int) (k:Nat):Bool:=decide (ny l k<l.getD k 0)&&decide (l.getD k 0<=255)
def rh (l:List Int):Bool:=(List.range l.length).all (tQ l)
def Tl (n:Nat) (t:Int):Bool:=decide (0<=t)&&decide (t<n)
def DF.jd (d:DF) (s:Nat):Bool:=decide ((d.nx.getD s []).length=d.cl.length)&&(d.nx.getD s []).all (Tl d.nx.length)&&rh (d.mr.getD s [])
def DF.right (d:DF):Bool:=decide (1<=d.nx.length)&&decide (d.nx.length<=4000)&&decide (d.mr.length=d.nx.length)&&(partsOf d.cl==d.cl)&&(List.range d.nx.length).all d.jd
structure Rt (d:DF):Prop where
 pos:1<=d.nx.length
 le:d.nx.length<=4000
 mr:d.mr.length=d.nx.length
 cl:partsOf d.cl=d.cl
 len:∀ s,s<d.nx.length->(d.nx.getD s []).length=d.cl.length
 je:∀ s,s<d.nx.length->∀ t∈d.nx.getD s [],0<=t/\t<d.nx.length
 Tm:∀ s,s<d.nx.length->rh (d.mr.getD s [])=true
theorem dH (d:DF):d.right=true↔Rt d:=by
 unfold DF.right DF.jd Tl;simp only[Bool.and_eq_true,decide_eq_true_eq,beq_iff_eq,List.all_eq_true,List.mem_range];constructor
 ·rintro⟨⟨⟨⟨h1,h2⟩,h3⟩,h4⟩,h5⟩
  exact⟨h1,h2,h3,h4,fun s hs=>(h5 s hs).1.1,fun s hs t ht=>(h5 s hs).1.2 t ht,fun s hs=>(h5 s hs).2⟩
 ·intro h
  exact⟨⟨⟨⟨h.pos,h.le⟩,h.mr⟩,h.cl⟩,fun s hs=>⟨⟨h.len s hs,h.je s hs⟩,h.Tm s hs⟩⟩
theorem Rt.part {d:DF} (h:Rt d):bS d.cl (Alike d.cl):=by have:=bS.jK d.cl;rwa[h.cl]at this
theorem Rt.Pz {d:DF} (h:Rt d):0<d.cl.length:=by have:=tP d.cl;rwa[h.cl]at this
theorem Rt.En {d:DF} (h:Rt d):d.cl.length<=256:=by
 have:(partsOf d.cl).length<=256:=by rw[(fA d.cl).length_eq];exact eu d.cl
 rwa[h.cl]at this
def dL (d:DF) (s k:Nat):Nat:=((d.nx.getD s []).getD k 0).toNat
def acc (d:DF) (s:Nat):Bool:= !(d.mr.getD s []).isEmpty
theorem getD_some {α:Type} {l:List α} {i:Nat} {x d:α} (h:l[i]? =some x):l.getD i d=x:=by rw[bh,h];rfl
theorem aV {α:Type} {l:List α} {i:Nat} (d:α) (h:i<l.length):l[i]? =some (l.getD i d):=by rw[bh,az h];rfl
theorem Rt.fH {d:DF} (h:Rt d) {s k:Nat} (hs:s<d.nx.length) (hk:k<d.cl.length):dL d s k<d.nx.length:=by have h1:=h.len s hs;have h2:=h.je s hs _ (aw (aV (l:=d.nx.getD s []) 0 (i:=k) (by omega)));unfold dL;omega
/-! The states of a product, found one by one. -/
section
variable {α:Type} [DecidableEq α]
def uO (fuel:Nat) (st:List α×List Nat) (q:α):Option (List α×List Nat):=
 if st.1.idxOf q=st.1.length then(if st.1.length=fuel then none else some (st.1++ [q],st.2++ [st.1.length]))else some (st.1,st.2++ [st.1.idxOf q])
def gS (fuel:Nat) (g:Nat->α) (todo:List α):Nat->Option (List α×List Nat)
 | 0=>some (todo,[])
 | k+1=>(gS fuel g todo k).bind fun st=>uO fuel st (g k)
def pR (fuel:Nat) (f:α->Nat->α) (K:Nat) (n:Nat) (st:List α×List (List Nat)):Option (List α×List (List Nat)):=
 match st.1[n]? with
 | none=>some st
 | some p=>(gS fuel (f p) st.1 K).map fun r=>(r.1,st.2++ [r.2])
def ju (fuel:Nat) (f:α->Nat->α) (K:Nat) (p0:α):Nat->Option (List α×List (List Nat))
 | 0=>some ([p0],[])
 | n+1=>(ju fuel f K p0 n).bind (pR fuel f K n)
theorem Hz {fuel:Nat} {g:Nat->α} {todo:List α} {k:Nat} (h:gS fuel g todo k=none):∀ j,k<=j->gS fuel g todo j=none:=by
 intro j hj;induction j with
 | zero=>rwa[show k=0 by omega]at h
 | succ j ih=>
  by_cases e:k=j+1
  ·rwa[<-e]
  ·rw[gS,ih (by omega)];rfl
theorem LZ {fuel:Nat} {f:α->Nat->α} {K:Nat} {p0:α} {n:Nat} (h:ju fuel f K p0 n=none):∀ j,n<=j->ju fuel f K p0 j=none:=by
 intro j hj;induction j with
 | zero=>rwa[show n=0 by omega]at h
 | succ j ih=>
  by_cases e:n=j+1
  ·rwa[<-e]
  ·rw[ju,ih (by omega)];rfl
theorem PC {fuel:Nat} {f:α->Nat->α} {K:Nat} {p0:α} {n:Nat} {st:List α×List (List Nat)} (h:ju fuel f K p0 n=some st) (hn:st.1.length<=n):∀ j,n<=j->ju fuel f K p0 j=some st:=by
 intro j hj;induction j with
 | zero=>rwa[show n=0 by omega]at h
 | succ j ih=>
  by_cases e:n=j+1
  ·rwa[<-e]
  ·rw[ju,ih (by omega)]
   show pR fuel f K j st=some st;unfold pR;rw[aX (by omega)]
structure PE (fuel:Nat) (P:α->Prop) (t0:List α) (k:Nat) (st:List α×List Nat):Prop where
 pre:t0<+:st.1
 nodup:st.1.Nodup
 le:st.1.length<=fuel
 all:∀ p∈st.1,P p
 len:st.2.length=k
 je:∀ t∈st.2,t<st.1.length
theorem Ud {fuel:Nat} {P:α->Prop} {t0:List α} {k:Nat} {st st':List α×List Nat} {q:α} (h:PE fuel P t0 k st) (hq:P q) (ha:uO fuel st q=some st'):PE fuel P t0 (k+1) st':=by
 unfold uO at ha;split at ha
 ·rename_i he
  split at ha
  ·cases ha
  ·rename_i hf
   cases ha
   have hn:q∉st.1:=fun hm=>by have:=List.idxOf_lt_length_of_mem hm;omega
   exact⟨h.pre.trans (List.prefix_append _ _),by
     rw[List.nodup_append];exact⟨h.nodup,by simp,fun a ha b hb e=>by simp at hb;subst hb;subst e;exact hn ha⟩,
    by have:=h.le;simp;omega,fun p hp=>by
     rcases List.mem_append.1 hp with hp | hp
     ·exact h.all p hp
     ·simp at hp;subst hp;exact hq,
    by simp[h.len],fun t ht=>by
     rcases List.mem_append.1 ht with ht | ht
     ·have:=h.je t ht;simp;omega
     ·simp at ht;simp;omega⟩
 ·rename_i he
  cases ha
  have hlt:st.1.idxOf q<st.1.length:=by have:=List.idxOf_le_length (a:=q) (l:=st.1);omega
  exact⟨h.pre,h.nodup,h.le,h.all,by simp[h.len],fun t ht=>by
   rcases List.mem_append.1 ht with ht | ht
   ·exact h.je t ht
   ·simp at ht;subst ht;exact hlt⟩
theorem ri {fuel:Nat} {P:α->Prop} {g:Nat->α} {todo:List α} (hn:todo.Nodup) (hl:todo.length<=fuel) (hp:∀ p∈todo,P p):∀ (k:Nat) {st:List α×List Nat},(∀ j,j<k->P (g j))->gS fuel g todo k=some st->PE fuel P todo k st
 | 0,st,_,h=>by
  cases h
  exact⟨List.prefix_refl _,hn,hl,hp,rfl,fun t ht=>by cases ht⟩
 | k+1,st,hg,h=>by
  rw[gS]at h;obtain⟨s1,h1,h2⟩:=Option.bind_eq_some_iff.1 h;exact Ud (ri hn hl hp k (fun j hj=>hg j (by omega)) h1) (hg k (by omega)) h2
structure XH (fuel K:Nat) (P:α->Prop) (p0:α) (n:Nat) (st:List α×List (List Nat)):Prop where
 head:st.1[0]? =some p0
 nodup:st.1.Nodup
 le:st.1.length<=fuel
 all:∀ p∈st.1,P p
 len:st.2.length=min n st.1.length
 rows:∀ r∈st.2,r.length=K/\∀ t∈r,t<st.1.length
theorem Bk {fuel K:Nat} {P:α->Prop} {f:α->Nat->α} {p0:α} (hf:1<=fuel) (h0:P p0) (hP:∀ p k,P p->k<K->P (f p k)):∀ (n:Nat) {st:List α×List (List Nat)},ju fuel f K p0 n=some st->XH fuel K P p0 n st
 | 0,st,h=>by
  cases h
  exact⟨rfl,by simp,by simpa using hf,by simpa using h0,by simp,fun r hr=>by cases hr⟩
 | n+1,st,h=>by
  rw[ju]at h;obtain⟨s1,h1,h2⟩:=Option.bind_eq_some_iff.1 h;have I:=Bk hf h0 hP n h1;unfold pR at h2;split at h2
  ·rename_i he
   have e:=Option.some.inj h2;subst e;have hl:s1.1.length<=n:=by simpa using he
   exact⟨I.head,I.nodup,I.le,I.all,by have:=I.len;omega,I.rows⟩
  ·rename_i p he
   obtain⟨r,h3,rfl⟩:=Option.map_eq_some_iff.1 h2;have hlt:n<s1.1.length:=(List.getElem?_eq_some_iff.1 he).1;have R:=ri (P:=P) I.nodup I.le I.all K (fun j hj=>hP p j (I.all p (aw he)) hj) h3;obtain⟨ys,Ue⟩:=R.pre;have VK:s1.1.length<=r.1.length:=by rw[<-Ue];simp
   refine⟨?_,R.nodup,R.le,R.all,?_,?_⟩
   ·show r.1[0]? =some p0
    rw[<-Ue,bJ (by omega)];exact I.head
   ·have:=I.len
    simp only[aG,List.length_cons,List.length_nil];omega
   ·intro x hx
    rcases List.mem_append.1 hx with hx | hx
    ·exact⟨(I.rows x hx).1,fun t ht=>by have:=(I.rows x hx).2 t ht;show t<r.1.length;omega⟩
    ·simp at hx;subst hx;exact⟨R.len,R.je⟩
end
def lb (p:List BS) (k:Nat):Nat:=(aS (p.getD k 0)).1
def rj (a b:DF) (p:Nat×Nat) (k:Nat):Nat×Nat:=
 (dL a p.1 (cls a.cl (lb (partsOf (a.cl++b.cl)) k)),dL b p.2 (cls b.cl (lb (partsOf (a.cl++b.cl)) k)))
theorem bS.cZ {p:List BS} {R:Nat->Nat->Prop} (h:bS p R) {c:Nat} (hc:c<256):cls p c<p.length:=by obtain⟨q,hq,_⟩:=(h.iO hc).1 rfl;exact(List.getElem?_eq_some_iff.1 hq).1
theorem Kd {l:List BS} {k:Nat} (hk:k<(partsOf l).length):lb (partsOf l) k<256:=by have h1:=aV (l:=partsOf l) 0 hk;exact(eo (iC l (aw h1))).2.1
theorem mD (l:List BS):partsOf (partsOf l)=partsOf l:=
 bS.uniq (bS.jK (partsOf l)) (bS.jK l) fun _ _ hc hd=>(bS.jK l).zL hc hd
def fU (a b:DF) (p:Nat×Nat):Prop:=p.1<a.nx.length/\p.2<b.nx.length
theorem vU {a b:DF} (ha:Rt a) (hb:Rt b) (p:Nat×Nat) (k:Nat) (hp:fU a b p) (hk:k<(partsOf (a.cl++b.cl)).length):fU a b (rj a b p k):=
 ⟨ha.fH hp.1 (ha.part.cZ (Kd hk)),hb.fH hp.2 (hb.part.cZ (Kd hk))⟩
end
section
open Go Go.RowKit Go.Shelf Go.Maps
def jL {α:Type} (enc:α->Value) (w:World) (v:Value) (l:List α):Prop:=bZ enc w v l\/(l=[]/\∃ a:Addr,v=.slice (some a) 0 0)
theorem jL.below {α:Type} {enc:α->Value} {w w':World} {v:Value} {l:List α} (h:jL enc w v l) (hk:aa w w'):jL enc w' v l:=h.imp (fun h=>h.below hk) id
theorem jL.form {α:Type} {enc:α->Value} {w:World} {v:Value} {l:List α} (h:jL enc w v l):∃ a cap,v=.slice a l.length cap:=by
 rcases h with h | ⟨rfl,a,rfl⟩
 ·exact h.form
 ·exact⟨_,_,rfl⟩
theorem vV (v:Value) (l:List Int) (w:World) (h:jL aN w v l) (hn:l.length<=1000000): ah 22 #[v] w fun e w'=>∃ u,e=.returned u/\w'.ownsRow w.heap.size 3 1 u l.length (l.map aN)/\aa w w':=by
 obtain⟨i0,hi,hz0,hz1,hz2⟩:=info_parts Tryz.mB;have h':(v=.slice none 0 0/\l=[])\/∃ (a:Addr) (cap:Nat),v=.slice (some a) l.length cap/\∀ o j u,(l.map aN)[j]? =some u->(w.alloc o).cell? (a.add j)=some u:=by
  rcases h with(h | ⟨b,off,cap,rfl,hb,_,hc⟩) | ⟨rfl,a,rfl⟩
  ·exact .inl h
  ·refine .inr ⟨⟨b,off,none⟩,cap,rfl,fun o j u hj=>?_⟩
   refine(((Ext.refl w).alloc o).cell (p:=(⟨b,off,none⟩:Addr).add j) (by rw[Addr.add_mid];exact hb)).trans ?_;rw[aO]at hj;cases hx:l[j]? with
   | none=>rw[hx]at hj;cases hj
   | some x=>
    rw[hx]at hj;rw[Addr.add_mid,hc j x hx];exact hj
  ·exact .inr ⟨a,0,rfl,fun o j u hj=>by simp at hj⟩
 clear h;rcases h' with⟨rfl,rfl⟩ | ⟨ad,cap,rfl,hnews⟩
 ·have he:=fun W=>Lib.run_eql_slice_nil (P:=Tryz.prog) W 39 3 none 0 0 0 0 Tryz.underlying39
  go_enter Tryz.func22,Tryz.ntmps22
  go_wp2;go_ret;exact⟨_,rfl,World.ownsRow_nil _ _ _ _,Below.refl _ _⟩
 ·obtain⟨n,iY⟩:=ag l.length
  rw[<-iY]at hn ⊢;have HN:=hid iY;have HNw:=hid hnews;have he:=fun W=>Lib.run_eql_slice_nil (P:=Tryz.prog) W 39 3 (some ad) n cap 0 0 Tryz.underlying39
  clear hnews iY;go_enter Tryz.func22,Tryz.ntmps22;have o1:(w.alloc (.cells #[] 3 (0,0))).ownsRow w.heap.size 3 1 (.slice (some ⟨w.heap.size,0,none⟩) 0 0) 0 []:=⟨rfl,.inr ⟨w.heap.size,0, #[],rfl,aD _,World.alloc_heap_new _ _,aD _,by simp,rfl,rfl⟩⟩;have J2:=hid o1;clear o1;go_wp2_with (at_builtin;(refine wpList_append_own_at _ rfl (.tmp 5) (.tmp 6) 39 rfl w.heap.size 3 i0 (.int .i64 0) 1 8 Tryz.underlying39 hi hz0 hz1 hz2 rfl (by decide) _ 0 [] rfl J2.out ad n cap (l.map aN) rfl (by rw[aQ,HN.out,Nat.mul_one]) (fun j u hj=>HNw.out _ j u hj) (fun u hu=>by obtain⟨x,_,rfl⟩:=List.mem_map.1 hu;rfl) (by unfold maxLen;omega) (by omega) (by simp) ?_;intro v' w2 ho hg _ _;have j8:=hid ho;have HG:=hid hg;obtain⟨a2,c2,rfl⟩:=ownsRow_form ho;clear ho hg));go_ret;refine⟨_,rfl,?_,?_⟩
  ·have:=j8.out
   rwa[Nat.zero_add,List.nil_append]at this
  ·exact((Below.refl _ _).alloc (aD _) _).grown HG.out (by simp) (fun c e=>(J2.out.lt c e).1)
theorem pA (v:Value) (l:List Int) (w:World) (h:bZ aN w v l) (hn:l.length<=1000000): ah 22 #[v] w fun e w'=>∃ u,e=.returned u/\w'.ownsRow w.heap.size 3 1 u l.length (l.map aN)/\aa w w':=vV v l w (.inl h) hn
theorem vW (v:Value) (l:List Nat) (w:World) (h:bZ et w v l) (hn:l.length<=1000000): ah 124 #[v] w fun e w'=>∃ u,e=.returned u/\w'.ownsRow w.heap.size 5 1 u l.length (l.map et)/\aa w w':=by
 obtain⟨i0,hi,hz0,hz1,hz2⟩:=info_parts Tryz.Hn;rcases h with⟨rfl,rfl⟩ | ⟨b,off,cap,rfl,hb,_,hc⟩
 ·have he:=fun W=>Lib.run_eql_slice_nil (P:=Tryz.prog) W 44 5 none 0 0 0 0 Tryz.underlying44
  go_enter Tryz.func124,Tryz.ntmps124
  go_wp2;go_ret;exact⟨_,rfl,World.ownsRow_nil _ _ _ _,Below.refl _ _⟩
 ·have hnews:∀ j u,(l.map et)[j]? =some u->w.cell? ((⟨b,off,none⟩:Addr).add j)=some u:=fun j u hj=>by
   rw[aO]at hj;cases hx:l[j]? with
   | none=>rw[hx]at hj;cases hj
   | some x=>
    rw[hx]at hj;rw[Addr.add_mid,hc j x hx];exact hj
  obtain⟨n,iY⟩:=ag l.length;rw[<-iY]at hn ⊢;have HN:=hid iY;have HNw:=hid hnews;have he:=fun W=>Lib.run_eql_slice_nil (P:=Tryz.prog) W 44 5 (some ⟨b,off,none⟩) n cap 0 0 Tryz.underlying44
  clear hc hnews iY;go_enter Tryz.func124,Tryz.ntmps124;have o1:(w.alloc (.cells #[] 5 (0,0))).ownsRow w.heap.size 5 1 (.slice (some ⟨w.heap.size,0,none⟩) 0 0) 0 []:=⟨rfl,.inr ⟨w.heap.size,0, #[],rfl,aD _,World.alloc_heap_new _ _,aD _,by simp,rfl,rfl⟩⟩;have J2:=hid o1;clear o1;go_wp2_with (at_builtin;(refine wpList_append_own_at _ rfl (.tmp 5) (.tmp 6) 44 rfl w.heap.size 5 i0 (.int .u8 0) 1 1 Tryz.underlying44 hi hz0 hz1 hz2 rfl (by decide) _ 0 [] rfl J2.out ⟨b,off,none⟩ n cap (l.map et) rfl (by rw[aQ,HN.out,Nat.mul_one]) (fun j u hj=>(((Ext.refl w).alloc _).cell (p:=(⟨b,off,none⟩:Addr).add j) (by rw[Addr.add_mid];exact hb)).trans (HNw.out j u hj)) (fun u hu=>by obtain⟨x,_,rfl⟩:=List.mem_map.1 hu;rfl) (by unfold maxLen;omega) (by omega) (by simp) ?_;intro v' w2 ho hg _ _;have j8:=hid ho;have HG:=hid hg;obtain⟨a2,c2,rfl⟩:=ownsRow_form ho;clear ho hg));go_ret;refine⟨_,rfl,?_,?_⟩
  ·have:=j8.out
   rwa[Nat.zero_add,List.nil_append]at this
  ·exact((Below.refl _ _).alloc (aD _) _).grown HG.out (by simp) (fun c e=>(J2.out.lt c e).1)
structure Sp where
 H:World->Prop
 st:∀ W W':World,aa W W'->H W->H W'
section
variable {L:List Sp} {W:World}
end
theorem Tryz.tR:(Tryz.prog.info? 39).map (fun i=>(i.zero,i.size,i.bytes))=some (some (.slice none 0 0),1,24):=by kernel_rfl
def gT (w:World) (v:Value) (ll:List (List Int)):Prop:=∃ us:List Value,us.length=ll.length/\bZ (fun u:Value=>u) w v us/\∀ (i:Nat) (u:Value) (l:List Int),us[i]? =some u->ll[i]? =some l->bZ aN w u l
theorem gT.below {w w':World} {v:Value} {ll:List (List Int)} (h:gT w v ll) (hk:aa w w'):gT w' v ll:=by obtain⟨us,h1,h2,h3⟩:=h;exact⟨us,h1,h2.below hk,fun i u l hu hl=>(h3 i u l hu hl).below hk⟩
theorem gT.form {w:World} {v:Value} {ll:List (List Int)} (h:gT w v ll):∃ a cap,v=.slice a ll.length cap:=by obtain⟨us,h1,h2,h3⟩:=h;obtain⟨a,cap,h4⟩:=h2.form;exact⟨a,cap,by rw[h4,h1]⟩
theorem gT.elem {w:World} {a:Option Addr} {n cap:Nat} {ll:List (List Int)} (h:gT w (.slice a n cap) ll) {i:Nat} {l:List Int} (hi:ll[i]? =some l): ∃ b off a' c',a=some ⟨b,off,none⟩/\b<w.heap.size/\w.cell? ⟨b,off+i,none⟩=some (.slice a' l.length c')/\bZ aN w (.slice a' l.length c') l:=by obtain⟨us,h1,h2,h3⟩:=h;have gL:=(List.getElem?_eq_some_iff.1 hi).1;have hu:us[i]? =some (us[i]'(by omega)):=az (by omega);obtain⟨b,off,e1,e2,e3⟩:=h2.elem hu;have h4:=h3 i _ l hu hi;obtain⟨a',c',e4⟩:=h4.form;rw[e4]at h4 e3;exact⟨b,off,a',c',e1,e2,e3,h4⟩
def nz (w:World) (v:Value) (ll:List (List Int)):Prop:=∃ us:List Value,us.length=ll.length/\bZ (fun u:Value=>u) w v us/\∀ (i:Nat) (u:Value) (l:List Int),us[i]? =some u->ll[i]? =some l->jL aN w u l
theorem gT.e {w:World} {v:Value} {ll:List (List Int)} (h:gT w v ll):nz w v ll:=by obtain⟨us,h1,h2,h3⟩:=h;exact⟨us,h1,h2,fun i u l hu hl=>.inl (h3 i u l hu hl)⟩
theorem nz.below {w w':World} {v:Value} {ll:List (List Int)} (h:nz w v ll) (hk:aa w w'):nz w' v ll:=by obtain⟨us,h1,h2,h3⟩:=h;exact⟨us,h1,h2.below hk,fun i u l hu hl=>(h3 i u l hu hl).below hk⟩
theorem nz.form {w:World} {v:Value} {ll:List (List Int)} (h:nz w v ll):∃ a cap,v=.slice a ll.length cap:=by obtain⟨us,h1,h2,h3⟩:=h;obtain⟨a,cap,h4⟩:=h2.form;exact⟨a,cap,by rw[h4,h1]⟩
theorem nz.elem {w:World} {a:Option Addr} {n cap:Nat} {ll:List (List Int)} (h:nz w (.slice a n cap) ll) {i:Nat} {l:List Int} (hi:ll[i]? =some l): ∃ b off a' c',a=some ⟨b,off,none⟩/\b<w.heap.size/\w.cell? ⟨b,off+i,none⟩=some (.slice a' l.length c')/\jL aN w (.slice a' l.length c') l:=by obtain⟨us,h1,h2,h3⟩:=h;have gL:=(List.getElem?_eq_some_iff.1 hi).1;have hu:us[i]? =some (us[i]'(by omega)):=az (by omega);obtain⟨b,off,e1,e2,e3⟩:=h2.elem hu;have h4:=h3 i _ l hu hi;obtain⟨a',c',e4⟩:=h4.form;rw[e4]at h4 e3;exact⟨b,off,a',c',e1,e2,e3,h4⟩
def br (base:Nat) (w:World) (v:Value) (ll:List (List Int)):Prop:=∃ us:List Value,us.length=ll.length/\w.ownsRow base 39 1 v us.length us/\∀ (i:Nat) (u:Value) (l:List Int),us[i]? =some u->ll[i]? =some l->w.ownsRow base 3 1 u l.length (l.map aN)
theorem br.nil (base:Nat) (w:World):br base w (.slice none 0 0) []:=⟨[],rfl,World.ownsRow_nil _ _ _ _,fun i u l h=>by simp at h⟩
theorem br.base {base base':Nat} {w:World} {v:Value} {ll:List (List Int)} (h:br base w v ll) (hb:base'<=base):br base' w v ll:=by obtain⟨us,h1,h2,h3⟩:=h;exact⟨us,h1,aF h2 hb,fun i u l hu hl=>aF (h3 i u l hu hl) hb⟩
theorem br.below {base:Nat} {w w':World} {v:Value} {ll:List (List Int)} (h:br base w v ll) (hk:aa w w'):br base w' v ll:=by obtain⟨us,h1,h2,h3⟩:=h;exact⟨us,h1,aj h2 hk,fun i u l hu hl=>aj (h3 i u l hu hl) hk⟩
theorem eW {w w':World} {base:Nat} {e:TypeId} {size:Nat} {v:Value} {n:Nat} {xs:List Value} (h:w.ownsRow base e size v n xs) {R:Nat->Prop} (hk:ae R w w') (hr:∀ k,base<=k->k<w.heap.size->R k):w'.ownsRow base e size v n xs:=
 ai h hk fun k e=>hr k (h.lt k e).1 (h.lt k e).2
theorem br.keeps {base:Nat} {w w':World} {v:Value} {ll:List (List Int)} (h:br base w v ll) {R:Nat->Prop} (hk:ae R w w') (hr:∀ k,base<=k->k<w.heap.size->R k):br base w' v ll:=by obtain⟨us,h1,h2,h3⟩:=h;exact⟨us,h1,eW h2 hk hr,fun i u l hu hl=>eW (h3 i u l hu hl) hk hr⟩
theorem br.form {base:Nat} {w:World} {v:Value} {ll:List (List Int)} (h:br base w v ll):∃ a cap,v=.slice a ll.length cap:=by obtain⟨us,h1,h2,h3⟩:=h;obtain⟨a,c,h4⟩:=ownsRow_form h2;exact⟨a,c,by rw[h4,h1]⟩
theorem br.ll {base:Nat} {w:World} {v:Value} {ll:List (List Int)} (h:br base w v ll):gT w v ll:=by obtain⟨us,h1,h2,h3⟩:=h;refine⟨us,h1,dc (e:=39) (base:=base) (by simpa using h2) rfl,fun i u l hu hl=>dc (h3 i u l hu hl) rfl⟩
theorem ownBlock_ne {w:World} {b1 b2:Nat} {e1 e2:TypeId} {s1 s2 n1 n2:Nat} {v1 v2:Value} {x1 x2:List Value} (he:e1≠e2) (h1:w.ownsRow b1 e1 s1 v1 n1 x1) (h2:w.ownsRow b2 e2 s2 v2 n2 x2):v1.ownBlock=none\/v1.ownBlock≠v2.ownBlock:=by
 rcases h1.2 with⟨rfl,_⟩ | ⟨g,c,cur,rfl,_,hg,_⟩
 ·exact .inl rfl
 ·right
  rcases h2.2 with⟨rfl,_⟩ | ⟨g',c',cur',rfl,_,Kc,_⟩
  ·simp[Value.ownBlock]
  ·intro e
   have e':g=g':=by simpa[Value.ownBlock]using e
   subst e';rw[hg]at Kc;exact he (by injection Kc with h;injection h)
theorem br.snoc {base:Nat} {w w':World} {v v' u:Value} {ll:List (List Int)} {l:List Int} {us:List Value} (h1:us.length=ll.length) (ho:w.ownsRow base 39 1 v us.length us) (h3:∀ (i:Nat) (u:Value) (l:List Int),us[i]? =some u->ll[i]? =some l->w.ownsRow base 3 1 u l.length (l.map aN)) (hu:w.ownsRow base 3 1 u l.length (l.map aN)) (hg:w.grownBy w' v.ownBlock) (GH:w'.ownsRow base 39 1 v' (us.length+1) (us++ [u])):br base w' v' (ll++ [l]):=by
 have ne:(3:Nat)≠39:=by decide
 refine⟨us++ [u],by simp[h1],by simpa using GH,fun i x y hx hy=>?_⟩;by_cases hi:i<us.length
 ·rw[bJ hi]at hx
  rw[bJ (by omega)]at hy;have hr:=h3 i x y hx hy;exact hr.kept hg (ownBlock_ne ne hr ho)
 ·have gL:=(List.getElem?_eq_some_iff.1 hx).1
  simp at gL;obtain rfl:i=us.length:=by omega
  simp at hx;subst hx;rw[h1]at hy;simp at hy;subst hy;exact hu.kept hg (ownBlock_ne ne hu ho)
def cS (w:World) (v:Value) (d:DF):Prop:=∃ v0 v1 v2,v=.agg #[v0,v1,v2]/\oo w v0 d.cl/\gT w v1 d.nx/\gT w v2 d.mr
theorem cS.below {w w':World} {v:Value} {d:DF} (h:cS w v d) (hk:aa w w'):cS w' v d:=by obtain⟨v0,v1,v2,e,h0,h1,h2⟩:=h;exact⟨v0,v1,v2,e,⟨h0.1.below hk,h0.2⟩,h1.below hk,h2.below hk⟩
def Ke (w:World) (v:Value) (d:DF):Prop:=∃ v0 v1 v2,v=.agg #[v0,v1,v2]/\oo w v0 d.cl/\nz w v1 d.nx/\nz w v2 d.mr
theorem cS.e {w:World} {v:Value} {d:DF} (h:cS w v d):Ke w v d:=by obtain⟨v0,v1,v2,e,h0,h1,h2⟩:=h;exact⟨v0,v1,v2,e,h0,h1.e,h2.e⟩
def bA (base:Nat) (w:World) (v:Value) (d:DF):Prop:=∃ v0 v1 v2,v=.agg #[v0,v1,v2]/\w.ownsRow base 56 4 v0 d.cl.length (aM d.cl)/\br base w v1 d.nx/\br base w v2 d.mr
theorem bA.below {base:Nat} {w w':World} {v:Value} {d:DF} (h:bA base w v d) (hk:aa w w'):bA base w' v d:=by obtain⟨v0,v1,v2,e,h0,h1,h2⟩:=h;exact⟨v0,v1,v2,e,aj h0 hk,h1.below hk,h2.below hk⟩
theorem bA.base {base base':Nat} {w:World} {v:Value} {d:DF} (h:bA base w v d) (hb:base'<=base):bA base' w v d:=by obtain⟨v0,v1,v2,e,h0,h1,h2⟩:=h;exact⟨v0,v1,v2,e,aF h0 hb,h1.base hb,h2.base hb⟩
theorem bA.keeps {base:Nat} {w w':World} {v:Value} {d:DF} (h:bA base w v d) {R:Nat->Prop} (hk:ae R w w') (hr:∀ k,base<=k->k<w.heap.size->R k):bA base w' v d:=by obtain⟨v0,v1,v2,e,h0,h1,h2⟩:=h;exact⟨v0,v1,v2,e,eW h0 hk hr,h1.keeps hk hr,h2.keeps hk hr⟩
theorem fL {w:World} {base:Nat} {v:Value} {l:List BS} (h:w.ownsRow base 56 4 v l.length (aM l)):oo w v l:=by
 refine⟨jq h,fun a n cap e=>?_⟩;subst e;rcases h.2 with⟨h1,h2⟩ | ⟨g,c,cur,h1,_,_,h2,_⟩
 ·injection h1 with _ h3 h4;omega
 ·injection h1 with _ h3 h4;omega
theorem bA.df {base:Nat} {w:World} {v:Value} {d:DF} (h:bA base w v d):cS w v d:=by obtain⟨v0,v1,v2,e,h0,h1,h2⟩:=h;exact⟨v0,v1,v2,e,fL h0,h1.ll,h2.ll⟩
structure Sm (d:DF):Prop where
 cl:d.cl.length<=1000000
 nx:d.nx.length<=1000000
 mr:d.mr.length<=1000000
 Bl:∀ l∈d.nx,l.length<=1000000
 mks:∀ l∈d.mr,l.length<=1000000
section
variable {L:List Sp} {W:World}
end
theorem cW.elem {w:World} {a:Option Addr} {n cap:Nat} {l:List BS} (h:cW w (.slice a n cap) l) {i:Nat} {s:BS} (hi:l[i]? =some s): ∃ b off,a=some ⟨b,off,none⟩/\b<w.heap.size/\w.cell? ⟨b,off+i*4,none⟩=some (.int .u64 (wd s 0).toNat)/\w.cell? ⟨b,off+i*4+1,none⟩=some (.int .u64 (wd s 1).toNat)/\w.cell? ⟨b,off+i*4+2,none⟩=some (.int .u64 (wd s 2).toNat)/\w.cell? ⟨b,off+i*4+3,none⟩=some (.int .u64 (wd s 3).toNat):=by
 rcases h with⟨_,e⟩ | ⟨b,off,cap',e1,hb,hcc⟩
 ·rw[e]at hi;simp at hi
 ·injection e1 with e1 _ _
  exact⟨b,off,e1,hb,hcc i s hi 0 (by decide),hcc i s hi 1 (by decide),hcc i s hi 2 (by decide),hcc i s hi 3 (by decide)⟩
theorem eX (w:World) (x:Value) (t:TypeId):∀ j u,[x][j]? =some u->(w.alloc (.cells #[x] t)).cell? ((⟨w.heap.size,0,none⟩:Addr).add j)=some u:=fun j u h=>by
 have hj:j=0:=by
  rcases Nat.eq_zero_or_pos j with h' | h'
  ·exact h'
  ·rw[aX (by simp;omega)]at h;cases h
 subst hj;have hx:x=u:=by simpa using h
 rw[<-hx];exact(ar.new w #[x] t).cell 0
attribute [local go_sem] encS
theorem jL.elem {α:Type} {enc:α->Value} {w:World} {a:Option Addr} {n cap:Nat} {l:List α} (h:jL enc w (.slice a n cap) l) {i:Nat} {x:α} (hi:l[i]? =some x):∃ b off,a=some ⟨b,off,none⟩/\b<w.heap.size/\w.cell? ⟨b,off+i,none⟩=some (enc x):=by
 rcases h with h | ⟨rfl,_⟩
 ·exact h.elem hi
 ·simp at hi
def eI {α:Type} (f:α->Bool) (l:List α):Int:=match l.findIdx? f with | some k=>k | none=> -1
theorem lM {α:Type} (f:α->Bool) (l:List α):decide (0<=eI f l)=l.any f:=by
 unfold eI;cases h:l.findIdx? f with
 | none=>
  rw[List.findIdx?_eq_none_iff]at h;have:l.any f=false:=by rw[List.any_eq_false];intro x hx;rw[h x hx];decide
  rw[this];rfl
 | some k=>
  rw[List.findIdx?_eq_some_iff_getElem]at h;obtain⟨h1,h2,_⟩:=h;have:l.any f=true:=by rw[List.any_eq_true];exact⟨l[k],List.getElem_mem h1,h2⟩
  rw[this];simp
theorem km {α:Type} {f:α->Bool} {l:List α} {k:Nat} {x:α} (hx:l[k]? =some x) (hf:f x=true) (hn:∀ y∈l.take k,f y=false):eI f l=k:=by
 have h1:l.findIdx? f=some k:=by
  rw[List.findIdx?_eq_some_iff_getElem];have AZ:=(List.getElem?_eq_some_iff.1 hx).1;refine⟨AZ,?_,fun j hj=>?_⟩
  ·rw[(List.getElem?_eq_some_iff.1 hx).2];exact hf
  ·have:=hn l[j] (List.mem_take_iff_getElem.2 ⟨j,by omega,rfl⟩)
   rw[this];decide
 rw[eI,h1]
theorem kp {α:Type} {f:α->Bool} {l:List α} (hn:∀ y∈l,f y=false):eI f l= -1:=by
 have h1:l.findIdx? f=none:=by rw[List.findIdx?_eq_none_iff];intro x hx;rw[hn x hx]
 rw[eI,h1]
theorem oq {α:Type} {f:α->Bool} {l:List α} {k:Nat} {x:α} (hx:l[k]? =some x) (hf:f x=false) (hn:∀ y∈l.take k,f y=false):∀ y∈l.take (k+1),f y=false:=fun y hy=>by
 rw[List.take_add_one,hx]at hy;rcases List.mem_append.1 hy with hy | hy
 ·exact hn y hy
 ·rw[show y=x from by simpa using hy];exact hf
theorem vX (g:Nat) (lb:Array Value) (f:Int->Bool) (v:Value) (l:List Int) (w:World) (h:jL aN w v l) (hn:l.length<=1000000) (eg:∀ args w,(callFunc g args).run Tryz.prog w=.ok (.enter g args) w) (hf:∀ s W,aa w W->ah g (#[.int .i64 s]++lb) W fun e w'=>e=.returned (.bool (f s))/\w'=W): ah 120 #[v,.func (.func g) #[] lb] w fun e w'=>e=.returned (.int .i64 (eI f l))/\w'=w:=by
 obtain⟨a,cap,rfl⟩:=h.form;obtain⟨n,iY⟩:=ag l.length;rw[<-iY]at h hn ⊢;have H:=hid h;have HN:=hid iY;have HF:=hid fun s=>hf s w (Below.refl _ _)
 obtain⟨r,hr⟩:=ag (eI f l);rw[<-hr];have HR:=hid hr;clear h iY hf hr;go_enter Tryz.func120,Tryz.ntmps120;go_wp2
 go_loop [8] (fun i=>∃ k:Nat,k<=n/\i=.int .i64 k/\(∀ s∈l.take k,f s=false)) (fun i=>n-(intOf i).toNat)
 case atStart=>exact⟨0,by omega,rfl,fun s hs=>by simp at hs⟩
 case round=>
  obtain⟨k,hk,rfl,ha⟩:=hrel;by_cases hlt:k<n
  ·obtain⟨s,hs⟩:∃ s,l[k]? =some s:=⟨_,az (by have:=HN.out;omega)⟩
   obtain⟨b,off,rfl,hb,d0⟩:=H.out.elem hs;have d0':w.cell? ⟨b,off+k,none⟩=some (.int .i64 s):=d0;have H5:=hid (HF.out s);have HA:=hid ha;have HS:=hid hs;clear ha hs d0;obtain⟨b1,hb1⟩:=ag (f s);rw[<-hb1]at H5;have qD:=hid hb1;clear hb1;cases b1 with
   | true=>
    have ig:=hid (HR.out.trans (km HS.out qD.out.symm HA.out));go_wp2;refine H5.out.mono ?_;rintro e w2 ⟨rfl,hw⟩;replace hw:=hw.symm;subst hw;go_wp2;go_ret;exact⟨by rw[ig.out];rfl,rfl⟩
   | false=>
    go_wp2;refine H5.out.mono ?_;rintro e w2 ⟨rfl,hw⟩;replace hw:=hw.symm;subst hw;go_wp2
    go_round
    case rel=>exact⟨k+1,by omega,by go_num,oq HS.out qD.out.symm HA.out⟩
    case measure=>simp[intOf];omega
  ·obtain rfl:k=n:=by omega
   have ig:=hid (HR.out.trans (kp fun y hy=>ha y (by rw[HN.out,List.take_length];exact hy)));clear ha;go_wp2;go_ret;exact⟨by rw[ig.out];rfl,rfl⟩
theorem rq (g:Nat) (lb:Array Value) (f:Int->Bool) (v:Value) (l:List Int) (w:World) (h:jL aN w v l) (hn:l.length<=1000000) (eg:∀ args w,(callFunc g args).run Tryz.prog w=.ok (.enter g args) w) (hf:∀ s W,aa w W->ah g (#[.int .i64 s]++lb) W fun e w'=>e=.returned (.bool (f s))/\w'=W): ah 65 #[v,.func (.func g) #[] lb] w fun e w'=>e=.returned (.bool (l.any f))/\w'=w:=by have HI:=hid (vX g lb f v l w h hn eg hf);rw[<-lM];obtain⟨a,cap,rfl⟩:=h.form;clear h hf eg;generalize eI f l=z at HI ⊢;go_enter Tryz.func65,Tryz.ntmps65;go_wp2_with (go_at_call 120;refine HI.out.mono ?_;rintro e w2 ⟨rfl,hw⟩;replace hw:=hw.symm;subst hw);go_ret;exact⟨rfl,rfl⟩
theorem H6 (x:Int) (n:Nat) (B:Nat) (W:World) (hB:W.cell? ⟨B,0,none⟩=some (.int .i64 n)): ah 66 #[.int .i64 x,.pointer (some ⟨B,0,none⟩)] W fun e w'=>e=.returned (.bool (!Tl n x))/\w'=W:=by
 unfold Tl;by_cases h1:x<0
 ·have d1:decide (x<0)=true:=decide_eq_true h1
  have d2:decide (0<=x)=false:=decide_eq_false (by omega);go_enter Tryz.func66,Tryz.ntmps66;go_wp2;go_ret;exact⟨by rw[d2];rfl,rfl⟩
 ·have d1:decide (x<0)=false:=decide_eq_false h1
  have d2:decide (0<=x)=true:=decide_eq_true (by omega);by_cases h2:(n:Int)<=x
  ·have d3:decide ((n:Int)<=x)=true:=decide_eq_true h2
   have d4:decide (x<(n:Int))=false:=decide_eq_false (by omega);go_enter Tryz.func66,Tryz.ntmps66;go_wp2;go_ret;exact⟨rfl,rfl⟩
  ·have d3:decide ((n:Int)<=x)=false:=decide_eq_false h2
   have d4:decide (x<(n:Int))=true:=decide_eq_true (by omega);go_enter Tryz.func66,Tryz.ntmps66;go_wp2;go_ret;exact⟨rfl,rfl⟩
theorem L8:∀ args w,(callFunc 66 args).run Tryz.prog w=.ok (.enter 66 args) w:=fun args w=>by kernel_rfl
theorem Uf {α:Type} [BEq α] [LawfulBEq α] {l m:List α} {k:Nat} {x y:α} (hx:l[k]? =some x) (hy:m[k]? =some y) (h:x≠y):(l==m)=false:=by rw[beq_eq_false_iff_ne];intro e;subst e;rw[hx]at hy;exact h (Option.some.inj hy)
theorem H7 {α:Type} [BEq α] [LawfulBEq α] {l m:List α} {n:Nat} (h1:l.length=n) (h2:m.length=n) (h:∀ i x y,i<n->l[i]? =some x->m[i]? =some y->x=y):(l==m)=true:=by
 rw[beq_iff_eq];refine List.ext_getElem (by omega) fun i a b=>?_
 exact h i _ _ (by omega) (az a) (az b)
theorem Eo {α:Type} [BEq α] [LawfulBEq α] {l m:List α} (h:l.length≠m.length):(l==m)=false:=by rw[beq_eq_false_iff_ne];intro e;rw[e]at h;exact h rfl
theorem vY (v1 v2:Value) (l1 l2:List BS) (w:World) (h1:cW w v1 l1) (h2:cW w v2 l2) (hn:l1.length<=1000000): ah 63 #[v1,v2] w fun e w'=>e=.returned (.bool (l1==l2))/\Ext w w':=by
 obtain⟨a1,c1,rfl⟩:=h1.form;obtain⟨a2,c2,rfl⟩:=h2.form;obtain⟨n,iY⟩:=ag l1.length;obtain⟨m,sw⟩:=ag l2.length;rw[<-iY]at h1 hn ⊢;rw[<-sw]at h2 ⊢;have HN:=hid iY;have HM:=hid sw;have H1:=hid h1;have H2:=hid h2;have HE:=hid fun s t W=>iy s t W
 by_cases hnm:n=m
 ·subst hnm
  obtain⟨r,hr⟩:=ag ((l1==l2));rw[<-hr];have HR:=hid hr;clear h1 h2 iY sw hr;go_enter Tryz.func63,Tryz.ntmps63;go_wp2;go_loopw [13] (fun i wr=>∃ k:Nat,k<=n/\i=.int .i64 k/\(∀ i x y,i<k->l1[i]? =some x->l2[i]? =some y->x=y)/\Ext w wr) (fun i _=>n-(intOf i).toNat);case atStart=>exact⟨0,by omega,rfl,fun i x y hi=>by omega,Ext.refl _⟩
  case round=>
   obtain⟨k,hk,rfl,ha,hx⟩:=hrel;obtain⟨wo,rfl⟩:=ag (wr:World);have HX:=hid hx;have HA:=hid ha;clear ha;by_cases hlt:k<n
   ·obtain⟨s,hs⟩:∃ s,l1[k]? =some s:=⟨_,az (by have:=HN.out;omega)⟩
    obtain⟨t,ht⟩:∃ t,l2[k]? =some t:=⟨_,az (by have:=HM.out;omega)⟩;obtain⟨b,off,rfl,hb,d0,d1,d2,d3⟩:=(H1.out.below hx.below).elem hs;obtain⟨b',off',rfl,hb',e0,e1,e2,e3⟩:=(H2.out.below hx.below).elem ht;have eG:(k:Int)<n:=by omega
    have HS:=hid hs;have HT:=hid ht;obtain⟨q,hq⟩:=ag ((s==t));have heq:∀ W,(Op.equalIn 10000 56 (.agg #[.int .u64 (wd s 0).toNat,.int .u64 (wd s 1).toNat,.int .u64 (wd s 2).toNat,.int .u64 (wd s 3).toNat]) (.agg #[.int .u64 (wd t 0).toNat,.int .u64 (wd t 1).toNat,.int .u64 (wd t 2).toNat,.int .u64 (wd t 3).toNat])).run Tryz.prog W=.ok q W:=fun W=>by
     have h1:=HE.out s t W;rw[<-hq]at h1;exact h1
    have HQ:=hid hq;clear hs ht hx hq;cases q with
    | true=>
     go_wp2
     go_quiet (fail)
     go_wp2
     exact⟨⟨k+1,by omega,by go_num,fun i x y hi hx hy=>by
      by_cases e:i=k
      ·subst e
       rw[HS.out]at hx;rw[HT.out]at hy;cases hx;cases hy;exact beq_iff_eq.1 HQ.out.symm
      ·exact HA.out i x y (by omega) hx hy,zJ HX.out nq⟩,by simp[intOf];omega⟩
    | false=>
     have ig:=hid (HR.out.trans (Uf HS.out HT.out (beq_eq_false_iff_ne.1 HQ.out.symm)));go_wp2
     go_quiet (fail)
     go_wp2;go_ret;exact⟨by rw[ig.out];rfl,zJ HX.out nq⟩
   ·obtain rfl:k=n:=by omega
    have ig:=hid (HR.out.trans (H7 HN.out.symm HM.out.symm HA.out));clear hx;go_wp2;go_ret;exact⟨by rw[ig.out];rfl,HX.out⟩
 ·have e1:(l1==l2)=false:=Eo (by omega)
  have d1:decide ((n:Int)=m)=false:=decide_eq_false (by omega);rw[e1];clear h1 h2 iY sw e1 d1;have d2:((n:Int)==(m:Int))=false:=by rw[beq_eq_false_iff_ne];omega
  have d3:((n:Int) != (m:Int))=true:=by simp;omega
  have d4:(n==m)=false:=by rw[beq_eq_false_iff_ne];exact hnm
  go_enter Tryz.func63,Tryz.ntmps63
  go_wp2;go_ret;exact⟨rfl,Ext.refl _⟩
end
section
open Go Go.RowKit Go.Shelf Go.Maps
theorem ot {d:DF} {s:Nat} (hs:s<d.nx.length) (h:d.jd s=false):d.right=false:=by
 unfold DF.right;have:(List.range d.nx.length).all d.jd=false:=by
  rw[List.all_eq_false];exact⟨s,by simpa using hs,by rw[h];decide⟩
 rw[this,Bool.and_false]
theorem L9 {d:DF} (h1:1<=d.nx.length) (h2:d.nx.length<=4000) (h3:d.mr.length=d.nx.length) (h4:(partsOf d.cl==d.cl)=true) (h:∀ s,s<d.nx.length->d.jd s=true):d.right=true:=by
 unfold DF.right;have:(List.range d.nx.length).all d.jd=true:=by
  rw[List.all_eq_true];intro s hs;exact h s (by simpa using hs)
 rw[this,decide_eq_true h1,decide_eq_true h2,decide_eq_true h3,h4];rfl
theorem rr {d:DF} (h:d.nx.length<1\/4000<d.nx.length\/d.mr.length≠d.nx.length\/(partsOf d.cl==d.cl)=false):d.right=false:=by
 unfold DF.right;rcases h with h | h | h | h
 ·rw[show decide (1<=d.nx.length)=false from decide_eq_false (by omega)];simp
 ·rw[show decide (d.nx.length<=4000)=false from decide_eq_false (by omega)];simp
 ·rw[show decide (d.mr.length=d.nx.length)=false from decide_eq_false h];simp
 ·rw[h];simp
theorem Ug {d:DF} {s:Nat} (h:(d.nx.getD s []).length≠d.cl.length):d.jd s=false:=by unfold DF.jd;rw[show decide ((d.nx.getD s []).length=d.cl.length)=false from decide_eq_false h];simp
theorem Uh {d:DF} {s:Nat} (h:(d.nx.getD s []).any (fun x=> !Tl d.nx.length x)=true):d.jd s=false:=by
 unfold DF.jd;have:(d.nx.getD s []).all (Tl d.nx.length)=false:=by
  rw[List.all_eq_false];obtain⟨x,hx,hn⟩:=List.any_eq_true.1 h;exact⟨x,hx,by simpa using hn⟩
 rw[this];simp
theorem Kf {d:DF} {s:Nat} (h:rh (d.mr.getD s [])=false):d.jd s=false:=by unfold DF.jd;rw[h,Bool.and_false]
theorem Ui {d:DF} {s:Nat} (h1:(d.nx.getD s []).length=d.cl.length) (h2:(d.nx.getD s []).any (fun x=> !Tl d.nx.length x)=false) (h3:rh (d.mr.getD s [])=true):d.jd s=true:=by
 unfold DF.jd;have:(d.nx.getD s []).all (Tl d.nx.length)=true:=by
  rw[List.all_eq_true];intro x hx;have:=List.any_eq_false.1 h2 x hx;simpa using this
 rw[this,h3,decide_eq_true h1];rfl
theorem PF {l:List Int} {k:Nat} (hk:k<l.length) (h:tQ l k=false):rh l=false:=by unfold rh;rw[List.all_eq_false];exact⟨k,by simpa using hk,by rw[h];decide⟩
theorem Uj {l:List Int} (h:∀ k,k<l.length->tQ l k=true):rh l=true:=by unfold rh;rw[List.all_eq_true];intro k hk;exact h k (by simpa using hk)
theorem PH {l:List Int} {k:Nat} {x:Int} (hx:l[k]? =some x):tQ l k=(decide (ny l k<x)&&decide (x<=255)):=by unfold tQ;rw[getD_some hx]
theorem Ep {l:List Int} {k:Nat} {x:Int} (hx:l[k]? =some x):ny l (k+1)=x:=by unfold ny;rw[if_neg (by omega),Nat.add_sub_cancel,getD_some hx]
def aZ.row (base:Nat) (e:TypeId) (size n:Nat) (xs:List Value):aZ (Move false (fun _=>False)) where
 P:=fun v=>∃ a c,v=.slice a n c
 H:=fun v W=>W.ownsRow base e size v n xs
 nW:=.slice none n 0
 pw:=⟨none,0,rfl⟩
 st:=fun _ _ _ hm _ h=>aj h hm.below
theorem H8 (v:Value) (d:DF) (w:World) (h:Ke w v d) (sm:Sm d): ah 16 #[v] w fun e w'=>e=.returned (.bool d.right)/\aa w w':=by
 obtain⟨v0,v1,v2,rfl,h0,h1,h2⟩:=h;obtain⟨a0,c0,rfl⟩:=h0.1.form;obtain⟨a1,c1,rfl⟩:=h1.form;obtain⟨a2,c2,rfl⟩:=h2.form;obtain⟨n0,dh⟩:=ag d.cl.length;obtain⟨n1,fE⟩:=ag d.nx.length;obtain⟨n2,jk⟩:=ag d.mr.length;obtain⟨r,hr⟩:=ag d.right;obtain⟨q,hq⟩:=ag ((partsOf d.cl==d.cl));have l0:=sm.cl;have l1:=sm.nx;have l2:=sm.mr;rw[<-dh]at h0 l0 ⊢;rw[<-fE]at h1 l1 ⊢;rw[<-jk]at h2 l2 ⊢;rw[<-hr];have zM:=hid dh;have sK:=hid fE;have uM:=hid jk;have HR:=hid hr;have HQ:=hid hq;have H0:=hid h0;have H1:=hid h1;have H2:=hid h2;have SM:=hid sm;obtain⟨pl,hpl⟩:=ag (partsOf d.cl);have CP:Hid (∀ W,cW W (.slice a0 n0 c0) d.cl->ah 64 #[.slice a0 n0 c0] W fun e w'=>∃ v,e=.returned v/\w'.ownsRow W.heap.size 56 4 v pl.length (aM pl)/\aa W w'):=fun W h=>by rw[hpl];exact zF d.cl _ W h (by have:=SM.out.cl;omega)
 have CE:Hid (∀ W u,cW W u pl->cW W (.slice a0 n0 c0) d.cl->ah 63 #[u,.slice a0 n0 c0] W fun e w'=>e=.returned (.bool q)/\Ext W w'):=fun W u h k=>by
  rw[hq];rw[hpl]at h;exact vY _ _ _ _ W h k (by rw[(fA d.cl).length_eq];have:=eu d.cl;omega)
 clear h0 h1 h2 dh fE jk hr hq sm hpl;go_enter Tryz.func16,Tryz.ntmps16;go_wp2;refine ax ?_;intro V hV;have hB1:ar V w.heap.size #[.slice a0 n0 c0,.slice a1 n1 c1,.slice a2 n2 c2] 29:=by rw[hV];exact(ar.new w _ _).alloc _
 have hB2:ar V (w.heap.size+1) #[.int .i64 n1] 3:=by rw[hV];exact(ar.new (w.alloc _) _ _).at (by simp)
 have hx:aa w V:=by rw[hV];exact(((Ext.refl w).alloc _).alloc _).below
 have qD:=hid hB1;have iV:=hid hB2;have HX:=hid hx;clear hV hB1 hB2 hx;by_cases q1:n1<1
 ·have d1:decide ((n1:Int)<1)=true:=decide_eq_true (by omega)
  have d1':decide (n1<1)=true:=decide_eq_true q1;refine aK false (fun _=>False) (by kernel_rfl) 22 [0,1,3,7,15,31,63,127,255,511,127,2047,4095,8191,16383,32767,65535,16383,147455,524287,1048575,2097151] (fun i=>i==16 || i==19) (by kernel_rfl) (fun i=>if i=16 then aZ.row w.heap.size 56 4 pl.length (aM pl)else if i=19 then aZ.Du _ (.bool q)else aZ.any _) ?_;intro C hC hne;have HC:=hid hC;have f0:=aC hC (p:=⟨w.heap.size,0,none⟩) (by have:=qD.out.lt;exact this) (fun h=>h) (qD.out.cell 0);have f2:=aC hC (p:=⟨w.heap.size,2,none⟩) (by have:=qD.out.lt;exact this) (fun h=>h) (qD.out.cell 2);have f3:=aC hC (p:=⟨w.heap.size+1,0,none⟩) (by have:=iV.out.lt;exact this) (fun h=>h) (iV.out.cell 0);clear hC
  repeat (refine au (fun K hK=>?_);first | (refine bX rfl ?_;try go_simp;refine hK _ _ ?_;clear hK K) | (refine bR rfl rfl ?_;unfold aB;go_simp;refine hK _ _ ?_;clear hK K))
  refine bG (fun W hW hH=>?_);have hM:=(HC.out W).1 hW;have ig:=hid (HR.out.trans (rr (.inl (by rw[<-sK.out];exact q1))));clear hW hH f0 f2 f3;go_wp2;go_ret;exact⟨by rw[ig.out];rfl,HX.out.trans (hM.below.mono HX.out.size)⟩
 ·have d1:decide ((n1:Int)<1)=false:=decide_eq_false (by omega)
  have d1':decide (n1<1)=false:=decide_eq_false q1;by_cases q2:4000<n1
  ·have d2:decide ((4000:Int)<n1)=true:=decide_eq_true (by omega)
   have d2':decide (4000<n1)=true:=decide_eq_true q2;refine aK false (fun _=>False) (by kernel_rfl) 22 [0,1,3,7,15,31,63,127,255,511,127,2047,4095,8191,16383,32767,65535,16383,147455,524287,1048575,2097151] (fun i=>i==16 || i==19) (by kernel_rfl) (fun i=>if i=16 then aZ.row w.heap.size 56 4 pl.length (aM pl)else if i=19 then aZ.Du _ (.bool q)else aZ.any _) ?_;intro C hC hne;have HC:=hid hC;have f0:=aC hC (p:=⟨w.heap.size,0,none⟩) (by have:=qD.out.lt;exact this) (fun h=>h) (qD.out.cell 0);have f2:=aC hC (p:=⟨w.heap.size,2,none⟩) (by have:=qD.out.lt;exact this) (fun h=>h) (qD.out.cell 2);have f3:=aC hC (p:=⟨w.heap.size+1,0,none⟩) (by have:=iV.out.lt;exact this) (fun h=>h) (iV.out.cell 0);clear hC
   repeat (refine au (fun K hK=>?_);first | (refine bX rfl ?_;try go_simp;refine hK _ _ ?_;clear hK K) | (refine bR rfl rfl ?_;unfold aB;go_simp;refine hK _ _ ?_;clear hK K))
   refine bG (fun W hW hH=>?_);have hM:=(HC.out W).1 hW;have ig:=hid (HR.out.trans (rr (.inr (.inl (by rw[<-sK.out];exact q2)))));clear hW hH f0 f2 f3;go_wp2;go_ret;exact⟨by rw[ig.out];rfl,HX.out.trans (hM.below.mono HX.out.size)⟩
  ·have d2:decide ((4000:Int)<n1)=false:=decide_eq_false (by omega)
   have d2':decide (4000<n1)=false:=decide_eq_false q2;by_cases q3:n2=n1
   ·obtain rfl:n1=n2:=q3.symm
    clear q3;refine aK false (fun _=>False) (by kernel_rfl) 22 [0,1,3,7,15,31,63,127,255,511,127,2047,4095,8191,16383,32767,65535,16383,147455,524287,1048575,2097151] (fun i=>i==16 || i==19) (by kernel_rfl) (fun i=>if i=16 then aZ.row w.heap.size 56 4 pl.length (aM pl)else if i=19 then aZ.Du _ (.bool q)else aZ.any _) ?_;intro C hC hne;have HC:=hid hC;have f0:=aC hC (p:=⟨w.heap.size,0,none⟩) (by have:=qD.out.lt;exact this) (fun h=>h) (qD.out.cell 0);have f2:=aC hC (p:=⟨w.heap.size,2,none⟩) (by have:=qD.out.lt;exact this) (fun h=>h) (qD.out.cell 2);have f3:=aC hC (p:=⟨w.heap.size+1,0,none⟩) (by have:=iV.out.lt;exact this) (fun h=>h) (iV.out.cell 0);clear hC
    repeat (refine au (fun K hK=>?_);first | (refine bX rfl ?_;try go_simp;refine hK _ _ ?_;clear hK K) | (refine bR rfl rfl ?_;unfold aB;go_simp;refine hK _ _ ?_;clear hK K))
    refine au (fun K hK=>?_);refine ck rfl rfl (aZ.row w.heap.size 56 4 pl.length (aM pl)) rfl (fun W hW hN=>?_) (fun v hv=>?_)
    ·have hM:=(HC.out W).1 hW
     clear hW;go_simp;refine bM ((CP.out _ ((H0.out.1.below HX.out).below hM.below)).mono ?_);rintro e w2 ⟨vp,rfl,ho,hx⟩;exact⟨_,rfl,Move.ak hx,ownsRow_form ho,aF ho (Nat.le_trans HX.out.size hM.size)⟩
    obtain⟨ap,cp,rfl⟩:=hv;go_simp;refine hK _ _ ?_;clear hK K
    repeat (refine au (fun K hK=>?_);first | (refine bX rfl ?_;try go_simp;refine hK _ _ ?_;clear hK K) | (refine bR rfl rfl ?_;unfold aB;go_simp;refine hK _ _ ?_;clear hK K))
    refine au (fun K hK=>?_);refine ck rfl rfl (aZ.Du _ (.bool q)) rfl (fun W hW hN=>?_) (fun v hv=>?_)
    ·have hM:=(HC.out W).1 hW
     clear hW;go_simp;refine bM ((CE.out _ _ (jq (hN.at 0 rfl (by kernel_rfl))) ((H0.out.1.below HX.out).below hM.below)).mono ?_);rintro e w2 ⟨rfl,hx⟩;exact⟨_,rfl,Move.Xf hx,rfl,trivial⟩
    replace hv:v=_:=hv;subst hv;go_simp;refine hK _ _ ?_;clear hK K
    repeat (refine au (fun K hK=>?_);first | (refine bX rfl ?_;try go_simp;refine hK _ _ ?_;clear hK K) | (refine bR rfl rfl ?_;unfold aB;go_simp;refine hK _ _ ?_;clear hK K))
    refine bG (fun W hW hH=>?_);have hM:=(HC.out W).1 hW;have XB1:=hid (qD.out.below hM.below qD.out.lt);have XB2:=hid (iV.out.below hM.below iV.out.lt);have XX:=hid (HX.out.trans (hM.below.mono HX.out.size));clear hM hW hH f0 f2 f3 HC qD iV HX CP CE d1 d1' d2 d2';cases q with
    | false=>
     have ig:=hid (HR.out.trans (rr (.inr (.inr (.inr HQ.out.symm)))));go_wp2;go_ret;exact⟨by rw[ig.out];rfl,XX.out⟩
    | true=>
     have b0:=XB1.out.cell 0;have b1:=XB1.out.cell 1;have b2:=XB1.out.cell 2;have b3:=XB2.out.cell 0;simp only[List.getElem?_toArray,List.getElem?_cons_zero,List.getElem?_cons_succ]at b0 b1 b2 b3;have H1':=hid (H1.out.below XX.out);have H2':=hid (H2.out.below XX.out);clear H1 H2 H0;go_wp2
     go_loop [37] (fun i=>∃ s:Nat,s<=n1/\i=.int .i64 s/\∀ j,j<s->d.jd j=true) (fun i=>n1-(intOf i).toNat)
     case atStart=>exact⟨0,by omega,rfl,fun j hj=>by omega⟩
     case round=>
      obtain⟨s,hs,rfl,ha⟩:=hrel;have HA:=hid ha;clear ha;by_cases hlt:s<n1
      ·obtain⟨l,hl⟩:∃ l,d.nx[s]? =some l:=⟨_,az (by have:=sK.out;omega)⟩
       obtain⟨m,hm⟩:∃ m,d.mr[s]? =some m:=⟨_,az (by have:=uM.out;omega)⟩;obtain⟨g1,o1,e1,k1,rfl,hg1,x1,y1⟩:=H1'.out.elem hl;obtain⟨g2,o2,e2,k2,rfl,hg2,x2,y2⟩:=H2'.out.elem hm;have gl:=getD_some (d:=([]:List Int)) hl;have gm:=getD_some (d:=([]:List Int)) hm;have ll:=SM.out.Bl l (aw hl);have lm:=SM.out.mks m (aw hm);have hs1:s<d.nx.length:=by have:=sK.out;omega
       have Hs1:=hid hs1;have eG:(s:Int)<n1:=by omega
       obtain⟨j,hj⟩:=ag l.length;obtain⟨k,hk⟩:=ag m.length;rw[<-hj]at x1 y1 ll;rw[<-hk]at x2 y2 lm;have HJ:=hid hj;have HK:=hid hk;have GL:=hid gl;have GM:=hid gm;have Y1:=hid y1;have Y2:=hid y2;clear hl hm hj hk gl gm y1 y2 hs1;by_cases hj0:j=n0
       ·subst hj0
        obtain⟨z,hz⟩:=ag (l.any (fun x=> !Tl n1 x))
        have CC:Hid (ah 65 #[.slice e1 j k1,.func (.func 66) #[] #[.pointer (some ⟨w.heap.size+1,0,none⟩)]] W fun e w'=>e=.returned (.bool z)/\w'=W):=hid (by
         rw[hz]
         exact rq _ _ (fun x=> !Tl n1 x) _ l W Y1.out (by rw[<-HJ.out];exact ll) L8 (fun x W' GR=>H6 x n1 _ W' ((XB2.out.below GR XB2.out.lt).cell 0)))
        have HZ:=hid hz;clear hz;cases z with
        | true=>
         have ig:=hid (HR.out.trans (ot Hs1.out (Uh (by rw[GL.out, <-sK.out];exact HZ.out.symm))));go_wp2_with fail
         refine(CC.out).mono ?_;rintro e w' ⟨rfl,hw⟩;replace hw:=hw.symm;subst hw;go_wp2;go_ret;exact⟨by rw[ig.out];rfl,XX.out⟩
        | false=>
         go_wp2_with fail
         refine(CC.out).mono ?_;rintro e w' ⟨rfl,hw⟩;replace hw:=hw.symm;subst hw;go_wp2
         go_loop [59,6] (fun i p=>∃ c:Nat,c<=k/\i=.int .i64 c/\p=.int .i64 (ny m c)/\∀ i,i<c->tQ m i=true) (fun i _=>k-(intOf i).toNat)
         case atStart=>exact⟨0,by omega,rfl,rfl,fun i hi=>by omega⟩
         case round=>
          obtain⟨c,hc,rfl,rfl,hc2⟩:=hrel;have Tn:=hid hc2;clear hc2;by_cases XL:c<k
          ·obtain⟨x,hx⟩:∃ x,m[c]? =some x:=⟨_,az (by have:=HK.out;omega)⟩
           obtain⟨g3,o3,rfl,hg3,x3⟩:=Y2.out.elem hx;have x3':W.cell? ⟨g3,o3+c,none⟩=some (.int .i64 x):=x3;have hci:(c:Int)<k:=by omega
           have VV:=hid (PH hx);have HPS:=hid (Ep hx);have HXM:=hid hx;clear hx x3;generalize ny m c=pv at VV ⊢;by_cases h1:x<=pv
           ·have d1:decide (x<=pv)=true:=decide_eq_true h1
            have ig:=hid (HR.out.trans (ot Hs1.out (Kf (by rw[GM.out];exact PF (by rw[<-HK.out];exact XL) (by rw[VV.out,show decide (pv<x)=false from decide_eq_false (by omega)];rfl)))));go_wp2;go_ret;exact⟨by rw[ig.out];rfl,XX.out⟩
           ·have d1:decide (x<=pv)=false:=decide_eq_false h1
            by_cases h2:255<x
            ·have d2:decide (255<x)=true:=decide_eq_true h2
             have ig:=hid (HR.out.trans (ot Hs1.out (Kf (by rw[GM.out];exact PF (by rw[<-HK.out];exact XL) (by rw[VV.out,show decide (x<=255)=false from decide_eq_false (by omega),Bool.and_false])))));go_wp2;go_ret;exact⟨by rw[ig.out];rfl,XX.out⟩
            ·have d2:decide (255<x)=false:=decide_eq_false h2
             go_wp2
             go_round
             case rel=>exact⟨c+1,by omega,by go_num,by rw[HPS.out],fun i hi=>by
              by_cases e:i=c
              ·subst e;rw[VV.out,decide_eq_true (show pv<x by omega),decide_eq_true (show x<=255 by omega)];rfl
              ·exact Tn.out i (by omega)⟩
             case measure=>simp[intOf];omega
          ·obtain rfl:c=k:=by omega
           go_wp2
           go_round
           case rel=>
            have hrow:∀ j',j'<s+1->d.jd j'=true:=fun j' hj'=>by
             by_cases e:j'=s
             ·rw[e]
              exact Ui (by rw[GL.out, <-HJ.out];exact zM.out) (by rw[GL.out, <-sK.out];exact HZ.out.symm) (by rw[GM.out];exact Uj fun i hi=>Tn.out i (by rw[HK.out];exact hi))
             ·exact HA.out j' (by omega)
            exact⟨_,_,_,_,_,_,⟨s+1,by omega,by go_num,hrow⟩,rfl,rfl,rfl,rfl,rfl,rfl⟩
           case measure=>simp[intOf];omega
       ·have d3:((j:Int)==(n0:Int))=false:=by rw[beq_eq_false_iff_ne];omega
        have d3':((j:Int) != (n0:Int))=true:=by simp;omega
        have afK:(j==n0)=false:=by rw[beq_eq_false_iff_ne];exact hj0
        have ig:=hid (HR.out.trans (ot Hs1.out (Ug (by rw[GL.out, <-HJ.out, <-zM.out];exact hj0))));go_wp2;go_ret;exact⟨by rw[ig.out];rfl,XX.out⟩
      ·obtain rfl:s=n1:=by omega
       have ig:=hid (HR.out.trans (L9 (by rw[<-sK.out];omega) (by rw[<-sK.out];omega) (by rw[<-sK.out, <-uM.out]) HQ.out.symm (fun j hj=>HA.out j (by rw[sK.out];exact hj))));go_wp2;go_ret;exact⟨by rw[ig.out];rfl,XX.out⟩
   ·have d3:((n2:Int)==(n1:Int))=false:=by rw[beq_eq_false_iff_ne];omega
    have d3':((n2:Int) != (n1:Int))=true:=by simp;omega
    have afK:(n2==n1)=false:=by rw[beq_eq_false_iff_ne];exact q3
    refine aK false (fun _=>False) (by kernel_rfl) 22 [0,1,3,7,15,31,63,127,255,511,127,2047,4095,8191,16383,32767,65535,16383,147455,524287,1048575,2097151] (fun i=>i==16 || i==19) (by kernel_rfl) (fun i=>if i=16 then aZ.row w.heap.size 56 4 pl.length (aM pl)else if i=19 then aZ.Du _ (.bool q)else aZ.any _) ?_;intro C hC hne;have HC:=hid hC;have f0:=aC hC (p:=⟨w.heap.size,0,none⟩) (by have:=qD.out.lt;exact this) (fun h=>h) (qD.out.cell 0);have f2:=aC hC (p:=⟨w.heap.size,2,none⟩) (by have:=qD.out.lt;exact this) (fun h=>h) (qD.out.cell 2);have f3:=aC hC (p:=⟨w.heap.size+1,0,none⟩) (by have:=iV.out.lt;exact this) (fun h=>h) (iV.out.cell 0);clear hC
    repeat (refine au (fun K hK=>?_);first | (refine bX rfl ?_;try go_simp;refine hK _ _ ?_;clear hK K) | (refine bR rfl rfl ?_;unfold aB;go_simp;refine hK _ _ ?_;clear hK K))
    refine bG (fun W hW hH=>?_);have hM:=(HC.out W).1 hW;have ig:=hid (HR.out.trans (rr (.inr (.inr (.inl (by rw[<-sK.out, <-uM.out];exact q3))))));clear hW hH f0 f2 f3;go_wp2;go_ret;exact⟨by rw[ig.out];rfl,HX.out.trans (hM.below.mono HX.out.size)⟩
theorem sL (v:Value) (d:DF) (w:World) (h:cS w v d) (sm:Sm d): ah 16 #[v] w fun e w'=>e=.returned (.bool d.right)/\aa w w':=H8 v d w h.e sm
theorem ar.three {w:World} {b:Nat} {x y z:Value} {t:TypeId} (h:ar w b #[x,y,z] t):(w.cell? ⟨b,0,none⟩=some x/\w.cell? ⟨b,1,none⟩=some y/\w.cell? ⟨b,2,none⟩=some z)/\w.frozen? ⟨b,0,none⟩=false/\w.frozen? ⟨b,1,none⟩=false/\w.frozen? ⟨b,2,none⟩=false:=
 ⟨⟨h.cell 0,h.cell 1,h.cell 2⟩,h.frozen 0,h.frozen 1,h.frozen 2⟩
theorem ar.yT {w:World} {b:Nat} {x y z x' y' z':Value} {t:TypeId} (h:ar w b #[x,y,z] t):ar (((w.setCell ⟨b,0,none⟩ x').setCell ⟨b,1,none⟩ y').setCell ⟨b,2,none⟩ z') b #[x',y',z'] t:=((h.set 0 x').set 1 y').set 2 z'
theorem iD {w W:World} {n b:Nat} {x y z:Value} (h:Below n w W) (hb:n<=b):Below n w (((W.setCell ⟨b,0,none⟩ x).setCell ⟨b,1,none⟩ y).setCell ⟨b,2,none⟩ z):=
 ((h.setCell (by simpa using hb) _).setCell (by simpa using hb) _).setCell (by simpa using hb) _
theorem Er {P:Program} {Cl:FuncId->Array Value->World->(Ending->World->Prop)->Prop} {Rd:Nat->FuncId->Array Value->Code->Code->World->(Ending->World->Prop)->Prop} {o:Oper} {a:Act} {W:World} {post:Value->World->Prop} (t e:TypeId) (x:Operand) (ho:o.op=.buildSlice t 1 #[(0,x)]) {i:TypeInfo} {z:Value} {m:Nat} (ht:P.underlying t=some (.slice e)) (hi:P.info? e=some i) (hz:i.zero=some z) (hsz:i.size=m) (hm:0<m) (tN:m<=16777216) (cs:Array Value) (hx:a.eval x=.agg cs) (hc:cs.size=m) (h:post (.slice (some ⟨W.heap.size,0,none⟩) 1 1) (W.alloc (.cells cs e))):jE Cl Rd post ((execOp a.eval o).run P W):=by
 unfold execOp;have e1:(#[((0:Nat),x)].map fun p=>(p.1,a.eval p.2))= #[(0,.agg cs)]:=by rw[<-hx];simp
 simp only[ho,Sem.run_bind,e1,pQ ht hi hz hsz hm tN cs hc W,Result.andThen_ok,Sem.run_pure];exact h
def aZ.Kg (base n:Nat) (xs:List Value):aZ (Move false (fun _=>False)) where
 P:=fun v=>∃ b,v=.slice (some ⟨b,0,none⟩) 1 1
 H:=fun v W=>∀ b,v=.slice (some ⟨b,0,none⟩) 1 1->∃ u,ar W b #[u] 39/\W.ownsRow base 3 1 u n xs
 nW:=.slice (some ⟨0,0,none⟩) 1 1
 pw:=⟨0,rfl⟩
 st:=fun _ _ _ hm _ h b hb=>by
  obtain⟨u,h1,h2⟩:=h b hb;exact⟨u,h1.below hm.below h1.lt,aj h2 hm.below⟩
theorem ar.VW {w:World} {b:Nat} {u:Value} {t:TypeId} (h:ar w b #[u] t):∀ j x,[u][j]? =some x->w.cell? ((⟨b,0,none⟩:Addr).add j)=some x:=cK h
theorem PK:∀ args w,(callFunc 33 args).run Tryz.prog w=.ok (.enter 33 args) w:=fun args w=>by kernel_rfl
theorem tM.own {w:World} {base n:Nat} {e:TypeId} {v:Value} {xs:List Value} (h:w.ownsRow base e 1 v n xs):tM w v n xs:=by
 rcases h.2 with⟨rfl,rfl⟩ | ⟨g,c,cur,rfl,_⟩
 ·exact .inl ⟨rfl,rfl,by have:=h.1;simpa using this⟩
 ·exact .inr ⟨_,c,rfl,h.cells rfl⟩
theorem sM (n:Nat):(madeCells (Value.int .i64 0).cells (n*1)).toList=(List.replicate n (0:Int)).map aN:=by
 apply List.ext_getElem?;intro k;simp only[madeCells,Value.cells,Nat.mul_one,Array.toList_map,Array.toList_range,List.map_replicate,aO,List.getElem?_replicate];by_cases h:k<n
 ·rw[List.getElem?_range h,if_pos h];simp[aN,Nat.mod_one]
 ·rw[aX (by simpa using h),if_neg h];rfl
theorem H9 (n:Nat):(madeCells (Value.slice none 0 0).cells (n*1)).toList=List.replicate n (Value.slice none 0 0):=by
 apply List.ext_getElem?;intro k;simp only[madeCells,Value.cells,Nat.mul_one,Array.toList_map,Array.toList_range,aO,List.getElem?_replicate];by_cases h:k<n
 ·rw[List.getElem?_range h,if_pos h];simp[Nat.mod_one]
 ·rw[aX (by simpa using Nat.le_of_not_lt h),if_neg h];rfl
theorem tS:∀ n,aM (List.replicate n 0)=List.replicate (n*4) (Value.int .u64 0)
 | 0=>rfl
 | n+1=>by
  rw[List.replicate_succ];show(encS 0).toList++aM (List.replicate n 0)=_;rw[tS n,show(n+1)*4=4+n*4 by omega, <-List.replicate_append_replicate];rfl
theorem Ib (n:Nat):(madeCells (Value.agg #[.int .u64 0,.int .u64 0,.int .u64 0,.int .u64 0]).cells (n*4)).toList=aM (List.replicate n 0):=by
 rw[tS];apply List.ext_getElem?;intro k;simp only[madeCells,Value.cells,Array.toList_map,Array.toList_range,aO,List.getElem?_replicate];by_cases h:k<n*4
 ·rw[List.getElem?_range h,if_pos h]
  have h4:k%4=0\/k%4=1\/k%4=2\/k%4=3:=by omega
  rcases h4 with e | e | e | e<;>simp[e]
 ·rw[aX (by simpa using Nat.le_of_not_lt h),if_neg h];rfl
theorem fB {w:World} {base n cap:Nat} {e:TypeId} {ad:Option Addr} {xs:List Value} (h:w.ownsRow base e 1 (.slice ad n cap) n xs) {i:Nat} (hi:i<n):∃ g u,ad=some ⟨g,0,none⟩/\base<=g/\g<w.heap.size/\xs[i]? =some u/\w.cell? ⟨g,i,none⟩=some u/\w.frozen? ⟨g,i,none⟩=false:=by
 have hl:=h.1;have hu:xs[i]? =some (xs[i]'(by omega)):=az (by omega);obtain⟨a,c,e1⟩:=ownsRow_form h;rcases h.2 with⟨_,e2⟩ | ⟨g,c',cur,e2,_⟩
 ·omega
 ·injection e2 with e2 _ _
  subst e2;have hlt:=h.lt g rfl;exact⟨g,_,rfl,hlt.1,hlt.2,hu,by have:=h.cells (g:=g) rfl _ _ hu;rw[Addr.add_mid]at this;simpa using this,h.frozenAt _⟩
attribute [local go_sem] encS
theorem vZ {l:List BS} {k:Nat} (hk:k<(partsOf l).length):leastOf (partsOf l) k=(lb (partsOf l) k,true):=by have h1:=aV (l:=partsOf l) 0 hk;have h2:=eo (iC l (aw h1));unfold leastOf;rw[sJ,h1];show aS _=_;unfold lb;rw[show aS ((partsOf l).getD k 0)=((aS ((partsOf l).getD k 0)).1,(aS ((partsOf l).getD k 0)).2) from rfl,h2.1]
def aZ.Uk (base:Nat) (p:List BS):aZ (Move false (fun _=>False)) where
 P:=fun v=>∃ b,v=.pointer (some ⟨b,0,none⟩)
 H:=fun v W=>cU W base v p
 nW:=.pointer (some ⟨0,0,none⟩)
 pw:=⟨0,rfl⟩
 st:=fun _ _ _ hm _ h=>h.below hm.below
theorem bu {P:Program} {fn:Func} {R:Ending->World->Prop} {x:Exit} {a:Act} {w:World} (h:∀ W,W=w->bodyPost P fn R x a W):bodyPost P fn R x a w:=h w rfl
theorem ar.rv {w:World} {b:Nat} {c:Array Value} {t:TypeId} (h:ar w b c t) (k:Nat) (v:Value) {c':Array Value} (e:c.setIfInBounds k v=c'):ar (w.setCell ⟨b,k,none⟩ v) b c' t:=e▸h.set k v
theorem py.symm {v y:Value} (h:py v y):py y v:=by
 unfold py at*;by_cases e:y.ownBlock=none
 ·exact .inl e
 ·right
  rcases h with h | h
  ·intro h';exact e (h'.trans h)
  ·exact fun h'=>h h'.symm
end
section
open Go Go.RowKit Go.Shelf Go.Maps
open Go.WideMaps (KeyLaw)
open Go.ChangeMaps (setBlock heap_setBlock_same)
def er (p:Nat×Nat):Value:=.agg #[.int .i64 p.1,.int .i64 p.2]
theorem zN {p q:Nat×Nat} (h:er p=er q):p=q:=by
 unfold er at h;injection h with h
 have h1:=congrArg (fun a:Array Value=>a.toList) h;simp at h1;exact Prod.ext (by omega) (by omega)
theorem Tryz.PM:Tryz.prog.cellsOf 3=1:=by kernel_rfl
theorem Tryz.PN:∃ n,Tryz.prog.types.size=n+1:=⟨Tryz.prog.types.size-1,by have:=of_decide_eq_true (show decide (0<Tryz.prog.types.size)=true by kernel_rfl);omega⟩
theorem XM (n:Nat) (x:Nat) (hx:x<=4000):Tryz.prog.keyLits (n+1) 3 [.int .i64 x]=some [.int .i64 x]:=by unfold Program.keyLits;rw[Tryz.underlying3];have:(Lit.int .i64 (x:Int)).wf=true:=WalkArith.wf_i64 (by omega);simp[this]
end
end Go.Proofs.YtjgccapbphadjaaGreatDoor
namespace Go.Proofs.YtjgccapbphadjaaGreatDoor.il
open Go Go.RowKit Go.Proofs.YtjgccapbphadjaaGreatDoor
structure App where
 e:TypeId
 size:Nat
 v:Value
 n:Nat
 xs:List Value
 m:Nat
 lo:Nat
 ok:List Value->World->Prop
 st:∀ ns A B,ae (fun x=>lo<=x/\x<A.heap.size) A B->ok ns A->ok ns B
def After (base:Nat) (w0:World) (p:App) (W:World) (v:Value):Prop:=
 (∃ ns,W.ownsRow base p.e p.size v (p.n+p.m) (p.xs++ns)/\p.ok ns W)/\(v.ownBlock=p.v.ownBlock\/∀ x,v.ownBlock=some x->w0.heap.size<=x)
structure bT (base:Nat) (w0:World) (PL:List App) (A B:World):Prop where
 keeps:ae (fun x=>x<A.heap.size/\¬ ∃ p∈PL,p.v.ownBlock=some x) A B
 old:∀ p∈PL,A.ownsRow base p.e p.size p.v p.n p.xs->B.ownsRow base p.e p.size p.v p.n p.xs
 new:∀ p∈PL,∀ v,After base w0 p A v->After base w0 p B v
section
variable {base:Nat} {w0:World} {PL:List App} {A B C:World}
theorem bT.trans (h:bT base w0 PL A B) (k:bT base w0 PL B C):bT base w0 PL A C:=
 ⟨h.keeps.trans k.keeps fun _ hx=>⟨aA hx.1 h.keeps.size,hx.2⟩,fun p hp ho=>k.old p hp (h.old p hp ho),fun p hp v hv=>k.new p hp v (h.new p hp v hv)⟩
theorem bT.below (h:aa A B):bT base w0 PL A B:=
 ⟨ae.ak h fun _ hx=>hx.1,fun _ _ ho=>ownsRow_keepsA ho h,fun p _ _ ⟨⟨ns,h1,h2⟩,h3⟩=>⟨⟨ns,ownsRow_keepsA h1 h,p.st ns _ _ (ae.ak h fun _ hx=>hx.2) h2⟩,h3⟩⟩
where
 ownsRow_keepsA {W W':World} {b:Nat} {e:TypeId} {size:Nat} {v:Value} {n:Nat} {xs:List Value} (h:W.ownsRow b e size v n xs) (hk:aa W W'):W'.ownsRow b e size v n xs:=
  ai h (ae.ak hk (R:=(· <W.heap.size)) fun _ h=>h) fun k e=>(h.lt k e).2
theorem bT.drew:bT base w0 PL A A.drew:=.below (Ext.refl A).drew.below
theorem bT.size (h:bT base w0 PL A B):A.heap.size<=B.heap.size:=h.keeps.size
def kj (w0:World) (PL:List App):Prop:=(∀ p∈PL,w0.heap.size<=p.lo)/\(∀ p∈PL,∀ x,p.v.ownBlock=some x->x<w0.heap.size)/\∀ (i j:Nat) (p q:App),PL[i]? =some p->PL[j]? =some q->i≠j->p.v.ownBlock=none\/p.v.ownBlock≠q.v.ownBlock
theorem bT.room (ok:kj w0 PL) {i:Nat} {p:App} (hi:PL[i]? =some p) {g cap:Nat} {cur:Array Value} (hv:p.v=.slice (some ⟨g,0,none⟩) p.n cap) (ho:A.ownsRow base p.e p.size p.v p.n p.xs) (hg:A.heap[g]? =some (.cells cur p.e (0,0))) (news:List Value) (mP:p.ok news A) (hl:news.length=p.m*p.size) (hcs:cur.size=cap*p.size) (hroom:p.n+p.m<=cap):bT base w0 PL A (A.setRow g (cur.toList.take (p.n*p.size)++news++cur.toList.drop (p.n*p.size+news.length)).toArray):=by
 have J9:=aw hi;have Tk:p.v.ownBlock=some g:=by rw[hv];rfl
 have hgw:g<w0.heap.size:=ok.2.1 p J9 g Tk;have VT:∀ c,ae (· ≠g) A (A.setRow g c):=fun c=>(ae.refl _ _).setRow (fun h=>h rfl) c
 have Em:p.n*p.size+news.length<=cur.size:=by rw[hl,hcs, <-Nat.add_mul];exact Nat.mul_le_mul_right _ hroom
 have fD:cur.toList.take (p.n*p.size)=p.xs:=by
  rcases ho.2 with⟨h,_⟩ | ⟨g',cap',cur',h,_,Kc,_,_,_,ht⟩
  ·rw[hv]at h;cases h
  ·rw[hv]at h
   cases h
   rw[hg]at Kc;cases Kc;exact ht
 have hlx:p.xs.length=p.n*p.size:=ho.1;generalize hc:(cur.toList.take (p.n*p.size)++news++cur.toList.drop (p.n*p.size+news.length)).toArray=c;have mA:c.toList=p.xs++news++cur.toList.drop (p.n*p.size+news.length):=by rw[<-hc,fD]
 have hcz:c.size=cur.size:=by rw[<-Array.length_toList,mA,aG,aG,List.length_drop,show cur.toList.length=cur.size from Array.length_toList];omega
 have kst:∀ q∈PL,∀ ns,q.ok ns A->q.ok ns (A.setRow g c):=fun q hq ns=>q.st ns _ _ ((VT c).mono fun x hx e=>by have:=ok.1 q hq;have:=hx.1;omega)
 have Ua:(A.setRow g c).heap[g]? =some (.cells c p.e (0,0)):=setRow_heap A g cur c p.e _ hg;have far:∀ {e:TypeId} {size:Nat} {v:Value} {n:Nat} {xs:List Value},A.ownsRow base e size v n xs->v.ownBlock≠some g->(A.setRow g c).ownsRow base e size v n xs:=fun h hne=>
  ai h (VT c) fun k e e'=>hne (by rw[e,e'])
 have Ub:∀ {k cap':Nat} {xs:List Value},A.ownsRow base p.e p.size (.slice (some ⟨g,0,none⟩) k cap') k xs->c.toList.take (k*p.size)=xs->(A.setRow g c).ownsRow base p.e p.size (.slice (some ⟨g,0,none⟩) k cap') k xs:=fun {k cap' xs} h ht=>by
  rcases h.2 with⟨h',_⟩ | ⟨g',c',cur',h',hb,Kc,h1,h2,h3,_⟩
  ·cases h'
  ·cases h'
   rw[hg]at Kc;cases Kc;exact⟨h.1,.inr ⟨g,cap',c,rfl,hb,Ua,h1,h2,by rw[hcz];exact h3,ht⟩⟩
 refine⟨(VT c).mono fun x hx e=>hx.2 ⟨p,J9,by rw[Tk,e]⟩,fun q hq XG=>?_,fun q hq v VU=>?_⟩
 ·obtain⟨j,hj⟩:=List.getElem?_of_mem hq
  by_cases e:j=i
  ·subst e
   rw[hi]at hj;cases hj;rw[hv]at XG ⊢;exact Ub XG (by rw[mA,List.append_assoc, <-hlx];exact List.take_left)
  ·refine far XG fun h=>?_
   rcases ok.2.2 j i q p hj hi e with h' | h'
   ·rw[h']at h;cases h
   ·exact h' (by rw[h,Tk])
 ·obtain⟨j,hj⟩:=List.getElem?_of_mem hq
  obtain⟨⟨ns,hns,aby⟩,hv2⟩:=VU;refine⟨?_,hv2⟩;by_cases e:j=i
  ·subst e
   rw[hi]at hj;cases hj;by_cases eb:v.ownBlock=some g
   ·rcases hns.2 with⟨h',_⟩ | ⟨g',c',cur',h',_⟩
    ·rw[h']at eb;cases eb
    ·subst h'
     have:g'=g:=by simpa[Value.ownBlock]using eb
     subst this;refine⟨news,?_,kst p J9 news mP⟩;have hl2:(p.xs++ns).length=(p.n+p.m)*p.size:=hns.1;rcases hns.2 with⟨h9,_⟩ | ⟨g9,c9,al3,h9,hb9,hg9,i1,i2,i3,_⟩
     ·cases h9
     ·cases h9
      rw[hg]at hg9;cases hg9;refine⟨by rw[aG,hl,hlx,Nat.add_mul],.inr ⟨_,_,c,rfl,hb9,Ua,i1,i2,by rw[hcz];exact i3,?_⟩⟩;rw[mA,Nat.add_mul, <-hlx, <-hl, <-aG];exact List.take_left
   ·exact⟨ns,far hns eb,kst p J9 ns aby⟩
  ·refine⟨ns,far hns fun h=>?_,kst q hq ns aby⟩
   rcases hv2 with h2 | h2
   ·rcases ok.2.2 j i q p hj hi e with h' | h'
    ·rw[h2,h']at h;cases h
    ·exact h' (by rw[<-h2,h,Tk])
   ·have:=h2 g h;omega
theorem dI {P:Program} {Cl:FuncId->Array Value->World->(Ending->World->Prop)->Prop} {Rd:Nat->FuncId->Array Value->Code->Code->World->(Ending->World->Prop)->Prop} {o:Oper} {a:Act} {W:World} {post:Value->World->Prop} (s x:Operand) (t:TypeId) (ho:o.op=.call {callee:=.builtin .append,args:= #[s,x],argTypes:= #[t,t]}) (i:TypeInfo) (z:Value) (bytes:Nat) {p:App} (ht:P.underlying t=some (.slice p.e)) (hi:P.info? p.e=some i) (hz:i.zero=some z) (hsize:i.size=p.size) (hby:i.bytes=bytes) (hzs:z.cells.size=p.size) (hsz:0<p.size) (ok:kj w0 PL) {k:Nat} (hk:PL[k]? =some p) (hs:a.eval s=p.v) (hown:W.ownsRow base p.e p.size p.v p.n p.xs) (ad:Addr) (c:Nat) (hx:a.eval x=.slice (some ad) p.m c) (news:List Value) (mP:p.ok news W) (hl:news.length=p.m*p.size) (hnews:∀ j u,news[j]? =some u->W.cell? (ad.add j)=some u) (h1:∀ u∈news,u.oneCell'=true) (h63:p.n+p.m<=maxLen) (hbytes:(p.n+p.m)*bytes<=140737488355328) (hbase:base<=W.heap.size) (hm:0<p.m) (hw0:w0.heap.size<=W.heap.size) (h:∀ v W',bT base w0 PL W W'->(∃ a c,v=.slice a (p.n+p.m) c)->After base w0 p W' v->(v.ownBlock=p.v.ownBlock\/v.ownBlock=some W.heap.size)->post v W'): jE Cl Rd post ((execOp a.eval o).run P W):=by
 obtain⟨v',w',hr,h2,h3⟩:=gQ (P:=P) W base t o.type p.e i z p.size bytes ht hi hz hsize hby hzs hsz p.v p.n p.xs hown ad p.m c news hl hnews h1 h63 hbytes hbase hm;unfold execOp;simp only[ho,resolve,invoke,builtin,Sem.run_bind,Sem.run_pure,Result.andThen_ok,List.map_toArray,List.map_cons,List.map_nil,hs,hx,hr];show post v' w';have OP:bT base w0 PL W w':=by
  rcases h3 with⟨g,cap,cur,e1,e2,e3,e4,e5,rfl⟩ | ⟨hb,_⟩
  ·exact bT.room ok hk e1 hown e2 news mP hl e3 e4
  ·exact .below hb
 refine h v' w' OP (ownsRow_form h2) ⟨⟨news,h2,p.st news _ _ (OP.keeps.mono fun x hx=>⟨hx.2,fun ⟨q,hq,Ma⟩=>?_⟩) mP⟩,?_⟩ ?_
 ·have h5:=ok.2.1 q hq x Ma
  have h6:=ok.1 p (aw hk);have:=hx.1;omega
 ·rcases h3 with⟨g,cap,cur,e1,e2,e3,e4,e5,rfl⟩ | ⟨hb,e⟩
  ·left;rw[e5,e1];rfl
  ·right;intro y hy;rw[e]at hy;cases hy;exact hw0
 ·rcases h3 with⟨g,cap,cur,e1,e2,e3,e4,e5,rfl⟩ | ⟨hb,e⟩
  ·left;rw[e5,e1];rfl
  ·right;exact e
end
open Go.Proofs.YtjgccapbphadjaaGreatDoor.RegG (aZ)
def ij.app (base:Nat) (w0:World) (PL:List App) (p:App) (hp:p∈PL):RegG.aZ (bT base w0 PL) where
 P:=fun v=>∃ a c,v=.slice a (p.n+p.m) c
 H:=fun _ v W=>After base w0 p W v
 nW:=.slice none (p.n+p.m) 0
 pw:=⟨none,0,rfl⟩
 st:=fun _ v _ _ hm _ h=>hm.new p hp v h
def ij.Bn (base:Nat) (w0:World) (PL:List App) (p:App) (hp:p∈PL):RegG.aZ (bT base w0 PL) where
 P:=fun v=>∃ a c,v=.slice a (p.n+p.m) c
 H:=fun y v W=>After base w0 p W v/\(v.ownBlock=p.v.ownBlock\/py v y)
 nW:=.slice none (p.n+p.m) 0
 pw:=⟨none,0,rfl⟩
 st:=fun _ v _ _ hm _ h=>⟨hm.new p hp v h.1,h.2⟩
def ij.vR (base:Nat) (w0:World) (PL:List App) (n:Nat) (cs:Array Value) (t:TypeId):RegG.aZ (bT base w0 PL) where
 P:=fun v=>∃ b,v=.slice (some ⟨b,0,none⟩) n n
 H:=fun _ v W=>∀ b,v=.slice (some ⟨b,0,none⟩) n n->(ar W b cs t/\¬ ∃ p∈PL,p.v.ownBlock=some b)
 nW:=.slice (some ⟨0,0,none⟩) n n
 pw:=⟨_,rfl⟩
 st:=fun _ _ _ _ hm _ h b e=>⟨(h b e).1.keeps hm.keeps ⟨(h b e).1.lt,(h b e).2⟩,(h b e).2⟩
def ij.Ul (base:Nat) (w0:World) (PL:List App) (t:TypeId) (H:World->Value->Prop) (hH:∀ W W' u,bT base w0 PL W W'->H W u->H W' u):RegG.aZ (bT base w0 PL) where
 P:=fun v=>∃ b,v=.slice (some ⟨b,0,none⟩) 1 1
 H:=fun _ v W=>∀ b,v=.slice (some ⟨b,0,none⟩) 1 1->(∃ u,ar W b #[u] t/\H W u)/\¬ ∃ p∈PL,p.v.ownBlock=some b
 nW:=.slice (some ⟨0,0,none⟩) 1 1
 pw:=⟨_,rfl⟩
 st:=fun _ _ _ _ hm _ h b e=>by
  obtain⟨⟨u,h1,h2⟩,h3⟩:=h b e;exact⟨⟨u,h1.keeps hm.keeps ⟨h1.lt,h3⟩,hH _ _ u hm h2⟩,h3⟩
def ij.row (base:Nat) (w0:World) (PL:List App) (ok:kj w0 PL) (lo:Nat) (AY:w0.heap.size<=lo) (e:TypeId) (size n:Nat) (xs:List Value):RegG.aZ (bT base w0 PL) where
 P:=fun v=>∃ a c,v=.slice a n c
 H:=fun _ v W=>W.ownsRow lo e size v n xs
 nW:=.slice none n 0
 pw:=⟨none,0,rfl⟩
 st:=fun A v _ B hm _ h=>ai h hm.keeps fun x hx=>⟨(h.lt x hx).2,fun ⟨q,hq,Ma⟩=>by have h5:=ok.2.1 q hq x Ma;have:=(h.lt x hx).1;omega⟩
theorem kj.fresh {w0:World} {PL:List App} (ok:kj w0 PL) {b:Nat} (h:w0.heap.size<=b):¬ ∃ p∈PL,p.v.ownBlock=some b:=fun ⟨p,hp,e⟩=>by
 have:=ok.2.1 p hp b e;omega
end Go.Proofs.YtjgccapbphadjaaGreatDoor.il
