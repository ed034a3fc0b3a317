/- (*maker).state: the number of a state, which may be new. -/
import Derived.Test.YtpcmhjbehdgdbaaGreatDoorOI11
set_option maxRecDepth 100000
set_option maxHeartbeats 16000000
open Go.Lib (hid)
namespace Go.Proofs.YtpcmhjbehdgdbaaGreatDoor
section
open Go Go.RowKit Go.Shelf Go.Maps
theorem Es (b off c:Nat) (l:List (Nat×Nat×Nat)) (w:World) (hb:b<w.heap.size) (hc:l.length<=c) (iG:l.length<=1000000000000000) (hS:∀ (i:Nat) (s:Nat×Nat×Nat),l[i]? =some s->s.1<256/\s.2.1<256/\s.2.2<256/\w.cell? ⟨b,off+i*3,none⟩=some (.int .u8 s.1)/\w.cell? ⟨b,off+i*3+1,none⟩=some (.int .u8 s.2.1)/\w.cell? ⟨b,off+i*3+2,none⟩=some (.int .u8 s.2.2)): ag 19 #[.slice (some ⟨b,off,none⟩) l.length c] w fun e w'=>∃ u,e=.returned u/\aH (fun x=>w.heap.size<=x/\x<w'.heap.size) w' u (fI l)/\aa w w':=
 (eH b off c l w hb hc iG hS).out (Qb b off c l w hb hc iG hS) (Qf b off c l w hb hc iG hS) (Qg b off c l w hb hc iG hS) (Qk b off c l w hb hc iG hS) (Ql b off c l w hb hc iG hS) (Qm b off c l w hb hc iG hS) (Qo b off c l w hb hc iG hS) (Qp b off c l w hb hc iG hS)
theorem wI (p:Option Addr) (c:Nat) (w:World): ag 19 #[.slice p 0 c] w fun e w'=>∃ u,e=.returned u/\aH (fun x=>w.heap.size<=x/\x<w'.heap.size) w' u (fI [])/\aa w w':=by
 go_enter Tryz.func19,Tryz.ntmps19
 have lS:min (0:Int) 25=0:=by decide
 go_wp2;refine ax ?_;intro V hV;have R0:Hid (aq V w.heap.size eL 40):=by rw[hV];exact hid (aq.new _ _ _)
 have X0:Hid (aa w V):=by rw[hV];exact hid ((Ext.refl w).alloc _).below
 clear hV;go_loopw [3,4,5,22] (fun u x y i wr=>u=.slice none 0 0/\x=.int .i64 1/\y=.int .i64 0/\i=.int .i64 0/\wr=V) (fun _ _ _ _ _=>0);case atStart=>exact⟨rfl,rfl,rfl,rfl,rfl⟩
 case round=>
  obtain⟨rfl,rfl,rfl,rfl,hwr⟩:=hrel;replace hwr:=hwr.symm;subst hwr;go_wp2_with fail
  refine(nA _ [97] rfl (by decide) V).mono ?_;rintro e w2 ⟨rfl,hx2⟩;obtain⟨S,hS⟩:=ah (oo fun c=>([97]:List Nat).contains c);rw[<-hS];have oG:fI []=.nd 2 S 0 0 []:=by rw[hS];rfl
  have R2:=hid (R0.below hx2 R0.lt);have X2:Hid (aa w w2):=hid (X0.trans (hx2.mono X0.size));clear hS hx2;go_wp2_with (refine wpList_store_row rfl 40 (.tmp 2) (.tmp 188) rfl w.heap.size (aj 2 S 0 0 (.slice none 0 0)) rfl rfl 40 eL R2 (cO _ _ _ _ _) rfl (j9 _ _ _ _ _ _ _) ?_;refine Hid.out ?_);refine hid ?_;obtain⟨V3,cD⟩:=ah (w2.setRow w.heap.size (aj 2 S 0 0 (.slice none 0 0)));rw[<-cD];have RR:Hid (aq V3 w.heap.size (aj 2 S 0 0 (.slice none 0 0)) 40):=by rw[cD];exact hid R2.setRow
  have KK:ae (· ≠w.heap.size) w2 V3:=by rw[cD];exact bn _ _ _
  clear cD;go_wp2;obtain⟨m0,m1,m2,m3,m4,m5,m6,m7⟩:=RR.eight;refine bodyPost_ret (v:=.agg (aj 2 S 0 0 (.slice none 0 0))) (by simp[results,Tryz.results19,aj,go_sem,m0,m1,m2,m3,m4,m5,m6,m7]) rfl ⟨_,rfl,?_,X2.trans (KK.mono fun x (hx:x<w.heap.size)=>by show x≠_;omega:ae (· <w.heap.size) w2 V3).below⟩;rw[oG];exact aH.leaf _ _ _ _ _ _ _ _
theorem iC.form {w:World} {v:Value} {l:List (Nat×Nat×Nat)} (h:iC w v l):∃ a c,v=.slice a l.length c:=by
 rcases h with⟨rfl,rfl⟩ | ⟨ad,c,rfl,rfl⟩ | ⟨b,off,c,rfl,_⟩
 ·exact⟨_,_,rfl⟩
 ·exact⟨_,_,rfl⟩
 ·exact⟨_,_,rfl⟩
theorem Et (v:Value) (l:List (Nat×Nat×Nat)) (iG:l.length<=1000000000000000) (w:World) (h:iC w v l): ag 19 #[v] w fun e w'=>∃ u,e=.returned u/\aH (fun x=>w.heap.size<=x/\x<w'.heap.size) w' u (fI l)/\aa w w':=by
 rcases h with⟨rfl,rfl⟩ | ⟨ad,c,rfl,rfl⟩ | ⟨b,off,c,rfl,hb,hc,_,h⟩
 ·exact wI none 0 w
 ·exact wI (some ad) c w
 ·exact Es b off c l w hb hc iG h
end
section
open Go Go.ChangeShapes Go.WideShapes Go.ChangeAt Go.RowKit Go.Deep
section
variable {H:Type} {enc:TypeId×Value→H} {W:World}
theorem qV {t e:TypeId} {fuel:Nat} {a:Option Addr} {n c:Nat} {x:DataW H×List MemPlace} (ht:Tryz.prog.underlying t=some (.slice e)) (hb:1<=Tryz.prog.bytesOf e) (h:DataW.trod enc Tryz.prog W 0 (fun _=>true) true fuel t [.slice a n c]=some x) (hs:∀ m∈x.1.weights Tryz.prog t,m<=reachBytes):n<=1000000000000000:=by
 rcases open_slice ht h with⟨hcs,_⟩ | ⟨a',len,cap,m,k,D,Pl,hcs,_,_,_,_,rfl,_⟩
 ·have:Value.slice a n c=.slice none 0 0:=by simpa using hcs
  cases this
  omega
 ·have:Value.slice a n c=.slice (some a') len cap:=by simpa using hcs
  cases this
  have h1:=hs ((((List.range n).map D).length+((List.range (m-n)).map fun j=>D (n+j)).length)*Tryz.prog.bytesOf e) (by simp[DataW.weights,ht]);have h2:n*1<=(((List.range n).map D).length+((List.range (m-n)).map fun j=>D (n+j)).length)*Tryz.prog.bytesOf e:=Nat.mul_le_mul (by simp) hb;unfold reachBytes at h1;omega
theorem qW {t:TypeId} (ht:Tryz.prog.underlying t=some (.int .u8)) {fuel:Nat} {c:Value} {y:DataW H×List MemPlace} (h:DataW.trod enc Tryz.prog W 0 (fun _=>true) true fuel t [c]=some y):∃ n:Nat,c=.int .u8 n/\n<256:=by
 obtain⟨z,hz,_,hw⟩:=DataW.trod_int ht h;obtain rfl:c=.int .u8 z:=by simpa using hz
 have:=De hw;exact⟨z.toNat,by rw[Int.toNat_of_nonneg this.1],by omega⟩
theorem Eu {fuel:Nat} {v:Value} {y:DataW H×List MemPlace} (h:DataW.trod enc Tryz.prog W 0 (fun _=>true) true fuel 62 [v]=some y) (hz:∀ m∈y.1.weights Tryz.prog 62,m<=reachBytes): ∃ l:List (Nat×Nat×Nat),iC W v l/\l.length<=1000000000000000:=by
 have hb3:1<=Tryz.prog.bytesOf 90:=by
  have:Tryz.prog.bytesOf 90=3:=by kernel_rfl
  omega
 have h0:=h;rcases open_slice Tryz.underlying62 h with⟨hcs,_⟩ | ⟨a,len,cap,m,n,D,Pl,hcs,_,hl,hm,NY,_,hi⟩
 ·obtain rfl:v=.slice none 0 0:=by simpa using hcs
  exact⟨[],.inl ⟨rfl,rfl⟩,by simp⟩
 ·obtain rfl:v=.slice (some a) len cap:=by simpa using hcs
  have hbd:=qV Tryz.underlying62 hb3 h0 hz;have hc:Tryz.prog.cellsOf 90=3:=by kernel_rfl
  rw[hc]at hi;rw[if_pos rfl]at NY;rcases Nat.eq_zero_or_pos len with h1 | h1
  ·subst h1
   exact⟨[],.inr (.inl ⟨a,cap,rfl,rfl⟩),by simp⟩
  ·obtain⟨b,off,spot⟩:=a
   have el:∀ i,i<len->∃ s:Nat×Nat×Nat,(s.1<256/\s.2.1<256/\s.2.2<256)/\W.cell? ((⟨b,off,spot⟩:Addr).add (i*3))=some (.int .u8 s.1)/\W.cell? (((⟨b,off,spot⟩:Addr).add (i*3)).add 1)=some (.int .u8 s.2.1)/\W.cell? (((⟨b,off,spot⟩:Addr).add (i*3)).add 2)=some (.int .u8 s.2.2):=fun i iR=>by
    obtain⟨cs',h2,h3⟩:=hi i (by omega);obtain⟨_,Ef,hat⟩:=World.cells?_some h2;match cs',Ef with
    | [c0,c1,c2],_=>
    obtain⟨y0,y1,y2,k,_,_,t0,t1,t2⟩:=trod_struct3 Tryz.underlying90 h3;obtain⟨n0,rfl,q0⟩:=qW Tryz.underlying5 (show DataW.trod enc Tryz.prog W 0 (fun _=>true) true k 5 [c0]=some y0 from t0);obtain⟨n1,rfl,q1⟩:=qW Tryz.underlying5 (show DataW.trod enc Tryz.prog W 0 (fun _=>true) true k 5 [c1]=some y1 from t1);obtain⟨n2,rfl,q2⟩:=qW Tryz.underlying5 (show DataW.trod enc Tryz.prog W 0 (fun _=>true) true k 5 [c2]=some y2 from t2);have g0:=hat 0 (by decide);have g1:=hat 1 (by decide);have g2:=hat 2 (by decide);refine⟨(n0,n1,n2),⟨q0,q1,q2⟩,?_,g1,g2⟩;have e:∀ A:Addr,A.add 0=A:=fun A=>by simp[Addr.add]
    rwa[e]at g0
   have hspot:spot=none:=by obtain⟨s,_,g0,_⟩:=el 0 h1;simpa[Addr.add]using World.cell?_spot g0
   subst hspot;have hb:b<W.heap.size:=by
    obtain⟨s,_,g0,_⟩:=el 0 h1;rw[nr]at g0;exact GQ g0
   obtain⟨S,hS⟩:=choose_lt (α:=Nat×Nat×Nat) (p:=fun i s=>s.1<256/\s.2.1<256/\s.2.2<256/\W.cell? ⟨b,off+i*3,none⟩=some (.int .u8 s.1)/\W.cell? ⟨b,off+i*3+1,none⟩=some (.int .u8 s.2.1)/\W.cell? ⟨b,off+i*3+2,none⟩=some (.int .u8 s.2.2)) (n:=len) (fun i iR=>by
    obtain⟨s,⟨q0,q1,q2⟩,g0,g1,g2⟩:=el i iR;rw[nr]at g0 g1 g2;rw[nr]at g1 g2
    exact⟨s,q0,q1,q2,g0,g1,g2⟩)
   refine⟨(List.range len).map S,.inr (.inr ⟨b,off,cap,by simp,hb,by simpa using hl,?_,fun i s RH=>?_⟩),by simpa using hbd⟩
   ·intro e
    have:=congrArg List.length e;simp at this;omega
   ·simp only[bH,Option.map_eq_some_iff,MT]at RH
    obtain⟨k,⟨hk,rfl⟩,rfl⟩:=RH;simp at hk ⊢;exact hS i hk
end
end
section
open Go Go.RowKit Go.Shelf Go.Maps
theorem TB {ps:List PT} {fuel:Nat} {st:List (List (List Int))×List (List Nat)} (h:kO ps fuel=some st):NU fuel (partsOf (ct ps)).length (nh ps) (kq ps) fuel st:=by
 unfold kO at h;split at h
 ·cases h
 ·rename_i hf
  exact nL (by omega) (nR ps) (fun row k hr _=>jD hr _) fuel h
theorem Qq {ps:List PT} {fuel:Nat} (hf2:fuel<=4000) {st:List (List (List Int))×List (List Nat)} (h:kO ps fuel=some st):Rt ⟨partsOf (ct ps),st.2.map fun r=>r.map Int.ofNat,st.1.map (dG ps)⟩:=by
 have I:=TB h;have hlen:st.2.length=st.1.length:=by have:=I.len;have:=I.le;omega
 have hrow:∀ s,s<st.2.length->((st.2.map fun r=>r.map Int.ofNat).getD s [])=(st.2.getD s []).map Int.ofNat/\(st.2.getD s [])∈st.2:=fun s hs=>by
  have e:=bB (l:=st.2) [] hs;refine⟨?_,aA e⟩;rw[cq,bH,e];rfl
 refine⟨?_,?_,?_,l7 _,?_,?_,?_⟩
 ·show 1<=(st.2.map fun r=>r.map Int.ofNat).length
  have:=(List.getElem?_eq_some_iff.1 I.head).1;simp;omega
 ·show(st.2.map fun r=>r.map Int.ofNat).length<=4000
  have:=I.le;simp;omega
 ·simp[hlen]
 ·intro s hs
  rw[bp]at hs;obtain⟨e,hm⟩:=hrow s hs;show((st.2.map fun r=>r.map Int.ofNat).getD s []).length=_;rw[e,bp];exact(I.rows _ hm).1
 ·intro s hs t ht
  rw[bp]at hs;obtain⟨e,hm⟩:=hrow s hs;replace ht:t∈((st.2.map fun r=>r.map Int.ofNat).getD s []):=ht;rw[e]at ht;obtain⟨q,hq,rfl⟩:=List.mem_map.1 ht;have h2:=(I.rows _ hm).2 q hq;show(0:Int)<=(q:Int)/\(q:Int)<(((st.2.map fun r=>r.map Int.ofNat).length:Nat):Int);rw[bp];omega
 ·intro s hs
  rw[bp]at hs;show mS ((st.1.map (dG ps)).getD s [])=true;rw[cq,bH,aC (by omega)];exact GA ps _
theorem bO {ps:List PT} {fuel:Int} {d:DF} (h:di ps fuel=(d,0)):Rt d:=by
 unfold di at h;split at h
 ·cases h
 ·split at h
  ·cases h
  ·split at h
   ·cases h
   ·rename_i hf
    split at h
    ·cases h
    ·rename_i st hst
     have e:(⟨partsOf (ct ps),st.2.map fun r=>r.map Int.ofNat,st.1.map (dG ps)⟩:DF)=d:=(Prod.mk.inj h).1;rw[<-e];exact Qq (by omega) hst
section
variable {α:Type} [DecidableEq α]
theorem Ev {f:Nat} {st kK:List α×List Nat} {q:α} (h:lB f st q=some kK):st.1.length<=kK.1.length:=by
 unfold lB at h;split at h
 ·split at h
  ·cases h
  ·cases h;simp
 ·cases h;exact aD _
theorem LG {f g:Nat} {st kK:List α×List Nat} {q:α} (h:lB f st q=some kK) (hg:kK.1.length<=g):lB g st q=some kK:=by
 unfold lB at h ⊢;split at h
 ·rename_i e
  rw[if_pos e];split at h
  ·cases h
  ·cases h
   rw[if_neg];have:st.1.length+1<=g:=by simpa using hg
   omega
 ·rename_i e
  rw[if_neg e];exact h
theorem zx {f:Nat} {s:Nat->α} {todo:List α} :∀ {k:Nat} {st:List α×List Nat},dr f s todo k=some st->todo.length<=st.1.length
 | 0,st,h=>by cases h;exact aD _
 | k+1,st,h=>by
  rw[dr]at h;obtain⟨st1,h1,h2⟩:=Option.bind_eq_some_iff.1 h;exact Nat.le_trans (zx h1) (Ev h2)
theorem wJ {f g:Nat} {s:Nat->α} {todo:List α} :∀ {k:Nat} {st:List α×List Nat},dr f s todo k=some st->st.1.length<=g->dr g s todo k=some st
 | 0,st,h,_=>h
 | k+1,st,h,hg=>by
  rw[dr]at h ⊢;obtain⟨st1,h1,h2⟩:=Option.bind_eq_some_iff.1 h;rw[wJ h1 (Nat.le_trans (Ev h2) hg)];exact LG h2 hg
theorem Hh {f:Nat} {s:α->Nat->α} {K n:Nat} {st kK:List α×List (List Nat)} (h:fK f s K n st=some kK):st.1.length<=kK.1.length:=by
 unfold fK at h;split at h
 ·cases h;exact aD _
 ·obtain⟨r,h1,h2⟩:=Option.map_eq_some_iff.1 h
  cases h2
  exact zx h1
theorem Ew {f g:Nat} {s:α->Nat->α} {K n:Nat} {st kK:List α×List (List Nat)} (h:fK f s K n st=some kK) (hg:kK.1.length<=g):fK g s K n st=some kK:=by
 unfold fK at h ⊢;split at h
 ·exact h
 ·obtain⟨r,h1,h2⟩:=Option.map_eq_some_iff.1 h
  cases h2
  rw[wJ h1 hg];rfl
theorem og {f g:Nat} {s:α->Nat->α} {K:Nat} {p0:α} :∀ {n:Nat} {st:List α×List (List Nat)},dQ f s K p0 n=some st->st.1.length<=g->dQ g s K p0 n=some st
 | 0,st,h,_=>h
 | n+1,st,h,hg=>by
  rw[dQ]at h ⊢;obtain⟨st1,h1,h2⟩:=Option.bind_eq_some_iff.1 h;rw[og h1 (Nat.le_trans (Hh h2) hg)];exact Ew h2 hg
end
theorem uI {ps:List PT} {f:Nat} {st:List (List (List Int))×List (List Nat)} (h:kO ps f=some st):1≤f∧st.1.length≤f∧1≤st.1.length:=by
  unfold kO at h;split at h
  · cases h
  · have hf:1≤f:=by omega
    have I:=nL hf (nR ps) (fun _ _ hr _=>jD hr _) f h
    exact ⟨hf, I.le, by rcases e : st.1 with _ | ⟨x, l⟩
                        · have := I.head; rw [e] at this; cases this
                        · simp⟩
theorem zy {ps:List PT} {f g:Nat} {st:List (List (List Int))×List (List Nat)} (h:kO ps f=some st) (hg:st.1.length<=g):kO ps g=some st:=by
 obtain⟨hf,hl,h1⟩:=uI h;unfold kO at h ⊢;rw[if_neg (by omega)]at h ⊢;have h2:=og h hg;by_cases e:f<=g
 ·exact jw h2 hl g e
 ·rcases h3:dQ g (fun row k=>dZ ps row (lb (partsOf (ct ps)) k)) (partsOf (ct ps)).length (kq ps) g with _ | st2
  ·rw[nK h3 f (by omega)]at h2
   cases h2
  ·have I:=nL (by omega) (nR ps) (fun _ _ hr _=>jD hr _) g h3
   rw[jw h3 I.le f (by omega)]at h2;exact h2
theorem LH {ps:List PT} {f g:Nat} {st:List (List (List Int))×List (List Nat)} (h:kO ps f=some st) (hg:g<st.1.length):kO ps g=none:=by
 rcases h3:kO ps g with _ | st2
 ·rfl
 ·obtain⟨_,hl,_⟩:=uI h
  obtain⟨_,hl2,_⟩:=uI h3;have:=zy h3 (g:=f) (by omega);rw[h]at this;cases this;omega
theorem sB {ps:List PT} {f:Int} (h:(di ps f).2=0):¬64<ps.length/\ps.all PT.ok=true/\0<=f/\f<=4000/\∃ st,kO ps f.toNat=some st/\(di ps f).1=⟨partsOf (ct ps),st.2.map fun r=>r.map Int.ofNat,st.1.map (dG ps)⟩:=by
 unfold di at h ⊢;split at h
 ·exact absurd h (by decide)
 ·rename_i h1
  split at h
  ·exact absurd h (by decide)
  ·rename_i h2
   split at h
   ·exact absurd h (by decide)
   ·rename_i h3
    rw[if_neg h1,if_neg h2,if_neg h3];rcases e:kO ps f.toNat with _ | st
    ·rw[e]at h
     have h':(181:Int)=0:=h;omega
    ·exact⟨h1,by simpa using h2,by omega,by omega,st,rfl,rfl⟩
theorem oh {ps:List PT} {f g:Int} (h:(di ps f).2=0) (h0:0<=g) (h1:g<=4000):di ps g=if((di ps f).1.mr.length:Int)<=g then((di ps f).1,0)else(⟨[],[],[]⟩,181):=by
 obtain⟨a1,a2,a3,a4,st,a5,a6⟩:=sB h;rw[a6];have e:(st.1.map (dG ps)).length=st.1.length:=by simp
 unfold di;rw[if_neg a1,if_neg (by rw[a2];decide),if_neg (by omega)];show _=if((st.1.map (dG ps)).length:Int)<=g then _ else _
 rw[e];by_cases hc:(st.1.length:Int)<=g
 ·rw[if_pos hc,zy a5 (g:=g.toNat) (by omega)]
 ·rw[if_neg hc,LH a5 (g:=g.toNat) (by omega)]
def yc (d:DF) (s:Nat) (b:List Nat):Nat:=b.foldl (fun s c=>jh d s (cls d.cl c)) s
end
section
open Go Go.RowKit
theorem Jk {α:Type} {P:List α->Prop} (h0:P []) (h1:∀ l x,P l->P (l++ [x])) (l:List α):P l:=by
 have key:∀ r:List α,P r.reverse:=fun r=>by
  induction r with
  | nil=>exact h0
  | cons x r ih=>rw[List.reverse_cons];exact h1 _ _ ih
 have:=key l.reverse;rwa[List.reverse_reverse]at this
def rowAt (ps:List PT) (b:List Nat):List (List Int):=b.foldl (fun r c=>dZ ps r c) (kq ps)
def PT.at (x:PT) (b:List Nat):List Int:=b.foldl (fun l c=>x.step l c) [-1]
theorem wK (ps:List PT) (b:List Nat) (c:Nat):rowAt ps (b++ [c])=dZ ps (rowAt ps b) c:=by unfold rowAt;rw[List.foldl_append];rfl
theorem PT.Jl (x:PT) (b:List Nat) (c:Nat):x.at (b++ [c])=x.step (x.at b) c:=by unfold PT.at;rw[List.foldl_append];rfl
theorem Qr (ps:List PT):∀ b,nh ps (rowAt ps b):=by
 refine Jk (nR ps) fun b c ih=>?_
 rw[wK];exact jD ih c
theorem LI (ps:List PT) (b:List Nat):rowAt ps b=ps.map fun x=>x.at b:=by
 refine Jk (P:=fun b=>rowAt ps b=ps.map fun x=>x.at b) rfl (fun b c ih=>?_) b;show rowAt ps (b++ [c])=_;rw[wK,ih];unfold dZ;rw[List.zipWith_map_right];apply List.ext_getElem?;intro i;simp only[List.getElem?_zipWith,bH];cases ps[i]? with
 | none=>rfl
 | some x=>simp[PT.Jl]
def LJ (d:DF) (b:List Nat):Bool:=acc d (yc d 0 b)
theorem LK (d:DF) (s:Nat) (b:List Nat) (c:Nat):yc d s (b++ [c])=jh d (yc d s b) (cls d.cl c):=by unfold yc;rw[List.foldl_append];rfl
theorem pQ {a b:DF} {op:Int} {fuel:Nat} {d:DF} (h:fT a b op fuel=some d):∃ st,dQ fuel (l6 a b) (partsOf (a.cl++b.cl)).length (0,0) fuel=some st/\d=⟨partsOf (a.cl++b.cl),st.2.map fun r=>r.map Int.ofNat,st.1.map (eB a b op)⟩:=by unfold fT at h;obtain⟨st,h1,h2⟩:=Option.map_eq_some_iff.1 h;exact⟨st,h1,h2.symm⟩
theorem lT {d:DF} (h:Rt d):∀ (w:List Nat) (s:Nat),s<d.nx.length->(∀ c∈w,c<256)->acc d (yc d s w)=true->Reach d w.length s
 | [],_,_,_,ha=>ha
 | c::w,s,hs,hw,ha=>by
  have hk:=h.part.kj (hw c (bL ..));exact⟨_,hk,lT h w _ (h.gM hs hk) (fun x hx=>hw x (cd _ hx)) ha⟩
theorem wM (d:DF):∀ j,yc d 0 (bP d j).2=(bP d j).1
 | 0=>rfl
 | j+1=>by
  show yc d 0 ((bP d j).2++ [eI d (bP d j).1])=_;rw[LK,wM d j];rfl
theorem iF (d:DF):∀ j,(bP d j).2.length=j
 | 0=>rfl
 | j+1=>by
  show((bP d j).2++ [eI d (bP d j).1]).length=_;rw[aQ,iF d j];rfl
theorem sD (d:DF) (j:Nat):∀ m,j<=m->(bP d m).2.take j=(bP d j).2
 | 0,hj=>by
  obtain rfl:j=0:=by omega
  rfl
 | m+1,hj=>by
  show((bP d m).2++ [eI d (bP d m).1]).take j=_;by_cases e:j=m+1
  ·subst e
   rw[List.take_of_length_le (by rw[aQ,iF];exact aD _)];rfl
  ·rw[List.take_append_of_le_length (by rw[iF];omega)]
   exact sD d j m (by omega)
theorem Qs (d:DF) {j m:Nat} (hj:j<m):(bP d m).2[j]? =some (eI d (bP d j).1):=by
 have h1:=sD d (j+1) m (by omega);have h2:((bP d m).2.take (j+1))[j]? =(bP d m).2[j]? :=by rw[List.getElem?_take,if_pos (by omega)]
 rw[<-h2,h1];show((bP d j).2++ [eI d (bP d j).1])[j]? =_;rw[cZ (by rw[iF];exact aD _),iF,Nat.sub_self];rfl
theorem wN {d:DF} (h:Rt d) {s:List Nat} (hs:dA d=some s):cW d 0<d.nx.length/\s=(bP d (cW d 0).toNat).2:=by
 unfold dA at hs;split at hs
 ·cases hs
 ·have:=(pg h h.pos).2
  exact⟨by omega,(Option.some.inj hs).symm⟩
theorem wO {d:DF} (h:Rt d) {s:List Nat} (hs:dA d=some s):LJ d s=true/\(∀ c∈s,c<256)/\s.length<d.nx.length:=by obtain⟨h1,rfl⟩:=wN h hs;have h0:=(pg h h.pos).1;obtain⟨a1,a2,a3,a4⟩:=Ak h h1 (cW d 0).toNat (by omega);refine⟨?_,a4,by rw[a3];omega⟩;unfold LJ;rw[wM];have h2:=jl h a1 (by omega);rw[show(cW d (bP d (cW d 0).toNat).1).toNat=0 by omega]at h2;exact h2
theorem Ex {d:DF} (h:Rt d) {s w:List Nat} (hs:dA d=some s) (hw:∀ c∈w,c<256) (ha:LJ d w=true):s.length<=w.length:=by obtain⟨h1,rfl⟩:=wN h hs;have h2:=rT h h.pos (lT h w 0 h.pos hw ha);rw[iF];omega
theorem LL {d:DF} (h:Rt d) {s w:List Nat} (hs:dA d=some s) (hw:∀ c∈w,c<256) (ha:LJ d w=true) (hl:w.length=s.length) {j x y:Nat} (ht:w.take j=s.take j) (hx:w[j]? =some x) (hy:s[j]? =some y):y<=x:=by
 obtain⟨h1,rfl⟩:=wN h hs;have h0:=(pg h h.pos).1;have hj:j<(cW d 0).toNat:=by have:=(List.getElem?_eq_some_iff.1 hy).1;rwa[iF]at this
 rw[Qs d hj]at hy;cases hy;rw[sD d j _ (by omega)]at ht;obtain⟨a1,a2,a3,a4⟩:=Ak h h1 j (by omega);have hx9:x<256:=hw x (aA hx);obtain⟨b1,b2,b3⟩:=yN h a1 (by omega) (by omega);refine Nat.le_of_not_lt fun hlt=>?_
 have hn:=b3 x hlt
 -- but the word goes on to a state with marks
 have hk:=h.part.kj hx9;have hwd:w=w.take j++x::w.drop (j+1):=by
  have fC:=(List.getElem?_eq_some_iff.1 hx);obtain⟨hj3,hj4⟩:=fC
  conv=>lhs;rw[<-List.take_append_drop j w,List.drop_eq_getElem_cons hj3,hj4]
 have hr:acc d (yc d (jh d (bP d j).1 (cls d.cl x)) (w.drop (j+1)))=true:=by have h5:=ha;unfold LJ at h5;rw[hwd,ht]at h5;unfold yc at h5;rw[List.foldl_append]at h5;have h6:=wM d j;unfold yc at h6;rw[h6]at h5;exact h5
 have h7:=rT h (h.gM a1 hk) (lT h _ _ (h.gM a1 hk) (fun c hc=>hw c (List.mem_of_mem_drop hc)) hr);rw[List.length_drop,hl,iF]at h7;have h8:=vA h a1 hk (by omega);unfold eP at hn;rw[beq_eq_false_iff_ne]at hn;omega
theorem wP {a b d d':DF} (ha:Rt a) (hb:Rt b) {op:Int} {f f':Nat} (h1:1<=f') (hf:f'<=f) (h:fT a b op f=some d) (h':fT a b op f'=some d'):d'=d/\d.nx.length<=f':=by obtain⟨st,e1,rfl⟩:=pQ h;obtain⟨kK,e2,rfl⟩:=pQ h';have I:=qF ha hb h1 e2;have e3:=jw (og e2 (g:=f) (by have:=I.le;omega)) I.le f hf;rw[e1]at e3;cases e3;refine⟨rfl,?_⟩;show(st.2.map _).length<=f';rw[bp];have:=I.len;have:=I.le;omega
structure XD (P:List Nat->Bool) (s:List Nat):Prop where
 ok:P s=true
 tU:∀ c∈s,c<256
 short:∀ w:List Nat,(∀ c∈w,c<256)->P w=true->s.length<=w.length
 lex:∀ w:List Nat,(∀ c∈w,c<256)->P w=true->w.length=s.length->∀ j x y,w.take j=s.take j->w[j]? =some x->s[j]? =some y->y<=x
theorem TC {d:DF} (h:Rt d) {s:List Nat} (hs:dA d=some s):XD (LJ d) s/\s.length<d.nx.length:=
 ⟨⟨(wO h hs).1,(wO h hs).2.1,fun _ hw ha=>Ex h hs hw ha,fun _ hw ha hl _ _ _ ht hx hy=>LL h hs hw ha hl ht hx hy⟩,(wO h hs).2.2⟩
theorem Ey {a b d:DF} {op f:Int} {n:Nat} (hfn:f=n) (h:bM a b op f=(d,0)):a.right=true/\b.right=true/\1<=op/\op<=4/\1<=n/\n<=4000/\fT a b op n=some d:=by
 subst hfn;unfold bM at h;split at h
 ·cases (Prod.ext_iff.1 h).2
 ·rename_i hr
  split at h
  ·cases (Prod.ext_iff.1 h).2
  ·split at h
   ·cases (Prod.ext_iff.1 h).2
   ·split at h
    ·cases (Prod.ext_iff.1 h).2
    ·split at h
     ·rename_i x hx
      cases h
      rw[Int.toNat_natCast]at hx;refine⟨?_,?_,by omega,by omega,by omega,by omega,hx⟩
      ·cases ha:a.right<;>simp[ha]at hr ⊢
      ·cases hb:b.right<;>simp[hb]at hr ⊢
     ·cases (Prod.ext_iff.1 h).2
section
variable {κ:Type} [DecidableEq κ]
end
theorem TE {l:List Int} (h:mS l=true):∀ k,k<l.length->(k:Int)<=l.getD k 0/\l.getD k 0<=255:=by
 unfold mS at h;rw[List.all_eq_true]at h;intro k;induction k with
 | zero=>
  intro hk;have:=h 0 (by simpa using hk);unfold sW mR at this;simp at this;refine⟨?_,?_⟩<;>simp at* <;>omega
 | succ k ih=>
  intro hk;have h1:=ih (by omega);have:=h (k+1) (by simpa using hk);unfold sW mR at this;rw[if_neg (by omega),Bool.and_eq_true,decide_eq_true_eq,decide_eq_true_eq,Nat.add_sub_cancel]at this
  push_cast
  omega
end
section
open Go Go.RowKit Go.Shelf Go.Maps
theorem Rt.sm8 {d:DF} (h:Rt d):Sm d:=by
 have hn:=h.le;have hk:=h.Sn;have idx:∀ (ll:List (List Int)) (l:List Int),l∈ll->∃ i,i<ll.length/\ll.getD i []=l:=fun ll l hl=>by
  obtain⟨i,hi⟩:=List.getElem?_of_mem hl;exact⟨i,(List.getElem?_eq_some_iff.1 hi).1,getD_some hi⟩
 refine⟨by omega,by omega,by have:=h.mr;omega,fun l hl=>?_,fun l hl=>?_⟩
 ·obtain⟨i,h1,h2⟩:=idx _ _ hl
  have:=h.len i h1;rw[h2]at this;omega
 ·obtain⟨i,h1,h2⟩:=idx _ _ hl
  have hr:=h.ris i (by have:=h.mr;omega);rw[h2]at hr;by_cases h0:l.length=0
  ·omega
  ·have:=TE hr (l.length-1) (by omega)
   omega
theorem XG {ps:List PT} {f:Int} (h:(di ps f).2≠0):(di ps f).1=⟨[],[],[]⟩:=by
 unfold di at h ⊢;split
 ·rfl
 ·rename_i h1
  rw[if_neg h1]at h;split
  ·rfl
  ·rename_i h2
   rw[if_neg h2]at h;split
   ·rfl
   ·rename_i h3
    rw[if_neg h3]at h;split
    ·rfl
    ·rename_i st hst
     rw[hst]at h;exact absurd rfl h
theorem A9 (ps:List PT) (f:Int):Sm (di ps f).1:=by
 by_cases h:(di ps f).2=0
 ·exact(bO (Prod.ext rfl h:di ps f=((di ps f).1,0))).sm8
 ·rw[XG h]
  exact⟨by decide,by decide,by decide,fun _ h=>(by cases h),fun _ h=>(by cases h)⟩
def Qt (v0 v1 v2 v3:Value) (x:PT):List Value:=[v0,v1,v2,v3,.bool x.nf.emp,.bool x.OP,.int .i64 x.mark]
theorem TF {xs:List Value} {k i j:Nat} (hl:xs.length=k*7) (c:List Value) (hj:j<7) (hi:i<k):(xs++c)[i*7+j]? =xs[i*7+j]? :=bJ (by omega)
theorem Hi {xs:List Value} {k j:Nat} (hl:xs.length=k*7) (c:List Value):(xs++c)[k*7+j]? =c[j]? :=by rw[cZ (by omega),hl];congr 1;omega
theorem fM.form {base:Nat} {w:World} {v:Value} {a:NF} (h:fM base w v a):∃ a0 n0 c0 a1 n1 c1 a2 n2 c2 a3 n3 c3,v=.agg #[.slice a0 n0 c0,.slice a1 n1 c1,.slice a2 n2 c2,.slice a3 n3 c3,.bool a.emp]:=by obtain⟨v0,v1,v2,v3,rfl,h0,h1,h2,h3⟩:=h;obtain⟨a0,c0,rfl⟩:=ownsRow_form h0;obtain⟨a1,c1,rfl⟩:=h1.form;obtain⟨a2,c2,rfl⟩:=ownsRow_form h2;obtain⟨a3,c3,rfl⟩:=ownsRow_form h3;exact⟨_,_,_,_,_,_,_,_,_,_,_,_,rfl⟩
theorem Tryz.XH:(Tryz.prog.info? 101).map (fun i=>(i.zero,i.size,i.bytes))=some (some (.agg #[.slice none 0 0,.slice none 0 0,.slice none 0 0,.slice none 0 0,.bool false,.bool false,.int .i64 0]),7,120):=by kernel_rfl
theorem wQ {n:Nat} {l:List Int} (h:dX 0 ((n:Int)-1) l=true):l.length<=n:=by
 obtain⟨h1,h2⟩:=dY h;have hn:(l.map fun x=>x.toNat).Nodup:=by rw[List.nodup_iff_pairwise_ne,List.pairwise_map];exact h1.imp_of_mem fun {a b} ha hb hab=>by have:=h2 a ha;have:=h2 b hb;omega
 have:=List.Nodup.length_le_of_subset hn (l₂:=List.range n) fun x hx=>by
  obtain⟨y,hy,rfl⟩:=List.mem_map.1 hx;have:=h2 y hy;exact List.mem_range.2 (by omega)
 simpa using this
theorem Nt.smn {a:NF} (h:Nt a):I8 a:=by have hle:=h.le;refine⟨by omega,by have:=h.cG;omega,by have:=wQ h.fst;omega,by have:=wQ h.cS;omega,fun l hl=>?_⟩;obtain⟨p,hp⟩:=List.getElem?_of_mem hl;have hpl:=(List.getElem?_eq_some_iff.1 hp).1;have:=wQ (h.row p (by rw[<-h.cG];exact hpl));rw[cq,hp]at this;have e:(some l).getD []=l:=rfl;rw[e]at this;omega
def XJ (s:List (Nat×Nat×Nat)×Bool×Nat):PT:=⟨(fI s.1).nf,s.2.1,s.2.2⟩
def TG (l:List (List (Nat×Nat×Nat)×Bool×Nat)):List PT:=(l.take 4).map XJ
def wR (n0 n1 n2:Nat) (code:Int) (d:DF) (W:World) (e:Ending) (w':World):Prop:=
 ∃ a0 c0 a1 c1 a2 c2,e=.returned (.tuple #[.agg #[.slice a0 n0 c0,.slice a1 n1 c1,.slice a2 n2 c2],.int .i64 code])/\dM W.heap.size w' (.agg #[.slice a0 n0 c0,.slice a1 n1 c1,.slice a2 n2 c2]) d/\aa W w'
theorem dM.XK {w:World} {b:Nat} {t:TypeId} {v0 v1 v2:Value} (h:aq w b #[v0,v1,v2] t):w.cell? ⟨b,0,none⟩=some v0/\w.cell? ⟨b,1,none⟩=some v1/\w.cell? ⟨b,2,none⟩=some v2:=⟨h.cell 0,h.cell 1,h.cell 2⟩
def dB (ps:List PT) (ls:List Nat) (row:List (List Int)) (k:Nat):List (List Int):=dZ ps row (ls.getD k 0)
def wS (ps:List PT) (ls:List Nat) (f:Nat):Option (List (List (List Int))×List (List Nat)):=
 if f=0 then none else dQ f (dB ps ls) ls.length (kq ps) f
theorem TH {f:Nat} {rows:List (List (List Int))} {row:List Nat} {q:List (List Int)} (h:q∈rows):lB f (rows,row) q=some (rows,row++ [WK rows q]):=Dt (st:=(rows,row)) h
theorem Qu {f:Nat} {rows:List (List (List Int))} {row:List Nat} {q:List (List Int)} (h:q∉rows) (hf:rows.length<f):lB f (rows,row) q=some (rows++ [q],row++ [rows.length]):=Dr (st:=(rows,row)) h (Nat.ne_of_lt hf)
theorem LM {f:Nat} {rows:List (List (List Int))} {row:List Nat} {q:List (List Int)} (h:q∉rows) (hf:rows.length=f):lB f (rows,row) q=none:=yK (st:=(rows,row)) h hf
theorem Jm {ps:List PT} {ls:List Nat} {f n:Nat} (hf:1<=f) {st:List (List (List Int))×List (List Nat)} (h:dQ f (dB ps ls) ls.length (kq ps) n=some st):NU f ls.length (nh ps) (kq ps) n st:=
 nL hf (nR ps) (fun _ _ hr _=>jD hr _) n h
theorem TJ {ps:List PT} {ls:List Nat} {f n:Nat} (hf:1<=f) {st:List (List (List Int))×List (List Nat)} (h:dQ f (dB ps ls) ls.length (kq ps) n=some st) (hn:st.1.length=n):wS ps ls f=some st:=by unfold wS;rw[if_neg (by omega)];exact jw h (by omega) f (by have:=(Jm hf h).le;omega)
theorem Qv {ps:List PT} {ls:List Nat} {f n:Nat} {rows:List (List (List Int))} {Ca:List (List Nat)} (h:dQ f (dB ps ls) ls.length (kq ps) n=some (rows,Ca)) {p:List (List Int)} (hp:rows[n]? =some p): dQ f (dB ps ls) ls.length (kq ps) (n+1)=(dr f (dB ps ls p) rows ls.length).map fun r=>(r.1,Ca++ [r.2]):=by rw[dQ,h];show fK f (dB ps ls) ls.length n (rows,Ca)=_;unfold fK;simp only[hp]
theorem TK {ps:List PT} {ls:List Nat} {f n k:Nat} (hf:1<=f) {rows:List (List (List Int))} {Ca:List (List Nat)} (h:dQ f (dB ps ls) ls.length (kq ps) n=some (rows,Ca)) {p:List (List Int)} (hp:rows[n]? =some p) {Qw:List (List (List Int))} {row':List Nat} (hr:dr f (dB ps ls p) rows k=some (Qw,row')) (hk:k<ls.length) (hq:dB ps ls p k∉Qw) (BP:f<=Qw.length):wS ps ls f=none:=by
 have I:=Jm hf h;have R:=mU (P:=fun _=>True) I.nodup I.le (fun _ _=>trivial) k (fun _ _=>trivial) hr;have h1:dr f (dB ps ls p) rows (k+1)=none:=by rw[dr,hr];exact LM hq (Nat.le_antisymm R.le BP)
 have h2:=vo h1 ls.length (by omega);have h3:=Qv h hp;rw[h2]at h3;have hn:n<rows.length:=(List.getElem?_eq_some_iff.1 hp).1;have hle:rows.length<=f:=I.le;unfold wS;rw[if_neg (by omega)];exact nK h3 f (by omega)
theorem wT {wm wg:World} {mb base L:Nat} {cs:Array Value} {nv:Value} {ns:List Value} (hb:aq wm mb cs 152) (hn:wm.ownsRow base 51 1 nv L ns) (K:ae (fun x=>x<wm.heap.size/\x≠mb/\nv.ownBlock≠some x) wm wg) {b n:Nat} {e:TypeId} {v:Value} {xs:List Value} (h:wm.ownsRow b e 1 v n xs) (h1:152≠e) (h3:e≠51\/∀ x,v.ownBlock=some x->nv.ownBlock≠some x):wg.ownsRow b e 1 v n xs:=
 au h K fun x hx=>⟨(h.lt x hx).2,dp hb h h1 x hx,fun e2=>by
  rcases h3 with h3 | h3
  ·rcases ownBlock_ne h3 h hn with h5 | h5
   ·rw[h5]at hx;cases hx
   ·exact h5 (by rw[hx,e2])
  ·exact h3 x hx e2⟩
theorem oJ.not {u v:Value} (h:oJ u v):∀ x,u.ownBlock=some x->v.ownBlock≠some x:=fun x e e2=>by
 rcases h with h | h
 ·rw[h]at e;cases e
 ·exact h (by rw[e,e2])
theorem oJ.not' {u v:Value} (h:oJ u v):∀ x,v.ownBlock=some x->u.ownBlock≠some x:=fun x e e2=>h.not x e2 e
theorem Mk.next {F:Nat->Prop} {wm wg:World} {base mb ob f L:Nat} {pv cv:Value} {ps:List PT} {rows:List (List (List Int))} {nx:List (List Int)} {sv nv kv Zv xv:Value} {us ns ks:List Value} {l:List Int} (M:Mk F wm base mb ob f pv cv ps rows nx sv nv kv us ns ks) (hL:L=nx.length) (K:ae (fun x=>x<wm.heap.size/\x≠mb/\nv.ownBlock≠some x) wm wg) (hblk:aq wg mb #[pv,.int .i64 f,sv,.map (some ob),cv,Zv,kv] 152) (Rx:gV F wg base 51 Zv (L+1) (ns++ [xv])) (hx:gV F wg base 3 xv l.length (l.map aV)) (ox:Zv.ownBlock=nv.ownBlock\/∀ x,Zv.ownBlock=some x->wm.heap.size<=x):Mk F wg base mb ob f pv cv ps rows (nx++ [l]) sv Zv kv us (ns++ [xv]) ks where
 blk:=hblk
 map:=M.map.keeps K ⟨M.map.lt,(fun e=>by have h2:wm.heap[mb]? =_:=M.blk;have h3:wm.heap[ob]? =_:=M.map;rw[e,h2]at h3;cases h3),fun e=>su M.ud.1 M.map (fun c fz e=>by cases e) ob e rfl⟩
 fm:=M.fm
 fo:=M.fo
 bm:=M.bm
 bo:=M.bo
 st:=⟨wT M.blk M.ud.1 K M.st.1 (by decide) (.inl (by decide)),M.st.2⟩
 Rq:=fun i u q hu hq=>by
  obtain⟨⟨vs,h1,h2⟩,h3,h4⟩:=M.Rq i u q hu hq;exact⟨⟨vs,⟨wT M.blk M.ud.1 K h1.1 (by decide) (.inr h3.not),h1.2⟩,fun i u l hu hl=>⟨wT M.blk M.ud.1 K (h2 i u l hu hl).1 (by decide) (.inl (by decide)),(h2 i u l hu hl).2⟩⟩,h3.step ox fun b e=>(h1.1.lt b e).2,h4⟩
 ud:=by rw[aQ, <-hL];exact Rx
 MI:=fun i u l' hu hl=>by
  have hul:ns.length=L:=by have:=M.ud.1.1;omega
  by_cases hi:i<L
  ·rw[bJ (by omega)]at hu
   rw[bJ (by omega)]at hl;exact⟨wT M.blk M.ud.1 K (M.MI i u l' hu hl).1 (by decide) (.inl (by decide)),(M.MI i u l' hu hl).2⟩
  ·have iR:=(List.getElem?_eq_some_iff.1 hu).1
   simp at iR;obtain rfl:i=L:=by omega
   rw[cZ (by omega),hul,Nat.sub_self]at hu;rw[cZ (by omega), <-hL,Nat.sub_self]at hl;cases hu;cases hl;exact hx
 tE:=⟨wT M.blk M.ud.1 K M.tE.1 (by decide) (.inr M.far.not'),M.tE.2⟩
 MJ:=fun i u l hu hl=>⟨wT M.blk M.ud.1 K (M.MJ i u l hu hl).1 (by decide) (.inl (by decide)),(M.MJ i u l hu hl).2⟩
 far:=by
  rcases ox with h | h
  ·rcases M.far with h5 | h5
   ·exact .inl (h.trans h5)
   ·exact .inr (by rw[h];exact h5)
  ·cases e:Zv.ownBlock with
   | none=>exact .inl e
   | some x=>exact .inr fun e2=>by have:=h x e;have:=(M.tE.1.lt x (by rw[<-e2,e])).2;omega
def gv (ps:List PT) (row:List (List Int)) (k:Nat):List Int:=((List.zip ps row).take k).filterMap fun y=>if y.1.nf.acc y.2 then some y.1.mark else none
theorem Hj {ps:List PT} {row:List (List Int)} {k:Nat} {x:PT} {l:List Int} (hx:ps[k]? =some x) (hl:row[k]? =some l):gv ps row (k+1)=gv ps row k++if x.nf.acc l then [x.mark]else []:=by
 have hz:(List.zip ps row)[k]? =some (x,l):=by rw[List.getElem?_zip_eq_some];exact⟨hx,hl⟩
 unfold gv;rw[List.take_add_one,hz,List.filterMap_append];by_cases h:x.nf.acc l=true<;>simp[h]
theorem LN {ps:List PT} {row:List (List Int)} (h:row.length=ps.length):gv ps row ps.length=gS ps row:=by unfold gv gS;rw[List.take_of_length_le];rw[List.length_zip,h];omega
theorem LO (ps:List PT) (row:List (List Int)) (k:Nat):(gv ps row k).length<=k:=by unfold gv;exact Nat.le_trans (List.length_filterMap_le _ _) (by rw[List.length_take];omega)
def XM (F:Nat→Prop) (base mb ob f:Nat) (pv cv:Value) (ps:List PT) (rows:List (List (List Int))) (nx:List (List Int)) (r:List (List Int)) (w1 w:World) (e:Ending) (w':World):Prop:=
  ae (fun x=>x<w1.heap.size∧(x<base∨¬F x)) w w'∧
  ((r∈rows∧e=.returned (.int .i64 (WK rows r))∧UO F w' base mb ob f pv cv ps rows nx)∨
   (r∉rows∧rows.length<f∧e=.returned (.int .i64 rows.length)∧UO F w' base mb ob f pv cv ps (rows++ [r]) nx)∨
   (r∉rows∧f≤rows.length∧e=.panicked [{v:=.iface 185 (.agg #[]),recovered:=false}]))
theorem zz (F:Nat->Prop) (base mb ob f:Nat) (pv cv:Value) (ps:List PT) (rows:List (List (List Int))) (nx:List (List Int)) (ok:Th ps) (w1 w:World) (hM:UO F w1 base mb ob f pv cv ps rows nx) (hk:aa w1 w) (hF:∀ x,w1.heap.size<=x->F x) (lv:Value) (r:List (List Int)) (hl:bI w1.heap.size w lv r) (hr:nh ps r) (hn:rows.Nodup) (Va:∀ p∈rows,nh ps p) (hf:f<=4000) (hlen:rows.length<=f) (hP:∀ W,Below base w1 W->jG W pv ps) (hT:∀ W,Below base w1 W->mB W): ag 101 #[.pointer (some ⟨mb,0,none⟩),lv] w fun e w'=>XM F base mb ob f pv cv ps rows nx r w1 w e w':=by
 obtain⟨iLL,agz,abQ,abR,abS⟩:=info_parts Tryz.WU;obtain⟨iL,Ki,rQ,rR,rS⟩:=info_parts Tryz.yD;obtain⟨iI,Cb,my,mz,mA⟩:=info_parts Tryz.qB;obtain⟨sv,nv,kv,us,ns,ks,M⟩:=hM;have hb1:base<=w1.heap.size:=Nat.le_trans M.bm (Nat.le_of_lt M.blk.lt);have HB0:Hid (Below base w1 w):=hid (hk.mono hb1);have CK:Hid (ag 133 #[lv] w fun e w'=>e=.returned (GI r)/\aa w w'):=hid (Tg lv r (Ax ok hr) w hl.ll fun W hW=>hT W (HB0.trans (hW.mono (Nat.le_trans hb1 hk.size))));have MW:=hid (M.below hk);have M1:=hid M;have HK:=hid hk;have HL:=hid hl;have KI:Hid (∀ p∈rows,tu p):=hid fun p hp=>(Ax ok (Va p hp)).in
 have KR:Hid (tu r):=hid (Ax ok hr).in;have HP:=hid hP;have OK:=hid ok;have HR:=hid hr;have Z9:=hid hn;have HF:=hid hF;obtain⟨L,hL⟩:=ah rows.length;have BU:=hid hL;have hLf:L<=f:=by omega
 have hst:=M.st.1;rw[<-hL]at hst;obtain⟨sa,sc,rfl⟩:=ownsRow_form hst;obtain⟨la,lc,rfl⟩:=hl.form;obtain⟨K0,Iu⟩:=ah (GI r);obtain⟨n,Jc⟩:=ah ps.length;have pD:n<=64:=by rw[Jc];exact ok.1
 obtain⟨pa,pc,rfl⟩:=(hP w1 (Below.refl _ _)).form;rw[<-Jc]at MW M1 HP hP M ⊢;have Qx:=hid Jc;rw[<-Iu]at CK;have zM:=hid Iu;have XN:base<=w.heap.size:=Nat.le_trans hb1 hk.size;clear M hk hl hr hn Va hP hT hF hL hst Iu ok hlen Jc;go_enter Tryz.func101,Tryz.ntmps101;go_wp2_with fail
 refine CK.mono ?_;rintro e wa ⟨rfl,hx⟩;have MA:=hid (MW.below hx);have XA:=hid hx;have LA:=hid (HL.below hx);clear hx MW CK;obtain⟨m0,m1,m2,m3,m4,m5,m6⟩:=MA.blk.seven;have yt:=Tf MA.map Z9 KI r KR;rw[<-zM.out]at yt;rcases yt with⟨hq,hlk⟩ | ⟨hq,hlk⟩
 ·have HQ:=hid hq
  clear hq;go_wp2_with fail
  by_cases BP:f<=L
  ·have hfi:(f:Int)<=(L:Int):=by omega
   have d1:decide ((f:Int)<=(L:Int))=true:=decide_eq_true hfi
   go_quiet (fail)
   go_wp2_with fail
   exact⟨rfl,(ae.ai XA fun x hx=>aw hx.1 HK.size:ae (fun x=>x<w1.heap.size/\(x<base\/¬F x)) w wa).drewN _,.inr (.inr ⟨HQ,by rw[<-BU.out];exact BP,rfl⟩)⟩
  ·have hfi:¬ ((f:Int)<=(L:Int)):=by omega
   have d1:decide ((f:Int)<=(L:Int))=false:=decide_eq_false hfi
   go_quiet (fail)
   go_wp2_with fail
   refine ax ?_;intro wb hwb;have MB:Hid (Mk F wb base mb ob f (.slice pa n pc) cv ps rows nx (.slice sa L sc) nv kv us ns ks):=hid (by rw[hwb];exact MA.keeps ((ae.refl (fun _=>True) wa).drewN _) fun _ _ _=>trivial);have LB:Hid (bI w1.heap.size wb (.slice la r.length lc) r):=hid (by rw[hwb];exact LA);have XB:Hid (aa w wb):=hid (by rw[hwb];exact((ae.ai XA fun _ h=>h:ae (· <w.heap.size) w wa).drewN _).below);have agB:wb.heap.size=wa.heap.size:=by rw[hwb];rfl
   clear hwb m0 m1 m2 m3 m4 m5 m6 MA LA XA hlk;obtain⟨m0,m1,m2,m3,m4,m5,m6⟩:=MB.blk.seven;refine aM false (fun _=>False) (by kernel_rfl) 10 [0,1,3,7,0,0,32,96,224,480,1023] (fun i=>i==10) (by kernel_rfl) (fun _=>aR.any _) ?_;intro C hC hne;have HC:=hid hC;have f2:=aF hC (p:=⟨mb,2,none⟩) MB.blk.lt (fun h=>h) m2;have f3:=aF hC (p:=⟨mb,3,none⟩) MB.blk.lt (fun h=>h) m3;clear hC m0 m1 m2 m3 m4 m5 m6
   repeat (refine ak (fun K hK=>?_);first | (refine cQ rfl ?_;try go_simp;refine hK _ _ ?_;clear hK K) | (refine bV rfl rfl ?_;unfold aB;go_simp;refine hK _ _ ?_;clear hK K))
   refine cg (fun wm hW hH=>?_);have jT:=(HC.out wm).1 hW;have MW:=hid (MB.below jT.below);have LW:=hid (LB.below jT.below);have XW:=hid (XB.trans (jT.below.mono XB.size));clear jT hW hH HC hne f2 f3 MB LB XB agB;obtain⟨wc,hput,UD,BK,XP⟩:=WL (w:=wm) MW.map KI r KR HQ;rw[<-zM.out, <-BU.out]at hput;have BC:=hid (MW.blk.keeps BK (fun e=>by have h1:=MW.map;have h2:wm.heap[mb]? =_:=MW.blk;rw[e]at h2;have h3:wm.heap[ob]? =_:=h1;rw[h2]at h3;cases h3));have SC:Hid (wc.ownsRow base 71 1 (.slice sa L sc) L us):=hid (by have h5:=au MW.st.1 BK (fun x hx=>su MW.st.1 MW.map (fun c fz e=>by cases e) x hx);rw[<-BU.out]at h5;exact h5);have SU:base<=wc.heap.size:=by rw[XP];exact Nat.le_trans XN XW.size
   have TL:=hid XP;clear XP;obtain⟨c0,c1,c2,c3,c4,c5,c6⟩:=BC.seven;go_wp2_with (at_builtin;refine Hid.out ?_);refine hid ?_;refine wpList_append_own_at _ rfl (.tmp 52) (.tmp 54) 150 rfl base 71 iLL (.slice none 0 0) 1 24 Tryz.underlying150 agz abQ abR abS rfl (by decide) _ _ _ rfl (SC.alloc _) ⟨wc.heap.size,0,none⟩ 1 1 [.slice la r.length lc] rfl rfl (jx _ _ _) (by simp[Value.oneCell']) (by unfold maxLen;omega) (by omega) (by simp;omega) ?_;intro v' wd hown' hgrow hh hat;have HO:=hid hown';have HG:=hid hgrow;have zN:=hid hat;clear hown' hgrow hh hat;obtain⟨sa2,Zw,rfl⟩:=ownsRow_form HO;have BD:=hid ((BC.alloc _).grown HG (fun e=>dp BC SC (by decide) mb e.symm rfl));clear c0 c1 c2 c3 c4 c5 c6 hput;obtain⟨c0,c1,c2,c3,c4,c5,c6⟩:=BD.seven;have z2:=BD.frozen 2;go_wp2;refine ax ?_;intro we Zx;have BE:Hid (aq we mb #[.slice pa n pc,.int .i64 f,.slice sa2 (L+1) Zw,.map (some ob),cv,nv,kv] 152):=hid (by rw[Zx];exact BD.set 2 _);have XQ:∀ x,(Value.slice sa L sc).ownBlock=some x->base<=x/\x<w1.heap.size:=fun x e=>M1.st.1.lt x e
   have KG:Hid (ae (fun x=>x<wm.heap.size/\(Value.slice sa L sc).ownBlock≠some x) wc wd):=hid (((ae.refl _ _).alloc (fun x hx=>by rw[TL.out];exact hx.1) _).tr (ae.bA HG fun x hx=>⟨by have:=hx.1;rw[<-TL.out]at this;simp;omega,fun e=>hx.2 e.symm⟩))
   have KE:Hid (ae (fun x=>x<wm.heap.size/\x≠ob/\x≠mb/\(Value.slice sa L sc).ownBlock≠some x) wm we):=hid (by
    rw[Zx]
    exact((BK.mono fun x hx=>hx.2.1).tr (KG.mono fun x hx=>⟨hx.1,hx.2.2.2⟩)).setCell (fun h=>h.2.2.1 rfl) _)
   have SE:Hid (we.ownsRow base 71 1 (.slice sa2 (L+1) Zw) (L+1) (us++ [.slice la r.length lc])):=hid (by
    rw[Zx]
    exact au HO ((ae.refl (· ≠mb) wd).setCell (p:=⟨mb,2,none⟩) (fun h=>h rfl) _) fun x hx=>dp BD HO (by decide) x hx)
   have ME:Hid (kS we ob (rows++ [r])):=hid (by
    rw[Zx];have h5:ob≠mb:=fun e=>by
     have h2:wc.heap[mb]? =_:=BC.out;have h3:wc.heap[ob]? =_:=UD;rw[e,h2]at h3;cases h3
    have h6:kS wd ob (rows++ [r]):=UD.keeps KG ⟨by rw[<-TL.out];exact UD.lt,fun e=>su SC UD (fun c fz e=>by cases e) ob e rfl⟩
    exact h6.keeps ((ae.refl (· ≠mb) wd).setCell (p:=⟨mb,2,none⟩) (fun h=>h rfl) _) h5)
   have XE:Hid (Below base w1 we):=hid ((HB0.trans (XW.mono XN)).trans (KE.mono fun x hx=>⟨aw (aw hx XN) XW.size,by have h1:x<base:=hx;have:=M1.bo;omega,by have h1:x<base:=hx;have:=M1.bm;omega,fun e=>by have h1:x<base:=hx;have:=(XQ x e).1;omega⟩:ae (· <base) wm we).below);have LE:Hid (bI w1.heap.size we (.slice la r.length lc) r):=hid (LW.keeps KE fun x h1 h2=>⟨h2,by have:=M1.map.lt;omega,by have:=M1.blk.lt;omega,fun e=>by have:=(XQ x e).2;omega⟩);have hrn:r.length=n:=by rw[Qx.out];exact HR.1
   have HRN:=hid hrn;have abV:base<=we.heap.size:=by rw[Zx];have:=BD.lt;have:=M1.bm;simp;omega
   clear Zx c0 c1 c2 c3 c4 c5 c6 z2 hrn XQ;go_loopw [8,63] (fun mv iv wr=>∃ k:Nat,k<=n/\iv=.int .i64 k/\wr.ownsRow we.heap.size 3 1 mv (gv ps r k).length ((gv ps r k).map aV)/\aa we wr) (fun _ iv _=>n-(intOf iv).toNat);case atStart=>exact⟨0,by omega,rfl,World.ownsRow_nil _ _ _ _,Below.refl _ _⟩
   case round=>
    obtain⟨k,hk,rfl,ho,hx⟩:=hrel;obtain⟨wo,rfl⟩:=ah (wr:World);have HX:=hid hx;have mq:=LO ps r k;obtain⟨am,ham⟩:=ah ((gv ps r k).length);rw[<-ham]at ho mq;obtain⟨ma,mc,rfl⟩:=ownsRow_form ho;have HOm:=hid ho;have HAM:=hid ham;clear hx ho ham;by_cases hlt:k<n
    ·have eT:(k:Int)<n:=by omega
     have D9:(k:Int)<(r.length:Int):=by have:=HRN.out;omega
     obtain⟨x,hx⟩:∃ x,ps[k]? =some x:=⟨_,aC (by have:=Qx.out;omega)⟩;obtain⟨l,hl⟩:∃ l,r[k]? =some l:=⟨_,aC (by have:=HRN.out;omega)⟩;obtain⟨b,off,v0,v1,v2,v3,rfl,hb,ox,q0,q1,q2,q3,q4,q5,q6⟩:=(HP.out wo (XE.trans (HX.mono abV))).elem hx;obtain⟨b2,tW,a',c',rfl,hb2,cl,l8⟩:=(LE.ll.below HX).elem hl;obtain⟨x0,n0,y0,x1,n1,y1,x2,n2,y2,x3,n3,y3,rfl,rfl,rfl,rfl⟩:=ox.za;have Je:=hid ox;have SZ:=hid l8;have h2:=OK.2 x (aA hx);have hst:=HR.2 k x l hx hl;obtain⟨B,hB⟩:=ah (x.nf.acc l);have CA:Hid (∀ (v u:Value) (W:World),iZ W v x.nf->cR aV W u l->ag 134 #[v,u] W fun e w'=>e=.returned (.tuple #[.bool B,.int .i64 0])/\aa W w'):=hid fun v u W hv hu=>by rw[hB];exact Av v u x.nf h2.1 l hst W hv h2.2.1 hu (Nat.le_trans (se h2.1 hst) (by decide))
     have jg:Hid (gv ps r (k+1)=gv ps r k++if B then [x.mark]else []):=hid (by rw[hB];exact Hj hx hl);clear hx hl ox l8 h2 hst hB;go_wp2;refine ax ?_;intro V hV;have BX:Hid (aq V wo.heap.size #[.slice x0 n0 y0,.slice x1 n1 y1,.slice x2 n2 y2,.slice x3 n3 y3,.bool x.nf.emp,.bool x.OP,.int .i64 x.mark] 101):=hid (by rw[hV];exact aq.new wo _ _);have XV:Hid (aa wo V):=hid (by rw[hV];exact((Ext.refl wo).alloc _).below);have OZ:V.cell? ⟨b2,tW+k,none⟩=some (.slice a' l.length c'):=((ae.ai XV fun _ h=>h:ae (· <wo.heap.size) wo V).cell (p:=⟨b2,tW+k,none⟩) hb2).trans cl;clear hV q0 q1 q2 q3 q4 q5 q6 cl;refine aM false (fun _=>False) (by kernel_rfl) 11 [0,1,0,0,12,28,63,127,255,255,511,2047] (fun i=>i==6) (by kernel_rfl) (fun i=>if i=6 then aR.oB _ (.tuple #[.bool B,.int .i64 0])else aR.any _) ?_;intro C hC hne;have HC:=hid hC;have f0:=aF hC (p:=⟨wo.heap.size,0,none⟩) BX.lt (fun h=>h) (BX.cell 0);have f1:=aF hC (p:=⟨wo.heap.size,1,none⟩) BX.lt (fun h=>h) (BX.cell 1);have f2:=aF hC (p:=⟨wo.heap.size,2,none⟩) BX.lt (fun h=>h) (BX.cell 2);have f3:=aF hC (p:=⟨wo.heap.size,3,none⟩) BX.lt (fun h=>h) (BX.cell 3);have f4:=aF hC (p:=⟨wo.heap.size,4,none⟩) BX.lt (fun h=>h) (BX.cell 4);have f5:=aF hC (p:=⟨b2,tW+k,none⟩) (World.block_lt_of_cell? _ _ OZ) (fun h=>h) OZ;clear hC OZ
     repeat (refine ak (fun K hK=>?_);first | (refine cQ rfl ?_;try go_simp;refine hK _ _ ?_;clear hK K) | (refine bV rfl rfl ?_;unfold aB;go_simp;refine hK _ _ ?_;clear hK K))
     refine ak (fun K hK=>?_);refine bS rfl rfl (aR.oB _ (.tuple #[.bool B,.int .i64 0])) rfl (fun W hW hN=>?_) (fun v hv=>?_)
     ·have hM:=(HC.out W).1 hW
      clear hW;go_simp;refine bu ((CA _ _ _ ((Je.below XV).below hM.below) ((SZ.below XV).below hM.below)).mono ?_);rintro e w2 ⟨rfl,hx⟩;exact⟨_,rfl,Move.ai hx,rfl,trivial⟩
     replace hv:v=_:=hv;subst hv;go_simp;refine hK _ _ ?_;clear hK K
     repeat (refine ak (fun K hK=>?_);first | (refine cQ rfl ?_;try go_simp;refine hK _ _ ?_;clear hK K) | (refine bV rfl rfl ?_;unfold aB;go_simp;refine hK _ _ ?_;clear hK K))
     refine cg (fun W hW hH=>?_);have jT:=(HC.out W).1 hW;have BW:=hid (BX.below jT.below BX.lt);have XW2:=hid (XV.trans (jT.below.mono XV.size));clear jT hW hH HC hne f0 f1 f2 f3 f4 f5;have i6:=BW.seven.2.2.2.2.2.2;have OW:=hid (ay HOm XW2);have aa1:wo.heap.size<W.heap.size:=BW.lt;have agE:we.heap.size<=wo.heap.size:=HX.size;cases B with
     | false=>
      go_wp2;go_roundw;case rel=>exact⟨k+1,by omega,by go_num,by rw[jg.out];simp only[Bool.false_eq_true,if_false,List.append_nil];rw[<-HAM.out];exact OW,HX.trans (XW2.mono agE)⟩
      case measure=>simp[intOf];omega
     | true=>
      go_wp2_with (at_builtin;refine wpList_append_own_at _ rfl (.tmp 79) (.tmp 82) 51 rfl we.heap.size 3 iI (.int .i64 0) 1 8 Tryz.underlying51 Cb my mz mA rfl (by decide) _ _ _ rfl (OW.alloc _) ⟨W.heap.size,0,none⟩ 1 1 [.int .i64 x.mark] rfl rfl (jx _ _ _) (by simp[Value.oneCell']) (by unfold maxLen;omega) (by omega) (by simp;omega) ?_;intro v' w2 hown' hgrow hh hat;have kA:=hid hown';have HG2:=hid hgrow;clear hown' hgrow hh hat)
      go_roundw
      case rel=>
       refine⟨k+1,by omega,by go_num,?_,?_⟩
       ·rw[jg.out]
        simp only[if_true];rw[aQ,List.map_append, <-HAM.out];exact kA
       ·have XX:=HX.trans (XW2.mono HX.size)
        exact(XX.alloc XX.size _).grown HG2 (by have:=XX.size;simp;omega) (fun c e=>(OW.lt c e).1)
      case measure=>simp[intOf];omega
    ·obtain rfl:k=n:=by omega
     have yQ:¬ ((k:Int)<k):=by omega
     have CSo:Hid (ag 135 #[.slice ma am mc] wo fun e w'=>e=.returned (.tuple #[])/\w'.ownsRow we.heap.size 3 1 (.slice ma am mc) am ((fF (gv ps r k)).map aV)/\ae (fun x=>x<wo.heap.size/\(Value.slice ma am mc).ownBlock≠some x) wo w'):=hid (Ky _ _ _ _ _ HOm (by omega));go_wp2_with fail
     refine CSo.mono ?_;rintro e wf ⟨rfl,ho,hx⟩;have OF:=hid ho;have Qa:∀ x,(Value.slice ma am mc).ownBlock=some x->we.heap.size<=x:=fun x e=>(HOm.lt x e).1
     have XF:Hid (aa we wf):=hid (HX.trans (hx.mono fun x mX=>⟨aw mX HX.size,fun e=>by have h1:x<we.heap.size:=mX;have:=Qa x e;omega⟩:ae (· <we.heap.size) wo wf).below);clear ho hx HOm HX CSo Qa;have mW:gv ps r k=gS ps r:=by have:=LN (ps:=ps) (row:=r) HR.1;rw[<-Qx.out]at this;exact this
     obtain⟨cn,Zi⟩:=ah ((Lib.compact (fF (gv ps r k))).length);obtain⟨cx,uw⟩:=ah ((Lib.compact (fF (gv ps r k))).map aV);have MKS:Hid (Lib.compact (fF (gv ps r k))=dG ps r):=hid (by rw[mW];exact xU fun x hx=>(OK.2 x hx).2.2);have ank:cn<=64:=by have h5:=Lib.compact_length_le (fF (gv ps r k));rw[<-Zi,kP, <-HAM.out]at h5;omega
     have CC:Hid (∀ W,W.ownsRow we.heap.size 3 1 (.slice ma am mc) am ((fF (gv ps r k)).map aV)->ag 136 #[.slice ma am mc] W fun e w'=>e=.returned (.slice ma cn mc)/\w'.ownsRow we.heap.size 3 1 (.slice ma cn mc) cn cx/\ae (fun x=>x<W.heap.size/\(Value.slice ma am mc).ownBlock≠some x) W w'):=hid fun W hW=>(AH _ _ _ _ W hW (by omega)).mono fun e w' ⟨u,he,h1,h2,h3⟩=>by
      have h4:=xW (by rw[kP, <-HAM.out]) h3;rw[<-Zi]at h4 h1;rw[<-uw]at h1;rw[h4]at he h1;exact⟨he,h1,h2⟩
     have HCN:Hid (cn=(dG ps r).length/\cx=(dG ps r).map aV):=hid ⟨by rw[Zi,MKS.out],by rw[uw,MKS.out]⟩;have D9:wm.ownsRow base 51 1 kv L ks:=by have:=MW.tE.1;rw[<-BU.out]at this;exact this
     obtain⟨ka,kc,rfl⟩:=ownsRow_form D9;have KR0:=hid D9;have xo:wm.ownsRow base 71 1 (.slice sa L sc) L us:=by have:=MW.st.1;rw[<-BU.out]at this;exact this
     have SW:=hid xo
     have KRE:Hid (we.ownsRow base 51 1 (.slice ka L kc) L ks):=hid (au D9 KE fun x hx=>⟨(D9.lt x hx).2,su D9 MW.map (fun c fz e=>by cases e) x hx,dp MW.blk D9 (by decide) x hx,fun e2=>by
      rcases ownBlock_ne (by decide) D9 xo with h5 | h5
      ·rw[h5]at hx;cases hx
      ·exact h5 (by rw[hx,e2])⟩)
     have abX:∀ x,(Value.slice ka L kc).ownBlock=some x->x<we.heap.size:=fun x e=>(KRE.lt x e).2
     have Ad:=hid abX;have BF:=hid (BE.below XF BE.lt);have KRF:=hid (ay KRE XF);have abY:(Value.slice ka L kc).ownBlock≠some mb:=fun e=>dp BE KRE (by decide) mb e rfl
     have agF:we.heap.size<=wf.heap.size:=XF.size;clear mW Zi uw D9 xo abX;obtain⟨c0,c1,c2,c3,c4,c5,c6⟩:=BF.seven;go_wp2_with fail
     refine RegQ.ck (xp we.heap.size base L cn (.slice ka L kc) (.slice ma cn mc) ks cx) xp.drew (fun _ _ _ h k=>h.trans k) (by kernel_rfl) 10 [0,0,2,6,14,30,0,64,192,510,1023,2047,4095,8191] (fun i=>i==7 || i==8 || i==9 || i==13) (by kernel_rfl) (fun i=>if i=7 then wk.WV we.heap.size base L cn (.slice ka L kc) (.slice ma cn mc) ks cx else if i=8 then wk.box we.heap.size base L cn (.slice ka L kc) (.slice ma cn mc) ks cx else if i=9 then wk.new we.heap.size base L cn (.slice ka L kc) (.slice ma cn mc) ks cx else aR.any _) (fun j W=>j=7->W.ownsRow we.heap.size 3 1 (.slice ma am mc) am ((fF (gv ps r k)).map aV)) (fun _ _ _=>OF) ?_;intro C hC hne;have HC:=hid hC;have f6:∀ W: {W//C W},W.1.cell? ⟨mb,6,none⟩=some (.slice ka L kc):=fun W=>(((hC W.1).1 W.2).keep.cell (p:=⟨mb,6,none⟩) ⟨BE.lt,BF.lt,abY⟩).trans c6
     clear hC c0 c1 c2 c3 c4 c5 c6
     repeat (refine RegQ.ak (fun K hK=>?_);first | (refine RegQ.cQ rfl ?_;try go_simp;refine hK _ _ ?_;clear hK K) | (refine RegQ.bV rfl rfl ?_;unfold aB;go_simp;refine hK _ _ ?_;clear hK K))
     refine RegQ.ak (fun K hK=>?_);refine RegQ.bS rfl rfl (wk.WV we.heap.size base L cn (.slice ka L kc) (.slice ma cn mc) ks cx) rfl (fun W hW hD hN=>?_) (fun v hv=>?_)
     ·have hD7:=hD rfl
      clear hW hD hN hK K;go_simp;refine bu ((CC W hD7).mono ?_);rintro e w2 ⟨rfl,ho,hk2⟩;exact⟨_,rfl,⟨xp.compact hD7 hk2 ho,fun j hj _ e=>absurd e hj⟩,rfl,ho⟩
     replace hv:v=_:=hv;subst hv;go_simp;refine hK _ _ ?_;clear hK K;refine RegQ.ak (fun K hK=>?_);refine RegQ.bS rfl rfl (wk.box we.heap.size base L cn (.slice ka L kc) (.slice ma cn mc) ks cx) rfl (fun W hW hD hN=>?_) (fun v hv=>?_)
     ·have hMz:=((HC W).1 hW).size
      clear hW hN hK K;go_simp;exact⟨⟨xp.below ((Ext.refl _).alloc _).below,fun j _ _ h e=>(h e).alloc _⟩,⟨_,by omega,rfl⟩,fun b hb=>by cases hb;exact aq.new _ _ _⟩
     obtain⟨bx,Xl,rfl⟩:=hv;go_simp;refine hK _ _ ?_;clear hK K;refine RegQ.ak (fun K hK=>?_);refine RegQ.bS rfl rfl (wk.new we.heap.size base L cn (.slice ka L kc) (.slice ma cn mc) ks cx) rfl (fun W hW hD hN=>?_) (fun v hv=>?_)
     ·have jT:=(HC.out W).1 hW
      have rV:aq W bx #[.slice ma cn mc] 51:=hN.at 0 rfl (by kernel_rfl) bx rfl;have hkw:=jT.old KRF;have hMz:=jT.size;have HBW:=hid rV;have Ah:=hid hkw;clear hW hN hK K jT rV hkw;refine lM (.tmp 92) (.tmp 95) 71 rfl base 51 iL (.slice none 0 0) 1 24 Tryz.underlying71 Ki rQ rR rS rfl (by decide) (.slice ka L kc) L ks rfl Ah ⟨bx,0,none⟩ 1 1 [.slice ma cn mc] rfl HBW.Uy rfl (by simp[Value.oneCell']) (by unfold maxLen;omega) (by omega) (by omega) (by decide) ?_;intro v' w2 ho hg kh;refine⟨⟨xp.append Ah Ad ho hg (kh.imp (fun h=>h.1) id),fun j _ _ h e=>(h e).kept hg (ownBlock_ne (by decide) (h e) Ah)⟩,ownsRow_form ho,ho,?_⟩;rcases kh with⟨_,h⟩ | ⟨g,cap,h1,h2,_⟩
      ·exact .inr fun x hx=>by rw[h]at hx;cases hx;omega
      ·exact .inl (by rw[h2,h1];rfl)
     obtain⟨kb,kd,rfl⟩:=hv;go_simp;refine hK _ _ ?_;clear hK K;refine RegQ.cg (fun W hW hH=>?_);have jT:=(HC.out W).1 hW;have NR:Hid (W.ownsRow base 51 1 (.slice kb (L+1) kd) (L+1) (ks++ [.slice ma cn mc])/\((Value.slice kb (L+1) kd).ownBlock=(Value.slice ka L kc).ownBlock\/∀ x,(Value.slice kb (L+1) kd).ownBlock=some x->we.heap.size<=x)):=hid (hH _ (aA (show _=some _ from rfl:_[0]? =some _)));have CR:Hid (W.ownsRow we.heap.size 3 1 (.slice ma cn mc) cn cx):=hid (hH _ (aA (show _=some _ from rfl:_[2]? =some _)));have BG:=hid (BF.keeps jT.keep ⟨BE.lt,BF.lt,abY⟩);have KV:=hid jT.keep;clear jT hW hH HC hne f6 CC OF;obtain⟨c0,c1,c2,c3,c4,c5,c6⟩:=BG.seven;have z6:=BG.frozen 6;have wL:IntKind.i64.wrap (L:Int)=L:=IntWalk.i64_in _ (by omega);go_wp2;refine Dq ?_;intro wg hwg;go_ret;have Zn:wm.heap.size<=we.heap.size:=KE.size;have h1m:w1.heap.size<=wm.heap.size:=Nat.le_trans HK.size XW.size;have XS:∀ x,(Value.slice ka L kc).ownBlock=some x->base<=x/\x<w1.heap.size:=fun x e=>M1.tE.1.lt x e
     have agG:∀ x,(Value.slice sa L sc).ownBlock=some x->base<=x/\x<w1.heap.size:=fun x e=>M1.st.1.lt x e
     have anm:=M1.blk.lt;have ann:=M1.map.lt;have K2:ae (fun x=>x<we.heap.size/\x≠mb/\(Value.slice ka L kc).ownBlock≠some x) we wg:=by rw[hwg];exact((ae.ai XF fun x hx=>hx.1:ae (fun x=>x<we.heap.size/\x≠mb/\(Value.slice ka L kc).ownBlock≠some x) we wf).tr (KV.mono fun x hx=>⟨hx.1,aw hx.1 agF,hx.2.2⟩)).setCell (fun h=>h.2.1 rfl) _
     have K:ae (fun x=>x<wm.heap.size/\x≠ob/\x≠mb/\(Value.slice sa L sc).ownBlock≠some x/\(Value.slice ka L kc).ownBlock≠some x) wm wg:=(KE.mono fun x hx=>⟨hx.1,hx.2.1,hx.2.2.1,hx.2.2.2.1⟩).tr (K2.mono fun x hx=>⟨aw hx.1 Zn,hx.2.2.1,hx.2.2.2.2⟩);obtain⟨lus,ll1,ll2,ll3⟩:=LE.out;have XU:∀ x,(Value.slice la r.length lc).ownBlock=some x->w1.heap.size<=x/\x<we.heap.size:=fun x e=>ll2.lt x e
     have Qy:∀ (v y:Value) (N:Nat),(∀ x,v.ownBlock=some x->N<=x)->(∀ x,y.ownBlock=some x->x<N)->oJ v y:=fun v y N h1 h2=>by
      cases e:v.ownBlock with
      | none=>exact .inl e
      | some x=>exact .inr fun e2=>by have:=h1 x e;have:=h2 x (by rw[<-e2,e]);omega
     have Iu:ae (fun x=>x<w1.heap.size/\(x<base\/¬F x)) w wg:=(ae.ai XW fun x hx=>aw hx.1 HK.size:ae (fun x=>x<w1.heap.size/\(x<base\/¬F x)) w wm).tr (K.mono fun x hx=>⟨by omega,fun e=>by subst e;rcases hx.2 with h | h;exact absurd M1.bo (by omega);exact h M1.fo,fun e=>by subst e;rcases hx.2 with h | h;exact absurd M1.bm (by omega);exact h M1.fm,fun e=>by rcases hx.2 with h | h;exact absurd (agG x e).1 (by omega);exact h (M1.st.2 x e),fun e=>by rcases hx.2 with h | h;exact absurd (XS x e).1 (by omega);exact h (M1.tE.2 x e)⟩);have q1:aq wg mb #[.slice pa k pc,.int .i64 f,.slice sa2 (L+1) Zw,.map (some ob),cv,nv,.slice kb (L+1) kd] 152:=by rw[hwg];exact BG.set 6 _
     have q2:kS wg ob (rows++ [r]):=ME.keeps K2 ⟨ME.lt,(fun e=>by have h2:we.heap[mb]? =_:=BE.out;have h3:we.heap[ob]? =_:=ME.out;rw[e,h2]at h3;cases h3),fun e=>su KRE ME (fun c fz e=>by cases e) ob e rfl⟩
     have q3:gV F wg base 71 (.slice sa2 (L+1) Zw) (L+1) (us++ [.slice la r.length lc]):=⟨au SE K2 fun x hx=>⟨(SE.lt x hx).2,dp BE SE (by decide) x hx,fun e2=>by
      rcases ownBlock_ne (by decide) SE KRE.out with h5 | h5
      ·rw[h5]at hx;cases hx
      ·exact h5 (by rw[hx,e2])⟩,fun x hx=>by
      rcases zN.out with h | h
      ·exact M1.st.2 x (h.symm.trans hx)
      ·rw[h]at hx;cases hx;exact HF _ (by have:=TL.out;simp;omega)⟩
     have q4:Lj F wg base (.slice la r.length lc) r:=(Lj.of (LE.keeps K2 fun x h1 h2=>⟨h2,by omega,fun e=>by have:=(XS x e).2;omega⟩) HF).base hb1;have q5:oJ (.slice la r.length lc) nv:=Qy _ _ w1.heap.size (fun x e=>(XU x e).1) (fun x e=>(M1.ud.1.lt x e).2);have q6:oJ (.slice la r.length lc) (.slice kb (L+1) kd):=by
      rcases NR.2 with h | h
      ·exact Qy _ _ w1.heap.size (fun x e=>(XU x e).1) (fun x e=>(XS x (h.symm.trans e)).2)
      ·cases e:(Value.slice la r.length lc).ownBlock with
       | none=>exact .inl e
       | some x=>exact .inr fun e2=>by have:=(XU x e).2;have:=h x (by rw[<-e2,e]);omega
     have q7:gV F wg base 51 (.slice kb (L+1) kd) (L+1) (ks++ [.slice ma cn mc]):=⟨by rw[hwg];exact au NR.1 ((ae.refl (· ≠mb) W).setCell (p:=⟨mb,6,none⟩) (fun h=>h rfl) _) fun x hx=>dp BG NR.1 (by decide) x hx,fun x hx=>by
      rcases NR.2 with h | h
      ·exact M1.tE.2 x (h.symm.trans hx)
      ·exact HF x (by have:=h x hx;omega)⟩
     have q8:gV F wg base 3 (.slice ma cn mc) cn cx:=⟨by rw[hwg];exact aG (au CR ((ae.refl (· ≠mb) W).setCell (p:=⟨mb,6,none⟩) (fun h=>h rfl) _) fun x hx=>dp BG CR (by decide) x hx) abV,fun x hx=>HF x (by have:=(CR.lt x hx).1;omega)⟩;have q9:∀ v,(∀ x,v.ownBlock=some x->x<wm.heap.size)->oJ v (.slice ka L kc)->oJ v (.slice kb (L+1) kd):=fun v h1 h2=>h2.step NR.2 fun b e=>aw (h1 b e) Zn
     have MF:=Mk.more MW BU K q1 q2 q3 q4 q5 q6 q7 q8 HCN.1 HCN.2 q9;exact⟨Iu,.inr (.inl ⟨HQ,by rw[<-BU.out];omega,by rw[<-BU.out];rfl,_,_,_,_,_,_,MF⟩)⟩
 ·have HQ:=hid hq
  obtain⟨ix,hix⟩:=ah (WK rows r);rw[<-hix]at hlk;have HIX:=hid hix;clear hq hix;go_wp2;go_ret;refine⟨ae.ai XA fun x hx=>aw hx.1 HK.size,.inl ⟨HQ,by rw[HIX.out];rfl,_,_,_,_,_,_,MA⟩⟩
end
end Go.Proofs.YtpcmhjbehdgdbaaGreatDoor
