/- (*maker).state: the number of a state, which may be new. -/
import Derived.Test.YtalombmiochpmaaGreatDoorOR28
import Derived.Test.YtalombmiochpmaaGreatDoorOR29
set_option maxRecDepth 100000
set_option maxHeartbeats 16000000
open Go.Lib (hid)
namespace Go.Proofs.YtalombmiochpmaaGreatDoor
section
open Go Go.RowKit Go.Shelf Go.Maps
theorem IV (b off c:Nat) (l:List (Nat×Nat×Nat)) (w:World) (hb:b<w.heap.size) (hc:l.length<=c) (lL:l.length<=1000000000000000) (hS:∀ (i:Nat) (s:Nat×Nat×Nat),l[i]? =some s->s.1<256/\s.2.1<256/\s.2.2<256/\w.cell? ⟨b,off+i*3,none⟩=some (.int .u8 s.1)/\w.cell? ⟨b,off+i*3+1,none⟩=some (.int .u8 s.2.1)/\w.cell? ⟨b,off+i*3+2,none⟩=some (.int .u8 s.2.2)): Calls Tryz.prog 24 #[.slice (some ⟨b,off,none⟩) l.length c] w fun e w'=>∃ u,e=.returned u/\aL (· <w'.heap.size) w' u (dc l)/\Below w.heap.size w w':=
 (eN b off c l w hb hc lL hS).out (TP b off c l w hb hc lL hS) (TU b off c l w hb hc lL hS) (TW b off c l w hb hc lL hS) (TY b off c l w hb hc lL hS) (T8 b off c l w hb hc lL hS) (T9 b off c l w hb hc lL hS) (Ua b off c l w hb hc lL hS) (Ub b off c l w hb hc lL hS)
theorem zA (p:Option Addr) (c:Nat) (w:World): Calls Tryz.prog 24 #[.slice p 0 c] w fun e w'=>∃ u,e=.returned u/\aL (· <w'.heap.size) w' u (dc [])/\Below w.heap.size w w':=by
 go_enter Tryz.func24,Tryz.ntmps24
 have il:min (0:Int) 25=0:=by decide
 go_wp2;refine aw ?_;intro V hV;have R0:Hid (ah V w.heap.size gN 62):=by rw[hV];exact hid (ah.new _ _ _)
 have X0:Hid (Below w.heap.size w V):=by rw[hV];exact hid ((Ext.refl w).alloc _).below
 clear hV;go_loopw [3,4,5,22] (fun u x y i wr=>u=.slice none 0 0/\x=.int .i64 1/\y=.int .i64 0/\i=.int .i64 0/\wr=V) (fun _ _ _ _ _=>0);case atStart=>exact⟨rfl,rfl,rfl,rfl,rfl⟩
 case round=>
  obtain⟨rfl,rfl,rfl,rfl,hwr⟩:=hrel;replace hwr:=hwr.symm;subst hwr;go_wp2_with fail
  refine(qx _ [97] rfl (by decide) V).mono ?_;rintro e w2 ⟨rfl,hx2⟩;obtain⟨S,hS⟩:∃ S,S=oJ fun c=>([97]:List Nat).contains c:=⟨_,rfl⟩
  rw[<-hS];have jV:dc []=.nd 2 S 0 0 []:=by rw[hS];rfl
  have R2:=hid (R0.out.below hx2 R0.out.lt);have X2:Hid (Below w.heap.size w w2):=hid (X0.out.trans (hx2.mono X0.out.size));clear hS hx2;go_wp2_with (refine wpList_store_row rfl 62 (.tmp 2) (.tmp 188) rfl w.heap.size (au 2 S 0 0 (.slice none 0 0)) rfl rfl 62 gN R2.out (dE _ _ _ _ _) rfl (nQ _ _ _ _ _ _ _) ?_;refine Hid.out ?_);refine hid ?_;obtain⟨V3,di⟩:∃ W,W=w2.setRow w.heap.size (au 2 S 0 0 (.slice none 0 0)):=⟨_,rfl⟩;rw[<-di];have RR:Hid (ah V3 w.heap.size (au 2 S 0 0 (.slice none 0 0)) 62):=by rw[di];exact hid R2.out.setRow
  have KK:aa (· ≠w.heap.size) w2 V3:=by rw[di];exact bP _ _ _
  clear di;go_wp2;obtain⟨m0,m1,m2,m3,m4,m5,m6,m7⟩:=RR.out.eight;refine bodyPost_ret (v:=.agg (au 2 S 0 0 (.slice none 0 0))) (by simp[results,Tryz.results24,au,go_sem,m0,m1,m2,m3,m4,m5,m6,m7]) rfl ⟨_,rfl,?_,X2.out.trans (KK.mono fun x (hx:x<w.heap.size)=>by show x≠_;omega:aa (· <w.heap.size) w2 V3).below⟩;rw[jV];exact aL.leaf _ _ _ _ _ _ _ _
theorem cJ.form {w:World} {v:Value} {l:List (Nat×Nat×Nat)} (h:cJ w v l):∃ a c,v=.slice a l.length c:=by
 rcases h with⟨rfl,rfl⟩ | ⟨ad,c,rfl,rfl⟩ | ⟨b,off,c,rfl,_⟩
 ·exact⟨_,_,rfl⟩
 ·exact⟨_,_,rfl⟩
 ·exact⟨_,_,rfl⟩
theorem eO (v:Value) (l:List (Nat×Nat×Nat)) (lL:l.length<=1000000000000000) (w:World) (h:cJ w v l): Calls Tryz.prog 24 #[v] w fun e w'=>∃ u,e=.returned u/\aL (· <w'.heap.size) w' u (dc l)/\Below w.heap.size w w':=by
 rcases h with⟨rfl,rfl⟩ | ⟨ad,c,rfl,rfl⟩ | ⟨b,off,c,rfl,hb,hc,_,h⟩
 ·exact zA none 0 w
 ·exact zA (some ad) c w
 ·exact IV b off c l w hb hc lL h
end
section
open Go Go.ChangeShapes Go.WideShapes Go.ChangeAt Go.RowKit Go.Deep
section
variable {H:Type} {enc:TypeId×Value→H} {W:World}
theorem Fv {t e:TypeId} {fuel:Nat} {a:Option Addr} {n c:Nat} {x:DataW H×List MemPlace} (ht:Tryz.prog.underlying t=some (.slice e)) (hb:1<=Tryz.prog.bytesOf e) (h:DataW.trod enc Tryz.prog W 0 (fun _=>true) true fuel t [.slice a n c]=some x) (hs:∀ m∈x.1.weights Tryz.prog t,m<=reachBytes):n<=1000000000000000:=by
 rcases open_slice ht h with⟨hcs,_⟩ | ⟨a',len,cap,m,k,D,Pl,hcs,_,_,_,_,rfl,_⟩
 ·have:Value.slice a n c=.slice none 0 0:=by simpa using hcs
  cases this
  omega
 ·have:Value.slice a n c=.slice (some a') len cap:=by simpa using hcs
  cases this
  have h1:=hs ((((List.range n).map D).length+((List.range (m-n)).map fun j=>D (n+j)).length)*Tryz.prog.bytesOf e) (by simp[DataW.weights,ht]);have h2:n*1<=(((List.range n).map D).length+((List.range (m-n)).map fun j=>D (n+j)).length)*Tryz.prog.bytesOf e:=Nat.mul_le_mul (by simp) hb;unfold reachBytes at h1;omega
theorem zB {t:TypeId} (ht:Tryz.prog.underlying t=some (.int .u8)) {fuel:Nat} {c:Value} {y:DataW H×List MemPlace} (h:DataW.trod enc Tryz.prog W 0 (fun _=>true) true fuel t [c]=some y):∃ n:Nat,c=.int .u8 n/\n<256:=by
 obtain⟨z,hz,_,hw⟩:=DataW.trod_int ht h;obtain rfl:c=.int .u8 z:=by simpa using hz
 have:=jx hw;exact⟨z.toNat,by rw[Int.toNat_of_nonneg this.1],by omega⟩
theorem IX {fuel:Nat} {v:Value} {y:DataW H×List MemPlace} (h:DataW.trod enc Tryz.prog W 0 (fun _=>true) true fuel 22 [v]=some y) (hz:∀ m∈y.1.weights Tryz.prog 22,m<=reachBytes): ∃ l:List (Nat×Nat×Nat),cJ W v l/\l.length<=1000000000000000:=by
 have hb3:1<=Tryz.prog.bytesOf 105:=by
  have:Tryz.prog.bytesOf 105=3:=by kernel_rfl
  omega
 have h0:=h;rcases open_slice Tryz.underlying22 h with⟨hcs,_⟩ | ⟨a,len,cap,m,n,D,Pl,hcs,_,hl,hm,Rq,_,hi⟩
 ·obtain rfl:v=.slice none 0 0:=by simpa using hcs
  exact⟨[],.inl ⟨rfl,rfl⟩,by simp⟩
 ·obtain rfl:v=.slice (some a) len cap:=by simpa using hcs
  have hbd:=Fv Tryz.underlying22 hb3 h0 hz;have hc:Tryz.prog.cellsOf 105=3:=by kernel_rfl
  rw[hc]at hi;rw[if_pos rfl]at Rq;rcases Nat.eq_zero_or_pos len with h1 | h1
  ·subst h1
   exact⟨[],.inr (.inl ⟨a,cap,rfl,rfl⟩),by simp⟩
  ·obtain⟨b,off,spot⟩:=a
   have el:∀ i,i<len->∃ s:Nat×Nat×Nat,(s.1<256/\s.2.1<256/\s.2.2<256)/\W.cell? ((⟨b,off,spot⟩:Addr).add (i*3))=some (.int .u8 s.1)/\W.cell? (((⟨b,off,spot⟩:Addr).add (i*3)).add 1)=some (.int .u8 s.2.1)/\W.cell? (((⟨b,off,spot⟩:Addr).add (i*3)).add 2)=some (.int .u8 s.2.2):=fun i jK=>by
    obtain⟨cs',h2,h3⟩:=hi i (by omega);obtain⟨_,Fg,hat⟩:=World.cells?_some h2;match cs',Fg with
    | [c0,c1,c2],_=>
    obtain⟨y0,y1,y2,k,_,_,t0,t1,t2⟩:=trod_struct3 Tryz.underlying105 h3;obtain⟨n0,rfl,q0⟩:=zB Tryz.underlying5 (show DataW.trod enc Tryz.prog W 0 (fun _=>true) true k 5 [c0]=some y0 from t0);obtain⟨n1,rfl,q1⟩:=zB Tryz.underlying5 (show DataW.trod enc Tryz.prog W 0 (fun _=>true) true k 5 [c1]=some y1 from t1);obtain⟨n2,rfl,q2⟩:=zB Tryz.underlying5 (show DataW.trod enc Tryz.prog W 0 (fun _=>true) true k 5 [c2]=some y2 from t2);have g0:=hat 0 (by decide);have g1:=hat 1 (by decide);have g2:=hat 2 (by decide);refine⟨(n0,n1,n2),⟨q0,q1,q2⟩,?_,g1,g2⟩;have e:∀ A:Addr,A.add 0=A:=fun A=>by simp[Addr.add]
    rwa[e]at g0
   have hspot:spot=none:=by obtain⟨s,_,g0,_⟩:=el 0 h1;simpa[Addr.add]using World.cell?_spot g0
   subst hspot;have hb:b<W.heap.size:=by
    obtain⟨s,_,g0,_⟩:=el 0 h1;rw[yV]at g0;exact Lb g0
   obtain⟨S,hS⟩:=choose_lt (α:=Nat×Nat×Nat) (p:=fun i s=>s.1<256/\s.2.1<256/\s.2.2<256/\W.cell? ⟨b,off+i*3,none⟩=some (.int .u8 s.1)/\W.cell? ⟨b,off+i*3+1,none⟩=some (.int .u8 s.2.1)/\W.cell? ⟨b,off+i*3+2,none⟩=some (.int .u8 s.2.2)) (n:=len) (fun i jK=>by
    obtain⟨s,⟨q0,q1,q2⟩,g0,g1,g2⟩:=el i jK;rw[yV]at g0 g1 g2;rw[yV]at g1 g2
    exact⟨s,q0,q1,q2,g0,g1,g2⟩)
   refine⟨(List.range len).map S,.inr (.inr ⟨b,off,cap,by simp,hb,by simpa using hl,?_,fun i s VG=>?_⟩),by simpa using hbd⟩
   ·intro e
    have:=congrArg List.length e;simp at this;omega
   ·simp only[List.getElem?_map,Option.map_eq_some_iff,List.getElem?_eq_some_iff]at VG
    obtain⟨k,⟨hk,rfl⟩,rfl⟩:=VG;simp at hk ⊢;exact hS i hk
theorem eP {r:Go.Reach} {v:Value} {d:DataW H} {p:List MemPlace} {b0:Nat} (ou:Value.okWide Tryz.prog W r b0 22 v) (h:DataW.Trod enc Tryz.prog W 0 (fun _=>true) true 22 v d p) (hz:∀ m∈d.weights Tryz.prog 22,m<=reachBytes): ∃ l:List (Nat×Nat×Nat),cJ W v l/\l.length<=1000000000000000:=by obtain⟨a,len,cap,rfl⟩:=okWide_slice Tryz.underlying22 ou;obtain⟨fuel,hf⟩:=h;exact IX (y:=(d,p)) hf hz
end
end
section
open Go Go.RowKit Go.Shelf Go.Maps
theorem M7 {ps:List PT} {fuel:Nat} {st:List (List (List Int))×List (List Nat)} (h:xd ps fuel=some st):Rp fuel (partsOf (cQ ps)).length (rL ps) (oP ps) fuel st:=by
 unfold xd at h;split at h
 ·cases h
 ·rename_i hf
  exact lO (by omega) (ED ps) (fun row k hr _=>tL hr _) fuel h
theorem Uc {ps:List PT} {fuel:Nat} (hf2:fuel<=4000) {st:List (List (List Int))×List (List Nat)} (h:xd ps fuel=some st):Rt ⟨partsOf (cQ ps),st.2.map fun r=>r.map Int.ofNat,st.1.map (ej ps)⟩:=by
 have I:=M7 h;have hlen:st.2.length=st.1.length:=by have:=I.len;have:=I.le;omega
 have hrow:∀ s,s<st.2.length->((st.2.map fun r=>r.map Int.ofNat).getD s [])=(st.2.getD s []).map Int.ofNat/\(st.2.getD s [])∈st.2:=fun s hs=>by
  have e:=aI (l:=st.2) [] hs;refine⟨?_,List.mem_of_getElem? e⟩;rw[List.getD_eq_getElem?_getD,List.getElem?_map,e];rfl
 refine⟨?_,?_,?_,ox _,?_,?_,?_⟩
 ·show 1<=(st.2.map fun r=>r.map Int.ofNat).length
  have:=(List.getElem?_eq_some_iff.1 I.head).1;simp;omega
 ·show(st.2.map fun r=>r.map Int.ofNat).length<=4000
  have:=I.le;simp;omega
 ·simp[hlen]
 ·intro s hs
  rw[List.length_map]at hs;obtain⟨e,hm⟩:=hrow s hs;show((st.2.map fun r=>r.map Int.ofNat).getD s []).length=_;rw[e,List.length_map];exact(I.rows _ hm).1
 ·intro s hs t ht
  rw[List.length_map]at hs;obtain⟨e,hm⟩:=hrow s hs;replace ht:t∈((st.2.map fun r=>r.map Int.ofNat).getD s []):=ht;rw[e]at ht;obtain⟨q,hq,rfl⟩:=List.mem_map.1 ht;have h2:=(I.rows _ hm).2 q hq;show(0:Int)<=(q:Int)/\(q:Int)<(((st.2.map fun r=>r.map Int.ofNat).length:Nat):Int);rw[List.length_map];omega
 ·intro s hs
  rw[List.length_map]at hs;show jl ((st.1.map (ej ps)).getD s [])=true;rw[List.getD_eq_getElem?_getD,List.getElem?_map,List.getElem?_eq_getElem (by omega)];exact Kz ps _
theorem Pt {ps:List PT} {fuel:Int} {d:DF} (h:jO ps fuel=(d,0)):Rt d:=by
 unfold jO at h;split at h
 ·cases h
 ·split at h
  ·cases h
  ·split at h
   ·cases h
   ·rename_i hf
    split at h
    ·cases h
    ·rename_i st hst
     have e:(⟨partsOf (cQ ps),st.2.map fun r=>r.map Int.ofNat,st.1.map (ej ps)⟩:DF)=d:=(Prod.mk.inj h).1;rw[<-e];exact Uc (by omega) hst
section
variable {α:Type} [DecidableEq α]
end
theorem Pu {ps:List PT} {f:Int} (h:(jO ps f).2=0):¬64<ps.length/\ps.all PT.ok=true/\0<=f/\f<=4000/\∃ st,xd ps f.toNat=some st/\(jO ps f).1=⟨partsOf (cQ ps),st.2.map fun r=>r.map Int.ofNat,st.1.map (ej ps)⟩:=by
 unfold jO at h ⊢;split at h
 ·exact absurd h (by decide)
 ·rename_i h1
  split at h
  ·exact absurd h (by decide)
  ·rename_i h2
   split at h
   ·exact absurd h (by decide)
   ·rename_i h3
    rw[if_neg h1,if_neg h2,if_neg h3];rcases e:xd ps f.toNat with _ | st
    ·rw[e]at h
     have h':(181:Int)=0:=h;omega
    ·exact⟨h1,by simpa using h2,by omega,by omega,st,rfl,rfl⟩
theorem tM.form {base:Nat} {w:World} {v:Value} {a:NF} (h:tM base w v a):∃ a0 n0 c0 a1 n1 c1 a2 n2 c2 a3 n3 c3,v=.agg #[.slice a0 n0 c0,.slice a1 n1 c1,.slice a2 n2 c2,.slice a3 n3 c3,.bool a.emp]:=by obtain⟨v0,v1,v2,v3,rfl,h0,h1,h2,h3⟩:=h;obtain⟨a0,c0,rfl⟩:=ownsRow_form h0;obtain⟨a1,c1,rfl⟩:=h1.form;obtain⟨a2,c2,rfl⟩:=ownsRow_form h2;obtain⟨a3,c3,rfl⟩:=ownsRow_form h3;exact⟨_,_,_,_,_,_,_,_,_,_,_,_,rfl⟩
theorem zC {n:Nat} {l:List Int} (h:eh 0 ((n:Int)-1) l=true):l.length<=n:=by
 obtain⟨h1,h2⟩:=ei h;have hn:(l.map fun x=>x.toNat).Nodup:=by rw[List.nodup_iff_pairwise_ne,List.pairwise_map];exact h1.imp_of_mem fun {a b} ha hb hab=>by have:=h2 a ha;have:=h2 b hb;omega
 have:=List.Nodup.length_le_of_subset hn (l₂:=List.range n) fun x hx=>by
  obtain⟨y,hy,rfl⟩:=List.mem_map.1 hx;have:=h2 y hy;exact List.mem_range.2 (by omega)
 simpa using this
theorem Nt.smn {a:NF} (h:Nt a):Qs a:=by have hle:=h.le;refine⟨by omega,by have:=h.cN;omega,by have:=zC h.fst;omega,by have:=zC h.dh;omega,fun l hl=>?_⟩;obtain⟨p,hp⟩:=List.getElem?_of_mem hl;have hpl:=(List.getElem?_eq_some_iff.1 hp).1;have:=zC (h.row p (by rw[<-h.cN];exact hpl));rw[List.getD_eq_getElem?_getD,hp]at this;have e:(some l).getD []=l:=rfl;rw[e]at this;omega
def LC (s:List (Nat×Nat×Nat)×Bool×Nat):PT:=⟨(dc s.1).nf,s.2.1,s.2.2⟩
def xK (l:List (List (Nat×Nat×Nat)×Bool×Nat)):List PT:=(l.take 4).map LC
theorem LD (l:List (List (Nat×Nat×Nat)×Bool×Nat)) (h:∀ s∈l,s.2.2<256):∀ x∈xK l,Nt x.nf/\Qs x.nf/\0<=x.mark/\x.mark<=255:=by intro x hx;obtain⟨s,hs,rfl⟩:=List.mem_map.1 hx;have hm:=h s (List.mem_of_mem_take hs);have ht:Nt (dc s.1).nf:=SU (qm s.1).clean (qm s.1).cO;exact⟨ht,ht.smn,by unfold LC;dsimp only;omega,by unfold LC;dsimp only;omega⟩
theorem IY (l:List (List (Nat×Nat×Nat)×Bool×Nat)):(xK l).length=min 4 l.length:=by unfold xK;rw[List.length_map,List.length_take]
def fW (n0 n1 n2:Nat) (code:Int) (d:DF) (W:World) (e:Ending) (w':World):Prop:=
 ∃ a0 c0 a1 c1 a2 c2,e=.returned (.tuple #[.agg #[.slice a0 n0 c0,.slice a1 n1 c1,.slice a2 n2 c2],.int .i64 code])/\ay W.heap.size w' (.agg #[.slice a0 n0 c0,.slice a1 n1 c1,.slice a2 n2 c2]) d/\Below W.heap.size W w'
theorem ay.dB {w:World} {b:Nat} {t:TypeId} {v0 v1 v2:Value} (h:ah w b #[v0,v1,v2] t):w.cell? ⟨b,0,none⟩=some v0/\w.cell? ⟨b,1,none⟩=some v1/\w.cell? ⟨b,2,none⟩=some v2:=⟨h.cell 0,h.cell 1,h.cell 2⟩
def dL (ps:List PT) (ls:List Nat) (row:List (List Int)) (k:Nat):List (List Int):=gi ps row (ls.getD k 0)
def zD (ps:List PT) (ls:List Nat) (f:Nat):Option (List (List (List Int))×List (List Nat)):=
 if f=0 then none else cS f (dL ps ls) ls.length (oP ps) f
theorem Xl {f:Nat} {rows:List (List (List Int))} {row:List Nat} {q:List (List Int)} (h:q∈rows):dI f (rows,row) q=some (rows,row++ [ixR rows q]):=Hn (st:=(rows,row)) h
theorem Ud {f:Nat} {rows:List (List (List Int))} {row:List Nat} {q:List (List Int)} (h:q∉rows) (hf:rows.length<f):dI f (rows,row) q=some (rows++ [q],row++ [rows.length]):=Hm (st:=(rows,row)) h (Nat.ne_of_lt hf)
theorem Pv {f:Nat} {rows:List (List (List Int))} {row:List Nat} {q:List (List Int)} (h:q∉rows) (hf:rows.length=f):dI f (rows,row) q=none:=Cq (st:=(rows,row)) h hf
theorem Na {ps:List PT} {ls:List Nat} {f n:Nat} (hf:1<=f) {st:List (List (List Int))×List (List Nat)} (h:cS f (dL ps ls) ls.length (oP ps) n=some st):Rp f ls.length (rL ps) (oP ps) n st:=
 lO hf (ED ps) (fun _ _ hr _=>tL hr _) n h
theorem Xm {ps:List PT} {ls:List Nat} {f n:Nat} (hf:1<=f) {st:List (List (List Int))×List (List Nat)} (h:cS f (dL ps ls) ls.length (oP ps) n=some st) (hn:st.1.length=n):zD ps ls f=some st:=by unfold zD;rw[if_neg (by omega)];exact tC h (by omega) f (by have:=(Na hf h).le;omega)
theorem Ue {ps:List PT} {ls:List Nat} {f n:Nat} {rows:List (List (List Int))} {Ci:List (List Nat)} (h:cS f (dL ps ls) ls.length (oP ps) n=some (rows,Ci)) {p:List (List Int)} (hp:rows[n]? =some p): cS f (dL ps ls) ls.length (oP ps) (n+1)=(bO f (dL ps ls p) rows ls.length).map fun r=>(r.1,Ci++ [r.2]):=by rw[cS,h];show cB f (dL ps ls) ls.length n (rows,Ci)=_;unfold cB;simp only[hp]
theorem Xn {ps:List PT} {ls:List Nat} {f n k:Nat} (hf:1<=f) {rows:List (List (List Int))} {Ci:List (List Nat)} (h:cS f (dL ps ls) ls.length (oP ps) n=some (rows,Ci)) {p:List (List Int)} (hp:rows[n]? =some p) {Uf:List (List (List Int))} {row':List Nat} (hr:bO f (dL ps ls p) rows k=some (Uf,row')) (hk:k<ls.length) (hq:dL ps ls p k∉Uf) (xW:f<=Uf.length):zD ps ls f=none:=by
 have I:=Na hf h;have R:=iO (P:=fun _=>True) I.nodup I.le (fun _ _=>trivial) k (fun _ _=>trivial) hr;have h1:bO f (dL ps ls p) rows (k+1)=none:=by rw[bO,hr];exact Pv hq (Nat.le_antisymm R.le xW)
 have h2:=yx h1 ls.length (by omega);have h3:=Ue h hp;rw[h2]at h3;have hn:n<rows.length:=(List.getElem?_eq_some_iff.1 hp).1;have hle:rows.length<=f:=I.le;unfold zD;rw[if_neg (by omega)];exact Cg h3 f (by omega)
theorem zE {wm wg:World} {mb base L:Nat} {cs:Array Value} {nv:Value} {ns:List Value} (hb:ah wm mb cs 147) (hn:wm.ownsRow base 47 1 nv L ns) (K:aa (fun x=>x<wm.heap.size/\x≠mb/\nv.ownBlock≠some x) wm wg) {b n:Nat} {e:TypeId} {v:Value} {xs:List Value} (h:wm.ownsRow b e 1 v n xs) (h1:147≠e) (h3:e≠47\/∀ x,v.ownBlock=some x->nv.ownBlock≠some x):wg.ownsRow b e 1 v n xs:=
 aj h K fun x hx=>⟨(h.lt x hx).2,dA hb h h1 x hx,fun e2=>by
  rcases h3 with h3 | h3
  ·rcases ownBlock_ne h3 h hn with h5 | h5
   ·rw[h5]at hx;cases hx
   ·exact h5 (by rw[hx,e2])
  ·exact h3 x hx e2⟩
theorem mH.not {u v:Value} (h:mH u v):∀ x,u.ownBlock=some x->v.ownBlock≠some x:=fun x e e2=>by
 rcases h with h | h
 ·rw[h]at e;cases e
 ·exact h (by rw[e,e2])
theorem mH.not' {u v:Value} (h:mH u v):∀ x,v.ownBlock=some x->u.ownBlock≠some x:=fun x e e2=>h.not x e2 e
theorem Mk.next {F:Nat->Prop} {wm wg:World} {base mb ob f L:Nat} {pv cv:Value} {ps:List PT} {rows:List (List (List Int))} {nx:List (List Int)} {sv nv kv nv' xv:Value} {us ns ks:List Value} {l:List Int} (M:Mk F wm base mb ob f pv cv ps rows nx sv nv kv us ns ks) (hL:L=nx.length) (K:aa (fun x=>x<wm.heap.size/\x≠mb/\nv.ownBlock≠some x) wm wg) (hblk:ah wg mb #[pv,.int .i64 f,sv,.map (some ob),cv,nv',kv] 147) (Vl:jd F wg base 47 nv' (L+1) (ns++ [xv])) (hx:jd F wg base 3 xv l.length (l.map aS)) (xh:nv'.ownBlock=nv.ownBlock\/∀ x,nv'.ownBlock=some x->wm.heap.size<=x):Mk F wg base mb ob f pv cv ps rows (nx++ [l]) sv nv' kv us (ns++ [xv]) ks where
 blk:=hblk
 map:=M.map.keeps K ⟨M.map.lt,(fun e=>by have h2:wm.heap[mb]? =_:=M.blk;have h3:wm.heap[ob]? =_:=M.map;rw[e,h2]at h3;cases h3),fun e=>vt M.xj.1 M.map (fun c fz e=>by cases e) ob e rfl⟩
 fm:=M.fm
 fo:=M.fo
 bm:=M.bm
 bo:=M.bo
 st:=⟨zE M.blk M.xj.1 K M.st.1 (by decide) (.inl (by decide)),M.st.2⟩
 Ve:=fun i u q hu hq=>by
  obtain⟨⟨vs,h1,h2⟩,h3,h4⟩:=M.Ve i u q hu hq;exact⟨⟨vs,⟨zE M.blk M.xj.1 K h1.1 (by decide) (.inr h3.not),h1.2⟩,fun i u l hu hl=>⟨zE M.blk M.xj.1 K (h2 i u l hu hl).1 (by decide) (.inl (by decide)),(h2 i u l hu hl).2⟩⟩,h3.step xh fun b e=>(h1.1.lt b e).2,h4⟩
 xj:=by rw[List.length_append, <-hL];exact Vl
 Qt:=fun i u l' hu hl=>by
  have Vc:ns.length=L:=by have:=M.xj.1.1;omega
  by_cases hi:i<L
  ·rw[List.getElem?_append_left (by omega)]at hu
   rw[List.getElem?_append_left (by omega)]at hl;exact⟨zE M.blk M.xj.1 K (M.Qt i u l' hu hl).1 (by decide) (.inl (by decide)),(M.Qt i u l' hu hl).2⟩
  ·have jK:=(List.getElem?_eq_some_iff.1 hu).1
   simp at jK;obtain rfl:i=L:=by omega
   rw[List.getElem?_append_right (by omega),Vc,Nat.sub_self]at hu;rw[List.getElem?_append_right (by omega), <-hL,Nat.sub_self]at hl;cases hu;cases hl;exact hx
 wE:=⟨zE M.blk M.xj.1 K M.wE.1 (by decide) (.inr M.far.not'),M.wE.2⟩
 Qu:=fun i u l hu hl=>⟨zE M.blk M.xj.1 K (M.Qu i u l hu hl).1 (by decide) (.inl (by decide)),(M.Qu i u l hu hl).2⟩
 far:=by
  rcases xh with h | h
  ·rcases M.far with h5 | h5
   ·exact .inl (h.trans h5)
   ·exact .inr (by rw[h];exact h5)
  ·cases e:nv'.ownBlock with
   | none=>exact .inl e
   | some x=>exact .inr fun e2=>by have:=h x e;have:=(M.wE.1.lt x (by rw[<-e2,e])).2;omega
def iw (ps:List PT) (row:List (List Int)) (k:Nat):List Int:=((List.zip ps row).take k).filterMap fun y=>if y.1.nf.acc y.2 then some y.1.mark else none
theorem LG {ps:List PT} {row:List (List Int)} {k:Nat} {x:PT} {l:List Int} (hx:ps[k]? =some x) (hl:row[k]? =some l):iw ps row (k+1)=iw ps row k++if x.nf.acc l then [x.mark]else []:=by
 have hz:(List.zip ps row)[k]? =some (x,l):=by rw[List.getElem?_zip_eq_some];exact⟨hx,hl⟩
 unfold iw;rw[List.take_add_one,hz,List.filterMap_append];by_cases h:x.nf.acc l=true<;>simp[h]
theorem Pw {ps:List PT} {row:List (List Int)} (h:row.length=ps.length):iw ps row ps.length=iV ps row:=by unfold iw iV;rw[List.take_of_length_le];rw[List.length_zip,h];omega
theorem Px (ps:List PT) (row:List (List Int)) (k:Nat):(iw ps row k).length<=k:=by unfold iw;exact Nat.le_trans (List.length_filterMap_le _ _) (by rw[List.length_take];omega)
def abM (F:Nat→Prop) (base mb ob f:Nat) (pv cv:Value) (ps:List PT) (rows:List (List (List Int))) (nx:List (List Int)) (r:List (List Int)) (w1 w:World) (e:Ending) (w':World):Prop:=
  aa (fun x=>x<w1.heap.size∧(x<base∨¬F x)) w w'∧
  ((r∈rows∧e=.returned (.int .i64 (ixR rows r))∧YG F w' base mb ob f pv cv ps rows nx)∨
   (r∉rows∧rows.length<f∧e=.returned (.int .i64 rows.length)∧YG F w' base mb ob f pv cv ps (rows++ [r]) nx)∨
   (r∉rows∧f≤rows.length∧e=.panicked [{v:=.iface 174 (.agg #[]),recovered:=false}]))
theorem Dv (F:Nat->Prop) (base mb ob f:Nat) (pv cv:Value) (ps:List PT) (rows:List (List (List Int))) (nx:List (List Int)) (ok:WN ps) (w1 w:World) (hM:YG F w1 base mb ob f pv cv ps rows nx) (hk:Below w1.heap.size w1 w) (hF:∀ x,w1.heap.size<=x->F x) (lv:Value) (r:List (List Int)) (hl:aW w1.heap.size w lv r) (hr:rL ps r) (hn:rows.Nodup) (tI:∀ p∈rows,rL ps p) (hf:f<=4000) (hlen:rows.length<=f) (hP:∀ W,Below base w1 W->lT W pv ps) (hT:∀ W,Below base w1 W->gL W): Calls Tryz.prog 104 #[.pointer (some ⟨mb,0,none⟩),lv] w fun e w'=>abM F base mb ob f pv cv ps rows nx r w1 w e w':=by
 obtain⟨iLL,akN,afH,afI,afJ⟩:=info_parts Tryz.abg;obtain⟨iL,Gk,oM,oN,oO⟩:=info_parts Tryz.vU;obtain⟨iI,Hh,pT,pU,pV⟩:=info_parts Tryz.tz;obtain⟨sv,nv,kv,us,ns,ks,M⟩:=hM;have hb1:base<=w1.heap.size:=Nat.le_trans M.bm (Nat.le_of_lt M.blk.lt);have Ug:Hid (Below base w1 w):=hid (hk.mono hb1);have CK:Hid (Calls Tryz.prog 138 #[lv] w fun e w'=>e=.returned (vh r)/\Below w.heap.size w w'):=hid (WM lv r (ET ok hr) w hl.ll fun W hW=>hT W (Ug.out.trans (hW.mono (Nat.le_trans hb1 hk.size))));have MW:=hid (M.below hk);have M1:=hid M;have HK:=hid hk;have HL:=hid hl;have KI:Hid (∀ p∈rows,rN p):=hid fun p hp=>(ET ok (tI p hp)).in
 have KR:Hid (rN r):=hid (ET ok hr).in;have HP:=hid hP;have OK:=hid ok;have HR:=hid hr;have HNn:=hid hn;have HF:=hid hF;obtain⟨L,hL⟩:∃ L,L=rows.length:=⟨_,rfl⟩;have Gi:=hid hL;have hLf:L<=f:=by omega
 have hst:=M.st.1;rw[<-hL]at hst;obtain⟨sa,sc,rfl⟩:=ownsRow_form hst;obtain⟨la,lc,rfl⟩:=hl.form;obtain⟨K0,Mo⟩:∃ z,z=vh r:=⟨_,rfl⟩;obtain⟨n,ER⟩:∃ z,z=ps.length:=⟨_,rfl⟩;have tQ:n<=64:=by rw[ER];exact ok.1
 obtain⟨pa,pc,rfl⟩:=(hP w1 (Below.refl _ _)).form;rw[<-ER]at MW M1 HP hP M ⊢;have Uh:=hid ER;rw[<-Mo]at CK;have Ef:=hid Mo;have abN:base<=w.heap.size:=Nat.le_trans hb1 hk.size;clear M hk hl hr hn tI hP hT hF hL hst Mo ok hlen ER;go_enter Tryz.func104,Tryz.ntmps104;go_wp2_with fail
 refine CK.out.mono ?_;rintro e wa ⟨rfl,hx⟩;have MA:=hid (MW.out.below hx);have XA:=hid hx;have LA:=hid (HL.out.below hx);clear hx MW CK;obtain⟨m0,m1,m2,m3,m4,m5,m6⟩:=MA.out.blk.seven;have BK:=WL MA.out.map HNn.out KI.out r KR.out;rw[<-Ef.out]at BK;rcases BK with⟨hq,hlk⟩ | ⟨hq,hlk⟩
 ·have HQ:=hid hq
  clear hq;go_wp2_with fail
  by_cases xW:f<=L
  ·have hfi:(f:Int)<=(L:Int):=by omega
   have d1:decide ((f:Int)<=(L:Int))=true:=decide_eq_true hfi
   go_quiet (fail)
   go_wp2_with fail
   exact⟨rfl,(aa.ag XA.out fun x hx=>Nat.lt_of_lt_of_le hx.1 HK.out.size:aa (fun x=>x<w1.heap.size/\(x<base\/¬F x)) w wa).drewN _,.inr (.inr ⟨HQ.out,by rw[<-Gi.out];exact xW,rfl⟩)⟩
  ·have hfi:¬ ((f:Int)<=(L:Int)):=by omega
   have d1:decide ((f:Int)<=(L:Int))=false:=decide_eq_false hfi
   go_quiet (fail)
   go_wp2_with fail
   refine aw ?_;intro wb hwb;have MB:Hid (Mk F wb base mb ob f (.slice pa n pc) cv ps rows nx (.slice sa L sc) nv kv us ns ks):=hid (by rw[hwb];exact MA.out.keeps ((aa.refl (fun _=>True) wa).drewN _) fun _ _ _=>trivial);have LB:Hid (aW w1.heap.size wb (.slice la r.length lc) r):=hid (by rw[hwb];exact LA.out);have XB:Hid (Below w.heap.size w wb):=hid (by rw[hwb];exact((aa.ag XA.out fun _ h=>h:aa (· <w.heap.size) w wa).drewN _).below);have akP:wb.heap.size=wa.heap.size:=by rw[hwb];rfl
   clear hwb m0 m1 m2 m3 m4 m5 m6 MA LA XA hlk;obtain⟨m0,m1,m2,m3,m4,m5,m6⟩:=MB.out.blk.seven;refine aD false (fun _=>False) (by kernel_rfl) 10 [0,1,3,7,0,0,32,96,224,480,1023] (fun i=>i==10) (by kernel_rfl) (fun _=>aH.any _) ?_;intro C hC hne;have HC:=hid hC;have f2:=ak hC (p:=⟨mb,2,none⟩) MB.out.blk.lt (fun h=>h) m2;have f3:=ak hC (p:=⟨mb,3,none⟩) MB.out.blk.lt (fun h=>h) m3;clear hC m0 m1 m2 m3 m4 m5 m6
   repeat (refine ae (fun K hK=>?_);first | (refine aR rfl ?_;try go_simp;refine hK _ _ ?_;clear hK K) | (refine aO rfl rfl ?_;unfold ai;go_simp;refine hK _ _ ?_;clear hK K))
   refine bh (fun wm hW hH=>?_);have lH:=(HC.out wm).1 hW;have MW:=hid (MB.out.below lH.below);have LW:=hid (LB.out.below lH.below);have XW:=hid (XB.out.trans (lH.below.mono XB.out.size));clear lH hW hH HC hne f2 f3 MB LB XB akP;obtain⟨wc,hput,Cr,D9,abO⟩:=aa9 (w:=wm) MW.out.map KI.out r KR.out HQ.out;rw[<-Ef.out, <-Gi.out]at hput;have BC:=hid (MW.out.blk.keeps D9 (fun e=>by have h1:=MW.out.map;have h2:wm.heap[mb]? =_:=MW.out.blk;rw[e]at h2;have h3:wm.heap[ob]? =_:=h1;rw[h2]at h3;cases h3));have SC:Hid (wc.ownsRow base 26 1 (.slice sa L sc) L us):=hid (by have h5:=aj MW.out.st.1 D9 (fun x hx=>vt MW.out.st.1 MW.out.map (fun c fz e=>by cases e) x hx);rw[<-Gi.out]at h5;exact h5);have hbc:base<=wc.heap.size:=by rw[abO];exact Nat.le_trans abN XW.out.size
   have Xo:=hid abO;clear abO;obtain⟨c0,c1,c2,c3,c4,c5,c6⟩:=BC.out.seven;go_wp2_with (at_builtin;refine Hid.out ?_);refine hid ?_;refine wpList_append_own_at _ rfl (.tmp 52) (.tmp 54) 145 rfl base 26 iLL (.slice none 0 0) 1 24 Tryz.underlying145 akN afH afI afJ rfl (by decide) _ _ _ rfl (SC.out.alloc _) ⟨wc.heap.size,0,none⟩ 1 1 [.slice la r.length lc] rfl rfl (jA _ _ _) (by simp[Value.oneCell']) (by unfold maxLen;omega) (by omega) (by simp;omega) ?_;intro v' wd hown' hgrow hh hat;have HO:=hid hown';have HG:=hid hgrow;have Mp:=hid hat;clear hown' hgrow hh hat;obtain⟨sa2,YZ,rfl⟩:=ownsRow_form HO.out;have BD:=hid ((BC.out.alloc _).grown HG.out (fun e=>dA BC.out SC.out (by decide) mb e.symm rfl));clear c0 c1 c2 c3 c4 c5 c6 hput;obtain⟨c0,c1,c2,c3,c4,c5,c6⟩:=BD.out.seven;have z2:=BD.out.frozen 2;go_wp2;refine aw ?_;intro we hwe;have BE:Hid (ah we mb #[.slice pa n pc,.int .i64 f,.slice sa2 (L+1) YZ,.map (some ob),cv,nv,kv] 147):=hid (by rw[hwe];exact BD.out.set 2 _);have abQ:∀ x,(Value.slice sa L sc).ownBlock=some x->base<=x/\x<w1.heap.size:=fun x e=>M1.out.st.1.lt x e
   have KG:Hid (aa (fun x=>x<wm.heap.size/\(Value.slice sa L sc).ownBlock≠some x) wc wd):=hid (((aa.refl _ _).alloc (fun x hx=>by rw[Xo.out];exact hx.1) _).tr (aa.bG HG.out fun x hx=>⟨by have:=hx.1;rw[<-Xo.out]at this;simp;omega,fun e=>hx.2 e.symm⟩))
   have KE:Hid (aa (fun x=>x<wm.heap.size/\x≠ob/\x≠mb/\(Value.slice sa L sc).ownBlock≠some x) wm we):=hid (by
    rw[hwe]
    exact((D9.mono fun x hx=>hx.2.1).tr (KG.out.mono fun x hx=>⟨hx.1,hx.2.2.2⟩)).setCell (fun h=>h.2.2.1 rfl) _)
   have SE:Hid (we.ownsRow base 26 1 (.slice sa2 (L+1) YZ) (L+1) (us++ [.slice la r.length lc])):=hid (by
    rw[hwe]
    exact aj HO.out ((aa.refl (· ≠mb) wd).setCell (p:=⟨mb,2,none⟩) (fun h=>h rfl) _) fun x hx=>dA BD.out HO.out (by decide) x hx)
   have ME:Hid (nL we ob (rows++ [r])):=hid (by
    rw[hwe];have h5:ob≠mb:=fun e=>by
     have h2:wc.heap[mb]? =_:=BC.out;have h3:wc.heap[ob]? =_:=Cr;rw[e,h2]at h3;cases h3
    have h6:nL wd ob (rows++ [r]):=Cr.keeps KG.out ⟨by rw[<-Xo.out];exact Cr.lt,fun e=>vt SC.out Cr (fun c fz e=>by cases e) ob e rfl⟩
    exact h6.keeps ((aa.refl (· ≠mb) wd).setCell (p:=⟨mb,2,none⟩) (fun h=>h rfl) _) h5)
   have XE:Hid (Below base w1 we):=hid ((Ug.out.trans (XW.out.mono abN)).trans (KE.out.mono fun x hx=>⟨Nat.lt_of_lt_of_le (Nat.lt_of_lt_of_le hx abN) XW.out.size,by have h1:x<base:=hx;have:=M1.out.bo;omega,by have h1:x<base:=hx;have:=M1.out.bm;omega,fun e=>by have h1:x<base:=hx;have:=(abQ x e).1;omega⟩:aa (· <base) wm we).below);have LE:Hid (aW w1.heap.size we (.slice la r.length lc) r):=hid (LW.out.keeps KE.out fun x h1 h2=>⟨h2,by have:=M1.out.map.lt;omega,by have:=M1.out.blk.lt;omega,fun e=>by have:=(abQ x e).2;omega⟩);have hrn:r.length=n:=by rw[Uh.out];exact HR.out.1
   have HRN:=hid hrn;have afL:base<=we.heap.size:=by rw[hwe];have:=BD.out.lt;have:=M1.out.bm;simp;omega
   clear hwe c0 c1 c2 c3 c4 c5 c6 z2 hrn abQ;go_loopw [8,63] (fun mv iv wr=>∃ k:Nat,k<=n/\iv=.int .i64 k/\wr.ownsRow we.heap.size 3 1 mv (iw ps r k).length ((iw ps r k).map aS)/\Below we.heap.size we wr) (fun _ iv _=>n-(intOf iv).toNat);case atStart=>exact⟨0,by omega,rfl,World.ownsRow_nil _ _ _ _,Below.refl _ _⟩
   case round=>
    obtain⟨k,hk,rfl,ho,hx⟩:=hrel;obtain⟨wo,rfl⟩:∃ wo:World,wo=wr:=⟨_,rfl⟩;have HX:=hid hx;have qL:=Px ps r k;obtain⟨am,ham⟩:∃ z,z=(iw ps r k).length:=⟨_,rfl⟩;rw[<-ham]at ho qL;obtain⟨ma,mc,rfl⟩:=ownsRow_form ho;have HOm:=hid ho;have HAM:=hid ham;clear hx ho ham;by_cases hlt:k<n
    ·have gz:(k:Int)<n:=by omega
     have Ip:(k:Int)<(r.length:Int):=by have:=HRN.out;omega
     obtain⟨x,hx⟩:∃ x,ps[k]? =some x:=⟨_,List.getElem?_eq_getElem (by have:=Uh.out;omega)⟩;obtain⟨l,hl⟩:∃ l,r[k]? =some l:=⟨_,List.getElem?_eq_getElem (by have:=HRN.out;omega)⟩;obtain⟨b,off,v0,v1,v2,v3,rfl,hb,xh,q0,q1,q2,q3,q4,q5,q6⟩:=(HP.out wo (XE.out.trans (HX.out.mono afL))).elem hx;obtain⟨b2,xe,a',c',rfl,hb2,cl,fy⟩:=(LE.out.ll.below HX.out).elem hl;obtain⟨x0,n0,y0,x1,n1,y1,x2,n2,y2,x3,n3,y3,rfl,rfl,rfl,rfl⟩:=xh.SR;have MR:=hid xh;have Qj:=hid fy;have h2:=OK.out.2 x (List.mem_of_getElem? hx);have hst:=HR.out.2 k x l hx hl;obtain⟨B,hB⟩:∃ z,z=x.nf.acc l:=⟨_,rfl⟩;have CA:Hid (∀ (v u:Value) (W:World),mP W v x.nf->aZ aS W u l->Calls Tryz.prog 139 #[v,u] W fun e w'=>e=.returned (.tuple #[.bool B,.int .i64 0])/\Below W.heap.size W w'):=hid fun v u W hv hu=>by rw[hB];exact EO v u x.nf h2.1 l hst W hv h2.2.1 hu (Nat.le_trans (La h2.1 hst) (by decide))
     have kq:Hid (iw ps r (k+1)=iw ps r k++if B then [x.mark]else []):=hid (by rw[hB];exact LG hx hl);clear hx hl xh fy h2 hst hB;go_wp2;refine aw ?_;intro V hV;have BX:Hid (ah V wo.heap.size #[.slice x0 n0 y0,.slice x1 n1 y1,.slice x2 n2 y2,.slice x3 n3 y3,.bool x.nf.emp,.bool x.cG,.int .i64 x.mark] 102):=hid (by rw[hV];exact ah.new wo _ _);have XV:Hid (Below wo.heap.size wo V):=hid (by rw[hV];exact((Ext.refl wo).alloc _).below);have SK:V.cell? ⟨b2,xe+k,none⟩=some (.slice a' l.length c'):=((aa.ag XV.out fun _ h=>h:aa (· <wo.heap.size) wo V).cell (p:=⟨b2,xe+k,none⟩) hb2).trans cl;clear hV q0 q1 q2 q3 q4 q5 q6 cl;refine aD false (fun _=>False) (by kernel_rfl) 11 [0,1,0,0,12,28,63,127,255,255,511,2047] (fun i=>i==6) (by kernel_rfl) (fun i=>if i=6 then aH.gU _ (.tuple #[.bool B,.int .i64 0])else aH.any _) ?_;intro C hC hne;have HC:=hid hC;have f0:=ak hC (p:=⟨wo.heap.size,0,none⟩) BX.out.lt (fun h=>h) (BX.out.cell 0);have f1:=ak hC (p:=⟨wo.heap.size,1,none⟩) BX.out.lt (fun h=>h) (BX.out.cell 1);have f2:=ak hC (p:=⟨wo.heap.size,2,none⟩) BX.out.lt (fun h=>h) (BX.out.cell 2);have f3:=ak hC (p:=⟨wo.heap.size,3,none⟩) BX.out.lt (fun h=>h) (BX.out.cell 3);have f4:=ak hC (p:=⟨wo.heap.size,4,none⟩) BX.out.lt (fun h=>h) (BX.out.cell 4);have f5:=ak hC (p:=⟨b2,xe+k,none⟩) (World.block_lt_of_cell? _ _ SK) (fun h=>h) SK;clear hC SK
     repeat (refine ae (fun K hK=>?_);first | (refine aR rfl ?_;try go_simp;refine hK _ _ ?_;clear hK K) | (refine aO rfl rfl ?_;unfold ai;go_simp;refine hK _ _ ?_;clear hK K))
     refine ae (fun K hK=>?_);refine bg rfl rfl (aH.gU _ (.tuple #[.bool B,.int .i64 0])) rfl (fun W hW hN=>?_) (fun v hv=>?_)
     ·have hM:=(HC.out W).1 hW
      clear hW;go_simp;refine aB ((CA.out _ _ _ ((MR.out.below XV.out).below hM.below) ((Qj.out.below XV.out).below hM.below)).mono ?_);rintro e w2 ⟨rfl,hx⟩;exact⟨_,rfl,Move.ag hx,rfl,trivial⟩
     replace hv:v=_:=hv;subst hv;go_simp;refine hK _ _ ?_;clear hK K
     repeat (refine ae (fun K hK=>?_);first | (refine aR rfl ?_;try go_simp;refine hK _ _ ?_;clear hK K) | (refine aO rfl rfl ?_;unfold ai;go_simp;refine hK _ _ ?_;clear hK K))
     refine bh (fun W hW hH=>?_);have lH:=(HC.out W).1 hW;have BW:=hid (BX.out.below lH.below BX.out.lt);have XW2:=hid (XV.out.trans (lH.below.mono XV.out.size));clear lH hW hH HC hne f0 f1 f2 f3 f4 f5;have i6:=BW.out.seven.2.2.2.2.2.2;have OW:=hid (aq HOm.out XW2.out);have aeR:wo.heap.size<W.heap.size:=BW.out.lt;have akS:we.heap.size<=wo.heap.size:=HX.out.size;cases B with
     | false=>
      go_wp2;go_roundw;case rel=>exact⟨k+1,by omega,by go_num,by rw[kq.out];simp only[Bool.false_eq_true,if_false,List.append_nil];rw[<-HAM.out];exact OW.out,HX.out.trans (XW2.out.mono akS)⟩
      case measure=>simp[intOf];omega
     | true=>
      go_wp2_with (at_builtin;refine wpList_append_own_at _ rfl (.tmp 79) (.tmp 82) 47 rfl we.heap.size 3 iI (.int .i64 0) 1 8 Tryz.underlying47 Hh pT pU pV rfl (by decide) _ _ _ rfl (OW.out.alloc _) ⟨W.heap.size,0,none⟩ 1 1 [.int .i64 x.mark] rfl rfl (jA _ _ _) (by simp[Value.oneCell']) (by unfold maxLen;omega) (by omega) (by simp;omega) ?_;intro v' w2 hown' hgrow hh hat;have j8:=hid hown';have HG2:=hid hgrow;clear hown' hgrow hh hat)
      go_roundw
      case rel=>
       refine⟨k+1,by omega,by go_num,?_,?_⟩
       ·rw[kq.out]
        simp only[if_true];rw[List.length_append,List.map_append, <-HAM.out];exact j8.out
       ·have XX:=HX.out.trans (XW2.out.mono HX.out.size)
        exact(XX.alloc XX.size _).grown HG2.out (by have:=XX.size;simp;omega) (fun c e=>(OW.out.lt c e).1)
      case measure=>simp[intOf];omega
    ·obtain rfl:k=n:=by omega
     have KD:¬ ((k:Int)<k):=by omega
     have CSo:Hid (Calls Tryz.prog 140 #[.slice ma am mc] wo fun e w'=>e=.returned (.tuple #[])/\w'.ownsRow we.heap.size 3 1 (.slice ma am mc) am ((gj (iw ps r k)).map aS)/\aa (fun x=>x<wo.heap.size/\(Value.slice ma am mc).ownBlock≠some x) wo w'):=hid (Oo _ _ _ _ _ HOm.out (by omega));go_wp2_with fail
     refine CSo.out.mono ?_;rintro e wf ⟨rfl,ho,hx⟩;have OF:=hid ho;have TN:∀ x,(Value.slice ma am mc).ownBlock=some x->we.heap.size<=x:=fun x e=>(HOm.out.lt x e).1
     have XF:Hid (Below we.heap.size we wf):=hid (HX.out.trans (hx.mono fun x my=>⟨Nat.lt_of_lt_of_le my HX.out.size,fun e=>by have h1:x<we.heap.size:=my;have:=TN x e;omega⟩:aa (· <we.heap.size) wo wf).below);clear ho hx HOm HX CSo TN;have oA:iw ps r k=iV ps r:=by have:=Pw (ps:=ps) (row:=r) HR.out.1;rw[<-Uh.out]at this;exact this
     obtain⟨cn,hcn⟩:∃ z,z=(Lib.compact (gj (iw ps r k))).length:=⟨_,rfl⟩;obtain⟨cx,Rg⟩:∃ z,z=(Lib.compact (gj (iw ps r k))).map aS:=⟨_,rfl⟩;have MKS:Hid (Lib.compact (gj (iw ps r k))=ej ps r):=hid (by rw[oA];exact A6 fun x hx=>(OK.out.2 x hx).2.2);have asZ:cn<=64:=by have h5:=Lib.compact_length_le (gj (iw ps r k));rw[<-hcn,mO, <-HAM.out]at h5;omega
     have CC:Hid (∀ W,W.ownsRow we.heap.size 3 1 (.slice ma am mc) am ((gj (iw ps r k)).map aS)->Calls Tryz.prog 141 #[.slice ma am mc] W fun e w'=>e=.returned (.slice ma cn mc)/\w'.ownsRow we.heap.size 3 1 (.slice ma cn mc) cn cx/\aa (fun x=>x<W.heap.size/\(Value.slice ma am mc).ownBlock≠some x) W w'):=hid fun W hW=>(Fe _ _ _ _ W hW (by omega)).mono fun e w' ⟨u,he,h1,h2,h3⟩=>by
      have h4:=A9 (by rw[mO, <-HAM.out]) h3;rw[<-hcn]at h4 h1;rw[<-Rg]at h1;rw[h4]at he h1;exact⟨he,h1,h2⟩
     have HCN:Hid (cn=(ej ps r).length/\cx=(ej ps r).map aS):=hid ⟨by rw[hcn,MKS.out],by rw[Rg,MKS.out]⟩;have Ip:wm.ownsRow base 47 1 kv L ks:=by have:=MW.out.wE.1;rw[<-Gi.out]at this;exact this
     obtain⟨ka,kc,rfl⟩:=ownsRow_form Ip;have KR0:=hid Ip;have xI:wm.ownsRow base 26 1 (.slice sa L sc) L us:=by have:=MW.out.st.1;rw[<-Gi.out]at this;exact this
     have SW:=hid xI
     have KRE:Hid (we.ownsRow base 47 1 (.slice ka L kc) L ks):=hid (aj Ip KE.out fun x hx=>⟨(Ip.lt x hx).2,vt Ip MW.out.map (fun c fz e=>by cases e) x hx,dA MW.out.blk Ip (by decide) x hx,fun e2=>by
      rcases ownBlock_ne (by decide) Ip xI with h5 | h5
      ·rw[h5]at hx;cases hx
      ·exact h5 (by rw[hx,e2])⟩)
     have afN:∀ x,(Value.slice ka L kc).ownBlock=some x->x<we.heap.size:=fun x e=>(KRE.out.lt x e).2
     have Wo:=hid afN;have BF:=hid (BE.out.below XF.out BE.out.lt);have KRF:=hid (aq KRE.out XF.out);have afO:(Value.slice ka L kc).ownBlock≠some mb:=fun e=>dA BE.out KRE.out (by decide) mb e rfl
     have akT:we.heap.size<=wf.heap.size:=XF.out.size;clear oA hcn Rg Ip xI afN;obtain⟨c0,c1,c2,c3,c4,c5,c6⟩:=BF.out.seven;go_wp2_with fail
     refine RegQ.aY (Aq we.heap.size base L cn (.slice ka L kc) (.slice ma cn mc) ks cx) Aq.drew (fun _ _ _ h k=>h.trans k) (by kernel_rfl) 10 [0,0,2,6,14,30,0,64,192,510,1023,2047,4095,8191] (fun i=>i==7 || i==8 || i==9 || i==13) (by kernel_rfl) (fun i=>if i=7 then zo.com we.heap.size base L cn (.slice ka L kc) (.slice ma cn mc) ks cx else if i=8 then zo.box we.heap.size base L cn (.slice ka L kc) (.slice ma cn mc) ks cx else if i=9 then zo.new we.heap.size base L cn (.slice ka L kc) (.slice ma cn mc) ks cx else aH.any _) (fun j W=>j=7->W.ownsRow we.heap.size 3 1 (.slice ma am mc) am ((gj (iw ps r k)).map aS)) (fun _ _ _=>OF.out) ?_;intro C hC hne;have HC:=hid hC;have f6:∀ W: {W//C W},W.1.cell? ⟨mb,6,none⟩=some (.slice ka L kc):=fun W=>(((hC W.1).1 W.2).keep.cell (p:=⟨mb,6,none⟩) ⟨BE.out.lt,BF.out.lt,afO⟩).trans c6
     clear hC c0 c1 c2 c3 c4 c5 c6
     repeat (refine RegQ.ae (fun K hK=>?_);first | (refine RegQ.aR rfl ?_;try go_simp;refine hK _ _ ?_;clear hK K) | (refine RegQ.aO rfl rfl ?_;unfold ai;go_simp;refine hK _ _ ?_;clear hK K))
     refine RegQ.ae (fun K hK=>?_);refine RegQ.bg rfl rfl (zo.com we.heap.size base L cn (.slice ka L kc) (.slice ma cn mc) ks cx) rfl (fun W hW hD hN=>?_) (fun v hv=>?_)
     ·have hD7:=hD rfl
      clear hW hD hN hK K;go_simp;refine aB ((CC.out W hD7).mono ?_);rintro e w2 ⟨rfl,ho,hk2⟩;exact⟨_,rfl,⟨Aq.compact hD7 hk2 ho,fun j hj _ e=>absurd e hj⟩,rfl,ho⟩
     replace hv:v=_:=hv;subst hv;go_simp;refine hK _ _ ?_;clear hK K;refine RegQ.ae (fun K hK=>?_);refine RegQ.bg rfl rfl (zo.box we.heap.size base L cn (.slice ka L kc) (.slice ma cn mc) ks cx) rfl (fun W hW hD hN=>?_) (fun v hv=>?_)
     ·have hMz:=((HC.out W).1 hW).size
      clear hW hN hK K;go_simp;exact⟨⟨Aq.below ((Ext.refl _).alloc _).below,fun j _ _ h e=>(h e).alloc _⟩,⟨_,by omega,rfl⟩,fun b hb=>by cases hb;exact ah.new _ _ _⟩
     obtain⟨bx,abw,rfl⟩:=hv;go_simp;refine hK _ _ ?_;clear hK K;refine RegQ.ae (fun K hK=>?_);refine RegQ.bg rfl rfl (zo.new we.heap.size base L cn (.slice ka L kc) (.slice ma cn mc) ks cx) rfl (fun W hW hD hN=>?_) (fun v hv=>?_)
     ·have lH:=(HC.out W).1 hW
      have rK:ah W bx #[.slice ma cn mc] 47:=hN.at 0 rfl (by kernel_rfl) bx rfl;have hkw:=lH.old KRF.out;have hMz:=lH.size;have HBW:=hid rK;have pW:=hid hkw;clear hW hN hK K lH rK hkw;refine nO (.tmp 92) (.tmp 95) 26 rfl base 47 iL (.slice none 0 0) 1 24 Tryz.underlying26 Gk oM oN oO rfl (by decide) (.slice ka L kc) L ks rfl pW.out ⟨bx,0,none⟩ 1 1 [.slice ma cn mc] rfl HBW.out.Ys rfl (by simp[Value.oneCell']) (by unfold maxLen;omega) (by omega) (by omega) (by decide) ?_;intro v' w2 ho hg lY;refine⟨⟨Aq.append pW.out Wo.out ho hg (lY.imp (fun h=>h.1) id),fun j _ _ h e=>(h e).kept hg (ownBlock_ne (by decide) (h e) pW.out)⟩,ownsRow_form ho,ho,?_⟩;rcases lY with⟨_,h⟩ | ⟨g,cap,h1,h2,_⟩
      ·exact .inr fun x hx=>by rw[h]at hx;cases hx;omega
      ·exact .inl (by rw[h2,h1];rfl)
     obtain⟨kb,kd,rfl⟩:=hv;go_simp;refine hK _ _ ?_;clear hK K;refine RegQ.bh (fun W hW hH=>?_);have lH:=(HC.out W).1 hW;have NR:Hid (W.ownsRow base 47 1 (.slice kb (L+1) kd) (L+1) (ks++ [.slice ma cn mc])/\((Value.slice kb (L+1) kd).ownBlock=(Value.slice ka L kc).ownBlock\/∀ x,(Value.slice kb (L+1) kd).ownBlock=some x->we.heap.size<=x)):=hid (hH _ (List.mem_of_getElem? (show _=some _ from rfl:_[0]? =some _)));have CR:Hid (W.ownsRow we.heap.size 3 1 (.slice ma cn mc) cn cx):=hid (hH _ (List.mem_of_getElem? (show _=some _ from rfl:_[2]? =some _)));have BG:=hid (BF.out.keeps lH.keep ⟨BE.out.lt,BF.out.lt,afO⟩);have KV:=hid lH.keep;clear lH hW hH HC hne f6 CC OF;obtain⟨c0,c1,c2,c3,c4,c5,c6⟩:=BG.out.seven;have z6:=BG.out.frozen 6;have wL:IntKind.i64.wrap (L:Int)=L:=IntWalk.i64_in _ (by omega);go_wp2;refine Hl ?_;intro wg hwg;go_ret;have YS:wm.heap.size<=we.heap.size:=KE.out.size;have h1m:w1.heap.size<=wm.heap.size:=Nat.le_trans HK.out.size XW.out.size;have abR:∀ x,(Value.slice ka L kc).ownBlock=some x->base<=x/\x<w1.heap.size:=fun x e=>M1.out.wE.1.lt x e
     have akU:∀ x,(Value.slice sa L sc).ownBlock=some x->base<=x/\x<w1.heap.size:=fun x e=>M1.out.st.1.lt x e
     have as1:=M1.out.blk.lt;have as2:=M1.out.map.lt;have K2:aa (fun x=>x<we.heap.size/\x≠mb/\(Value.slice ka L kc).ownBlock≠some x) we wg:=by rw[hwg];exact((aa.ag XF.out fun x hx=>hx.1:aa (fun x=>x<we.heap.size/\x≠mb/\(Value.slice ka L kc).ownBlock≠some x) we wf).tr (KV.out.mono fun x hx=>⟨hx.1,Nat.lt_of_lt_of_le hx.1 akT,hx.2.2⟩)).setCell (fun h=>h.2.1 rfl) _
     have K:aa (fun x=>x<wm.heap.size/\x≠ob/\x≠mb/\(Value.slice sa L sc).ownBlock≠some x/\(Value.slice ka L kc).ownBlock≠some x) wm wg:=(KE.out.mono fun x hx=>⟨hx.1,hx.2.1,hx.2.2.1,hx.2.2.2.1⟩).tr (K2.mono fun x hx=>⟨Nat.lt_of_lt_of_le hx.1 YS,hx.2.2.1,hx.2.2.2.2⟩);obtain⟨lus,ll1,ll2,ll3⟩:=LE.out;have abS:∀ x,(Value.slice la r.length lc).ownBlock=some x->w1.heap.size<=x/\x<we.heap.size:=fun x e=>ll2.lt x e
     have Ui:∀ (v y:Value) (N:Nat),(∀ x,v.ownBlock=some x->N<=x)->(∀ x,y.ownBlock=some x->x<N)->mH v y:=fun v y N h1 h2=>by
      cases e:v.ownBlock with
      | none=>exact .inl e
      | some x=>exact .inr fun e2=>by have:=h1 x e;have:=h2 x (by rw[<-e2,e]);omega
     have Mo:aa (fun x=>x<w1.heap.size/\(x<base\/¬F x)) w wg:=(aa.ag XW.out fun x hx=>Nat.lt_of_lt_of_le hx.1 HK.out.size:aa (fun x=>x<w1.heap.size/\(x<base\/¬F x)) w wm).tr (K.mono fun x hx=>⟨by omega,fun e=>by subst e;rcases hx.2 with h | h;exact absurd M1.out.bo (by omega);exact h M1.out.fo,fun e=>by subst e;rcases hx.2 with h | h;exact absurd M1.out.bm (by omega);exact h M1.out.fm,fun e=>by rcases hx.2 with h | h;exact absurd (akU x e).1 (by omega);exact h (M1.out.st.2 x e),fun e=>by rcases hx.2 with h | h;exact absurd (abR x e).1 (by omega);exact h (M1.out.wE.2 x e)⟩);have q1:ah wg mb #[.slice pa k pc,.int .i64 f,.slice sa2 (L+1) YZ,.map (some ob),cv,nv,.slice kb (L+1) kd] 147:=by rw[hwg];exact BG.out.set 6 _
     have q2:nL wg ob (rows++ [r]):=ME.out.keeps K2 ⟨ME.out.lt,(fun e=>by have h2:we.heap[mb]? =_:=BE.out;have h3:we.heap[ob]? =_:=ME.out;rw[e,h2]at h3;cases h3),fun e=>vt KRE.out ME.out (fun c fz e=>by cases e) ob e rfl⟩
     have q3:jd F wg base 26 (.slice sa2 (L+1) YZ) (L+1) (us++ [.slice la r.length lc]):=⟨aj SE.out K2 fun x hx=>⟨(SE.out.lt x hx).2,dA BE.out SE.out (by decide) x hx,fun e2=>by
      rcases ownBlock_ne (by decide) SE.out KRE.out with h5 | h5
      ·rw[h5]at hx;cases hx
      ·exact h5 (by rw[hx,e2])⟩,fun x hx=>by
      rcases Mp.out with h | h
      ·exact M1.out.st.2 x (h.symm.trans hx)
      ·rw[h]at hx;cases hx;exact HF.out _ (by have:=Xo.out;simp;omega)⟩
     have q4:OY F wg base (.slice la r.length lc) r:=(OY.of (LE.out.keeps K2 fun x h1 h2=>⟨h2,by omega,fun e=>by have:=(abR x e).2;omega⟩) HF.out).base hb1;have q5:mH (.slice la r.length lc) nv:=Ui _ _ w1.heap.size (fun x e=>(abS x e).1) (fun x e=>(M1.out.xj.1.lt x e).2);have q6:mH (.slice la r.length lc) (.slice kb (L+1) kd):=by
      rcases NR.out.2 with h | h
      ·exact Ui _ _ w1.heap.size (fun x e=>(abS x e).1) (fun x e=>(abR x (h.symm.trans e)).2)
      ·cases e:(Value.slice la r.length lc).ownBlock with
       | none=>exact .inl e
       | some x=>exact .inr fun e2=>by have:=(abS x e).2;have:=h x (by rw[<-e2,e]);omega
     have q7:jd F wg base 47 (.slice kb (L+1) kd) (L+1) (ks++ [.slice ma cn mc]):=⟨by rw[hwg];exact aj NR.out.1 ((aa.refl (· ≠mb) W).setCell (p:=⟨mb,6,none⟩) (fun h=>h rfl) _) fun x hx=>dA BG.out NR.out.1 (by decide) x hx,fun x hx=>by
      rcases NR.out.2 with h | h
      ·exact M1.out.wE.2 x (h.symm.trans hx)
      ·exact HF.out x (by have:=h x hx;omega)⟩
     have q8:jd F wg base 3 (.slice ma cn mc) cn cx:=⟨by rw[hwg];exact aA (aj CR.out ((aa.refl (· ≠mb) W).setCell (p:=⟨mb,6,none⟩) (fun h=>h rfl) _) fun x hx=>dA BG.out CR.out (by decide) x hx) afL,fun x hx=>HF.out x (by have:=(CR.out.lt x hx).1;omega)⟩;have q9:∀ v,(∀ x,v.ownBlock=some x->x<wm.heap.size)->mH v (.slice ka L kc)->mH v (.slice kb (L+1) kd):=fun v h1 h2=>h2.step NR.out.2 fun b e=>Nat.lt_of_lt_of_le (h1 b e) YS
     have MF:=Mk.more MW.out Gi.out K q1 q2 q3 q4 q5 q6 q7 q8 HCN.out.1 HCN.out.2 q9;exact⟨Mo,.inr (.inl ⟨HQ.out,by rw[<-Gi.out];omega,by rw[<-Gi.out];rfl,_,_,_,_,_,_,MF⟩)⟩
 ·have HQ:=hid hq
  obtain⟨ix,hix⟩:∃ z,z=ixR rows r:=⟨_,rfl⟩;rw[<-hix]at hlk;have HIX:=hid hix;clear hq hix;go_wp2;go_ret;refine⟨aa.ag XA.out fun x hx=>Nat.lt_of_lt_of_le hx.1 HK.out.size,.inl ⟨HQ.out,by rw[HIX.out];rfl,_,_,_,_,_,_,MA.out⟩⟩
end
end Go.Proofs.YtalombmiochpmaaGreatDoor
