/- Automata of positions in memory; nfa.Right. -/
import Derived.Shelf.Sort.Plain
import Derived.Shelf.Slices.In.SortNone
import Derived.Shelf.Slices.Turned
import Derived.Shelf.Slices.Cells
import Derived.Laws.AppendOwnNone
import Derived.Test.YtbiboekhakbnpaaGreatDoorOF07
set_option maxRecDepth 100000
set_option maxHeartbeats 16000000
open Go.Lib (hid)
namespace Go.Proofs.YtbiboekhakbnpaaGreatDoor
open Go Go.RowKit Go.Shelf Go.Maps
structure NF where
 az:List BS
 bJ:List (List Int)
 fst:List Int
 bV:List Int
 emp:Bool
def jh (low:Int) (l:List Int) (k:Nat):Int:=if k=0 then low-1 else l.getD (k-1) 0
def fC (low high:Int) (l:List Int) (k:Nat):Bool:=decide (jh low l k<l.getD k 0)&&decide (l.getD k 0<=high)
def cY (low high:Int) (l:List Int):Bool:=(List.range l.length).all (fC low high l)
theorem EF {low:Int} {l:List Int} {k:Nat} {x:Int} (hx:l[k]? =some x):jh low l (k+1)=x:=by unfold jh;rw[if_neg (by omega),Nat.add_sub_cancel];exact getD_some hx
theorem qm {low high:Int} {l:List Int} {k:Nat} {x:Int} (hx:l[k]? =some x):fC low high l k=(decide (jh low l k<x)&&decide (x<=high)):=by unfold fC;rw[getD_some hx]
theorem GD {low high:Int} {l:List Int} {k:Nat} (hk:k<l.length) (h:fC low high l k=false):cY low high l=false:=by unfold cY;rw[List.all_eq_false];exact⟨k,List.mem_range.2 hk,by rw[h];decide⟩
theorem AZ {low high:Int} {l:List Int} (h:∀ k,k<l.length->fC low high l k=true):cY low high l=true:=by unfold cY;rw[List.all_eq_true];exact fun k hk=>h k (List.mem_range.1 hk)
theorem yr {low high:Int} {l:List Int} (h:cY low high l=true) {k:Nat} (hk:k<l.length):fC low high l k=true:=by unfold cY at h;rw[List.all_eq_true]at h;exact h k (List.mem_range.2 hk)
def EG (low n:Int) (l:List Int) (k:Nat):Bool:=decide (low<=l.getD k 0)&&decide (l.getD k 0<n)&&(decide (k=0) || decide (l.getD (k-1) 0<l.getD k 0))
theorem abe (low n:Int) (l:List Int):((List.range l.length).all (EG low n l))=cY low (n-1) l:=by
 rw[Bool.eq_iff_iff];unfold cY;rw[List.all_eq_true,List.all_eq_true];constructor
 ·intro h k hk
  have h1:=h k hk;unfold EG at h1;unfold fC jh;simp only[Bool.and_eq_true,Bool.or_eq_true,decide_eq_true_eq]at h1 ⊢;obtain⟨⟨a,b⟩,c⟩:=h1;refine⟨?_,by omega⟩;split
  ·omega
  ·rcases c with c | c
   ·omega
   ·exact c
 ·intro h
  have T7:∀ k,k<l.length->low<=l.getD k 0:=by
   intro k;induction k with
   | zero=>
    intro hk;have h1:=h 0 (List.mem_range.2 hk);unfold fC jh at h1;simp only[Bool.and_eq_true,decide_eq_true_eq,if_true]at h1;omega
   | succ k ih=>
    intro hk;have h1:=h (k+1) (List.mem_range.2 hk);have h2:=ih (by omega);unfold fC jh at h1;simp only[Bool.and_eq_true,decide_eq_true_eq]at h1;rw[if_neg (by omega),Nat.add_sub_cancel]at h1;omega
  intro k hk;have h1:=h k hk;have h2:=T7 k (List.mem_range.1 hk);unfold fC jh at h1;unfold EG;simp only[Bool.and_eq_true,Bool.or_eq_true,decide_eq_true_eq]at h1 ⊢;refine⟨⟨h2,by omega⟩,?_⟩;by_cases h0:k=0
  ·exact .inl h0
  ·rw[if_neg h0]at h1
   exact .inr h1.1
theorem cZ {low high:Int} {l:List Int} (h:cY low high l=true):l.Pairwise (· < ·)/\∀ x∈l,low<=x/\x<=high:=by
 have hs:∀ k,k+1<l.length->l.getD k 0<l.getD (k+1) 0:=fun k hk=>by
  have h1:=yr h hk;unfold fC jh at h1;simp only[Bool.and_eq_true,decide_eq_true_eq]at h1;rw[if_neg (by omega),Nat.add_sub_cancel]at h1;exact h1.1
 have hm:∀ i j,i<j->j<l.length->l.getD i 0<l.getD j 0:=by
  intro i j pU;induction j with
  | zero=>omega
  | succ j ih=>
   intro hj;rcases Nat.lt_or_ge i j with h1 | h1
   ·have:=ih h1 (by omega);have:=hs j hj;omega
   ·obtain rfl:i=j:=by omega
    exact hs i hj
 refine⟨?_,fun x hx=>?_⟩
 ·rw[List.pairwise_iff_getElem]
  intro i j hi hj pU;have:=hm i j pU hj;simpa[List.getD_eq_getElem?_getD,List.getElem?_eq_getElem hi,List.getElem?_eq_getElem hj]using this
 ·obtain⟨k,hk⟩:=List.getElem?_of_mem hx
  have vr:=(List.getElem?_eq_some_iff.1 hk).1;have h1:=yr h vr;rw[qm hk]at h1;simp only[Bool.and_eq_true,decide_eq_true_eq]at h1;refine⟨?_,h1.2⟩;have h0:=yr h (show 0<l.length by omega);unfold fC jh at h0;simp only[Bool.and_eq_true,decide_eq_true_eq,if_true]at h0;have e:l.getD k 0=x:=getD_some hk;rcases Nat.eq_zero_or_pos k with h2 | h2
  ·subst h2;omega
  ·have:=hm 0 k h2 vr;omega
theorem mz {low high:Int} {l:List Int} (h:l.Pairwise (· < ·)) (hb:∀ x∈l,low<=x/\x<=high):cY low high l=true:=by
 refine AZ fun k hk=>?_
 have hx:=List.getElem?_eq_getElem hk;rw[qm hx];have h1:=hb _ (List.getElem_mem hk);simp only[Bool.and_eq_true,decide_eq_true_eq];refine⟨?_,h1.2⟩;unfold jh;split
 ·omega
 ·rename_i h0
  have h2:=List.pairwise_iff_getElem.1 h (k-1) k (by omega) hk (by omega);rw[List.getD_eq_getElem?_getD,List.getElem?_eq_getElem (show k-1<l.length by omega)];exact h2
def NF.right (a:NF):Bool:=decide (a.az.length<=400)&&decide (a.bJ.length=a.az.length)&&cY 0 ((a.az.length:Int)-1) a.fst&&cY 0 ((a.az.length:Int)-1) a.bV&&(List.range a.az.length).all fun p=>cY 0 ((a.az.length:Int)-1) (a.bJ.getD p [])&&(a.az.getD p 0 != 0)
structure Nt (a:NF):Prop where
 le:a.az.length<=400
 bJ:a.bJ.length=a.az.length
 fst:cY 0 ((a.az.length:Int)-1) a.fst=true
 bV:cY 0 ((a.az.length:Int)-1) a.bV=true
 row:∀ p,p<a.az.length->cY 0 ((a.az.length:Int)-1) (a.bJ.getD p [])=true
 ne:∀ p,p<a.az.length->a.az.getD p 0≠0
theorem dW (a:NF):a.right=true↔Nt a:=by
 unfold NF.right;simp only[Bool.and_eq_true,decide_eq_true_eq,List.all_eq_true,List.mem_range,bne_iff_ne];constructor
 ·rintro⟨⟨⟨⟨h1,h2⟩,h3⟩,h4⟩,h5⟩
  exact⟨h1,h2,h3,h4,fun p hp=>(h5 p hp).1,fun p hp=>(h5 p hp).2⟩
 ·rintro⟨h1,h2,h3,h4,h5,h6⟩
  exact⟨⟨⟨⟨h1,h2⟩,h3⟩,h4⟩,fun p hp=>⟨h5 p hp,h6 p hp⟩⟩
def NF.st (a:NF) (l:List Int):Bool:=cY (-1) ((a.az.length:Int)-1) l
def NF.nL (a:NF) (p:Int):List Int:=if p= -1 then a.fst else a.bJ.getD p.toNat []
def NF.hit (a:NF) (l:List Int) (c q:Nat):Bool:=l.any fun p=>(a.nL p).contains (q:Int)&&(a.az.getD q 0).getLsbD c
def NF.step (a:NF) (l:List Int) (c:Nat):List Int:=((List.range a.az.length).filter (a.hit l c)).map Int.ofNat
def NF.P6 (a:NF) (p:Int):Bool:=if p= -1 then a.emp else a.bV.contains p
def NF.acc (a:NF) (l:List Int):Bool:=l.any a.P6
theorem lJ (n:Nat) (f:Nat->Bool):(((List.range n).filter f).map Int.ofNat).Pairwise (· < ·):=by rw[List.pairwise_map];exact(List.pairwise_lt_range.filter _).imp fun h=>Int.ofNat_lt.2 h
theorem NF.Lv (a:NF) (l:List Int) (c:Nat):cY 0 ((a.az.length:Int)-1) (a.step l c)=true:=by
 refine mz (lJ _ _) fun x hx=>?_
 obtain⟨q,hq,rfl⟩:=List.mem_map.1 hx;have:=List.mem_range.1 (List.mem_filter.1 hq).1;show(0:Int)<=(q:Int)/\(q:Int)<=_;omega
theorem Ir {high:Int} {l:List Int} (hh: -1<=high) (h:cY 0 high l=true):cY (-1) high (-1::l)=true:=by
 obtain⟨h1,h2⟩:=cZ h;refine mz (List.pairwise_cons.2 ⟨fun x hx=>?_,h1⟩) fun x hx=>?_
 ·have:=h2 x hx;omega
 ·rcases List.mem_cons.1 hx with rfl | hx
  ·omega
  ·have:=h2 x hx;omega
theorem Lx {low low' high:Int} {l:List Int} (hh:low'<=low) (h:cY low high l=true):cY low' high l=true:=by obtain⟨h1,h2⟩:=cZ h;exact mz h1 fun x hx=>by have:=h2 x hx;omega
structure PT where
 nf:NF
 A0:Bool
 mark:Int
def PT.ok (x:PT):Bool:=x.nf.right&&decide (0<=x.mark)&&decide (x.mark<=255)
def PT.step (x:PT) (l:List Int) (c:Nat):List Int:=if x.A0 then x.nf.step l c else-1::x.nf.step l c
def bU (ps:List PT) (row:List (List Int)) (c:Nat):List (List Int):=List.zipWith (fun x l=>x.step l c) ps row
def bX (ps:List PT) (row:List (List Int)):List Int:=((List.range 256).filter fun (m:Nat)=>(List.zip ps row).any fun y=>y.1.nf.acc y.2&&(y.1.mark==(m:Int))).map Int.ofNat
def gh (ps:List PT):List (List Int):=ps.map fun _=>[-1]
def aL (ps:List PT):List BS:=ps.flatMap fun x=>x.nf.az
def fD (ps:List PT) (fuel:Nat):Option (List (List (List Int))×List (List Nat)):=
 if fuel=0 then none else cQ fuel (fun row k=>bU ps row (lb (partsOf (aL ps)) k)) (partsOf (aL ps)).length (gh ps) fuel
def fJ (ps:List PT) (fuel:Int):DF×Int:=
 if 64<ps.length then(⟨[],[],[]⟩,5)else if(ps.all PT.ok)=false then(⟨[],[],[]⟩,180)else if fuel<0\/4000<fuel then(⟨[],[],[]⟩,2)else
 match fD ps fuel.toNat with
 | none=>(⟨[],[],[]⟩,181)
 | some st=>(⟨partsOf (aL ps),st.2.map fun r=>r.map Int.ofNat,st.1.map (bX ps)⟩,0)
def nk (ps:List PT) (row:List (List Int)):Prop:=row.length=ps.length/\∀ (i:Nat) (x:PT) (l:List Int),ps[i]? =some x->row[i]? =some l->x.nf.st l=true
theorem py (ps:List PT):nk ps (gh ps):=by refine⟨by simp[gh],fun i x l hx hl=>?_⟩;unfold gh at hl;rw[List.getElem?_map,hx]at hl;cases hl;unfold NF.st;exact mz (by simp) fun y hy=>by simp at hy;omega
theorem jH {ps:List PT} {row:List (List Int)} (h:nk ps row) (c:Nat):nk ps (bU ps row c):=by
 refine⟨by simp[bU,h.1],fun i x l hx hl=>?_⟩;have hi:=(List.getElem?_eq_some_iff.1 hx).1;unfold bU at hl;rw[List.getElem?_zipWith,hx,List.getElem?_eq_getElem (by rw[h.1];exact hi)]at hl;cases hl;unfold PT.step NF.st;have hr:=x.nf.Lv (row[i]'(by rw[h.1];exact hi)) c;split
 ·exact Lx (by omega) hr
 ·exact Ir (by omega) hr
theorem EH (ps:List PT) (row:List (List Int)):qh (bX ps row)=true:=by
 have h:cY 0 255 (bX ps row)=true:=by
  refine mz (lJ _ _) fun x hx=>?_
  obtain⟨q,hq,rfl⟩:=List.mem_map.1 hx;have:=List.mem_range.1 (List.mem_filter.1 hq).1;show(0:Int)<=(q:Int)/\(q:Int)<=_;omega
 have e:qh (bX ps row)=cY 0 255 (bX ps row):=rfl;rw[e];exact h
theorem T8 {b o j:Nat} {vs:List Value} {w:World} (h:∀ k,k<vs.length->(w.cell? ⟨b,o+k,none⟩).isSome=true) (hj:j<vs.length):(w.setCells b o vs).cell? ⟨b,o+j,none⟩=vs[j]? :=by rw[World.cell?_setCells_in b vs o w h j hj,List.getElem?_eq_getElem hj]
section
variable {g i n:Nat} {l:List Int} {z:Int} {w0:World}
end
end Go.Proofs.YtbiboekhakbnpaaGreatDoor
namespace Go.Proofs
open Go.Shelf
def Tryz.Iu:Go.Shelf.Ren:=⟨fun | 189=>25 | 125=>59 | 257=>58 | 128=>104 | 129=>105 | 294=>96 | 295=>97 | 296=>98 | 297=>99 | 298=>100 | 299=>101 | 216=>60 | 300=>102 | 301=>103 | 328=>130 | 329=>131 | 330=>132 | 331=>133 | 332=>134 | 215=>106 | 343=>170 | n=>n,fun | 28=>37 | 3=>3 | 46=>116 | 0=>0 | 51=>167 | 53=>68 | 4=>4 | 183=>161 | 182=>160 | 131=>164 | 5=>5 | 9=>9 | 218=>197 | 222=>201 | 228=>231 | 229=>232 | n=>n,fun | n=>n⟩
theorem Tryz.Sg:Go.Proofs.Lays.n189 Tryz.prog Tryz.Iu:= {
 mixed:=by kernel_rfl
 f125:=Tryz.func59.trans (congrArg some (by kernel_rfl))
 f128:=Tryz.func104.trans (congrArg some (by kernel_rfl))
 f129:=Tryz.func105.trans (congrArg some (by kernel_rfl))
 f189:=Tryz.func25.trans (congrArg some (by kernel_rfl))
 f215:=Tryz.func106.trans (congrArg some (by kernel_rfl))
 f216:=Tryz.func60.trans (congrArg some (by kernel_rfl))
 f257:=Tryz.func58.trans (congrArg some (by kernel_rfl))
 f294:=Tryz.func96.trans (congrArg some (by kernel_rfl))
 f295:=Tryz.func97.trans (congrArg some (by kernel_rfl))
 f296:=Tryz.func98.trans (congrArg some (by kernel_rfl))
 f297:=Tryz.func99.trans (congrArg some (by kernel_rfl))
 f298:=Tryz.func100.trans (congrArg some (by kernel_rfl))
 f299:=Tryz.func101.trans (congrArg some (by kernel_rfl))
 f300:=Tryz.func102.trans (congrArg some (by kernel_rfl))
 f301:=Tryz.func103.trans (congrArg some (by kernel_rfl))
 f328:=Tryz.func130.trans (congrArg some (by kernel_rfl))
 f329:=Tryz.func131.trans (congrArg some (by kernel_rfl))
 f330:=Tryz.func132.trans (congrArg some (by kernel_rfl))
 f331:=Tryz.func133.trans (congrArg some (by kernel_rfl))
 f332:=Tryz.func134.trans (congrArg some (by kernel_rfl))
 f343:=Tryz.func170.trans (congrArg some (by kernel_rfl))
 t0:=Tryz.underlying0
 a0:=Tryz.isAgg0
 z0:=Tryz.sizeOf0
 v0:=Tryz.zeroValue0
 t3:=Tryz.underlying3
 a3:=Tryz.isAgg3
 z3:=Tryz.sizeOf3
 v3:=Tryz.zeroValue3
 t4:=Tryz.underlying4
 a4:=Tryz.isAgg4
 z4:=Tryz.sizeOf4
 v4:=Tryz.zeroValue4
 t5:=Tryz.underlying5
 a5:=Tryz.isAgg5
 z5:=Tryz.sizeOf5
 v5:=Tryz.zeroValue5
 t9:=Tryz.underlying9
 a9:=Tryz.isAgg9
 z9:=Tryz.sizeOf9
 v9:=Tryz.zeroValue9
 t28:=Tryz.underlying37
 a28:=Tryz.isAgg37
 z28:=Tryz.sizeOf37
 v28:=Tryz.zeroValue37
 t46:=Tryz.underlying116
 a46:=Tryz.isAgg116
 z46:=Tryz.sizeOf116
 v46:=Tryz.zeroValue116
 t51:=Tryz.underlying167
 a51:=Tryz.isAgg167
 z51:=Tryz.sizeOf167
 v51:=Tryz.zeroValue167
 t53:=Tryz.underlying68
 a53:=Tryz.isAgg68
 z53:=Tryz.sizeOf68
 v53:=Tryz.zeroValue68
 t131:=Tryz.underlying164
 a131:=Tryz.isAgg164
 z131:=Tryz.sizeOf164
 v131:=Tryz.zeroValue164
 t182:=Tryz.underlying160
 a182:=Tryz.isAgg160
 z182:=Tryz.sizeOf160
 v182:=Tryz.zeroValue160
 t183:=Tryz.underlying161
 a183:=Tryz.isAgg161
 z183:=Tryz.sizeOf161
 v183:=Tryz.zeroValue161
 t218:=Tryz.underlying197
 a218:=Tryz.isAgg197
 z218:=Tryz.sizeOf197
 v218:=Tryz.zeroValue197
 t222:=Tryz.underlying201
 a222:=Tryz.isAgg201
 z222:=Tryz.sizeOf201
 v222:=Tryz.zeroValue201
 t228:=Tryz.underlying231
 a228:=Tryz.isAgg231
 z228:=Tryz.sizeOf231
 v228:=Tryz.zeroValue231
 t229:=Tryz.underlying232
 a229:=Tryz.isAgg232
 z229:=Tryz.sizeOf232
 v229:=Tryz.zeroValue232}
def Tryz.yt:Go.Shelf.Ren:=⟨fun | 20=>26 | n=>n,fun | 22=>37 | 3=>3 | 4=>4 | 0=>0 | n=>n,fun | n=>n⟩
theorem Tryz.Ba:Go.Proofs.Lays2.n20 Tryz.prog Tryz.yt:= {
 mixed:=by kernel_rfl
 f20:=Tryz.func26.trans (congrArg some (by kernel_rfl))
 t0:=Tryz.underlying0
 a0:=Tryz.isAgg0
 z0:=Tryz.sizeOf0
 v0:=Tryz.zeroValue0
 t3:=Tryz.underlying3
 a3:=Tryz.isAgg3
 z3:=Tryz.sizeOf3
 v3:=Tryz.zeroValue3
 t4:=Tryz.underlying4
 a4:=Tryz.isAgg4
 z4:=Tryz.sizeOf4
 v4:=Tryz.zeroValue4
 t22:=Tryz.underlying37
 a22:=Tryz.isAgg37
 z22:=Tryz.sizeOf37
 v22:=Tryz.zeroValue37
 i3:=by kernel_rfl}
end Go.Proofs
namespace Go.Proofs.YtbiboekhakbnpaaGreatDoor
open Go Go.RowKit Go.Shelf Go.Maps
theorem EI (R:Nat->Prop) (w:World) (os:Array Obj) (hR:∀ k,R k->k<w.heap.size):aa R w (Sort.grow w os) where
 os:=rfl
 tape:=rfl
 output:=rfl
 size:=by unfold Sort.grow;simp
 keep:=fun k hk=>by unfold Sort.grow;exact Array.getElem?_append_left (hR k hk)
theorem np {base g n cap:Nat} {xs ys:List Value} {w:World} (h:w.ownsRow base 3 1 (.slice (some ⟨g,0,none⟩) n cap) n xs) (hy:ys.length=n): (w.setCells g 0 ys).ownsRow base 3 1 (.slice (some ⟨g,0,none⟩) n cap) n ys/\aa (· ≠g) w (w.setCells g 0 ys):=by
 obtain⟨zs,h1,h2⟩:=bL 0 ys 0 w xs (Nat.le_refl _) h;have hl:zs.length=n:=by have:=h1.1;omega
 have hx:xs.length=n:=by have:=h.1;omega
 have:zs=ys:=by
  apply List.ext_getElem?;intro j;by_cases hj:j<n
  ·have e1:=h1.cellAt j (by omega)
   have e2:=T8 (b:=g) (o:=0) (j:=j) (vs:=ys) (w:=w) (fun k hk=>by
    rw[h.cellAt _ (by omega),List.getElem?_eq_getElem (by omega)];rfl) (by omega)
   rw[Nat.zero_add]at e2;exact e1.symm.trans e2
  ·rw[List.getElem?_eq_none (by omega),List.getElem?_eq_none (by omega)]
 rw[this]at h1;exact⟨h1,h2⟩
theorem Bb {base g n cap m:Nat} {xs:List Value} {w:World} (h:w.ownsRow base 3 1 (.slice (some ⟨g,0,none⟩) n cap) n xs) (hm:m<=n): w.ownsRow base 3 1 (.slice (some ⟨g,0,none⟩) m cap) m (xs.take m):=by
 have hl:=h.1;refine⟨by rw[List.length_take];omega,?_⟩;rcases h.2 with⟨hv,_⟩ | ⟨g',cap',cur,hv,h1,h2,h3,h4,h5,h6⟩
 ·cases hv
 ·cases hv
  exact .inr ⟨g,cap,cur,rfl,h1,h2,by omega,h4,h5,by rw[<-h6,List.take_take];congr 1;omega⟩
def eu (l:List Int):List Int:=l.mergeSort fun x y=>decide (x<=y)
theorem jI (l:List Int):(eu l).length=l.length:=by unfold eu;exact List.length_mergeSort _
theorem Iw {base g n cap:Nat} {l:List Int} {w:World} (h:w.ownsRow base 3 1 (.slice (some ⟨g,0,none⟩) n cap) n (l.map aF)):Sort.Holds (Value.int .i64) w g 0 l.toArray:=by
 intro j hj;have hl:l.length=n:=by have:=h.1;simpa using this
 have hj':j<l.length:=by simpa using hj
 refine⟨?_,h.frozenAt _⟩;rw[Nat.zero_add,h.cellAt j (by omega),List.getElem?_map,List.getElem?_eq_getElem hj',Array.getElem!_eq_getD];simp[aF,hj']
theorem Iy (base:Nat) (v:Value) (n:Nat) (l:List Int) (w:World) (ho:w.ownsRow base 3 1 v n (l.map aF)) (hn:n<=1000000): Calls Tryz.prog 25 #[v] w fun e w'=>e=.returned (.tuple #[])/\w'.ownsRow base 3 1 v n ((eu l).map aF)/\aa (fun x=>x<w.heap.size/\v.ownBlock≠some x) w w':=by
 have hl:l.length=n:=by have:=ho.1;simpa using this
 rcases ho.2 with⟨rfl,rfl⟩ | ⟨g,cap,cur,rfl,hbg,hg,_⟩
 ·have hl0:l=[]:=List.eq_nil_of_length_eq_zero hl
  subst hl0;exact(Any.slices_Sort_int_none Tryz.Sg none 0 w).mono fun e w' ⟨he,hw⟩=>⟨he,by rw[hw,show eu []=[] from List.eq_nil_of_length_eq_zero (jI _)];exact ho,by rw[hw];exact aa.refl _ _⟩
 ·have hH:=Iw ho
  have hblk:ak w g cur 3:=hg;have:=Any.slices_Sort_int Tryz.Sg g 0 cap l w hH hblk.lt (by omega);rw[hl]at this;refine this.mono fun e w' ⟨he,q,os,hw⟩=>⟨he,?_⟩
  have e1:=Lib.putRow_eq_setCells (Value.int .i64) w g 0 l.toArray (eu l) q hH (by rw[jI];simp);have hw':w'=Sort.grow ((w.drewN q).setCells g 0 ((eu l).map (Value.int .i64))) os:=by rw[hw, <-e1];rfl
  have hd:(w.drewN q).ownsRow base 3 1 (.slice (some ⟨g,0,none⟩) n cap) n (l.map aF):=ho;obtain⟨a1,a2⟩:=np hd (ys:=(eu l).map aF) (by rw[List.length_map,jI];exact hl);have LD:aa (· ≠g) w (w.drewN q):=⟨rfl,rfl,rfl,Nat.le_refl _,fun _ _=>rfl⟩;have hk:=LD.tr a2;rw[hw'];have hgk:∀ R:Nat->Prop,(∀ k,R k->k<((w.drewN q).setCells g 0 ((eu l).map (Value.int .i64))).heap.size)->aa R ((w.drewN q).setCells g 0 ((eu l).map (Value.int .i64))) (Sort.grow ((w.drewN q).setCells g 0 ((eu l).map (Value.int .i64))) os):=fun R hR=>EI R _ os hR
  refine⟨ae a1 (hgk (· <_) fun _ h=>h) (fun k e=>(a1.lt k e).2),?_⟩;exact(hk.mono fun x hx e=>hx.2 (by rw[e];rfl)).tr (hgk _ fun x hx=>Nat.lt_of_lt_of_le hx.1 hk.size)
/-! A list, sorted and compacted. -/
theorem yu (l:List Int):(eu l).Pairwise (· <= ·):=by have:=List.pairwise_mergeSort (le:=fun x y:Int=>decide (x<=y)) (fun a b c h1 h2=>by simp at*;omega) (fun a b=>by simp;omega) l;exact this.imp fun h=>by simpa using h
theorem Iz {l:List Int} {x:Int} :x∈eu l↔x∈l:=(List.mergeSort_perm _ _).mem_iff
theorem fE (l:List Int) {i:Nat} (hi:i<l.length):l.toArray[i]! =l[i]:=by simp[hi]
theorem Bc {l:List Int} {x:Int} :x∈Lib.compact l↔x∈l:=by
 unfold Lib.compact Lib.compactUpTo;simp only[List.mem_map,List.mem_filter,List.mem_range];constructor
 ·rintro⟨i,⟨hi,_⟩,rfl⟩
  rw[fE l hi];exact List.getElem_mem _
 ·intro hx
  obtain⟨i,hi,rfl⟩:=List.getElem_of_mem hx;suffices ∀ i,(hi:i<l.length)->∃ j,(j<l.length/\Lib.keeps l.toArray j=true)/\l.toArray[j]! =l[i] from this i hi;intro i;induction i with
  | zero=>intro hi;exact⟨0,⟨hi,by simp[Lib.keeps]⟩,fE l hi⟩
  | succ i ih=>
   intro hi;by_cases h:l.toArray[i+1]! =l.toArray[i]!
   ·obtain⟨j,h1,h2⟩:=ih (by omega)
    refine⟨j,h1,?_⟩;rw[fE l hi,fE l (by omega)]at h;rw[h2,h]
   ·exact⟨i+1,⟨hi,by simp only[Lib.keeps,decide_eq_true_eq];exact .inr (by simpa using h)⟩,fE l hi⟩
theorem tF {l:List Int} (h:l.Pairwise (· <= ·)):(Lib.compact l).Pairwise (· < ·):=by
 unfold Lib.compact Lib.compactUpTo;rw[List.pairwise_map];have hr:((List.range l.length).filter (Lib.keeps l.toArray)).Pairwise (· < ·):=List.pairwise_lt_range.filter _;refine List.Pairwise.imp_of_mem (fun {i j} hi hj pU=>?_) hr;rw[List.mem_filter,List.mem_range]at hi hj;have hk:=hj.2;simp only[Lib.keeps,decide_eq_true_eq]at hk;rcases hk with hk | hk
 ·omega
 ·have h1:=List.pairwise_iff_getElem.1 h
  rw[fE l hj.1,fE l (by omega)]at hk;rw[fE l hi.1,fE l hj.1];have h2:=h1 (j-1) j (by omega) hj.1 (by omega);by_cases e:i=j-1
  ·subst e;omega
  ·have h3:=h1 i (j-1) hi.1 (by omega) (by omega)
   omega
theorem yw {gn:List Nat} {n:Nat} (h:∀ k∈gn,k<n):Lib.compact (eu (gn.map Int.ofNat))=((List.range n).filter fun k=>gn.contains k).map Int.ofNat:=by
 obtain⟨C,hC⟩:∃ C,C=Lib.compact (eu (gn.map Int.ofNat)):=⟨_,rfl⟩;have hs:C.Pairwise (· < ·):=by rw[hC];exact tF (yu _)
 have hm:∀ x,x∈C↔ ∃ k∈gn,(k:Int)=x:=fun x=>by
  rw[hC,Bc,Iz,List.mem_map];rfl
 rw[<-hC];have hp:∀ x∈C,0<=x:=fun x hx=>by obtain⟨k,_,rfl⟩:=(hm x).1 hx;omega
 have e1:(C.map Int.toNat).map Int.ofNat=C:=by rw[List.map_map];exact(List.map_congr_left fun x hx=>Int.toNat_of_nonneg (hp x hx)).trans (List.map_id _)
 rw[<-e1];congr 1;refine tz _ _ ?_ (List.pairwise_lt_range.filter _) fun k=>?_
 ·rw[List.pairwise_map]
  exact List.Pairwise.imp_of_mem (fun {a b} ha hb hab=>by have:=hp a ha;have:=hp b hb;omega) hs
 ·rw[List.mem_filter,List.mem_range,List.contains_iff_mem,List.mem_map]
  constructor
  ·rintro⟨x,hx,rfl⟩
   obtain⟨k,hk,rfl⟩:=(hm x).1 hx;exact⟨h k hk,hk⟩
  ·rintro⟨_,hk⟩
   exact⟨k,(hm _).2 ⟨k,hk,rfl⟩,Int.toNat_natCast k⟩
section
variable {p:List BS} {R:Nat→Nat→Prop} (hp:bH p R)
include hp
end
def fF (ps:List PT) (row:List (List Int)):List Int:=(List.zip ps row).filterMap fun y=>if y.1.nf.acc y.2 then some y.1.mark else none
theorem j9 {ps:List PT} {row:List (List Int)} {m:Int} :m∈fF ps row↔ ∃ y∈List.zip ps row,y.1.nf.acc y.2=true/\y.1.mark=m:=by
 unfold fF;rw[List.mem_filterMap];constructor
 ·rintro⟨y,hy,h⟩
  split at h
  ·rename_i ha
   exact⟨y,hy,ha,Option.some.inj h⟩
  ·cases h
 ·rintro⟨y,hy,ha,rfl⟩
  exact⟨y,hy,by rw[if_pos ha]⟩
theorem vP {ps:List PT} {row:List (List Int)} (h:∀ x∈ps,0<=x.mark/\x.mark<=255):Lib.compact (eu (fF ps row))=bX ps row:=by
 have hm:∀ m∈fF ps row,0<=m/\m<=255:=fun m hm=>by
  obtain⟨y,hy,_,rfl⟩:=j9.1 hm;exact h _ (List.of_mem_zip (a:=y.1) (b:=y.2) hy).1
 have e:fF ps row=((fF ps row).map Int.toNat).map Int.ofNat:=by rw[List.map_map];exact((List.map_congr_left fun x hx=>Int.toNat_of_nonneg (hm x hx).1).trans (List.map_id _)).symm
 rw[e,yw (n:=256) (fun k hk=>by
  obtain⟨x,hx,rfl⟩:=List.mem_map.1 hk;have:=hm x hx
  omega)]
 unfold bX;congr 1;refine List.filter_congr fun m _=>?_
 rw[Bool.eq_iff_iff,List.contains_iff_mem,List.mem_map,List.any_eq_true];constructor
 ·rintro⟨x,hx,rfl⟩
  obtain⟨y,hy,ha,rfl⟩:=j9.1 hx;refine⟨y,hy,?_⟩;have:=hm _ hx;simp only[Bool.and_eq_true,beq_iff_eq];exact⟨ha,by omega⟩
 ·rintro⟨y,hy,h1⟩
  simp only[Bool.and_eq_true,beq_iff_eq]at h1;exact⟨y.1.mark,j9.2 ⟨y,hy,h1.1,rfl⟩,by omega⟩
attribute [local go_sem] encS
def pA (w:World) (v:Value) (ll:List (List Int)):Prop:=kH w v ll\/(ll=[]/\∃ a:Addr,v=.slice (some a) 0 0)
theorem pA.below {w w':World} {v:Value} {ll:List (List Int)} (h:pA w v ll) (hk:Below w.heap.size w w'):pA w' v ll:=h.imp (fun h=>h.below hk) id
theorem pA.form {w:World} {v:Value} {ll:List (List Int)} (h:pA w v ll):∃ a cap,v=.slice a ll.length cap:=by
 rcases h with h | ⟨rfl,a,rfl⟩
 ·exact h.form
 ·exact⟨_,_,rfl⟩
theorem pA.elem {w:World} {a:Option Addr} {n cap:Nat} {ll:List (List Int)} (h:pA w (.slice a n cap) ll) {i:Nat} {l:List Int} (hi:ll[i]? =some l): ∃ b off a' c',a=some ⟨b,off,none⟩/\b<w.heap.size/\w.cell? ⟨b,off+i,none⟩=some (.slice a' l.length c')/\iG aF w (.slice a' l.length c') l:=by
 rcases h with h | ⟨rfl,_⟩
 ·exact h.elem hi
 ·simp at hi
end Go.Proofs.YtbiboekhakbnpaaGreatDoor
namespace Go.Proofs.YtbiboekhakbnpaaGreatDoor
open Go Go.RowKit Go.Shelf Go.Maps
theorem rj (v:Value) (l:List Int) (low high:Int) (ajp:low=0\/low= -1) (w:World) (h:bg aF w v l) (hn:l.length<=1000000): Calls Tryz.prog 75 #[v,.int .i64 low,.int .i64 high] w fun e w'=>e=.returned (.bool (cY low high l))/\w'=w:=by
 obtain⟨a,cap,rfl⟩:=h.form;obtain⟨n,gM⟩:∃ n,n=l.length:=⟨_,rfl⟩;obtain⟨r,hr⟩:∃ r,r=cY low high l:=⟨_,rfl⟩;rw[<-gM]at h hn ⊢;rw[<-hr];have H:=hid h;have HN:=hid gM;have HR:=hid hr;have w0:IntKind.i64.wrap (low-1)=low-1:=IntWalk.i64_in _ (by omega);clear h gM hr;go_enter Tryz.func75,Tryz.ntmps75;go_wp2;clear w0;go_loopw [7,14] (fun lv iv wr=>∃ k:Nat,k<=n/\iv=.int .i64 k/\lv=.int .i64 (jh low l k)/\(∀ i,i<k->fC low high l i=true)/\wr=w) (fun _ iv _=>n-(intOf iv).toNat);case atStart=>exact⟨0,by omega,rfl,by simp[jh],fun i hi=>by omega,rfl⟩
 case round=>
  obtain⟨k,hk,rfl,rfl,ha,rfl⟩:=hrel;have HA:=hid ha;clear ha;obtain⟨q,hq⟩:∃ q,q=jh low l k:=⟨_,rfl⟩;rw[<-hq];have HQ:=hid hq;clear hq;by_cases hlt:k<n
  ·obtain⟨x,sr⟩:∃ x,l[k]? =some x:=⟨_,List.getElem?_eq_getElem (by have:=HN.out;omega)⟩
   obtain⟨g,off,rfl,hg,c1⟩:=H.out.elem sr;replace c1:wr.cell? ⟨g,off+k,none⟩=some (.int .i64 x):=c1;have ed:(k:Int)<n:=by omega
   have TK:=hid sr;have Sc:Hid (fC low high l k=(decide (q<x)&&decide (x<=high))):=hid (by rw[qm sr,HQ.out]);clear sr;by_cases h1:x<=q
   ·have d1:decide (x<=q)=true:=decide_eq_true h1
    have fK:=hid (HR.out.trans (GD (by rw[<-HN.out];exact hlt) (by rw[Sc.out,show decide (q<x)=false from decide_eq_false (by omega)];rfl)));go_wp2;go_ret;exact⟨by rw[fK.out];rfl,rfl⟩
   ·have d1:decide (x<=q)=false:=decide_eq_false h1
    by_cases h2:high<x
    ·have d2:decide (high<x)=true:=decide_eq_true h2
     have d3:decide (x>high)=true:=d2;have fK:=hid (HR.out.trans (GD (by rw[<-HN.out];exact hlt) (by rw[Sc.out,show decide (x<=high)=false from decide_eq_false (by omega)];simp)));go_wp2;go_ret;exact⟨by rw[fK.out];rfl,rfl⟩
    ·have d2:decide (high<x)=false:=decide_eq_false h2
     have d3:decide (x>high)=false:=d2;go_wp2
     exact⟨⟨k+1,by omega,by go_num,by rw[EF TK.out],fun i hi=>by
      rcases Nat.lt_or_ge i k with h3 | h3
      ·exact HA.out i h3
      ·obtain rfl:i=k:=by omega
       rw[Sc.out];simp only[Bool.and_eq_true,decide_eq_true_eq]
       omega,by trivial⟩,by simp[intOf];omega⟩
  ·have sK:k=n:=by omega
   have fK:=hid (HR.out.trans (AZ fun i hi=>HA.out i (by rw[sK,HN.out];exact hi)));have vQ:¬ ((k:Int)<n):=by omega
   go_wp2;go_ret;exact⟨by rw[fK.out];rfl,rfl⟩
attribute [local go_sem] encS
def dO (w:World) (v:Value) (a:NF):Prop:=∃ v0 v1 v2 v3,v=.agg #[v0,v1,v2,v3,.bool a.emp]/\mo w v0 a.az/\lG w v1 a.bJ/\bg aF w v2 a.fst/\bg aF w v3 a.bV
theorem dO.below {w w':World} {v:Value} {a:NF} (h:dO w v a) (hk:Below w.heap.size w w'):dO w' v a:=by obtain⟨v0,v1,v2,v3,e,h0,h1,h2,h3⟩:=h;exact⟨v0,v1,v2,v3,e,⟨h0.1.below hk,h0.2⟩,h1.below hk,h2.below hk,h3.below hk⟩
structure vR (a:NF):Prop where
 az:a.az.length<=1000000
 bJ:a.bJ.length<=1000000
 fst:a.fst.length<=1000000
 bV:a.bV.length<=1000000
 row:∀ l∈a.bJ,l.length<=1000000
theorem ak.five {w:World} {b:Nat} {x y z u t:Value} {ty:TypeId} (h:ak w b #[x,y,z,u,t] ty):w.cell? ⟨b,0,none⟩=some x/\w.cell? ⟨b,1,none⟩=some y/\w.cell? ⟨b,2,none⟩=some z/\w.cell? ⟨b,3,none⟩=some u/\w.cell? ⟨b,4,none⟩=some t:=
 ⟨h.cell 0,h.cell 1,h.cell 2,h.cell 3,h.cell 4⟩
theorem mA {a:NF} (h:400<a.az.length\/a.bJ.length≠a.az.length\/cY 0 ((a.az.length:Int)-1) a.fst=false\/cY 0 ((a.az.length:Int)-1) a.bV=false):a.right=false:=by
 rw[Bool.eq_false_iff];intro hr;have h1:=(dW a).1 hr;rcases h with h | h | h | h
 ·have:=h1.le;omega
 ·exact h h1.bJ
 ·rw[h1.fst]at h;cases h
 ·rw[h1.bV]at h;cases h
theorem tG {a:NF} {p:Nat} (hp:p<a.az.length) (h:cY 0 ((a.az.length:Int)-1) (a.bJ.getD p [])=false\/a.az.getD p 0=0):a.right=false:=by
 rw[Bool.eq_false_iff];intro hr;have h1:=(dW a).1 hr;rcases h with h | h
 ·rw[h1.row p hp]at h;cases h
 ·exact h1.ne p hp h
theorem EJ {a:NF} (h1:a.az.length<=400) (h2:a.bJ.length=a.az.length) (h3:cY 0 ((a.az.length:Int)-1) a.fst=true) (h4:cY 0 ((a.az.length:Int)-1) a.bV=true) (h5:∀ p,p<a.az.length->cY 0 ((a.az.length:Int)-1) (a.bJ.getD p [])=true/\a.az.getD p 0≠0):a.right=true:=(dW a).2 ⟨h1,h2,h3,h4,fun p hp=>(h5 p hp).1,fun p hp=>(h5 p hp).2⟩
theorem tH (v:Value) (a:NF) (w:World) (h:dO w v a) (sm:vR a): Calls Tryz.prog 40 #[v] w fun e w'=>e=.returned (.bool a.right)/\Below w.heap.size w w':=by
 obtain⟨v0,v1,v2,v3,rfl,h0,h1,h2,h3⟩:=h;obtain⟨a0,c0,rfl⟩:=h0.1.form;obtain⟨a1,c1,rfl⟩:=h1.form;obtain⟨a2,c2,rfl⟩:=h2.form;obtain⟨a3,c3,rfl⟩:=h3.form;have CN:Hid (∀ (W:World) (v:Value) (l:List Int) (high:Int),bg aF W v l->l.length<=1000000->Calls Tryz.prog 75 #[v,.int .i64 0,.int .i64 high] W fun e w'=>e=.returned (.bool (cY 0 high l))/\w'=W):=hid fun W v l high h hn=>rj v l 0 high (.inl rfl) W h hn
 obtain⟨n0,cN⟩:∃ n,n=a.az.length:=⟨_,rfl⟩;obtain⟨n1,fL⟩:∃ n,n=a.bJ.length:=⟨_,rfl⟩;obtain⟨n2,jc⟩:∃ n,n=a.fst.length:=⟨_,rfl⟩;obtain⟨n3,IA⟩:∃ n,n=a.bV.length:=⟨_,rfl⟩;obtain⟨R,hR⟩:∃ R,R=a.right:=⟨_,rfl⟩;have SM:=hid sm;have m0:n0<=1000000:=by rw[cN];exact sm.az
 have m1:n1<=1000000:=by rw[fL];exact sm.bJ
 rw[<-cN]at h0 ⊢;rw[<-fL]at h1 ⊢;rw[<-jc]at h2 ⊢;rw[<-IA]at h3 ⊢;rw[<-hR];have HR:=hid hR;have j8:=hid cN;have gS:=hid fL;have kI:=hid jc;have Wo:=hid IA;have H0:=hid h0;have H1:=hid h1;have H2:=hid h2;have H3:=hid h3;clear h0 h1 h2 h3 cN fL jc IA hR sm;by_cases g1:400<n0
 ·have RR:=hid (HR.out.trans (mA (.inl (by rw[<-j8.out];exact g1))))
  have g1i:(400:Int)<n0:=by omega
  go_enter Tryz.func40,Tryz.ntmps40
  go_wp2;go_ret;exact⟨by rw[RR.out];rfl,((Ext.refl _).alloc _).below⟩
 by_cases g2:n1≠n0
 ·have RR:=hid (HR.out.trans (mA (.inr (.inl (by rw[<-j8.out, <-gS.out];exact g2)))))
  have g1i:¬ ((400:Int)<n0):=by omega
  have g2i:((n1:Int) != (n0:Int))=true:=by rw[bne_iff_ne];omega
  go_enter Tryz.func40,Tryz.ntmps40
  go_wp2;go_ret;exact⟨by rw[RR.out];rfl,((Ext.refl _).alloc _).below⟩
 replace g2:n1=n0:=Decidable.not_not.1 g2;subst g2;have g1i:¬ ((400:Int)<n1):=by omega
 have wn:IntKind.i64.wrap ((n1:Int)-1)=(n1:Int)-1:=IntWalk.i64_in _ (by omega);go_enter Tryz.func40,Tryz.ntmps40;go_wp2_with fail
 refine aw ?_;intro V hV;have B1:Hid (ak V w.heap.size #[.slice a0 n1 c0,.slice a1 n1 c1,.slice a2 n2 c2,.slice a3 n3 c3,.bool a.emp] 44):=hid (by rw[hV];exact ak.new w _ _);have X1:Hid (Below w.heap.size w V):=hid (by rw[hV];exact((Ext.refl w).alloc _).below);clear hV;refine(CN.out V _ a.fst _ (H2.out.below X1.out) SM.out.fst).mono ?_;rintro e w1 ⟨rfl,hw⟩;replace hw:=hw.symm;subst hw;cases r1:cY 0 ((n1:Int)-1) a.fst
 ·have RR:=hid (HR.out.trans (mA (.inr (.inr (.inl (by rw[<-j8.out];exact r1))))))
  clear r1;go_wp2;go_ret;exact⟨by rw[RR.out];rfl,X1.out⟩
 have R1:=hid r1;clear r1;obtain⟨i0,i1,i2,i3,i4⟩:=B1.out.five;go_wp2_with fail
 clear i0 i1 i2 i3 i4;refine(CN.out V _ a.bV _ (H3.out.below X1.out) SM.out.bV).mono ?_;rintro e w2 ⟨rfl,hw⟩;replace hw:=hw.symm;subst hw;cases r2:cY 0 ((n1:Int)-1) a.bV
 ·have RR:=hid (HR.out.trans (mA (.inr (.inr (.inr (by rw[<-j8.out];exact r2))))))
  clear r2;go_wp2;go_ret;exact⟨by rw[RR.out];rfl,X1.out⟩
 have R2:=hid r2;clear r2;obtain⟨i0,i1,i2,i3,i4⟩:=B1.out.five;go_wp2;clear i0 i1 i2 i3 i4;go_loopw [37] (fun iv wr=>∃ k:Nat,k<=n1/\iv=.int .i64 k/\(∀ p,p<k->cY 0 ((n1:Int)-1) (a.bJ.getD p [])=true/\a.az.getD p 0≠0)/\wr=V) (fun iv _=>n1-(intOf iv).toNat);case atStart=>exact⟨0,by omega,rfl,fun p hp=>by omega,rfl⟩
 case round=>
  obtain⟨k,hk,rfl,ha,rfl⟩:=hrel;have HA:=hid ha;clear ha;by_cases hlt:k<n1
  ·have ed:(k:Int)<n1:=by omega
   obtain⟨l,hl⟩:∃ l,a.bJ[k]? =some l:=⟨_,List.getElem?_eq_getElem (by have:=gS.out;omega)⟩;obtain⟨s,hs⟩:∃ s,a.az[k]? =some s:=⟨_,List.getElem?_eq_getElem (by have:=j8.out;omega)⟩;obtain⟨b,off,a',c',rfl,hb,cl,dI⟩:=(H1.out.below X1.out).elem hl;have DC:=hid dI;have HL:=hid hl;have HS:=hid hs;have hln:l.length<=1000000:=SM.out.row l (List.mem_of_getElem? hl);clear dI hl hs;go_wp2_with fail
   clear cl;refine(CN.out wr _ l _ DC.out hln).mono ?_;rintro e w3 ⟨rfl,hw⟩;replace hw:=hw.symm;subst hw;cases r3:cY 0 ((n1:Int)-1) l
   ·have RR:=hid (HR.out.trans (tG (p:=k) (by rw[<-j8.out];exact hlt) (.inl (by rw[getD_some HL.out, <-j8.out];exact r3))))
    clear r3;go_wp2;go_ret;exact⟨by rw[RR.out];rfl,X1.out⟩
   have R3:=hid r3;clear r3;obtain⟨i0,i1,i2,i3,i4⟩:=B1.out.five;obtain⟨b2,kf,rfl,hb2,d0,d1,d2,d3⟩:=(H0.out.1.below X1.out).elem HS.out;by_cases hz:s=0#256
   ·have he:∀ W,(Op.equalIn 10000 70 (.agg #[.int .u64 (wd s 0).toNat,.int .u64 (wd s 1).toNat,.int .u64 (wd s 2).toNat,.int .u64 (wd s 3).toNat]) (.agg #[.int .u64 0,.int .u64 0,.int .u64 0,.int .u64 0])).run Tryz.prog W=.ok true W:=fun W=>by
     have h1:=iq s 0 W;rw[ej,hz]at h1;rw[hz];exact h1
    have RR:=hid (HR.out.trans (tG (p:=k) (by rw[<-j8.out];exact hlt) (.inr (by rw[getD_some HS.out];exact hz))));clear hz;go_wp2;go_ret;exact⟨by rw[RR.out];rfl,X1.out⟩
   ·have he:∀ W,(Op.equalIn 10000 70 (.agg #[.int .u64 (wd s 0).toNat,.int .u64 (wd s 1).toNat,.int .u64 (wd s 2).toNat,.int .u64 (wd s 3).toNat]) (.agg #[.int .u64 0,.int .u64 0,.int .u64 0,.int .u64 0])).run Tryz.prog W=.ok false W:=fun W=>by
     have h1:=iq s 0 W;rw[ej,show(s==0)=false from by simpa using hz]at h1;exact h1
    have HZ:=hid hz;clear hz;go_wp2
    exact⟨⟨k+1,by omega,by go_num,fun p hp=>by
     rcases Nat.lt_or_ge p k with h3 | h3
     ·exact HA.out p h3
     ·obtain rfl:p=k:=by omega
      rw[getD_some HL.out,getD_some HS.out]
      exact⟨R3.out,HZ.out⟩,by trivial⟩,by simp[intOf];omega⟩
  ·have sK:k=n1:=by omega
   have RR:=hid (HR.out.trans (EJ (by rw[<-j8.out];omega) (by rw[<-j8.out, <-gS.out]) (by rw[<-j8.out];exact R1.out) (by rw[<-j8.out];exact R2.out) (by rw[<-j8.out];exact fun p hp=>HA.out p (by omega))));go_wp2;go_ret;exact⟨by rw[RR.out];rfl,X1.out⟩
end Go.Proofs.YtbiboekhakbnpaaGreatDoor
