/- nfa.accepts, nfa.Accepts: whether a state set of a right automaton accepts. -/
import Derived.Test.YtbiboekhakbnpaaGreatDoorOF08
import Derived.Test.YtbiboekhakbnpaaGreatDoorOF09
set_option maxRecDepth 100000
set_option maxHeartbeats 16000000
open Go.Lib (hid)
namespace Go.Proofs.YtbiboekhakbnpaaGreatDoor
open Go Go.RowKit Go.Shelf Go.Maps
attribute [local go_sem] encS
def aO.P9 (base n:Nat) (xs:List Value):aO (Move false (fun _=>False)) where
 P:=fun v=>∃ a c,v=.slice a n c
 H:=fun v W=>W.ownsRow base 3 1 v n xs
 jX:=.slice none n 0
 pw:=⟨none,0,rfl⟩
 st:=fun _ _ _ hm _ h=>ag h hm.below
theorem ak.T9 {w:World} {b:Nat} {x y z u t x' y' z' u' t':Value} {ty:TypeId} (h:ak w b #[x,y,z,u,t] ty):ak (((((w.setCell ⟨b,0,none⟩ x').setCell ⟨b,1,none⟩ y').setCell ⟨b,2,none⟩ z').setCell ⟨b,3,none⟩ u').setCell ⟨b,4,none⟩ t') b #[x',y',z',u',t'] ty:=((((h.set 0 x').set 1 y').set 2 z').set 3 u').set 4 t'
theorem nM (W:World) (b:Nat) (x y z u t:Value):aa (· ≠b) W (((((W.setCell ⟨b,0,none⟩ x).setCell ⟨b,1,none⟩ y).setCell ⟨b,2,none⟩ z).setCell ⟨b,3,none⟩ u).setCell ⟨b,4,none⟩ t):=
 (((((aa.refl _ W).setCell (p:=⟨b,0,none⟩) (fun h=>h rfl) _).setCell (p:=⟨b,1,none⟩) (fun h=>h rfl) _).setCell (p:=⟨b,2,none⟩) (fun h=>h rfl) _).setCell (p:=⟨b,3,none⟩) (fun h=>h rfl) _).setCell (p:=⟨b,4,none⟩) (fun h=>h rfl) _
end Go.Proofs.YtbiboekhakbnpaaGreatDoor
namespace Go.Proofs.YtbiboekhakbnpaaGreatDoor
open Go Go.RowKit Go.Shelf Go.Maps
attribute [local go_sem] encS
def dM (base:Nat) (w:World) (v:Value) (a:NF):Prop:=∃ v0 v1 v2 v3,v=.agg #[v0,v1,v2,v3,.bool a.emp]/\w.ownsRow base 70 4 v0 a.az.length (aD a.az)/\aC base w v1 a.bJ/\w.ownsRow base 3 1 v2 a.fst.length (a.fst.map aF)/\w.ownsRow base 3 1 v3 a.bV.length (a.bV.map aF)
theorem dM.nf {base:Nat} {w:World} {v:Value} {a:NF} (h:dM base w v a):dO w v a:=by obtain⟨v0,v1,v2,v3,e,h0,h1,h2,h3⟩:=h;exact⟨v0,v1,v2,v3,e,nh h0,h1.ll,cH h2 rfl,cH h3 rfl⟩
end Go.Proofs.YtbiboekhakbnpaaGreatDoor
namespace Go.Proofs.YtbiboekhakbnpaaGreatDoor
open Go Go.RowKit Go.Shelf Go.Maps
def NF.Ua (a:NF) (l:List Int):Int:=if a.right=false then 171 else if a.st l=false then 172 else 0
theorem dO.LG {w:World} {v:Value} {a:NF} (h:dO w v a):∃ a0 c0 a1 n1 c1 a2 n2 c2 a3 n3 c3,v=.agg #[.slice a0 a.az.length c0,.slice a1 n1 c1,.slice a2 n2 c2,.slice a3 n3 c3,.bool a.emp]:=by obtain⟨v0,v1,v2,v3,rfl,h0,h1,h2,h3⟩:=h;obtain⟨a0,c0,rfl⟩:=h0.1.form;obtain⟨a1,c1,rfl⟩:=h1.form;obtain⟨a2,c2,rfl⟩:=h2.form;obtain⟨a3,c3,rfl⟩:=h3.form;exact⟨_,_,_,_,_,_,_,_,_,_,_,rfl⟩
theorem tI (v u:Value) (a:NF) (l:List Int) (w:World) (h:dO w v a) (sm:vR a) (hu:bg aF w u l) (hl:l.length<=1000000): Calls Tryz.prog 157 #[v,u] w fun e w'=>e=.returned (.int .i64 (a.Ua l))/\Below w.heap.size w w':=by
 have CR:Hid (∀ W,Below w.heap.size w W->Calls Tryz.prog 40 #[v] W fun e w'=>e=.returned (.bool a.right)/\Below W.heap.size W w'):=hid fun W hW=>tH v a W (h.below hW) sm
 have CN:Hid (∀ W,Below w.heap.size w W->Calls Tryz.prog 75 #[u,.int .i64 (-1),.int .i64 ((a.az.length:Int)-1)] W fun e w'=>e=.returned (.bool (a.st l))/\w'=W):=hid fun W hW=>rj u l (-1) _ (.inr rfl) W (hu.below hW) hl
 have HS:=hid sm.az;obtain⟨a0,c0,a1,n1,c1,a2,n2,c2,a3,n3,c3,rfl⟩:=h.LG;obtain⟨ua,uc,rfl⟩:=hu.form;obtain⟨n0,cN⟩:∃ n,n=a.az.length:=⟨_,rfl⟩;obtain⟨m,hm⟩:∃ n,n=l.length:=⟨_,rfl⟩;obtain⟨r1,hr1⟩:∃ r,r=a.right:=⟨_,rfl⟩;obtain⟨r2,hr2⟩:∃ r,r=a.st l:=⟨_,rfl⟩;have hc:a.Ua l=if r1=false then 171 else if r2=false then 172 else 0:=by unfold NF.Ua;rw[hr1,hr2]
 rw[hc];rw[<-cN]at CR CN HS ⊢;rw[<-hm]at CN ⊢;rw[<-hr1]at CR;rw[<-hr2]at CN;have m0:n0<=1000000:=HS.out;have wn:IntKind.i64.wrap ((n0:Int)-1)=(n0:Int)-1:=IntWalk.i64_in _ (by omega);clear h hu hl sm cN hm hr1 hr2 hc HS;go_enter Tryz.func157,Tryz.ntmps157;go_wp2_with fail
 refine aw ?_;intro V hV;have B1:Hid (ak V w.heap.size #[.slice a0 n0 c0,.slice a1 n1 c1,.slice a2 n2 c2,.slice a3 n3 c3,.bool a.emp] 44):=hid (by rw[hV];exact ak.new w _ _);have X1:Hid (Below w.heap.size w V):=hid (by rw[hV];exact((Ext.refl w).alloc _).below);clear hV;refine(CR.out V X1.out).mono ?_;rintro e w1 ⟨rfl,hx⟩;have B2:=hid (B1.out.below hx B1.out.lt);have X2:=hid (X1.out.trans (hx.mono X1.out.size));clear hx B1 X1 CR;cases r1
 ·go_wp2
  go_ret;exact⟨rfl,X2.out⟩
 obtain⟨i0,i1,i2,i3,i4⟩:=B2.out.five;go_wp2_with fail
 refine(CN.out w1 X2.out).mono ?_;rintro e w2 ⟨rfl,hw⟩;replace hw:=hw.symm;subst hw;clear i0 i1 i2 i3 i4 CN;cases r2
 ·go_wp2
  go_ret;exact⟨rfl,X2.out⟩
 ·go_wp2
  go_ret;exact⟨rfl,X2.out⟩
def bK (s:Nat->BitVec 64):Array Value:= #[.int .u64 (s 0).toNat,.int .u64 (s 1).toNat,.int .u64 (s 2).toNat,.int .u64 (s 3).toNat,.int .u64 (s 4).toNat,.int .u64 (s 5).toNat,.int .u64 (s 6).toNat]
theorem jJ (s:Nat->BitVec 64) {i:Nat} (hi:i<7):(bK s)[i]? =some (.int .u64 (s i).toNat):=by
 match i,hi with
 | 0,_=>rfl
 | 1,_=>rfl
 | 2,_=>rfl
 | 3,_=>rfl
 | 4,_=>rfl
 | 5,_=>rfl
 | 6,_=>rfl
def qo (s:Nat->BitVec 64) (p:Nat):Bool:=(s (p/64)).getLsbD (p%64)
theorem LH (x:BitVec 64) (n:Nat):x.toNat/2^n%2=(x.getLsbD n).toNat:=by have h:x.getLsbD n=decide (x.toNat/2^n%2=1):=Nat.testBit_eq_decide_div_mod_eq;rw[h];rcases Nat.mod_two_eq_zero_or_one (x.toNat/2^n)with e | e<;>simp[e]
theorem wP (x:BitVec 64) (n:Nat):(bits .and .u64 ((x.toNat:Int)/2^n) 1==1)=x.getLsbD n:=by
 have h:((x.toNat:Int)/2^n)=((x.toNat/2^n:Nat):Int):=by simp
 rw[h,Ao _ (Nat.lt_of_le_of_lt (Nat.div_le_self _ _) x.isLt),LH];cases x.getLsbD n<;>rfl
theorem rp (s:Nat->BitVec 64) (b p:Nat) (hp:p<448) (w:World) (h:ak w b (bK s) 129): Calls Tryz.prog 94 #[.pointer (some ⟨b,0,none⟩),.int .i64 p] w fun e w'=>e=.returned (.bool (qo s p))/\w'=w:=by
 obtain⟨q,hq⟩:∃ q,q=p/64:=⟨_,rfl⟩;obtain⟨r,hr⟩:∃ r,r=p%64:=⟨_,rfl⟩;have LI:q<7:=by omega
 have LJ:r<64:=by omega
 have c1:w.cell? ⟨b,q,none⟩=some (.int .u64 (s q).toNat):=(h.cell q).trans (jJ s LI);have e1:(p:Int).tdiv 64=(q:Int):=by rw[Int.tdiv_eq_ediv_of_nonneg (by omega)];omega
 have e2:(p:Int).tmod 64=(r:Int):=by rw[Int.tmod_eq_emod_of_nonneg (by omega)];omega
 have w1:IntKind.i64.wrap (q:Int)=q:=IntWalk.i64_in _ (by omega);have w2:IntKind.i64.wrap (r:Int)=r:=IntWalk.i64_in _ (by omega);have q7i:(q:Int)<7:=by omega
 have r0i:¬ ((r:Int)<0):=by omega
 have il:qo s p=(s q).getLsbD r:=by unfold qo;rw[<-hq, <-hr]
 rw[il];clear il hq hr h;go_enter Tryz.func94,Tryz.ntmps94;go_wp2;go_ret;exact⟨congrArg (fun b=>Ending.returned (.bool b)) (wP (s q) r),rfl⟩
def iH (s:Nat->BitVec 64) (p:Nat):Nat->BitVec 64:=fun i=>if i=p/64 then s i ||| (1#64 <<< (p%64))else s i
theorem Qa (s:Nat->BitVec 64) (p:Nat) {x:Nat} :qo (iH s p) x=(qo s x || (x==p)):=by
 unfold qo iH;by_cases h:x/64=p/64
 ·rw[if_pos h,BitVec.getLsbD_or]
  congr 1
  rw[BitVec.getLsbD_shiftLeft];have hx:x%64<64:=by omega
  by_cases e:x=p
  ·subst e;simp[hx]
  ·have h1:x%64≠p%64:=by omega
   rw[show(x==p)=false from by simpa using e];simp only[hx,decide_true,Bool.true_and];by_cases h2:x%64<p%64
   ·simp[h2]
   ·simp[h2,show x%64-p%64≠0 by omega]
 ·rw[if_neg h,show(x==p)=false from by rw[beq_eq_false_iff_ne];intro e;subst e;exact h rfl,Bool.or_false]
theorem LK (s:Nat->BitVec 64) {p:Nat} (hp:p<448):(bK s).setIfInBounds (p/64) (.int .u64 (s (p/64) ||| (1#64 <<< (p%64))).toNat)=bK (iH s p):=by
 obtain⟨q,hq⟩:∃ q,q=p/64:=⟨_,rfl⟩;have h7:q<7:=by omega
 unfold iH;rw[<-hq];match q,h7 with
 | 0,_=>rfl
 | 1,_=>rfl
 | 2,_=>rfl
 | 3,_=>rfl
 | 4,_=>rfl
 | 5,_=>rfl
 | 6,_=>rfl
theorem EK (n:Nat):(1#64 <<< n)=BitVec.twoPow 64 n:=rfl
theorem lK (s:Nat->BitVec 64) (b p:Nat) (hp:p<448) (w:World) (h:ak w b (bK s) 129): Calls Tryz.prog 129 #[.pointer (some ⟨b,0,none⟩),.int .i64 p] w fun e w'=>(∃ u,e=.returned u)/\ak w' b (bK (iH s p)) 129/\aa (fun x=>x<w.heap.size/\x≠b) w w':=by
 have hput:=LK s hp;obtain⟨q,hq⟩:∃ q,q=p/64:=⟨_,rfl⟩;obtain⟨r,hr⟩:∃ r,r=p%64:=⟨_,rfl⟩;have LI:q<7:=by omega
 have LJ:r<64:=by omega
 have c1:w.cell? ⟨b,q,none⟩=some (.int .u64 (s q).toNat):=(h.cell q).trans (jJ s LI);have z1:w.frozen? ⟨b,q,none⟩=false:=h.frozen q;have e1:(p:Int).tdiv 64=(q:Int):=by rw[Int.tdiv_eq_ediv_of_nonneg (by omega)];omega
 have e2:(p:Int).tmod 64=(r:Int):=by rw[Int.tmod_eq_emod_of_nonneg (by omega)];omega
 have w1:IntKind.i64.wrap (q:Int)=q:=IntWalk.i64_in _ (by omega);have w2:IntKind.i64.wrap (r:Int)=r:=IntWalk.i64_in _ (by omega);have q7i:(q:Int)<7:=by omega
 have r0i:¬ ((r:Int)<0):=by omega
 have q0i:¬ ((q:Int)<0):=by omega
 rw[<-hq, <-hr]at hput;rw[EK]at hput;have jo:=Eh (s q) LJ;have HP:=hid hput;have H:=hid h;clear hq hr h hput;go_enter Tryz.func129,Tryz.ntmps129;go_wp2;refine aA false (fun _=>False) (by kernel_rfl) 11 [0,0,2,1,15,31,0,64,192,511,1,2047,4095] (fun i=>i==12) (by kernel_rfl) (fun _=>aO.any _) ?_;intro C hC hne;have HC:=hid hC;have hbl:=H.out.lt;have f1:=ay hC (p:=⟨b,q,none⟩) hbl (fun h=>h) c1;clear hC c1
 repeat (refine ai (fun K hK=>?_);first | (refine br rfl ?_;try go_simp;refine hK _ _ ?_;clear hK K) | (refine aZ rfl rfl ?_;unfold ar;go_simp;refine hK _ _ ?_;clear hK K))
 refine aY (fun W hW hH=>?_);have hM:=((HC.out W).1 hW);have HB:=hid (H.out.below hM.below H.out.lt);have HX:=hid hM.below;have c2:W.cell? ⟨b,q,none⟩=some (.int .u64 (s q).toNat):=(HB.out.cell q).trans (jJ s LI);have z2:W.frozen? ⟨b,q,none⟩=false:=HB.out.frozen q;clear hM hW hH HC hne f1 z1;go_wp2;have hval:((s q).toNat ||| 2^r%18446744073709551616)=(s q ||| BitVec.twoPow 64 r).toNat:=by rw[BitVec.toNat_or,BitVec.toNat_twoPow]
 refine bodyPost_end (v:=.tuple #[]) (by simp[results,Tryz.results129,go_sem]) rfl ⟨⟨_,rfl⟩,?_,?_⟩
 ·rw[hval]
  have hb:=HB.out.set q (.int .u64 (s q ||| BitVec.twoPow 64 r).toNat);rw[HP.out]at hb;exact hb
 ·exact(aa.ah HX.out fun _ hx=>hx.1:aa (fun x=>x<w.heap.size/\x≠b) w W).setCell (p:=⟨b,q,none⟩) (fun h=>h.2 rfl) _
attribute [local go_sem] bK
def setW (l:List Nat):Nat->BitVec 64:=l.foldl iH fun _=>0
theorem qp (l:List Nat) (p:Nat):setW (l++ [p])=iH (setW l) p:=by unfold setW;rw[List.foldl_append];rfl
theorem GF (l:List Nat) (x:Nat):qo (setW l) x=l.contains x:=by
 have h:∀ (l:List Nat) (s:Nat->BitVec 64),qo (l.foldl iH s) x=(qo s x || l.contains x):=by
  intro l;induction l with
  | nil=>intro s;simp
  | cons p l ih=>
   intro s;rw[List.foldl_cons,ih,Qa,List.contains_cons,Bool.or_assoc]
 unfold setW;rw[h];simp[qo]
theorem Bd (v:Value) (l:List Nat) (w:World) (h:bg (fun p:Nat=>.int .i64 p) w v l) (hl:∀ p∈l,p<448) (hn:l.length<=1000000): Calls Tryz.prog 92 #[v] w fun e w'=>e=.returned (.agg (bK (setW l)))/\Below w.heap.size w w':=by
 obtain⟨a,cap,rfl⟩:=h.form;obtain⟨n,gM⟩:∃ n,n=l.length:=⟨_,rfl⟩;rw[<-gM]at h hn ⊢;have H:=hid h;have HN:=hid gM;have HL:=hid hl;clear h gM hl;go_enter Tryz.func92,Tryz.ntmps92;go_wp2;refine au ?_;intro V hV;have B1:Hid (ak V w.heap.size (bK fun _=>0) 129):=hid (by rw[hV];exact(ak.new w _ _).alloc _);have B2:Hid (ak V (w.heap.size+1) (bK fun _=>0) 129):=hid (by rw[hV];exact(ak.new _ _ _).at (by simp));have X1:Hid (Below w.heap.size w V):=hid (by rw[hV];exact(((Ext.refl w).alloc _).alloc _).below);clear hV;go_loopw [8] (fun iv wr=>∃ k:Nat,k<=n/\iv=.int .i64 k/\ak wr (w.heap.size+1) (bK (setW (l.take k))) 129/\aa (fun x=>x<V.heap.size/\x≠w.heap.size+1) V wr) (fun iv _=>n-(intOf iv).toNat);case atStart=>exact⟨0,by omega,rfl,B2.out,aa.refl _ _⟩
 case round=>
  obtain⟨k,hk,rfl,hb,hx⟩:=hrel;have HB:=hid hb;have HX:=hid hx;have XX:Hid (Below w.heap.size w wr):=hid (X1.out.trans (hx.mono fun x yx=>⟨Nat.lt_of_lt_of_le yx X1.out.size,by have:x<w.heap.size:=yx;omega⟩:aa (· <w.heap.size) V wr).below);clear hb hx;by_cases hlt:k<n
  ·obtain⟨p,hp⟩:∃ p,l[k]? =some p:=⟨_,List.getElem?_eq_getElem (by have:=HN.out;omega)⟩
   obtain⟨g,off,rfl,hg,c1⟩:=(H.out.below XX.out).elem hp;replace c1:wr.cell? ⟨g,off+k,none⟩=some (.int .i64 p):=c1;have ed:(k:Int)<n:=by omega
   have HP:=hid hp;have hp4:=HL.out p (List.mem_of_getElem? hp);clear hp;go_wp2_with fail
   clear c1;refine(lK _ _ p hp4 wr HB.out).mono ?_;rintro e w2 ⟨⟨u,rfl⟩,hb2,hx2⟩;have eB:=hid hb2;have eZ:=hid (HX.out.trans hx2 fun x yx=>⟨Nat.lt_of_lt_of_le yx.1 HX.out.size,yx.2⟩);clear hb2 hx2;go_wp2;exact⟨⟨k+1,by omega,by go_num,by rw[List.take_add_one,HP.out];show ak _ _ (bK (setW (l.take k++ [p]))) _;rw[qp];exact eB.out,eZ.out⟩,by simp[intOf];omega⟩
  ·have sK:k=n:=by omega
   have vQ:¬ ((k:Int)<n):=by omega
   have dw:l.take k=l:=by rw[sK,HN.out,List.take_length]
   rw[dw]at HB;obtain⟨S,hS⟩:∃ S,S=setW l:=⟨_,rfl⟩;rw[<-hS]at HB;have HS:=hid hS;have R0:=hid (B1.out.keeps HX.out ⟨B1.out.lt,by omega⟩);have c0:wr.cell? ⟨w.heap.size+1,0,none⟩=some (.int .u64 (S 0).toNat):=HB.out.cell 0;have r0:wr.cell? ⟨w.heap.size,0,none⟩=some (.int .u64 0):=R0.out.cell 0;have c1:wr.cell? ⟨w.heap.size+1,1,none⟩=some (.int .u64 (S 1).toNat):=HB.out.cell 1;have r1:wr.cell? ⟨w.heap.size,1,none⟩=some (.int .u64 0):=R0.out.cell 1;have c2:wr.cell? ⟨w.heap.size+1,2,none⟩=some (.int .u64 (S 2).toNat):=HB.out.cell 2;have r2:wr.cell? ⟨w.heap.size,2,none⟩=some (.int .u64 0):=R0.out.cell 2;have c3:wr.cell? ⟨w.heap.size+1,3,none⟩=some (.int .u64 (S 3).toNat):=HB.out.cell 3;have r3:wr.cell? ⟨w.heap.size,3,none⟩=some (.int .u64 0):=R0.out.cell 3;have c4:wr.cell? ⟨w.heap.size+1,4,none⟩=some (.int .u64 (S 4).toNat):=HB.out.cell 4;have r4:wr.cell? ⟨w.heap.size,4,none⟩=some (.int .u64 0):=R0.out.cell 4;have c5:wr.cell? ⟨w.heap.size+1,5,none⟩=some (.int .u64 (S 5).toNat):=HB.out.cell 5;have r5:wr.cell? ⟨w.heap.size,5,none⟩=some (.int .u64 0):=R0.out.cell 5;have c6:wr.cell? ⟨w.heap.size+1,6,none⟩=some (.int .u64 (S 6).toNat):=HB.out.cell 6;have r6:wr.cell? ⟨w.heap.size,6,none⟩=some (.int .u64 0):=R0.out.cell 6;have rf:=fun i=>R0.out.frozen i
   clear hS dw HL HN H;go_wp2;refine bodyPost_ret (v:=.agg (bK S)) ?_ rfl ⟨by rw[HS.out];rfl,?_⟩
   ·simp[results,Tryz.results92,go_sem,r0,r1,r2,r3,r4,r5,r6]
   ·refine XX.out.trans (aa.below (((((((aa.refl (· <w.heap.size) _).setCell ?_ _).setCell ?_ _).setCell ?_ _).setCell ?_ _).setCell ?_ _).setCell ?_ _ |>.setCell ?_ _))<;>(intro h;simp at h)
end Go.Proofs.YtbiboekhakbnpaaGreatDoor
namespace Go.Proofs.YtbiboekhakbnpaaGreatDoor
open Go Go.RowKit Go.Shelf Go.Maps
theorem yy (x:Int) (em:Bool) (s:Nat->BitVec 64) (B b:Nat) (W:World) (hB:W.cell? ⟨B,4,none⟩=some (.bool em)) (hb:ak W b (bK s) 129) (hx:x= -1\/(0<=x/\x<448)): Calls Tryz.prog 93 #[.int .i64 x,.pointer (some ⟨B,0,none⟩),.pointer (some ⟨b,0,none⟩)] W fun e w'=>e=.returned (.bool (if x= -1 then em else qo s x.toNat))/\w'=W:=by
 by_cases h1:x= -1
 ·subst h1
  rw[if_pos rfl];cases em
  ·go_enter Tryz.func93,Tryz.ntmps93
   go_wp2;go_ret;exact⟨rfl,rfl⟩
  ·go_enter Tryz.func93,Tryz.ntmps93
   go_wp2;go_ret;exact⟨rfl,rfl⟩
 ·rw[if_neg h1]
  obtain⟨p,rfl⟩:∃ p:Nat,x=p:=⟨x.toNat,by omega⟩;have hp:p<448:=by omega
  have d1:((p:Int)== -1)=false:=by rw[beq_eq_false_iff_ne];omega
  have d2:((p:Int) != -1)=true:=by rw[bne_iff_ne];omega
  have CH:=hid (rp s b p hp W hb);rw[Int.toNat_natCast];clear h1 hx hb;go_enter Tryz.func93,Tryz.ntmps93;go_wp2_with fail
  refine CH.out.mono ?_;rintro e w2 ⟨rfl,hw⟩;replace hw:=hw.symm;subst hw;go_wp2;go_ret;exact⟨rfl,rfl⟩
theorem tJ (g:Nat) (lb:Array Value) (f:Int->Bool) (v:Value) (l:List Int) (w:World) (h:bg aF w v l) (hn:l.length<=1000000) (eg:∀ args w,(callFunc g args).run Tryz.prog w=.ok (.enter g args) w) (hf:∀ s∈l,∀ W,Below w.heap.size w W->Calls Tryz.prog g (#[.int .i64 s]++lb) W fun e w'=>e=.returned (.bool (f s))/\w'=W): Calls Tryz.prog 90 #[v,.func (.func g) #[] lb] w fun e w'=>e=.returned (.int .i64 (eO f l))/\w'=w:=by
 obtain⟨a,cap,rfl⟩:=h.form;obtain⟨n,gM⟩:∃ n,n=l.length:=⟨_,rfl⟩;rw[<-gM]at h hn ⊢;have H:=hid h;have HN:=hid gM;have HF:=hid fun s hs=>hf s hs w (Below.refl _ _)
 obtain⟨r,hr⟩:∃ r,r=eO f l:=⟨_,rfl⟩;rw[<-hr];have HR:=hid hr;clear h gM hf hr;go_enter Tryz.func90,Tryz.ntmps90;go_wp2
 go_loop [8] (fun i=>∃ k:Nat,k<=n/\i=.int .i64 k/\(∀ s∈l.take k,f s=false)) (fun i=>n-(intOf i).toNat)
 case atStart=>exact⟨0,by omega,rfl,fun s hs=>by simp at hs⟩
 case round=>
  obtain⟨k,hk,rfl,ha⟩:=hrel;by_cases hlt:k<n
  ·obtain⟨s,hs⟩:∃ s,l[k]? =some s:=⟨_,List.getElem?_eq_getElem (by have:=HN.out;omega)⟩
   obtain⟨b,off,rfl,hb,d0⟩:=H.out.elem hs;have d0':w.cell? ⟨b,off+k,none⟩=some (.int .i64 s):=d0;have TU:=hid (HF.out s (List.mem_of_getElem? hs));have HA:=hid ha;have HS:=hid hs;clear ha hs d0;obtain⟨b1,hb1⟩:∃ b1,b1=f s:=⟨_,rfl⟩;rw[<-hb1]at TU;have kP:=hid hb1;clear hb1;cases b1 with
   | true=>
    have fK:=hid (HR.out.trans (lH HS.out kP.out.symm HA.out));go_wp2;refine TU.out.mono ?_;rintro e w2 ⟨rfl,hw⟩;replace hw:=hw.symm;subst hw;go_wp2;go_ret;exact⟨by rw[fK.out];rfl,rfl⟩
   | false=>
    go_wp2;refine TU.out.mono ?_;rintro e w2 ⟨rfl,hw⟩;replace hw:=hw.symm;subst hw;go_wp2
    go_round
    case rel=>exact⟨k+1,by omega,by go_num,qj HS.out kP.out.symm HA.out⟩
    case measure=>simp[intOf];omega
  ·obtain rfl:k=n:=by omega
   have fK:=hid (HR.out.trans (lI fun y hy=>ha y (by rw[HN.out,List.take_length];exact hy)));clear ha;go_wp2;go_ret;exact⟨by rw[fK.out];rfl,rfl⟩
theorem pB (g:Nat) (lb:Array Value) (f:Int->Bool) (v:Value) (l:List Int) (w:World) (h:bg aF w v l) (hn:l.length<=1000000) (eg:∀ args w,(callFunc g args).run Tryz.prog w=.ok (.enter g args) w) (hf:∀ s∈l,∀ W,Below w.heap.size w W->Calls Tryz.prog g (#[.int .i64 s]++lb) W fun e w'=>e=.returned (.bool (f s))/\w'=W): Calls Tryz.prog 51 #[v,.func (.func g) #[] lb] w fun e w'=>e=.returned (.bool (l.any f))/\w'=w:=by have HI:=hid (tJ g lb f v l w h hn eg hf);rw[<-nJ];obtain⟨a,cap,rfl⟩:=h.form;clear h hf eg;generalize eO f l=z at HI ⊢;go_enter Tryz.func51,Tryz.ntmps51;go_wp2_with (go_at_call 90;refine HI.out.mono ?_;rintro e w2 ⟨rfl,hw⟩;replace hw:=hw.symm;subst hw);go_ret;exact⟨rfl,rfl⟩
def cO (s:Nat->BitVec 64) (n:Nat):List Nat:=(List.range n).filter (qo s)
theorem qq (s:Nat->BitVec 64) (k:Nat):cO s (k+1)=cO s k++if qo s k then [k]else []:=by unfold cO;rw[List.range_succ,List.filter_append];by_cases h:qo s k=true<;>simp[h]
theorem rq (s:Nat->BitVec 64) {k n:Nat} (h:k<=n):cO s k<+:cO s n:=by
 induction n with
 | zero=>rw[show k=0 from by omega];exact List.prefix_rfl
 | succ n ih=>
  by_cases hk:k=n+1
  ·subst hk;exact List.prefix_rfl
  ·exact(ih (by omega)).trans (by rw[qq];exact List.prefix_append _ _)
theorem Be (s:Nat->BitVec 64) (n:Nat):(cO s n).length<=n:=by unfold cO;exact Nat.le_trans (List.length_filter_le _ _) (by simp)
def NF.on (a:NF) (c q:Nat):Bool:=(a.az.getD q 0).getLsbD c
def kh (a:NF) (c:Nat) (l:List Int):List Nat:=(l.map Int.toNat).filter (a.on c)
theorem wQ (a:NF) (c:Nat) (l:List Int) (q:Int):kh a c (l++ [q])=kh a c l++if a.on c q.toNat then [q.toNat]else []:=by unfold kh;rw[List.map_append,List.filter_append];by_cases h:a.on c q.toNat=true<;>simp[h]
def ew (a:NF) (c:Nat) (l:List Int):List Nat:=l.flatMap fun p=>kh a c (a.nL p)
theorem EL (a:NF) (c:Nat) (l:List Int) (p:Int):ew a c (l++ [p])=ew a c l++kh a c (a.nL p):=by unfold ew;rw[List.flatMap_append];simp
theorem Nt.LL {a:NF} (h:Nt a) {l:List Int} (hl:a.st l=true) {p:Int} (hp:p∈l):cY 0 ((a.az.length:Int)-1) (a.nL p)=true:=by
 have h1:=(cZ hl).2 p hp;unfold NF.nL;split
 ·exact h.fst
 ·exact h.row _ (by omega)
theorem IB {a:NF} (h:Nt a) {l:List Int} (hl:a.st l=true) (c:Nat):(cO (setW (ew a c l)) 448).map Int.ofNat=a.step l c:=by
 have il:∀ q,qo (setW (ew a c l)) q=(decide (q<a.az.length)&&a.hit l c q):=by
  intro q;rw[GF,Bool.eq_iff_iff,List.contains_iff_mem,Bool.and_eq_true,decide_eq_true_eq];unfold ew NF.hit kh;rw[List.mem_flatMap,List.any_eq_true];constructor
  ·rintro⟨p,hp,hq⟩
   rw[List.mem_filter,List.mem_map]at hq;obtain⟨⟨x,hx,rfl⟩,hon⟩:=hq;have h2:=(cZ (h.LL hl hp)).2 x hx;refine⟨by omega,p,hp,?_⟩;rw[Bool.and_eq_true,List.contains_iff_mem,Int.toNat_of_nonneg h2.1];exact⟨hx,hon⟩
  ·rintro⟨hq,p,hp,h3⟩
   rw[Bool.and_eq_true,List.contains_iff_mem]at h3;exact⟨p,hp,List.mem_filter.2 ⟨List.mem_map.2 ⟨_,h3.1,by simp⟩,h3.2⟩⟩
 have hle:=h.le;unfold NF.step cO;congr 1;obtain⟨m,hm⟩:∃ m,448=a.az.length+m:=⟨448-a.az.length,by omega⟩;rw[hm,List.range_add,List.filter_append];have e2:(List.map (fun x=>a.az.length+x) (List.range m)).filter (qo (setW (ew a c l)))=[]:=by rw[List.filter_eq_nil_iff];intro x hx;obtain⟨y,_,rfl⟩:=List.mem_map.1 hx;rw[il,decide_eq_false (show ¬a.az.length+y<a.az.length by omega)];simp
 rw[e2,List.append_nil];refine List.filter_congr fun q hq=>?_
 rw[il,decide_eq_true (List.mem_range.1 hq),Bool.true_and]
attribute [local go_sem] encS Oper.semAt_some fk cG
def tK (p:Nat):Value:=.int .i64 (p:Int)
theorem tL {d:Bool} {gf:Nat} {lb:Array Value} {R:Nat->Prop} (xs:List Nat) (w:World) (hseq:Seq d Tryz.prog gf lb (fun c:Nat=> #[.int .i64 (c:Int)]) R xs w) (eg:∀ args w,(callFunc gf args).run Tryz.prog w=.ok (.enter gf args) w) (hR:∀ k,R k->k<w.heap.size) (hn:xs.length<=1000000): Calls Tryz.prog 148 #[.slice none 0 0,.func (.func gf) #[] lb] w fun e w'=>∃ v,e=.returned v/\w'.ownsRow w.heap.size 3 1 v xs.length (xs.map tK)/\Below w.heap.size w w':=by
 obtain⟨i0,hi,hz0,hz1,hz2⟩:=info_parts Tryz.qW;refine bD Tryz.func148 rfl ?_;simp only[Tryz.ntmps148,List.size_toArray,List.length_cons,List.length_nil,Nat.reduceAdd,Nat.reduceSub,Array.replicate_succ,Array.replicate_zero,List.push_toArray,List.append_toArray,List.nil_append,List.cons_append];go_wp2;refine au ?_;intro W0 hW0;have h1:ak W0 w.heap.size #[.slice none 0 0] 37:=by rw[hW0];exact ak.new _ _ _
 have hx:Ext w W0:=by rw[hW0];exact(Ext.refl w).alloc _
 have hsz:W0.heap.size=w.heap.size+1:=by rw[hW0];simp
 refine fT (w:=W0) (hseq.at hx.keeps) (by rfl) eg (by intro _;rfl) (by intro k hk;have:=hR k hk;omega)
  (fun xs T W=>∃ v,ak W w.heap.size #[v] 37/\W.ownsRow (w.heap.size+1) 3 1 v xs.length (xs.map tK)/\(∀ k,v.ownBlock=some k->¬T k)/\Below w.heap.size w W)
  (fun _ _ _ _=>False)
  ?_
  (fun c xs T T' W W' h=>h.elim)
  ⟨_,h1,World.ownsRow_nil _ _ _ _,fun _ _ h=>h,hx.below⟩
  (fun x=>⟨#[.slice none 0 0,.func (.func gf) #[] lb,.pointer (some ⟨w.heap.size,0,none⟩),undef,.slice none 0 0,.int .i64 (x:Int),.func (.func gf) #[] lb,.int .i64 (x:Int),undef,undef,undef,undef,undef],[]⟩) ?assign ?body ?done ?stop
 ·intro xs T T' W W' ⟨v,g1,g2,g3,g4⟩ hT Ld hs hn hk
  refine⟨v,g1.kX hT hk (by omega),ae g2 hk.1 (fun k e=>⟨(g2.lt k e).2,g3 k e⟩),fun k e ht=>?_,fS g4 hT hk (Nat.le_refl _) (by omega)⟩;rcases hn k ht with h | h
  ·exact g3 k e h
  ·have:=(g2.lt k e).2;omega
 case assign=>
  intro l x W K hK
  gi_wp2
  exact hK
 case body=>
  rintro l pre x T W bp hT _ vA hl ⟨v,g1,g2,g3,g4⟩;have c1:W.cell? ⟨w.heap.size,0,none⟩=some v:=g1.cell 0;have f1:=g1.frozen 0;have hlen:pre.length<xs.length:=by obtain⟨r,hr⟩:=bp;rw[<-hr];simp
  have G1:=hid g1;have G3:=hid g3;have G4:=hid g4;have jZ:=hid hsz;have HT:=hid hT;clear g1 g3 g4 hsz hW0 hT hl vA
  gi_wp2_with (gi_at_builtin;refine wpListIn_append_own_at _ rfl _ _ 37 rfl (w.heap.size+1) 3 i0 (.int .i64 0) 1 8 Tryz.underlying37 hi hz0 hz1 hz2 rfl (by decide) _ _ _ rfl (g2.alloc _) ⟨W.heap.size,0,none⟩ 1 1 [tK x] rfl rfl (cell_one_new _ _ _) (by simp[Value.oneCell',tK]) (by unfold maxLen;omega) (by omega) (by have h1:=G4.out.size;have h2:=jZ.out;have h3:=G1.out.lt;simp;omega) ?_;intro v' w1 hown' hgrow hh hat;obtain⟨g',cap',rfl⟩:=ownsRow_succ hown';have hb1:=(G1.out.alloc (.cells #[.int .i64 (x:Int)] 3 (0,0))).grown hgrow (fun e=>by have:=(g2.lt _ e.symm).1;omega);have c2:=hb1.cell 0;have f2:=hb1.frozen 0;have HB:=hid hb1;have HO:=hid hown';have HG:=hid hgrow;have H2:=hid g2;have Le:=hid hat;clear hown' hgrow hb1 g2 hh hat)
  have hgT:¬T g':=fun ht=>by
   rcases Le.out with h | h
   ·exact G3.out g' h.symm ht
   ·have h1:=(HT.out g' ht).2;simp[Value.ownBlock]at h;omega
  have Tz:∀ k,(R k\/T k)->k<W.heap.size/\some k≠v.ownBlock:=fun k hk=>by
   refine⟨?_,fun e=>?_⟩
   ·rcases hk with hk | hk
    ·have h1:=hR k hk;have h2:=G4.out.size;omega
    ·exact(HT.out k hk).2
   ·rcases hk with hk | hk
    ·have h1:=hR k hk;have h2:=(H2.out.lt k e.symm).1;omega
    ·exact G3.out k e.symm hk
  have sU:aa (fun k=>R k\/T k) W w1:=(((aa.refl _ W).alloc (fun k hk=>(Tz k hk).1) _)).tr (aa.aW HG.out fun k hk=>⟨by have:=(Tz k hk).1;simp;omega,(Tz k hk).2⟩);have vu:∀ k,(R k\/T k)->k≠w.heap.size:=fun k hk=>by
   rcases hk with hk | hk
   ·have h1:=hR k hk;omega
   ·have h1:=(HT.out k hk).1;have h2:=jZ.out;omega
  refine⟨sU.setCell (fun h=>vu _ h rfl) _,_,HB.out.set 0 _,?_,fun k e=>?_,?_⟩
  ·rw[List.length_append,List.map_append]
   exact ae HO.out ((aa.refl (fun k=>k≠w.heap.size) _).setCell (by simp) _) (fun k e=>by have:=(HO.out.lt k e).1;omega)
  ·simp[Value.ownBlock]at e;subst e;exact hgT
  ·exact((G4.out.alloc (by exact G4.out.size) _).grown HG.out (by have:=G4.out.size;simp;omega) (fun k e=>by have:=(H2.out.lt k e).1;omega)).setCell (Nat.le_refl _) _
 case done=>
  rintro D T W hD vD hT ⟨v,g1,g2,g3,g4⟩ kO;have c1:W.cell? ⟨w.heap.size,0,none⟩=some v:=g1.cell 0;have G2:=hid g2;have G4:=hid g4;have HD:=hid hD;have jZ:=hid hsz;have vt:=hid kO;clear g1 g2 g3 g4 hsz hW0 hT vD kO hD;dsimp only;go_wp2;refine cm rfl vt.out (results_tmp rfl _ _ _) ⟨v,rfl,ownsRow_putObj (ax G2.out (by omega)) _ vt.out rfl,((aa.ah G4.out (fun _ h=>h)).putObj (by have:=HD.out;have:=jZ.out;omega) _).below⟩
 case stop=>rintro D c pre T W _ _ _ _ h _;exact h.elim
theorem pC {d:Bool} {gf:Nat} {lb:Array Value} {R:Nat->Prop} (xs:List Nat) (w:World) (hseq:Seq d Tryz.prog gf lb (fun c:Nat=> #[.int .i64 (c:Int)]) R xs w) (eg:∀ args w,(callFunc gf args).run Tryz.prog w=.ok (.enter gf args) w) (hR:∀ k,R k->k<w.heap.size) (hn:xs.length<=1000000): Calls Tryz.prog 114 #[.func (.func gf) #[] lb] w fun e w'=>∃ v,e=.returned v/\w'.ownsRow w.heap.size 3 1 v xs.length (xs.map tK)/\Below w.heap.size w w':=by have H:=hid (tL xs w hseq eg hR hn);clear hseq eg;go_enter Tryz.func114,Tryz.ntmps114;go_wp2_with (go_at_call 148;refine H.out.mono ?_;rintro e w1 ⟨v,rfl,h1,h2⟩;have H1:=hid h1;have H2:=hid h2;clear h1 h2);go_ret;exact⟨v,rfl,H1.out,H2.out⟩
end Go.Proofs.YtbiboekhakbnpaaGreatDoor
namespace Go.Proofs.YtbiboekhakbnpaaGreatDoor
open Go Go.RowKit Go.Shelf Go.Maps
attribute [local go_sem] Oper.semAt_some fk cG
theorem Bf (s:Nat->BitVec 64) (B b:Nat) (w:World) (hB:ak w B #[.pointer (some ⟨b,0,none⟩)] 174) (hb0:ak w b (bK s) 129):Seq true Tryz.prog 149 #[.pointer (some ⟨B,0,none⟩)] (fun p:Nat=> #[.int .i64 (p:Int)]) (fun k=>k=B\/k=b) (cO s 448) w:=by
 intro l J Jx W hK hJ Tx hY h0;have HY:=hid hY;have HH:=hid (rp s b);clear hY;have B0:=hB.keeps hK hB.lt;have B1:=hb0.keeps hK hb0.lt;clear hB hb0;refine callsIn_wide (n:=0).1 ?_;refine callsIn_of_wp Tryz.func149 rfl trivial ?_ rfl;simp only[Tryz.ntmps149,List.size_toArray,List.length_cons,List.length_nil,Nat.reduceAdd,Nat.reduceSub,Array.replicate_succ,Array.replicate_zero,List.push_toArray,List.append_toArray,List.nil_append,List.cons_append]
 gi_wp2
 gi_loopw [4] (fun i wr=>∃ (k:Nat) (T:Nat->Prop),k<=448/\i=.int .i64 k/\ak wr B #[.pointer (some ⟨b,0,none⟩)] 174/\ak wr b (bK s) 129/\J (cO s k) T wr/\(∀ k,T k->W.heap.size<=k/\k<wr.heap.size)/\aa (fun k=>k=B\/k=b) W wr)
  (fun i _=>448-(intOf i).toNat)
 case atStart=>
  exact⟨0,fun _=>False,by omega,rfl,B0,B1,h0,fun _ h=>h.elim,aa.refl _ _⟩
 case round=>
  obtain⟨k,T,hk,rfl,hB,hb,hj,hT,hR⟩:=hrel;by_cases hlt:k<448
  ·have c0:wr.cell? ⟨B,0,none⟩=some (.pointer (some ⟨b,0,none⟩)):=hB.cell 0
   have EM:=hid hB;have HB:=hid hb;have HJ:=hid hj;have HT:=hid hT;have HR:=hid hR;clear hB hb hj hT hR B0 B1;have bp:=qq s k;by_cases jE:qo s k=true
   ·rw[if_pos jE]at bp
    have HP:=hid bp;have JU:cO s k++ [k]<+:cO s 448:=by rw[<-bp];exact rq s (by omega)
    have Lb:=hid JU;have h1:Calls Tryz.prog 94 #[.pointer (some ⟨b,0,none⟩),.int .i64 k] wr fun e w'=>e=.returned (.bool true)/\w'=wr:=by have:=HH.out k hlt wr HB.out;rwa[jE]at this
    have H1:=hid h1;clear bp JU h1 jE HH
    gi_wp2_with (gi_at_call 94;refine(callsIn_wide.2 H1.out).mono ?_;rintro e w1 ⟨rfl,hw⟩;replace hw:=hw.symm;subst hw;obtain⟨fn,tm,zV,bd,hy,Ap⟩:=HY.out (cO s k) k T _ Lb.out HT.out HR.out HJ.out;have JV:=hid Ap;clear Ap)
    refine JV.out.mono ?_;rintro e W2 (⟨rfl,iz,hk2⟩ | ⟨rfl,iz,hk2⟩)
    ·have si:=hid iz
     have qb:=hid hk2;clear iz hk2 hy
     gi_wp2
     go_roundw
     case rel=>
      refine⟨k+1,T,by omega,by go_num,?_,?_,?_,?_,?_⟩
      ·exact EM.out.keeps qb.out (.inl (.inl rfl))
      ·exact HB.out.keeps qb.out (.inl (.inr rfl))
      ·rw[HP.out];exact si.out
      ·exact fun j hj=>⟨(HT.out j hj).1,Nat.lt_of_lt_of_le (HT.out j hj).2 qb.out.size⟩
      ·exact HR.out.tr (qb.out.mono fun j hj=>.inl hj)
     case measure=>simp[intOf];omega
    ·have si:=hid iz
     have qb:=hid hk2;clear iz hk2 hy
     gi_wp2
     refine bodyPost_ret (results_none rfl _ _ _) rfl ?_;exact⟨⟨_,rfl⟩,T,fun j hj=>⟨(HT.out j hj).1,Nat.lt_of_lt_of_le (HT.out j hj).2 qb.out.size⟩,.inr ⟨_,Lb.out,si.out⟩⟩
   ·have qR:qo s k=false:=by simpa using jE
    rw[if_neg jE,List.append_nil]at bp;have HP:=hid bp;have h1:Calls Tryz.prog 94 #[.pointer (some ⟨b,0,none⟩),.int .i64 k] wr fun e w'=>e=.returned (.bool false)/\w'=wr:=by have:=HH.out k hlt wr HB.out;rwa[qR]at this
    have H1:=hid h1;clear bp h1 jE qR HH
    gi_wp2_with (gi_at_call 94;refine(callsIn_wide.2 H1.out).mono ?_;rintro e w1 ⟨rfl,hw⟩;replace hw:=hw.symm;subst hw)
    go_roundw
    case rel=>
     refine⟨k+1,T,by omega,by go_num,EM.out,HB.out,?_,HT.out,HR.out⟩;rw[HP.out];exact HJ.out
    case measure=>simp[intOf];omega
  ·obtain rfl:k=448:=by omega
   gi_wp2
   refine bodyPost_end (results_none rfl _ _ _) rfl ?_;exact⟨⟨_,rfl⟩,T,hT,.inl hj⟩
theorem yz (b:Nat) (w:World):Calls Tryz.prog 115 #[.pointer (some ⟨b,0,none⟩)] w fun e w'=>e=.returned (.func (.func 149) #[] #[.pointer (some ⟨w.heap.size,0,none⟩)])/\w'=w.alloc (.cells #[.pointer (some ⟨b,0,none⟩)] 174 (0,0)):=by
 go_enter Tryz.func115,Tryz.ntmps115
 go_wp2;go_ret;exact⟨rfl,rfl⟩
theorem yA (s:Nat->BitVec 64) (b:Nat) (w:World) (hb:ak w b (bK s) 129): Calls Tryz.prog 69 #[.pointer (some ⟨b,0,none⟩)] w fun e w'=>∃ v,e=.returned v/\w'.ownsRow w.heap.size 3 1 v (cO s 448).length ((cO s 448).map tK)/\Below w.heap.size w w':=by
 have eg:∀ args w,(callFunc 149 args).run Tryz.prog w=.ok (.enter 149 args) w:=enters_of Tryz.func149 (by kernel_rfl) rfl;have hlen:(cO s 448).length<=1000000:=Nat.le_trans (Be _ _) (by decide);have H:Hid (∀ (W:World) (B:Nat),ak W B #[.pointer (some ⟨b,0,none⟩)] 174->ak W b (bK s) 129->Calls Tryz.prog 114 #[.func (.func 149) #[] #[.pointer (some ⟨B,0,none⟩)]] W fun e w'=>∃ v,e=.returned v/\w'.ownsRow W.heap.size 3 1 v (cO s 448).length ((cO s 448).map tK)/\Below W.heap.size W w'):=
  fun W B hB hb=>pC _ W (Bf s B b W hB hb) eg (fun k hk=>hk.elim (fun e=>by rw[e];exact hB.lt) (fun e=>by rw[e];exact hb.lt)) hlen
 have HB:=hid hb;clear eg hlen hb;generalize cO s 448=xs at H ⊢;go_enter Tryz.func69,Tryz.ntmps69;go_wp2_with (first | (go_at_call 115;refine(yz b _).mono ?_;rintro e w1 ⟨rfl,rfl⟩) | (go_at_call 114;refine(H.out _ _ ((ak.new _ _ _).at (by simp)) (HB.out.alloc _)).mono ?_;rintro e w1 ⟨v,rfl,h1,h2⟩;have H1:=hid h1;have H2:=hid h2;clear h1 h2));go_ret;refine⟨v,rfl,ax H1.out (by simp),?_⟩;exact((Ext.refl w).alloc _).below.trans (H2.out.mono (by simp))
end Go.Proofs.YtbiboekhakbnpaaGreatDoor
namespace Go.Proofs.YtbiboekhakbnpaaGreatDoor
open Go Go.RowKit Go.Shelf Go.Maps
theorem bg.pos {w:World} {v:Value} {l:List Int} (h:bg aF w v l) (hp:∀ x∈l,0<=x):bg (fun p:Nat=>.int .i64 p) w v (l.map Int.toNat):=by
 rcases h with⟨rfl,rfl⟩ | ⟨b,off,cap,rfl,hb,hc,h⟩
 ·exact .inl ⟨rfl,rfl⟩
 ·refine .inr ⟨b,off,cap,by rw[List.length_map],hb,by rw[List.length_map];exact hc,fun i p hi=>?_⟩
  rw[List.getElem?_map]at hi;obtain⟨x,hx,rfl⟩:=Option.map_eq_some_iff.1 hi;have e:=Int.toNat_of_nonneg (hp x (List.mem_of_getElem? hx));rw[h i x hx];show some (Value.int .i64 x)=some (Value.int .i64 (x.toNat:Int));rw[e]
theorem Qb:∀ args w,(callFunc 93 args).run Tryz.prog w=.ok (.enter 93 args) w:=fun args w=>by kernel_rfl
theorem yB (v u:Value) (a:NF) (rt:Nt a) (l:List Int) (hst:a.st l=true) (w:World) (h:dO w v a) (sm:vR a) (hu:bg aF w u l) (hl:l.length<=1000000): Calls Tryz.prog 54 #[v,u] w fun e w'=>e=.returned (.bool (a.acc l))/\Below w.heap.size w w':=by
 have Qc:=(cZ rt.bV).2;have hle:=rt.le;have CS:Hid (∀ W v,bg aF W v a.bV->Calls Tryz.prog 92 #[v] W fun e w'=>e=.returned (.agg (bK (setW (a.bV.map Int.toNat))))/\Below W.heap.size W w'):=hid fun W v h=>Bd v (a.bV.map Int.toNat) W (h.pos fun x hx=>(Qc x hx).1) (fun p hp=>by obtain⟨x,hx,rfl⟩:=List.mem_map.1 hp;have:=Qc x hx;omega) (by rw[List.length_map];exact sm.bV)
 have mR:∀ x:Int,0<=x->qo (setW (a.bV.map Int.toNat)) x.toNat=a.bV.contains x:=fun x hx=>by
  rw[GF,Bool.eq_iff_iff,List.contains_iff_mem,List.contains_iff_mem,List.mem_map];constructor
  ·rintro⟨y,hy,e⟩
   have:=(Qc y hy).1;obtain rfl:y=x:=by omega
   exact hy
  ·exact fun h=>⟨x,h,rfl⟩
 have CC:Hid (∀ W v' B b,bg aF W v' l->W.cell? ⟨B,4,none⟩=some (.bool a.emp)->B<W.heap.size->ak W b (bK (setW (a.bV.map Int.toNat))) 129->Calls Tryz.prog 51 #[v',.func (.func 93) #[] #[.pointer (some ⟨B,0,none⟩),.pointer (some ⟨b,0,none⟩)]] W fun e w'=>e=.returned (.bool (a.acc l))/\w'=W):=hid fun W v' B b hv' hB hBl hb=>by
  refine pB 93 #[.pointer (some ⟨B,0,none⟩),.pointer (some ⟨b,0,none⟩)] a.P6 v' l W hv' hl Qb fun x hx W' hk=>?_
  have Ub:=(cZ hst).2 x hx
  have:=yy x a.emp (setW (a.bV.map Int.toNat)) B b W' ((aa.ah hk (R:=(· <W.heap.size)) fun _ h=>h).cell (p:=⟨B,4,none⟩) hBl |>.trans hB) (hb.below hk hb.lt) (by
   rcases Int.lt_or_le x 0 with h1 | h1
   ·exact .inl (by omega)
   ·exact .inr ⟨h1,by omega⟩)
  have e:(if x= -1 then a.emp else qo (setW (a.bV.map Int.toNat)) x.toNat)=a.P6 x:=by
   unfold NF.P6;split
   ·rfl
   ·exact mR x (by omega)
  rw[e]at this;exact this
 obtain⟨v0,v1,v2,v3,rfl,h0,h1,h2,h3⟩:=h;obtain⟨a3,c3,rfl⟩:=h3.form;obtain⟨ua,uc,rfl⟩:=hu.form;obtain⟨R,hR⟩:∃ R,R=a.acc l:=⟨_,rfl⟩;obtain⟨S,hS⟩:∃ S,S=setW (a.bV.map Int.toNat):=⟨_,rfl⟩;obtain⟨n3,IA⟩:∃ n,n=a.bV.length:=⟨_,rfl⟩;obtain⟨m,hm⟩:∃ n,n=l.length:=⟨_,rfl⟩;rw[<-hS]at CS CC;rw[<-hR]at CC ⊢;rw[<-IA]at h3 ⊢;rw[<-hm]at hu ⊢;have H3:=hid h3;have HU:=hid hu;clear h0 h1 h2 h3 hu hR hS IA hm sm rt Qc mR hst hle;go_enter Tryz.func54,Tryz.ntmps54;go_wp2_with fail
 refine aw ?_;intro V hV;have B1:Hid (ak V w.heap.size #[v0,v1,v2,.slice a3 n3 c3,.bool a.emp] 44):=hid (by rw[hV];exact ak.new w _ _);have X1:Hid (Below w.heap.size w V):=hid (by rw[hV];exact((Ext.refl w).alloc _).below);clear hV;refine(CS.out V _ (H3.out.below X1.out)).mono ?_;rintro e w1 ⟨rfl,hx⟩;have B2:=hid (B1.out.below hx B1.out.lt);have X2:=hid (X1.out.trans (hx.mono X1.out.size));clear hx B1 X1 CS;have hst:=run_storeCells_new (P:=Tryz.prog) w1 129 #[.int .u64 0,.int .u64 0,.int .u64 0,.int .u64 0,.int .u64 0,.int .u64 0,.int .u64 0] (bK S) (by kernel_rfl) rfl (by simp[bK,Value.oneCell']);go_wp2_with fail
 refine aw ?_;intro V2 hV2;have b6:Hid (ak V2 w1.heap.size (bK S) 129):=hid (by rw[hV2];exact ak.new _ _ _);have XV:Hid (Below w1.heap.size w1 V2):=hid (by rw[hV2];exact((Ext.refl w1).alloc _).below);clear hV2 hst;have i4:=(B2.out.below XV.out B2.out.lt).five.2.2.2.2;have hl:=(B2.out.below XV.out B2.out.lt).lt;refine(CC.out V2 _ _ _ (HU.out.below (X2.out.trans (XV.out.mono X2.out.size))) i4 hl b6.out).mono ?_;rintro e w' ⟨rfl,hw⟩;replace hw:=hw.symm;subst hw;go_wp2;go_ret;exact⟨rfl,X2.out.trans (XV.out.mono X2.out.size)⟩
theorem yC (v u:Value) (a:NF) (rt:Nt a) (l:List Int) (hst:a.st l=true) (w:World) (h:dO w v a) (sm:vR a) (hu:bg aF w u l) (hl:l.length<=1000000): Calls Tryz.prog 119 #[v,u] w fun e w'=>e=.returned (.tuple #[.bool (a.acc l),.int .i64 0])/\Below w.heap.size w w':=by
 have CK:Hid (∀ W,Below w.heap.size w W->Calls Tryz.prog 157 #[v,u] W fun e w'=>e=.returned (.int .i64 0)/\Below W.heap.size W w'):=hid fun W hW=>by
  have:=tI v u a l W (h.below hW) sm (hu.below hW) hl;have e:a.Ua l=0:=by unfold NF.Ua;rw[(dW a).2 rt,hst];rfl
  rwa[e]at this
 have CA:Hid (∀ W,Below w.heap.size w W->Calls Tryz.prog 54 #[v,u] W fun e w'=>e=.returned (.bool (a.acc l))/\Below W.heap.size W w'):=hid fun W hW=>yB v u a rt l hst W (h.below hW) sm (hu.below hW) hl
 obtain⟨a0,c0,a1,n1,c1,a2,n2,c2,a3,n3,c3,rfl⟩:=h.LG;generalize a.az.length=n0 at*;generalize a.acc l=R at*;obtain⟨ua,uc,rfl⟩:=hu.form;generalize l.length=m at*;clear h hu sm rt hst hl;go_enter Tryz.func119,Tryz.ntmps119;go_wp2_with fail
 refine aw ?_;intro V hV;have B1:Hid (ak V w.heap.size #[.slice a0 n0 c0,.slice a1 n1 c1,.slice a2 n2 c2,.slice a3 n3 c3,.bool a.emp] 44):=hid (by rw[hV];exact ak.new w _ _);have X1:Hid (Below w.heap.size w V):=hid (by rw[hV];exact((Ext.refl w).alloc _).below);clear hV;refine(CK.out V X1.out).mono ?_;rintro e w1 ⟨rfl,hx⟩;have B2:=hid (B1.out.below hx B1.out.lt);have X2:=hid (X1.out.trans (hx.mono X1.out.size));clear hx B1 X1;obtain⟨i0,i1,i2,i3,i4⟩:=B2.out.five;go_wp2_with fail
 refine(CA.out w1 X2.out).mono ?_;rintro e w2 ⟨rfl,hx⟩;have X3:=hid (X2.out.trans (hx.mono X2.out.size));clear hx i0 i1 i2 i3 i4;go_wp2;refine bodyPost_ret (v:=.tuple #[.bool R,.int .i64 0]) (by simp[results,Tryz.results119,go_sem]) rfl ⟨rfl,X3.out⟩
end Go.Proofs.YtbiboekhakbnpaaGreatDoor
