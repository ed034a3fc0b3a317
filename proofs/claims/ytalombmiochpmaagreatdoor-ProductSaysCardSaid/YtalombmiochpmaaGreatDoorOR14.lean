/- nfa.accepts, nfa.Accepts: whether a state set of a right automaton accepts. -/
import Derived.Test.YtalombmiochpmaaGreatDoorOR13
set_option maxRecDepth 100000
set_option maxHeartbeats 16000000
open Go.Lib (hid)
namespace Go.Proofs.YtalombmiochpmaaGreatDoor
section
open Go Go.RowKit Go.Shelf Go.Maps
attribute [local go_sem] encS
def aH.WD (base n:Nat) (xs:List Value):aH (Move false (fun _=>False)) where
 P:=fun v=>∃ a c,v=.slice a n c
 H:=fun v W=>W.ownsRow base 3 1 v n xs
 oI:=.slice none n 0
 pw:=⟨none,0,rfl⟩
 st:=fun _ _ _ hm _ h=>aq h hm.below
theorem ah.aeH {w:World} {b:Nat} {x y z u t x' y' z' u' t':Value} {ty:TypeId} (h:ah w b #[x,y,z,u,t] ty):ah (((((w.setCell ⟨b,0,none⟩ x').setCell ⟨b,1,none⟩ y').setCell ⟨b,2,none⟩ z').setCell ⟨b,3,none⟩ u').setCell ⟨b,4,none⟩ t') b #[x',y',z',u',t'] ty:=((((h.set 0 x').set 1 y').set 2 z').set 3 u').set 4 t'
theorem yQ (W:World) (b:Nat) (x y z u t:Value):aa (· ≠b) W (((((W.setCell ⟨b,0,none⟩ x).setCell ⟨b,1,none⟩ y).setCell ⟨b,2,none⟩ z).setCell ⟨b,3,none⟩ u).setCell ⟨b,4,none⟩ t):=
 (((((aa.refl _ W).setCell (p:=⟨b,0,none⟩) (fun h=>h rfl) _).setCell (p:=⟨b,1,none⟩) (fun h=>h rfl) _).setCell (p:=⟨b,2,none⟩) (fun h=>h rfl) _).setCell (p:=⟨b,3,none⟩) (fun h=>h rfl) _).setCell (p:=⟨b,4,none⟩) (fun h=>h rfl) _
end
section
open Go Go.RowKit Go.Shelf Go.Maps
attribute [local go_sem] encS
def tM (base:Nat) (w:World) (v:Value) (a:NF):Prop:=∃ v0 v1 v2 v3,v=.agg #[v0,v1,v2,v3,.bool a.emp]/\w.ownsRow base 59 4 v0 a.aM.length (aN a.aM)/\aW base w v1 a.cN/\w.ownsRow base 3 1 v2 a.fst.length (a.fst.map aS)/\w.ownsRow base 3 1 v3 a.dh.length (a.dh.map aS)
theorem tM.nf {base:Nat} {w:World} {v:Value} {a:NF} (h:tM base w v a):mP w v a:=by obtain⟨v0,v1,v2,v3,e,h0,h1,h2,h3⟩:=h;exact⟨v0,v1,v2,v3,e,rJ h0,h1.ll,dp h2 rfl,dp h3 rfl⟩
end
section
open Go Go.RowKit Go.Shelf Go.Maps
def NF.chk (a:NF) (l:List Int):Int:=if a.right=false then 171 else if a.st l=false then 172 else 0
theorem mP.Sy {w:World} {v:Value} {a:NF} (h:mP w v a):∃ a0 c0 a1 n1 c1 a2 n2 c2 a3 n3 c3,v=.agg #[.slice a0 a.aM.length c0,.slice a1 n1 c1,.slice a2 n2 c2,.slice a3 n3 c3,.bool a.emp]:=by obtain⟨v0,v1,v2,v3,rfl,h0,h1,h2,h3⟩:=h;obtain⟨a0,c0,rfl⟩:=h0.1.form;obtain⟨a1,c1,rfl⟩:=h1.form;obtain⟨a2,c2,rfl⟩:=h2.form;obtain⟨a3,c3,rfl⟩:=h3.form;exact⟨_,_,_,_,_,_,_,_,_,_,_,rfl⟩
theorem yR (v u:Value) (a:NF) (l:List Int) (w:World) (h:mP w v a) (sm:Qs a) (hu:aZ aS w u l) (hl:l.length<=1000000): Calls Tryz.prog 158 #[v,u] w fun e w'=>e=.returned (.int .i64 (a.chk l))/\Below w.heap.size w w':=by
 have CR:Hid (∀ W,Below w.heap.size w W->Calls Tryz.prog 79 #[v] W fun e w'=>e=.returned (.bool a.right)/\Below W.heap.size W w'):=hid fun W hW=>yP v a W (h.below hW) sm
 have CN:Hid (∀ W,Below w.heap.size w W->Calls Tryz.prog 102 #[u,.int .i64 (-1),.int .i64 ((a.aM.length:Int)-1)] W fun e w'=>e=.returned (.bool (a.st l))/\w'=W):=hid fun W hW=>wh u l (-1) _ (.inr rfl) W (hu.below hW) hl
 have HS:=hid sm.aM;obtain⟨a0,c0,a1,n1,c1,a2,n2,c2,a3,n3,c3,rfl⟩:=h.Sy;obtain⟨ua,uc,rfl⟩:=hu.form;obtain⟨n0,dD⟩:∃ n,n=a.aM.length:=⟨_,rfl⟩;obtain⟨m,hm⟩:∃ n,n=l.length:=⟨_,rfl⟩;obtain⟨r1,hr1⟩:∃ r,r=a.right:=⟨_,rfl⟩;obtain⟨r2,hr2⟩:∃ r,r=a.st l:=⟨_,rfl⟩;have hc:a.chk l=if r1=false then 171 else if r2=false then 172 else 0:=by unfold NF.chk;rw[hr1,hr2]
 rw[hc];rw[<-dD]at CR CN HS ⊢;rw[<-hm]at CN ⊢;rw[<-hr1]at CR;rw[<-hr2]at CN;have m0:n0<=1000000:=HS.out;have wn:IntKind.i64.wrap ((n0:Int)-1)=(n0:Int)-1:=IntWalk.i64_in _ (by omega);clear h hu hl sm dD hm hr1 hr2 hc HS;go_enter Tryz.func158,Tryz.ntmps158;go_wp2_with fail
 refine az ?_;intro V hV;have B1:Hid (ah V w.heap.size #[.slice a0 n0 c0,.slice a1 n1 c1,.slice a2 n2 c2,.slice a3 n3 c3,.bool a.emp] 97):=hid (by rw[hV];exact ah.new w _ _);have X1:Hid (Below w.heap.size w V):=hid (by rw[hV];exact((Ext.refl w).alloc _).below);clear hV;refine(CR.out V X1.out).mono ?_;rintro e w1 ⟨rfl,hx⟩;have B2:=hid (B1.out.below hx B1.out.lt);have X2:=hid (X1.out.trans (hx.mono X1.out.size));clear hx B1 X1 CR;cases r1
 ·go_wp2
  go_ret;exact⟨rfl,X2.out⟩
 obtain⟨i0,i1,i2,i3,i4⟩:=B2.out.five;go_wp2_with fail
 refine(CN.out w1 X2.out).mono ?_;rintro e w2 ⟨rfl,hw⟩;replace hw:=hw.symm;subst hw;clear i0 i1 i2 i3 i4 CN;cases r2
 ·go_wp2
  go_ret;exact⟨rfl,X2.out⟩
 ·go_wp2
  go_ret;exact⟨rfl,X2.out⟩
def cM (s:Nat->BitVec 64):Array Value:= #[.int .u64 (s 0).toNat,.int .u64 (s 1).toNat,.int .u64 (s 2).toNat,.int .u64 (s 3).toNat,.int .u64 (s 4).toNat,.int .u64 (s 5).toNat,.int .u64 (s 6).toNat]
theorem mQ (s:Nat->BitVec 64) {i:Nat} (hi:i<7):(cM s)[i]? =some (.int .u64 (s i).toNat):=by
 match i,hi with
 | 0,_=>rfl
 | 1,_=>rfl
 | 2,_=>rfl
 | 3,_=>rfl
 | 4,_=>rfl
 | 5,_=>rfl
 | 6,_=>rfl
def uY (s:Nat->BitVec 64) (p:Nat):Bool:=(s (p/64)).getLsbD (p%64)
theorem Sz (x:BitVec 64) (n:Nat):x.toNat/2^n%2=(x.getLsbD n).toNat:=by have h:x.getLsbD n=decide (x.toNat/2^n%2=1):=Nat.testBit_eq_decide_div_mod_eq;rw[h];rcases Nat.mod_two_eq_zero_or_one (x.toNat/2^n)with e | e<;>simp[e]
theorem Cx (x:BitVec 64) (n:Nat):(bits .and .u64 ((x.toNat:Int)/2^n) 1==1)=x.getLsbD n:=by
 have h:((x.toNat:Int)/2^n)=((x.toNat/2^n:Nat):Int):=by simp
 rw[h,GI _ (Nat.lt_of_le_of_lt (Nat.div_le_self _ _) x.isLt),Sz];cases x.getLsbD n<;>rfl
theorem wk (s:Nat->BitVec 64) (b p:Nat) (hp:p<448) (w:World) (h:ah w b (cM s) 137): Calls Tryz.prog 137 #[.pointer (some ⟨b,0,none⟩),.int .i64 p] w fun e w'=>e=.returned (.bool (uY s p))/\w'=w:=by
 obtain⟨q,hq⟩:∃ q,q=p/64:=⟨_,rfl⟩;obtain⟨r,hr⟩:∃ r,r=p%64:=⟨_,rfl⟩;have SF:q<7:=by omega
 have SG:r<64:=by omega
 have c1:w.cell? ⟨b,q,none⟩=some (.int .u64 (s q).toNat):=(h.cell q).trans (mQ s SF);have e1:(p:Int).tdiv 64=(q:Int):=by rw[Int.tdiv_eq_ediv_of_nonneg (by omega)];omega
 have e2:(p:Int).tmod 64=(r:Int):=by rw[Int.tmod_eq_emod_of_nonneg (by omega)];omega
 have w1:IntKind.i64.wrap (q:Int)=q:=IntWalk.i64_in _ (by omega);have w2:IntKind.i64.wrap (r:Int)=r:=IntWalk.i64_in _ (by omega);have q7i:(q:Int)<7:=by omega
 have r0i:¬ ((r:Int)<0):=by omega
 have lB:uY s p=(s q).getLsbD r:=by unfold uY;rw[<-hq, <-hr]
 rw[lB];clear lB hq hr h;go_enter Tryz.func137,Tryz.ntmps137;go_wp2;go_ret;exact⟨congrArg (fun b=>Ending.returned (.bool b)) (Cx (s q) r),rfl⟩
def kK (s:Nat->BitVec 64) (p:Nat):Nat->BitVec 64:=fun i=>if i=p/64 then s i ||| (1#64 <<< (p%64))else s i
theorem WE (s:Nat->BitVec 64) (p:Nat) {x:Nat} :uY (kK s p) x=(uY s x || (x==p)):=by
 unfold uY kK;by_cases h:x/64=p/64
 ·rw[if_pos h,BitVec.getLsbD_or]
  congr 1
  rw[BitVec.getLsbD_shiftLeft];have hx:x%64<64:=by omega
  by_cases e:x=p
  ·subst e;simp[hx]
  ·have h1:x%64≠p%64:=by omega
   rw[show(x==p)=false from by simpa using e];simp only[hx,decide_true,Bool.true_and];by_cases h2:x%64<p%64
   ·simp[h2]
   ·simp[h2,show x%64-p%64≠0 by omega]
 ·rw[if_neg h,show(x==p)=false from by rw[beq_eq_false_iff_ne];intro e;subst e;exact h rfl,Bool.or_false]
theorem SH (s:Nat->BitVec 64) {p:Nat} (hp:p<448):(cM s).setIfInBounds (p/64) (.int .u64 (s (p/64) ||| (1#64 <<< (p%64))).toNat)=cM (kK s p):=by
 obtain⟨q,hq⟩:∃ q,q=p/64:=⟨_,rfl⟩;have h7:q<7:=by omega
 unfold kK;rw[<-hq];match q,h7 with
 | 0,_=>rfl
 | 1,_=>rfl
 | 2,_=>rfl
 | 3,_=>rfl
 | 4,_=>rfl
 | 5,_=>rfl
 | 6,_=>rfl
theorem KM (n:Nat):(1#64 <<< n)=BitVec.twoPow 64 n:=rfl
theorem qf (s:Nat->BitVec 64) (b p:Nat) (hp:p<448) (w:World) (h:ah w b (cM s) 137): Calls Tryz.prog 128 #[.pointer (some ⟨b,0,none⟩),.int .i64 p] w fun e w'=>(∃ u,e=.returned u)/\ah w' b (cM (kK s p)) 137/\aa (fun x=>x<w.heap.size/\x≠b) w w':=by
 have hput:=SH s hp;obtain⟨q,hq⟩:∃ q,q=p/64:=⟨_,rfl⟩;obtain⟨r,hr⟩:∃ r,r=p%64:=⟨_,rfl⟩;have SF:q<7:=by omega
 have SG:r<64:=by omega
 have c1:w.cell? ⟨b,q,none⟩=some (.int .u64 (s q).toNat):=(h.cell q).trans (mQ s SF);have z1:w.frozen? ⟨b,q,none⟩=false:=h.frozen q;have e1:(p:Int).tdiv 64=(q:Int):=by rw[Int.tdiv_eq_ediv_of_nonneg (by omega)];omega
 have e2:(p:Int).tmod 64=(r:Int):=by rw[Int.tmod_eq_emod_of_nonneg (by omega)];omega
 have w1:IntKind.i64.wrap (q:Int)=q:=IntWalk.i64_in _ (by omega);have w2:IntKind.i64.wrap (r:Int)=r:=IntWalk.i64_in _ (by omega);have q7i:(q:Int)<7:=by omega
 have r0i:¬ ((r:Int)<0):=by omega
 have q0i:¬ ((q:Int)<0):=by omega
 rw[<-hq, <-hr]at hput;rw[KM]at hput;have lY:=J4 (s q) SG;have HP:=hid hput;have H:=hid h;clear hq hr h hput;go_enter Tryz.func128,Tryz.ntmps128;go_wp2;refine aD false (fun _=>False) (by kernel_rfl) 11 [0,0,2,1,15,31,0,64,192,511,1,2047,4095] (fun i=>i==12) (by kernel_rfl) (fun _=>aH.any _) ?_;intro C hC hne;have HC:=hid hC;have hbl:=H.out.lt;have f1:=ak hC (p:=⟨b,q,none⟩) hbl (fun h=>h) c1;clear hC c1
 repeat (refine ae (fun K hK=>?_);first | (refine aR rfl ?_;try go_simp;refine hK _ _ ?_;clear hK K) | (refine aO rfl rfl ?_;unfold ai;go_simp;refine hK _ _ ?_;clear hK K))
 refine bh (fun W hW hH=>?_);have hM:=((HC.out W).1 hW);have HB:=hid (H.out.below hM.below H.out.lt);have HX:=hid hM.below;have c2:W.cell? ⟨b,q,none⟩=some (.int .u64 (s q).toNat):=(HB.out.cell q).trans (mQ s SF);have z2:W.frozen? ⟨b,q,none⟩=false:=HB.out.frozen q;clear hM hW hH HC hne f1 z1;go_wp2;have hval:((s q).toNat ||| 2^r%18446744073709551616)=(s q ||| BitVec.twoPow 64 r).toNat:=by rw[BitVec.toNat_or,BitVec.toNat_twoPow]
 refine bodyPost_end (v:=.tuple #[]) (by simp[results,Tryz.results128,go_sem]) rfl ⟨⟨_,rfl⟩,?_,?_⟩
 ·rw[hval]
  have hb:=HB.out.set q (.int .u64 (s q ||| BitVec.twoPow 64 r).toNat);rw[HP.out]at hb;exact hb
 ·exact(aa.ag HX.out fun _ hx=>hx.1:aa (fun x=>x<w.heap.size/\x≠b) w W).setCell (p:=⟨b,q,none⟩) (fun h=>h.2 rfl) _
attribute [local go_sem] cM
def setW (l:List Nat):Nat->BitVec 64:=l.foldl kK fun _=>0
theorem uZ (l:List Nat) (p:Nat):setW (l++ [p])=kK (setW l) p:=by unfold setW;rw[List.foldl_append];rfl
theorem MM (l:List Nat) (x:Nat):uY (setW l) x=l.contains x:=by
 have h:∀ (l:List Nat) (s:Nat->BitVec 64),uY (l.foldl kK s) x=(uY s x || l.contains x):=by
  intro l;induction l with
  | nil=>intro s;simp
  | cons p l ih=>
   intro s;rw[List.foldl_cons,ih,WE,List.contains_cons,Bool.or_assoc]
 unfold setW;rw[h];simp[uY]
theorem Hy (v:Value) (l:List Nat) (w:World) (h:aZ (fun p:Nat=>.int .i64 p) w v l) (hl:∀ p∈l,p<448) (hn:l.length<=1000000): Calls Tryz.prog 169 #[v] w fun e w'=>e=.returned (.agg (cM (setW l)))/\Below w.heap.size w w':=by
 obtain⟨a,cap,rfl⟩:=h.form;obtain⟨n,oV⟩:∃ n,n=l.length:=⟨_,rfl⟩;rw[<-oV]at h hn ⊢;have H:=hid h;have HN:=hid oV;have HL:=hid hl;clear h oV hl;go_enter Tryz.func169,Tryz.ntmps169;go_wp2;refine aw ?_;intro V hV;have B1:Hid (ah V w.heap.size (cM fun _=>0) 137):=hid (by rw[hV];exact(ah.new w _ _).alloc _);have B2:Hid (ah V (w.heap.size+1) (cM fun _=>0) 137):=hid (by rw[hV];exact(ah.new _ _ _).at (by simp));have X1:Hid (Below w.heap.size w V):=hid (by rw[hV];exact(((Ext.refl w).alloc _).alloc _).below);clear hV;go_loopw [8] (fun iv wr=>∃ k:Nat,k<=n/\iv=.int .i64 k/\ah wr (w.heap.size+1) (cM (setW (l.take k))) 137/\aa (fun x=>x<V.heap.size/\x≠w.heap.size+1) V wr) (fun iv _=>n-(intOf iv).toNat);case atStart=>exact⟨0,by omega,rfl,B2.out,aa.refl _ _⟩
 case round=>
  obtain⟨k,hk,rfl,hb,hx⟩:=hrel;have HB:=hid hb;have HX:=hid hx;have XX:Hid (Below w.heap.size w wr):=hid (X1.out.trans (hx.mono fun x my=>⟨Nat.lt_of_lt_of_le my X1.out.size,by have:x<w.heap.size:=my;omega⟩:aa (· <w.heap.size) V wr).below);clear hb hx;by_cases hlt:k<n
  ·obtain⟨p,hp⟩:∃ p,l[k]? =some p:=⟨_,List.getElem?_eq_getElem (by have:=HN.out;omega)⟩
   obtain⟨g,off,rfl,hg,c1⟩:=(H.out.below XX.out).elem hp;replace c1:wr.cell? ⟨g,off+k,none⟩=some (.int .i64 p):=c1;have gz:(k:Int)<n:=by omega
   have HP:=hid hp;have Hz:=HL.out p (List.mem_of_getElem? hp);clear hp;go_wp2_with fail
   clear c1;refine(qf _ _ p Hz wr HB.out).mono ?_;rintro e w2 ⟨⟨u,rfl⟩,hb2,hx2⟩;have eT:=hid hb2;have gP:=hid (HX.out.trans hx2 fun x my=>⟨Nat.lt_of_lt_of_le my.1 HX.out.size,my.2⟩);clear hb2 hx2;go_wp2;exact⟨⟨k+1,by omega,by go_num,by rw[List.take_add_one,HP.out];show ah _ _ (cM (setW (l.take k++ [p]))) _;rw[uZ];exact eT.out,gP.out⟩,by simp[intOf];omega⟩
  ·have xQ:k=n:=by omega
   have KD:¬ ((k:Int)<n):=by omega
   have eH:l.take k=l:=by rw[xQ,HN.out,List.take_length]
   rw[eH]at HB;obtain⟨S,hS⟩:∃ S,S=setW l:=⟨_,rfl⟩;rw[<-hS]at HB;have HS:=hid hS;have R0:=hid (B1.out.keeps HX.out ⟨B1.out.lt,by omega⟩);have c0:wr.cell? ⟨w.heap.size+1,0,none⟩=some (.int .u64 (S 0).toNat):=HB.out.cell 0;have r0:wr.cell? ⟨w.heap.size,0,none⟩=some (.int .u64 0):=R0.out.cell 0;have c1:wr.cell? ⟨w.heap.size+1,1,none⟩=some (.int .u64 (S 1).toNat):=HB.out.cell 1;have r1:wr.cell? ⟨w.heap.size,1,none⟩=some (.int .u64 0):=R0.out.cell 1;have c2:wr.cell? ⟨w.heap.size+1,2,none⟩=some (.int .u64 (S 2).toNat):=HB.out.cell 2;have r2:wr.cell? ⟨w.heap.size,2,none⟩=some (.int .u64 0):=R0.out.cell 2;have c3:wr.cell? ⟨w.heap.size+1,3,none⟩=some (.int .u64 (S 3).toNat):=HB.out.cell 3;have r3:wr.cell? ⟨w.heap.size,3,none⟩=some (.int .u64 0):=R0.out.cell 3;have c4:wr.cell? ⟨w.heap.size+1,4,none⟩=some (.int .u64 (S 4).toNat):=HB.out.cell 4;have r4:wr.cell? ⟨w.heap.size,4,none⟩=some (.int .u64 0):=R0.out.cell 4;have c5:wr.cell? ⟨w.heap.size+1,5,none⟩=some (.int .u64 (S 5).toNat):=HB.out.cell 5;have r5:wr.cell? ⟨w.heap.size,5,none⟩=some (.int .u64 0):=R0.out.cell 5;have c6:wr.cell? ⟨w.heap.size+1,6,none⟩=some (.int .u64 (S 6).toNat):=HB.out.cell 6;have r6:wr.cell? ⟨w.heap.size,6,none⟩=some (.int .u64 0):=R0.out.cell 6;have rf:=fun i=>R0.out.frozen i
   clear hS eH HL HN H;go_wp2;refine bodyPost_ret (v:=.agg (cM S)) ?_ rfl ⟨by rw[HS.out];rfl,?_⟩
   ·simp[results,Tryz.results169,go_sem,r0,r1,r2,r3,r4,r5,r6]
   ·refine XX.out.trans (aa.below (((((((aa.refl (· <w.heap.size) _).setCell ?_ _).setCell ?_ _).setCell ?_ _).setCell ?_ _).setCell ?_ _).setCell ?_ _ |>.setCell ?_ _))<;>(intro h;simp at h)
end
section
open Go Go.RowKit Go.Shelf Go.Maps
theorem EI (x:Int) (em:Bool) (s:Nat->BitVec 64) (B b:Nat) (W:World) (hB:W.cell? ⟨B,4,none⟩=some (.bool em)) (hb:ah W b (cM s) 137) (hx:x= -1\/(0<=x/\x<448)): Calls Tryz.prog 170 #[.int .i64 x,.pointer (some ⟨B,0,none⟩),.pointer (some ⟨b,0,none⟩)] W fun e w'=>e=.returned (.bool (if x= -1 then em else uY s x.toNat))/\w'=W:=by
 by_cases h1:x= -1
 ·subst h1
  rw[if_pos rfl];cases em
  ·go_enter Tryz.func170,Tryz.ntmps170
   go_wp2;go_ret;exact⟨rfl,rfl⟩
  ·go_enter Tryz.func170,Tryz.ntmps170
   go_wp2;go_ret;exact⟨rfl,rfl⟩
 ·rw[if_neg h1]
  obtain⟨p,rfl⟩:∃ p:Nat,x=p:=⟨x.toNat,by omega⟩;have hp:p<448:=by omega
  have d1:((p:Int)== -1)=false:=by rw[beq_eq_false_iff_ne];omega
  have d2:((p:Int) != -1)=true:=by rw[bne_iff_ne];omega
  have CH:=hid (wk s b p hp W hb);rw[Int.toNat_natCast];clear h1 hx hb;go_enter Tryz.func170,Tryz.ntmps170;go_wp2_with fail
  refine CH.out.mono ?_;rintro e w2 ⟨rfl,hw⟩;replace hw:=hw.symm;subst hw;go_wp2;go_ret;exact⟨rfl,rfl⟩
theorem yS (g:Nat) (lb:Array Value) (f:Int->Bool) (v:Value) (l:List Int) (w:World) (h:aZ aS w v l) (hn:l.length<=1000000) (eg:∀ args w,(callFunc g args).run Tryz.prog w=.ok (.enter g args) w) (hf:∀ s∈l,∀ W,Below w.heap.size w W->Calls Tryz.prog g (#[.int .i64 s]++lb) W fun e w'=>e=.returned (.bool (f s))/\w'=W): Calls Tryz.prog 71 #[v,.func (.func g) #[] lb] w fun e w'=>e=.returned (.int .i64 (gX f l))/\w'=w:=by
 obtain⟨a,cap,rfl⟩:=h.form;obtain⟨n,oV⟩:∃ n,n=l.length:=⟨_,rfl⟩;rw[<-oV]at h hn ⊢;have H:=hid h;have HN:=hid oV;have HF:=hid fun s hs=>hf s hs w (Below.refl _ _)
 obtain⟨r,hr⟩:∃ r,r=gX f l:=⟨_,rfl⟩;rw[<-hr];have HR:=hid hr;clear h oV hf hr;go_enter Tryz.func71,Tryz.ntmps71;go_wp2
 go_loop [8] (fun i=>∃ k:Nat,k<=n/\i=.int .i64 k/\(∀ s∈l.take k,f s=false)) (fun i=>n-(intOf i).toNat)
 case atStart=>exact⟨0,by omega,rfl,fun s hs=>by simp at hs⟩
 case round=>
  obtain⟨k,hk,rfl,ha⟩:=hrel;by_cases hlt:k<n
  ·obtain⟨s,hs⟩:∃ s,l[k]? =some s:=⟨_,List.getElem?_eq_getElem (by have:=HN.out;omega)⟩
   obtain⟨b,off,rfl,hb,d0⟩:=H.out.elem hs;have d0':w.cell? ⟨b,off+k,none⟩=some (.int .i64 s):=d0;have HFs:=hid (HF.out s (List.mem_of_getElem? hs));have HA:=hid ha;have HS:=hid hs;clear ha hs d0;obtain⟨b1,hb1⟩:∃ b1,b1=f s:=⟨_,rfl⟩;rw[<-hb1]at HFs;have oK:=hid hb1;clear hb1;cases b1 with
   | true=>
    have lC:=hid (HR.out.trans (pR HS.out oK.out.symm HA.out));go_wp2;refine HFs.out.mono ?_;rintro e w2 ⟨rfl,hw⟩;replace hw:=hw.symm;subst hw;go_wp2;go_ret;exact⟨by rw[lC.out];rfl,rfl⟩
   | false=>
    go_wp2;refine HFs.out.mono ?_;rintro e w2 ⟨rfl,hw⟩;replace hw:=hw.symm;subst hw;go_wp2
    go_round
    case rel=>exact⟨k+1,by omega,by go_num,uS HS.out oK.out.symm HA.out⟩
    case measure=>simp[intOf];omega
  ·obtain rfl:k=n:=by omega
   have lC:=hid (HR.out.trans (pS fun y hy=>ha y (by rw[HN.out,List.take_length];exact hy)));clear ha;go_wp2;go_ret;exact⟨by rw[lC.out];rfl,rfl⟩
theorem tN (g:Nat) (lb:Array Value) (f:Int->Bool) (v:Value) (l:List Int) (w:World) (h:aZ aS w v l) (hn:l.length<=1000000) (eg:∀ args w,(callFunc g args).run Tryz.prog w=.ok (.enter g args) w) (hf:∀ s∈l,∀ W,Below w.heap.size w W->Calls Tryz.prog g (#[.int .i64 s]++lb) W fun e w'=>e=.returned (.bool (f s))/\w'=W): Calls Tryz.prog 38 #[v,.func (.func g) #[] lb] w fun e w'=>e=.returned (.bool (l.any f))/\w'=w:=by have HI:=hid (yS g lb f v l w h hn eg hf);rw[<-rV];obtain⟨a,cap,rfl⟩:=h.form;clear h hf eg;generalize gX f l=z at HI ⊢;go_enter Tryz.func38,Tryz.ntmps38;go_wp2_with (go_at_call 71;refine HI.out.mono ?_;rintro e w2 ⟨rfl,hw⟩;replace hw:=hw.symm;subst hw);go_ret;exact⟨rfl,rfl⟩
def dY (s:Nat->BitVec 64) (n:Nat):List Nat:=(List.range n).filter (uY s)
theorem vd (s:Nat->BitVec 64) (k:Nat):dY s (k+1)=dY s k++if uY s k then [k]else []:=by unfold dY;rw[List.range_succ,List.filter_append];by_cases h:uY s k=true<;>simp[h]
theorem wq (s:Nat->BitVec 64) {k n:Nat} (h:k<=n):dY s k<+:dY s n:=by
 induction n with
 | zero=>rw[show k=0 from by omega];exact List.prefix_rfl
 | succ n ih=>
  by_cases hk:k=n+1
  ·subst hk;exact List.prefix_rfl
  ·exact(ih (by omega)).trans (by rw[vd];exact List.prefix_append _ _)
theorem H5 (s:Nat->BitVec 64) (n:Nat):(dY s n).length<=n:=by unfold dY;exact Nat.le_trans (List.length_filter_le _ _) (by simp)
def NF.on (a:NF) (c q:Nat):Bool:=(a.aM.getD q 0).getLsbD c
def nK (a:NF) (c:Nat) (l:List Int):List Nat:=(l.map Int.toNat).filter (a.on c)
theorem Cy (a:NF) (c:Nat) (l:List Int) (q:Int):nK a c (l++ [q])=nK a c l++if a.on c q.toNat then [q.toNat]else []:=by unfold nK;rw[List.map_append,List.filter_append];by_cases h:a.on c q.toNat=true<;>simp[h]
def gq (a:NF) (c:Nat) (l:List Int):List Nat:=l.flatMap fun p=>nK a c (a.rX p)
theorem KN (a:NF) (c:Nat) (l:List Int) (p:Int):gq a c (l++ [p])=gq a c l++nK a c (a.rX p):=by unfold gq;rw[List.flatMap_append];simp
theorem Nt.SJ {a:NF} (h:Nt a) {l:List Int} (hl:a.st l=true) {p:Int} (hp:p∈l):eh 0 ((a.aM.length:Int)-1) (a.rX p)=true:=by
 have h1:=(ei hl).2 p hp;unfold NF.rX;split
 ·exact h.fst
 ·exact h.row _ (by omega)
theorem Ot {a:NF} (h:Nt a) {l:List Int} (hl:a.st l=true) (c:Nat):(dY (setW (gq a c l)) 448).map Int.ofNat=a.step l c:=by
 have lB:∀ q,uY (setW (gq a c l)) q=(decide (q<a.aM.length)&&a.hit l c q):=by
  intro q;rw[MM,Bool.eq_iff_iff,List.contains_iff_mem,Bool.and_eq_true,decide_eq_true_eq];unfold gq NF.hit nK;rw[List.mem_flatMap,List.any_eq_true];constructor
  ·rintro⟨p,hp,hq⟩
   rw[List.mem_filter,List.mem_map]at hq;obtain⟨⟨x,hx,rfl⟩,hon⟩:=hq;have h2:=(ei (h.SJ hl hp)).2 x hx;refine⟨by omega,p,hp,?_⟩;rw[Bool.and_eq_true,List.contains_iff_mem,Int.toNat_of_nonneg h2.1];exact⟨hx,hon⟩
  ·rintro⟨hq,p,hp,h3⟩
   rw[Bool.and_eq_true,List.contains_iff_mem]at h3;exact⟨p,hp,List.mem_filter.2 ⟨List.mem_map.2 ⟨_,h3.1,by simp⟩,h3.2⟩⟩
 have hle:=h.le;unfold NF.step dY;congr 1;obtain⟨m,hm⟩:∃ m,448=a.aM.length+m:=⟨448-a.aM.length,by omega⟩;rw[hm,List.range_add,List.filter_append];have e2:(List.map (fun x=>a.aM.length+x) (List.range m)).filter (uY (setW (gq a c l)))=[]:=by rw[List.filter_eq_nil_iff];intro x hx;obtain⟨y,_,rfl⟩:=List.mem_map.1 hx;rw[lB,decide_eq_false (show ¬a.aM.length+y<a.aM.length by omega)];simp
 rw[e2,List.append_nil];refine List.filter_congr fun q hq=>?_
 rw[lB,decide_eq_true (List.mem_range.1 hq),Bool.true_and]
attribute [local go_sem] encS Oper.semAt_some gO dC
def yT (p:Nat):Value:=.int .i64 (p:Int)
theorem yU {d:Bool} {gf:Nat} {lb:Array Value} {R:Nat->Prop} (xs:List Nat) (w:World) (hseq:Seq d Tryz.prog gf lb (fun c:Nat=> #[.int .i64 (c:Int)]) R xs w) (eg:∀ args w,(callFunc gf args).run Tryz.prog w=.ok (.enter gf args) w) (hR:∀ k,R k->k<w.heap.size) (hn:xs.length<=1000000): Calls Tryz.prog 135 #[.slice none 0 0,.func (.func gf) #[] lb] w fun e w'=>∃ v,e=.returned v/\w'.ownsRow w.heap.size 3 1 v xs.length (xs.map yT)/\Below w.heap.size w w':=by
 obtain⟨i0,hi,hz0,hz1,hz2⟩:=info_parts Tryz.tz;refine ck Tryz.func135 rfl ?_;simp only[Tryz.ntmps135,List.size_toArray,List.length_cons,List.length_nil,Nat.reduceAdd,Nat.reduceSub,Array.replicate_succ,Array.replicate_zero,List.push_toArray,List.append_toArray,List.nil_append,List.cons_append];go_wp2;refine aw ?_;intro W0 hW0;have h1:ah W0 w.heap.size #[.slice none 0 0] 47:=by rw[hW0];exact ah.new _ _ _
 have hx:Ext w W0:=by rw[hW0];exact(Ext.refl w).alloc _
 have hsz:W0.heap.size=w.heap.size+1:=by rw[hW0];simp
 refine im (w:=W0) (hseq.at hx.keeps) (by rfl) eg (by intro _;rfl) (by intro k hk;have:=hR k hk;omega)
  (fun xs T W=>∃ v,ah W w.heap.size #[v] 47/\W.ownsRow (w.heap.size+1) 3 1 v xs.length (xs.map yT)/\(∀ k,v.ownBlock=some k->¬T k)/\Below w.heap.size w W)
  (fun _ _ _ _=>False)
  ?_
  (fun c xs T T' W W' h=>h.elim)
  ⟨_,h1,World.ownsRow_nil _ _ _ _,fun _ _ h=>h,hx.below⟩
  (fun x=>⟨#[.slice none 0 0,.func (.func gf) #[] lb,.pointer (some ⟨w.heap.size,0,none⟩),undef,.slice none 0 0,.int .i64 (x:Int),.func (.func gf) #[] lb,.int .i64 (x:Int),undef,undef,undef,undef,undef],[]⟩) ?assign ?body ?done ?stop
 ·intro xs T T' W W' ⟨v,g1,g2,g3,g4⟩ hT Ra hs hn hk
  refine⟨v,g1.nA hT hk (by omega),aj g2 hk.1 (fun k e=>⟨(g2.lt k e).2,g3 k e⟩),fun k e ht=>?_,jh g4 hT hk (Nat.le_refl _) (by omega)⟩;rcases hn k ht with h | h
  ·exact g3 k e h
  ·have:=(g2.lt k e).2;omega
 case assign=>
  intro l x W K hK
  gi_wp2
  exact hK
 case body=>
  rintro l pre x T W bQ hT _ xR hl ⟨v,g1,g2,g3,g4⟩;have c1:W.cell? ⟨w.heap.size,0,none⟩=some v:=g1.cell 0;have f1:=g1.frozen 0;have hlen:pre.length<xs.length:=by obtain⟨r,hr⟩:=bQ;rw[<-hr];simp
  have G1:=hid g1;have G3:=hid g3;have G4:=hid g4;have nB:=hid hsz;have HT:=hid hT;clear g1 g3 g4 hsz hW0 hT hl xR
  gi_wp2_with (gi_at_builtin;refine wpListIn_append_own_at _ rfl _ _ 47 rfl (w.heap.size+1) 3 i0 (.int .i64 0) 1 8 Tryz.underlying47 hi hz0 hz1 hz2 rfl (by decide) _ _ _ rfl (g2.alloc _) ⟨W.heap.size,0,none⟩ 1 1 [yT x] rfl rfl (cell_one_new _ _ _) (by simp[Value.oneCell',yT]) (by unfold maxLen;omega) (by omega) (by have h1:=G4.out.size;have h2:=nB.out;have h3:=G1.out.lt;simp;omega) ?_;intro v' w1 hown' hgrow hh hat;obtain⟨g',cap',rfl⟩:=ownsRow_succ hown';have hb1:=(G1.out.alloc (.cells #[.int .i64 (x:Int)] 3 (0,0))).grown hgrow (fun e=>by have:=(g2.lt _ e.symm).1;omega);have c2:=hb1.cell 0;have f2:=hb1.frozen 0;have HB:=hid hb1;have HO:=hid hown';have HG:=hid hgrow;have H2:=hid g2;have Mp:=hid hat;clear hown' hgrow hb1 g2 hh hat)
  have hgT:¬T g':=fun ht=>by
   rcases Mp.out with h | h
   ·exact G3.out g' h.symm ht
   ·have h1:=(HT.out g' ht).2;simp[Value.ownBlock]at h;omega
  have hkT:∀ k,(R k\/T k)->k<W.heap.size/\some k≠v.ownBlock:=fun k hk=>by
   refine⟨?_,fun e=>?_⟩
   ·rcases hk with hk | hk
    ·have h1:=hR k hk;have h2:=G4.out.size;omega
    ·exact(HT.out k hk).2
   ·rcases hk with hk | hk
    ·have h1:=hR k hk;have h2:=(H2.out.lt k e.symm).1;omega
    ·exact G3.out k e.symm hk
  have uO:aa (fun k=>R k\/T k) W w1:=(((aa.refl _ W).alloc (fun k hk=>(hkT k hk).1) _)).tr (aa.bG HG.out fun k hk=>⟨by have:=(hkT k hk).1;simp;omega,(hkT k hk).2⟩);have GN:∀ k,(R k\/T k)->k≠w.heap.size:=fun k hk=>by
   rcases hk with hk | hk
   ·have h1:=hR k hk;omega
   ·have h1:=(HT.out k hk).1;have h2:=nB.out;omega
  refine⟨uO.setCell (fun h=>GN _ h rfl) _,_,HB.out.set 0 _,?_,fun k e=>?_,?_⟩
  ·rw[List.length_append,List.map_append]
   exact aj HO.out ((aa.refl (fun k=>k≠w.heap.size) _).setCell (by simp) _) (fun k e=>by have:=(HO.out.lt k e).1;omega)
  ·simp[Value.ownBlock]at e;subst e;exact hgT
  ·exact((G4.out.alloc (by exact G4.out.size) _).grown HG.out (by have:=G4.out.size;simp;omega) (fun k e=>by have:=(H2.out.lt k e).1;omega)).setCell (Nat.le_refl _) _
 case done=>
  rintro D T W hD yf hT ⟨v,g1,g2,g3,g4⟩ nw;have c1:W.cell? ⟨w.heap.size,0,none⟩=some v:=g1.cell 0;have G2:=hid g2;have G4:=hid g4;have HD:=hid hD;have nB:=hid hsz;have xC:=hid nw;clear g1 g2 g3 g4 hsz hW0 hT yf nw hD;dsimp only;go_wp2;refine dz rfl xC.out (results_tmp rfl _ _ _) ⟨v,rfl,ownsRow_putObj (aA G2.out (by omega)) _ xC.out rfl,((aa.ag G4.out (fun _ h=>h)).putObj (by have:=HD.out;have:=nB.out;omega) _).below⟩
 case stop=>rintro D c pre T W _ _ _ _ h _;exact h.elim
theorem tO {d:Bool} {gf:Nat} {lb:Array Value} {R:Nat->Prop} (xs:List Nat) (w:World) (hseq:Seq d Tryz.prog gf lb (fun c:Nat=> #[.int .i64 (c:Int)]) R xs w) (eg:∀ args w,(callFunc gf args).run Tryz.prog w=.ok (.enter gf args) w) (hR:∀ k,R k->k<w.heap.size) (hn:xs.length<=1000000): Calls Tryz.prog 100 #[.func (.func gf) #[] lb] w fun e w'=>∃ v,e=.returned v/\w'.ownsRow w.heap.size 3 1 v xs.length (xs.map yT)/\Below w.heap.size w w':=by have H:=hid (yU xs w hseq eg hR hn);clear hseq eg;go_enter Tryz.func100,Tryz.ntmps100;go_wp2_with (go_at_call 135;refine H.out.mono ?_;rintro e w1 ⟨v,rfl,h1,h2⟩;have H1:=hid h1;have H2:=hid h2;clear h1 h2);go_ret;exact⟨v,rfl,H1.out,H2.out⟩
end
section
open Go Go.RowKit Go.Shelf Go.Maps
attribute [local go_sem] Oper.semAt_some gO dC
theorem H6 (s:Nat->BitVec 64) (B b:Nat) (w:World) (hB:ah w B #[.pointer (some ⟨b,0,none⟩)] 167) (hb0:ah w b (cM s) 137):Seq true Tryz.prog 136 #[.pointer (some ⟨B,0,none⟩)] (fun p:Nat=> #[.int .i64 (p:Int)]) (fun k=>k=B\/k=b) (dY s 448) w:=by
 intro l J Jx W hK hJ hJx hY h0;have HY:=hid hY;have HH:=hid (wk s b);clear hY;have B0:=hB.keeps hK hB.lt;have B1:=hb0.keeps hK hb0.lt;clear hB hb0;refine callsIn_wide (n:=0).1 ?_;refine callsIn_of_wp Tryz.func136 rfl trivial ?_ rfl;simp only[Tryz.ntmps136,List.size_toArray,List.length_cons,List.length_nil,Nat.reduceAdd,Nat.reduceSub,Array.replicate_succ,Array.replicate_zero,List.push_toArray,List.append_toArray,List.nil_append,List.cons_append]
 gi_wp2
 gi_loopw [4] (fun i wr=>∃ (k:Nat) (T:Nat->Prop),k<=448/\i=.int .i64 k/\ah wr B #[.pointer (some ⟨b,0,none⟩)] 167/\ah wr b (cM s) 137/\J (dY s k) T wr/\(∀ k,T k->W.heap.size<=k/\k<wr.heap.size)/\aa (fun k=>k=B\/k=b) W wr)
  (fun i _=>448-(intOf i).toNat)
 case atStart=>
  exact⟨0,fun _=>False,by omega,rfl,B0,B1,h0,fun _ h=>h.elim,aa.refl _ _⟩
 case round=>
  obtain⟨k,T,hk,rfl,hB,hb,hj,hT,hR⟩:=hrel;by_cases hlt:k<448
  ·have c0:wr.cell? ⟨B,0,none⟩=some (.pointer (some ⟨b,0,none⟩)):=hB.cell 0
   have WG:=hid hB;have HB:=hid hb;have HJ:=hid hj;have HT:=hid hT;have HR:=hid hR;clear hB hb hj hT hR B0 B1;have bQ:=vd s k;by_cases mC:uY s k=true
   ·rw[if_pos mC]at bQ
    have HP:=hid bQ;have Qh:dY s k++ [k]<+:dY s 448:=by rw[<-bQ];exact wq s (by omega)
    have Q9:=hid Qh;have h1:Calls Tryz.prog 137 #[.pointer (some ⟨b,0,none⟩),.int .i64 k] wr fun e w'=>e=.returned (.bool true)/\w'=wr:=by have:=HH.out k hlt wr HB.out;rwa[mC]at this
    have H1:=hid h1;clear bQ Qh h1 mC HH
    gi_wp2_with (gi_at_call 137;refine(callsIn_wide.2 H1.out).mono ?_;rintro e w1 ⟨rfl,hw⟩;replace hw:=hw.symm;subst hw;obtain⟨fn,tm,Gq,bd,hy,GJ⟩:=HY.out (dY s k) k T _ Q9.out HT.out HR.out HJ.out;have Qi:=hid GJ;clear GJ)
    refine Qi.out.mono ?_;rintro e W2 (⟨rfl,eE,hk2⟩ | ⟨rfl,eE,hk2⟩)
    ·have xB:=hid eE
     have rS:=hid hk2;clear eE hk2 hy
     gi_wp2
     go_roundw
     case rel=>
      refine⟨k+1,T,by omega,by go_num,?_,?_,?_,?_,?_⟩
      ·exact WG.out.keeps rS.out (.inl (.inl rfl))
      ·exact HB.out.keeps rS.out (.inl (.inr rfl))
      ·rw[HP.out];exact xB.out
      ·exact fun j hj=>⟨(HT.out j hj).1,Nat.lt_of_lt_of_le (HT.out j hj).2 rS.out.size⟩
      ·exact HR.out.tr (rS.out.mono fun j hj=>.inl hj)
     case measure=>simp[intOf];omega
    ·have xB:=hid eE
     have rS:=hid hk2;clear eE hk2 hy
     gi_wp2
     refine bodyPost_ret (results_none rfl _ _ _) rfl ?_;exact⟨⟨_,rfl⟩,T,fun j hj=>⟨(HT.out j hj).1,Nat.lt_of_lt_of_le (HT.out j hj).2 rS.out.size⟩,.inr ⟨_,Q9.out,xB.out⟩⟩
   ·have vL:uY s k=false:=by simpa using mC
    rw[if_neg mC,List.append_nil]at bQ;have HP:=hid bQ;have h1:Calls Tryz.prog 137 #[.pointer (some ⟨b,0,none⟩),.int .i64 k] wr fun e w'=>e=.returned (.bool false)/\w'=wr:=by have:=HH.out k hlt wr HB.out;rwa[vL]at this
    have H1:=hid h1;clear bQ h1 mC vL HH
    gi_wp2_with (gi_at_call 137;refine(callsIn_wide.2 H1.out).mono ?_;rintro e w1 ⟨rfl,hw⟩;replace hw:=hw.symm;subst hw)
    go_roundw
    case rel=>
     refine⟨k+1,T,by omega,by go_num,WG.out,HB.out,?_,HT.out,HR.out⟩;rw[HP.out];exact HJ.out
    case measure=>simp[intOf];omega
  ·obtain rfl:k=448:=by omega
   gi_wp2
   refine bodyPost_end (results_none rfl _ _ _) rfl ?_;exact⟨⟨_,rfl⟩,T,hT,.inl hj⟩
theorem EJ (b:Nat) (w:World):Calls Tryz.prog 101 #[.pointer (some ⟨b,0,none⟩)] w fun e w'=>e=.returned (.func (.func 136) #[] #[.pointer (some ⟨w.heap.size,0,none⟩)])/\w'=w.alloc (.cells #[.pointer (some ⟨b,0,none⟩)] 167 (0,0)):=by
 go_enter Tryz.func101,Tryz.ntmps101
 go_wp2;go_ret;exact⟨rfl,rfl⟩
theorem EL (s:Nat->BitVec 64) (b:Nat) (w:World) (hb:ah w b (cM s) 137): Calls Tryz.prog 78 #[.pointer (some ⟨b,0,none⟩)] w fun e w'=>∃ v,e=.returned v/\w'.ownsRow w.heap.size 3 1 v (dY s 448).length ((dY s 448).map yT)/\Below w.heap.size w w':=by
 have eg:∀ args w,(callFunc 136 args).run Tryz.prog w=.ok (.enter 136 args) w:=enters_of Tryz.func136 (by kernel_rfl) rfl;have hlen:(dY s 448).length<=1000000:=Nat.le_trans (H5 _ _) (by decide);have H:Hid (∀ (W:World) (B:Nat),ah W B #[.pointer (some ⟨b,0,none⟩)] 167->ah W b (cM s) 137->Calls Tryz.prog 100 #[.func (.func 136) #[] #[.pointer (some ⟨B,0,none⟩)]] W fun e w'=>∃ v,e=.returned v/\w'.ownsRow W.heap.size 3 1 v (dY s 448).length ((dY s 448).map yT)/\Below W.heap.size W w'):=
  fun W B hB hb=>tO _ W (H6 s B b W hB hb) eg (fun k hk=>hk.elim (fun e=>by rw[e];exact hB.lt) (fun e=>by rw[e];exact hb.lt)) hlen
 have HB:=hid hb;clear eg hlen hb;generalize dY s 448=xs at H ⊢;go_enter Tryz.func78,Tryz.ntmps78;go_wp2_with (first | (go_at_call 101;refine(EJ b _).mono ?_;rintro e w1 ⟨rfl,rfl⟩) | (go_at_call 100;refine(H.out _ _ ((ah.new _ _ _).at (by simp)) (HB.out.alloc _)).mono ?_;rintro e w1 ⟨v,rfl,h1,h2⟩;have H1:=hid h1;have H2:=hid h2;clear h1 h2));go_ret;refine⟨v,rfl,aA H1.out (by simp),?_⟩;exact((Ext.refl w).alloc _).below.trans (H2.out.mono (by simp))
end
section
open Go Go.RowKit Go.Shelf Go.Maps
theorem aZ.pos {w:World} {v:Value} {l:List Int} (h:aZ aS w v l) (hp:∀ x∈l,0<=x):aZ (fun p:Nat=>.int .i64 p) w v (l.map Int.toNat):=by
 rcases h with⟨rfl,rfl⟩ | ⟨b,off,cap,rfl,hb,hc,h⟩
 ·exact .inl ⟨rfl,rfl⟩
 ·refine .inr ⟨b,off,cap,by rw[List.length_map],hb,by rw[List.length_map];exact hc,fun i p hi=>?_⟩
  rw[List.getElem?_map]at hi;obtain⟨x,hx,rfl⟩:=Option.map_eq_some_iff.1 hi;have e:=Int.toNat_of_nonneg (hp x (List.mem_of_getElem? hx));rw[h i x hx];show some (Value.int .i64 x)=some (Value.int .i64 (x.toNat:Int));rw[e]
theorem WH:∀ args w,(callFunc 170 args).run Tryz.prog w=.ok (.enter 170 args) w:=fun args w=>by kernel_rfl
theorem EM (v u:Value) (a:NF) (rt:Nt a) (l:List Int) (hst:a.st l=true) (w:World) (h:mP w v a) (sm:Qs a) (hu:aZ aS w u l) (hl:l.length<=1000000): Calls Tryz.prog 159 #[v,u] w fun e w'=>e=.returned (.bool (a.acc l))/\Below w.heap.size w w':=by
 have WI:=(ei rt.dh).2;have hle:=rt.le;have CS:Hid (∀ W v,aZ aS W v a.dh->Calls Tryz.prog 169 #[v] W fun e w'=>e=.returned (.agg (cM (setW (a.dh.map Int.toNat))))/\Below W.heap.size W w'):=hid fun W v h=>Hy v (a.dh.map Int.toNat) W (h.pos fun x hx=>(WI x hx).1) (fun p hp=>by obtain⟨x,hx,rfl⟩:=List.mem_map.1 hp;have:=WI x hx;omega) (by rw[List.length_map];exact sm.dh)
 have pD:∀ x:Int,0<=x->uY (setW (a.dh.map Int.toNat)) x.toNat=a.dh.contains x:=fun x hx=>by
  rw[MM,Bool.eq_iff_iff,List.contains_iff_mem,List.contains_iff_mem,List.mem_map];constructor
  ·rintro⟨y,hy,e⟩
   have:=(WI y hy).1;obtain rfl:y=x:=by omega
   exact hy
  ·exact fun h=>⟨x,h,rfl⟩
 have CC:Hid (∀ W v' B b,aZ aS W v' l->W.cell? ⟨B,4,none⟩=some (.bool a.emp)->B<W.heap.size->ah W b (cM (setW (a.dh.map Int.toNat))) 137->Calls Tryz.prog 38 #[v',.func (.func 170) #[] #[.pointer (some ⟨B,0,none⟩),.pointer (some ⟨b,0,none⟩)]] W fun e w'=>e=.returned (.bool (a.acc l))/\w'=W):=hid fun W v' B b hv' hB hBl hb=>by
  refine tN 170 #[.pointer (some ⟨B,0,none⟩),.pointer (some ⟨b,0,none⟩)] a.WB v' l W hv' hl WH fun x hx W' hk=>?_
  have Oi:=(ei hst).2 x hx
  have:=EI x a.emp (setW (a.dh.map Int.toNat)) B b W' ((aa.ag hk (R:=(· <W.heap.size)) fun _ h=>h).cell (p:=⟨B,4,none⟩) hBl |>.trans hB) (hb.below hk hb.lt) (by
   rcases Int.lt_or_le x 0 with h1 | h1
   ·exact .inl (by omega)
   ·exact .inr ⟨h1,by omega⟩)
  have e:(if x= -1 then a.emp else uY (setW (a.dh.map Int.toNat)) x.toNat)=a.WB x:=by
   unfold NF.WB;split
   ·rfl
   ·exact pD x (by omega)
  rw[e]at this;exact this
 obtain⟨v0,v1,v2,v3,rfl,h0,h1,h2,h3⟩:=h;obtain⟨a3,c3,rfl⟩:=h3.form;obtain⟨ua,uc,rfl⟩:=hu.form;obtain⟨R,hR⟩:∃ R,R=a.acc l:=⟨_,rfl⟩;obtain⟨S,hS⟩:∃ S,S=setW (a.dh.map Int.toNat):=⟨_,rfl⟩;obtain⟨n3,JF⟩:∃ n,n=a.dh.length:=⟨_,rfl⟩;obtain⟨m,hm⟩:∃ n,n=l.length:=⟨_,rfl⟩;rw[<-hS]at CS CC;rw[<-hR]at CC ⊢;rw[<-JF]at h3 ⊢;rw[<-hm]at hu ⊢;have H3:=hid h3;have HU:=hid hu;clear h0 h1 h2 h3 hu hR hS JF hm sm rt WI pD hst hle;go_enter Tryz.func159,Tryz.ntmps159;go_wp2_with fail
 refine az ?_;intro V hV;have B1:Hid (ah V w.heap.size #[v0,v1,v2,.slice a3 n3 c3,.bool a.emp] 97):=hid (by rw[hV];exact ah.new w _ _);have X1:Hid (Below w.heap.size w V):=hid (by rw[hV];exact((Ext.refl w).alloc _).below);clear hV;refine(CS.out V _ (H3.out.below X1.out)).mono ?_;rintro e w1 ⟨rfl,hx⟩;have B2:=hid (B1.out.below hx B1.out.lt);have X2:=hid (X1.out.trans (hx.mono X1.out.size));clear hx B1 X1 CS;have hst:=run_storeCells_new (P:=Tryz.prog) w1 137 #[.int .u64 0,.int .u64 0,.int .u64 0,.int .u64 0,.int .u64 0,.int .u64 0,.int .u64 0] (cM S) (by kernel_rfl) rfl (by simp[cM,Value.oneCell']);go_wp2_with fail
 refine az ?_;intro V2 hV2;have b6:Hid (ah V2 w1.heap.size (cM S) 137):=hid (by rw[hV2];exact ah.new _ _ _);have XV:Hid (Below w1.heap.size w1 V2):=hid (by rw[hV2];exact((Ext.refl w1).alloc _).below);clear hV2 hst;have i4:=(B2.out.below XV.out B2.out.lt).five.2.2.2.2;have hl:=(B2.out.below XV.out B2.out.lt).lt;refine(CC.out V2 _ _ _ (HU.out.below (X2.out.trans (XV.out.mono X2.out.size))) i4 hl b6.out).mono ?_;rintro e w' ⟨rfl,hw⟩;replace hw:=hw.symm;subst hw;go_wp2;go_ret;exact⟨rfl,X2.out.trans (XV.out.mono X2.out.size)⟩
theorem EO (v u:Value) (a:NF) (rt:Nt a) (l:List Int) (hst:a.st l=true) (w:World) (h:mP w v a) (sm:Qs a) (hu:aZ aS w u l) (hl:l.length<=1000000): Calls Tryz.prog 139 #[v,u] w fun e w'=>e=.returned (.tuple #[.bool (a.acc l),.int .i64 0])/\Below w.heap.size w w':=by
 have CK:Hid (∀ W,Below w.heap.size w W->Calls Tryz.prog 158 #[v,u] W fun e w'=>e=.returned (.int .i64 0)/\Below W.heap.size W w'):=hid fun W hW=>by
  have:=yR v u a l W (h.below hW) sm (hu.below hW) hl;have e:a.chk l=0:=by unfold NF.chk;rw[(fE a).2 rt,hst];rfl
  rwa[e]at this
 have CA:Hid (∀ W,Below w.heap.size w W->Calls Tryz.prog 159 #[v,u] W fun e w'=>e=.returned (.bool (a.acc l))/\Below W.heap.size W w'):=hid fun W hW=>EM v u a rt l hst W (h.below hW) sm (hu.below hW) hl
 obtain⟨a0,c0,a1,n1,c1,a2,n2,c2,a3,n3,c3,rfl⟩:=h.Sy;generalize a.aM.length=n0 at*;generalize a.acc l=R at*;obtain⟨ua,uc,rfl⟩:=hu.form;generalize l.length=m at*;clear h hu sm rt hst hl;go_enter Tryz.func139,Tryz.ntmps139;go_wp2_with fail
 refine az ?_;intro V hV;have B1:Hid (ah V w.heap.size #[.slice a0 n0 c0,.slice a1 n1 c1,.slice a2 n2 c2,.slice a3 n3 c3,.bool a.emp] 97):=hid (by rw[hV];exact ah.new w _ _);have X1:Hid (Below w.heap.size w V):=hid (by rw[hV];exact((Ext.refl w).alloc _).below);clear hV;refine(CK.out V X1.out).mono ?_;rintro e w1 ⟨rfl,hx⟩;have B2:=hid (B1.out.below hx B1.out.lt);have X2:=hid (X1.out.trans (hx.mono X1.out.size));clear hx B1 X1;obtain⟨i0,i1,i2,i3,i4⟩:=B2.out.five;go_wp2_with fail
 refine(CA.out w1 X2.out).mono ?_;rintro e w2 ⟨rfl,hx⟩;have X3:=hid (X2.out.trans (hx.mono X2.out.size));clear hx i0 i1 i2 i3 i4;go_wp2;refine bodyPost_ret (v:=.tuple #[.bool R,.int .i64 0]) (by simp[results,Tryz.results139,go_sem]) rfl ⟨rfl,X3.out⟩
end
end Go.Proofs.YtalombmiochpmaaGreatDoor
