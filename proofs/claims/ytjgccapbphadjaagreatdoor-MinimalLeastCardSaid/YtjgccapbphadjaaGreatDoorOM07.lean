/- nfa.step, nfa.Step: the state set behind a byte. -/
import Derived.Test.YtjgccapbphadjaaGreatDoorOM06
set_option maxRecDepth 100000
set_option maxHeartbeats 16000000
open Go.Lib (hid)
namespace Go.Proofs.YtjgccapbphadjaaGreatDoor
section
open Go Go.RowKit Go.Shelf Go.Maps
attribute [local go_sem] encS
def aZ.Uo (base n:Nat) (xs:List Value):aZ (Move false (fun _=>False)) where
 P:=fun v=>∃ a c,v=.slice a n c
 H:=fun v W=>W.ownsRow base 3 1 v n xs
 nW:=.slice none n 0
 pw:=⟨none,0,rfl⟩
 st:=fun _ _ _ hm _ h=>aj h hm.below
theorem ar.abD {w:World} {b:Nat} {x y z u t x' y' z' u' t':Value} {ty:TypeId} (h:ar w b #[x,y,z,u,t] ty):ar (((((w.setCell ⟨b,0,none⟩ x').setCell ⟨b,1,none⟩ y').setCell ⟨b,2,none⟩ z').setCell ⟨b,3,none⟩ u').setCell ⟨b,4,none⟩ t') b #[x',y',z',u',t'] ty:=((((h.set 0 x').set 1 y').set 2 z').set 3 u').set 4 t'
theorem wy (W:World) (b:Nat) (x y z u t:Value):ae (· ≠b) W (((((W.setCell ⟨b,0,none⟩ x).setCell ⟨b,1,none⟩ y).setCell ⟨b,2,none⟩ z).setCell ⟨b,3,none⟩ u).setCell ⟨b,4,none⟩ t):=
 (((((ae.refl _ W).setCell (p:=⟨b,0,none⟩) (fun h=>h rfl) _).setCell (p:=⟨b,1,none⟩) (fun h=>h rfl) _).setCell (p:=⟨b,2,none⟩) (fun h=>h rfl) _).setCell (p:=⟨b,3,none⟩) (fun h=>h rfl) _).setCell (p:=⟨b,4,none⟩) (fun h=>h rfl) _
end
section
open Go Go.RowKit Go.Shelf Go.Maps
attribute [local go_sem] encS
def im (base:Nat) (w:World) (v:Value) (a:NF):Prop:=∃ v0 v1 v2 v3,v=.agg #[v0,v1,v2,v3,.bool a.emp]/\w.ownsRow base 56 4 v0 a.aL.length (aM a.aL)/\br base w v1 a.cF/\w.ownsRow base 3 1 v2 a.fst.length (a.fst.map aN)/\w.ownsRow base 3 1 v3 a.cR.length (a.cR.map aN)
theorem im.nf {base:Nat} {w:World} {v:Value} {a:NF} (h:im base w v a):kX w v a:=by obtain⟨v0,v1,v2,v3,e,h0,h1,h2,h3⟩:=h;exact⟨v0,v1,v2,v3,e,fL h0,h1.ll,dc h2 rfl,dc h3 rfl⟩
end
section
open Go Go.RowKit Go.Shelf Go.Maps
def NF.XT (a:NF) (l:List Int):Int:=if a.right=false then 171 else if a.st l=false then 172 else 0
theorem kX.P8 {w:World} {v:Value} {a:NF} (h:kX w v a):∃ a0 c0 a1 n1 c1 a2 n2 c2 a3 n3 c3,v=.agg #[.slice a0 a.aL.length c0,.slice a1 n1 c1,.slice a2 n2 c2,.slice a3 n3 c3,.bool a.emp]:=by obtain⟨v0,v1,v2,v3,rfl,h0,h1,h2,h3⟩:=h;obtain⟨a0,c0,rfl⟩:=h0.1.form;obtain⟨a1,c1,rfl⟩:=h1.form;obtain⟨a2,c2,rfl⟩:=h2.form;obtain⟨a3,c3,rfl⟩:=h3.form;exact⟨_,_,_,_,_,_,_,_,_,_,_,rfl⟩
theorem wB (v u:Value) (a:NF) (l:List Int) (w:World) (h:kX w v a) (sm:PZ a) (hu:bZ aN w u l) (hl:l.length<=1000000): ah 241 #[v,u] w fun e w'=>e=.returned (.int .i64 (a.XT l))/\aa w w':=by
 have CR:Hid (∀ W,aa w W->ah 109 #[v] W fun e w'=>e=.returned (.bool a.right)/\aa W w'):=hid fun W hW=>wu v a W (h.below hW) sm
 have CN:Hid (∀ W,aa w W->ah 166 #[u,.int .i64 (-1),.int .i64 ((a.aL.length:Int)-1)] W fun e w'=>e=.returned (.bool (a.st l))/\w'=W):=hid fun W hW=>tT u l (-1) _ (.inr rfl) W (hu.below hW) hl
 have HS:=hid sm.aL;obtain⟨a0,c0,a1,n1,c1,a2,n2,c2,a3,n3,c3,rfl⟩:=h.P8;obtain⟨ua,uc,rfl⟩:=hu.form;obtain⟨n0,dh⟩:=ag a.aL.length;obtain⟨m,hm⟩:=ag l.length;obtain⟨r1,hr1⟩:=ag a.right;obtain⟨r2,hr2⟩:=ag (a.st l);have hc:a.XT l=if r1=false then 171 else if r2=false then 172 else 0:=by unfold NF.XT;rw[hr1,hr2]
 rw[hc];rw[<-dh]at CR CN HS ⊢;rw[<-hm]at CN ⊢;rw[<-hr1]at CR;rw[<-hr2]at CN;have m0:n0<=1000000:=HS.out;have wn:IntKind.i64.wrap ((n0:Int)-1)=(n0:Int)-1:=IntWalk.i64_in _ (by omega);clear h hu hl sm dh hm hr1 hr2 hc HS;go_enter Tryz.func241,Tryz.ntmps241;go_wp2_with fail
 refine aH ?_;intro V hV;have B1:Hid (ar V w.heap.size #[.slice a0 n0 c0,.slice a1 n1 c1,.slice a2 n2 c2,.slice a3 n3 c3,.bool a.emp] 118):=hid (by rw[hV];exact ar.new w _ _);have X1:Hid (aa w V):=hid (by rw[hV];exact((Ext.refl w).alloc _).below);clear hV;refine(CR.out V X1.out).mono ?_;rintro e w1 ⟨rfl,hx⟩;have B2:=hid (B1.out.below hx B1.out.lt);have X2:=hid (X1.out.trans (hx.mono X1.out.size));clear hx B1 X1 CR;cases r1
 ·go_wp2
  go_ret;exact⟨rfl,X2.out⟩
 obtain⟨i0,i1,i2,i3,i4⟩:=B2.out.five;go_wp2_with fail
 refine(CN.out w1 X2.out).mono ?_;rintro e w2 ⟨rfl,hw⟩;replace hw:=hw.symm;subst hw;clear i0 i1 i2 i3 i4 CN;cases r2
 ·go_wp2
  go_ret;exact⟨rfl,X2.out⟩
 ·go_wp2
  go_ret;exact⟨rfl,X2.out⟩
def cE (s:Nat->BitVec 64):Array Value:= #[.int .u64 (s 0).toNat,.int .u64 (s 1).toNat,.int .u64 (s 2).toNat,.int .u64 (s 3).toNat,.int .u64 (s 4).toNat,.int .u64 (s 5).toNat,.int .u64 (s 6).toNat]
theorem kY (s:Nat->BitVec 64) {i:Nat} (hi:i<7):(cE s)[i]? =some (.int .u64 (s i).toNat):=by
 match i,hi with
 | 0,_=>rfl
 | 1,_=>rfl
 | 2,_=>rfl
 | 3,_=>rfl
 | 4,_=>rfl
 | 5,_=>rfl
 | 6,_=>rfl
def sP (s:Nat->BitVec 64) (p:Nat):Bool:=(s (p/64)).getLsbD (p%64)
theorem Qa (x:BitVec 64) (n:Nat):x.toNat/2^n%2=(x.getLsbD n).toNat:=by have h:x.getLsbD n=decide (x.toNat/2^n%2=1):=Nat.testBit_eq_decide_div_mod_eq;rw[h];rcases Nat.mod_two_eq_zero_or_one (x.toNat/2^n)with e | e<;>simp[e]
theorem zQ (x:BitVec 64) (n:Nat):(bits .and .u64 ((x.toNat:Int)/2^n) 1==1)=x.getLsbD n:=by
 have h:((x.toNat:Int)/2^n)=((x.toNat/2^n:Nat):Int):=by simp
 rw[h,DY _ (Nat.lt_of_le_of_lt (Nat.div_le_self _ _) x.isLt),Qa];cases x.getLsbD n<;>rfl
theorem tU (s:Nat->BitVec 64) (b p:Nat) (hp:p<448) (w:World) (h:ar w b (cE s) 179): ah 210 #[.pointer (some ⟨b,0,none⟩),.int .i64 p] w fun e w'=>e=.returned (.bool (sP s p))/\w'=w:=by
 obtain⟨q,hq⟩:=ag (p/64);obtain⟨r,hr⟩:=ag (p%64);have Qb:q<7:=by omega
 have Qc:r<64:=by omega
 have c1:w.cell? ⟨b,q,none⟩=some (.int .u64 (s q).toNat):=(h.cell q).trans (kY s Qb);have e1:(p:Int).tdiv 64=(q:Int):=by rw[Int.tdiv_eq_ediv_of_nonneg (by omega)];omega
 have e2:(p:Int).tmod 64=(r:Int):=by rw[Int.tmod_eq_emod_of_nonneg (by omega)];omega
 have w1:IntKind.i64.wrap (q:Int)=q:=IntWalk.i64_in _ (by omega);have w2:IntKind.i64.wrap (r:Int)=r:=IntWalk.i64_in _ (by omega);have q7i:(q:Int)<7:=by omega
 have r0i:¬ ((r:Int)<0):=by omega
 have jY:sP s p=(s q).getLsbD r:=by unfold sP;rw[<-hq, <-hr]
 rw[jY];clear jY hq hr h;go_enter Tryz.func210,Tryz.ntmps210;go_wp2;go_ret;exact⟨congrArg (fun b=>Ending.returned (.bool b)) (zQ (s q) r),rfl⟩
def jM (s:Nat->BitVec 64) (p:Nat):Nat->BitVec 64:=fun i=>if i=p/64 then s i ||| (1#64 <<< (p%64))else s i
theorem Up (s:Nat->BitVec 64) (p:Nat) {x:Nat} :sP (jM s p) x=(sP s x || (x==p)):=by
 unfold sP jM;by_cases h:x/64=p/64
 ·rw[if_pos h,BitVec.getLsbD_or]
  congr 1
  rw[BitVec.getLsbD_shiftLeft];have hx:x%64<64:=by omega
  by_cases e:x=p
  ·subst e;simp[hx]
  ·have h1:x%64≠p%64:=by omega
   rw[show(x==p)=false from by simpa using e];simp only[hx,decide_true,Bool.true_and];by_cases h2:x%64<p%64
   ·simp[h2]
   ·simp[h2,show x%64-p%64≠0 by omega]
 ·rw[if_neg h,show(x==p)=false from by rw[beq_eq_false_iff_ne];intro e;subst e;exact h rfl,Bool.or_false]
theorem Qd (s:Nat->BitVec 64) {p:Nat} (hp:p<448):(cE s).setIfInBounds (p/64) (.int .u64 (s (p/64) ||| (1#64 <<< (p%64))).toNat)=cE (jM s p):=by
 obtain⟨q,hq⟩:=ag (p/64);have h7:q<7:=by omega
 unfold jM;rw[<-hq];match q,h7 with
 | 0,_=>rfl
 | 1,_=>rfl
 | 2,_=>rfl
 | 3,_=>rfl
 | 4,_=>rfl
 | 5,_=>rfl
 | 6,_=>rfl
theorem Ik (n:Nat):(1#64 <<< n)=BitVec.twoPow 64 n:=rfl
theorem nC (s:Nat->BitVec 64) (b p:Nat) (hp:p<448) (w:World) (h:ar w b (cE s) 179): ah 201 #[.pointer (some ⟨b,0,none⟩),.int .i64 p] w fun e w'=>(∃ u,e=.returned u)/\ar w' b (cE (jM s p)) 179/\ae (fun x=>x<w.heap.size/\x≠b) w w':=by
 have hput:=Qd s hp;obtain⟨q,hq⟩:=ag (p/64);obtain⟨r,hr⟩:=ag (p%64);have Qb:q<7:=by omega
 have Qc:r<64:=by omega
 have c1:w.cell? ⟨b,q,none⟩=some (.int .u64 (s q).toNat):=(h.cell q).trans (kY s Qb);have z1:w.frozen? ⟨b,q,none⟩=false:=h.frozen q;have e1:(p:Int).tdiv 64=(q:Int):=by rw[Int.tdiv_eq_ediv_of_nonneg (by omega)];omega
 have e2:(p:Int).tmod 64=(r:Int):=by rw[Int.tmod_eq_emod_of_nonneg (by omega)];omega
 have w1:IntKind.i64.wrap (q:Int)=q:=IntWalk.i64_in _ (by omega);have w2:IntKind.i64.wrap (r:Int)=r:=IntWalk.i64_in _ (by omega);have q7i:(q:Int)<7:=by omega
 have r0i:¬ ((r:Int)<0):=by omega
 have q0i:¬ ((q:Int)<0):=by omega
 rw[<-hq, <-hr]at hput;rw[Ik]at hput;have kE:=Hj (s q) Qc;have HP:=hid hput;have H:=hid h;clear hq hr h hput;go_enter Tryz.func201,Tryz.ntmps201;go_wp2;refine aK false (fun _=>False) (by kernel_rfl) 11 [0,0,2,1,15,31,0,64,192,511,1,2047,4095] (fun i=>i==12) (by kernel_rfl) (fun _=>aZ.any _) ?_;intro C hC hne;have HC:=hid hC;have hbl:=H.out.lt;have f1:=aC hC (p:=⟨b,q,none⟩) hbl (fun h=>h) c1;clear hC c1
 repeat (refine au (fun K hK=>?_);first | (refine bX rfl ?_;try go_simp;refine hK _ _ ?_;clear hK K) | (refine bR rfl rfl ?_;unfold aB;go_simp;refine hK _ _ ?_;clear hK K))
 refine bG (fun W hW hH=>?_);have hM:=((HC.out W).1 hW);have HB:=hid (H.out.below hM.below H.out.lt);have HX:=hid hM.below;have c2:W.cell? ⟨b,q,none⟩=some (.int .u64 (s q).toNat):=(HB.out.cell q).trans (kY s Qb);have z2:W.frozen? ⟨b,q,none⟩=false:=HB.out.frozen q;clear hM hW hH HC hne f1 z1;go_wp2;have hval:((s q).toNat ||| 2^r%18446744073709551616)=(s q ||| BitVec.twoPow 64 r).toNat:=by rw[BitVec.toNat_or,BitVec.toNat_twoPow]
 refine bodyPost_end (v:=.tuple #[]) (by simp[results,Tryz.results201,go_sem]) rfl ⟨⟨_,rfl⟩,?_,?_⟩
 ·rw[hval]
  have hb:=HB.out.set q (.int .u64 (s q ||| BitVec.twoPow 64 r).toNat);rw[HP.out]at hb;exact hb
 ·exact(ae.ak HX.out fun _ hx=>hx.1:ae (fun x=>x<w.heap.size/\x≠b) w W).setCell (p:=⟨b,q,none⟩) (fun h=>h.2 rfl) _
attribute [local go_sem] cE
def setW (l:List Nat):Nat->BitVec 64:=l.foldl jM fun _=>0
theorem sQ (l:List Nat) (p:Nat):setW (l++ [p])=jM (setW l) p:=by unfold setW;rw[List.foldl_append];rfl
theorem Ki (l:List Nat) (x:Nat):sP (setW l) x=l.contains x:=by
 have h:∀ (l:List Nat) (s:Nat->BitVec 64),sP (l.foldl jM s) x=(sP s x || l.contains x):=by
  intro l;induction l with
  | nil=>intro s;simp
  | cons p l ih=>
   intro s;rw[List.foldl_cons,ih,Up,List.contains_cons,Bool.or_assoc]
 unfold setW;rw[h];simp[sP]
theorem EA (v:Value) (l:List Nat) (w:World) (h:bZ (fun p:Nat=>.int .i64 p) w v l) (hl:∀ p∈l,p<448) (hn:l.length<=1000000): ah 229 #[v] w fun e w'=>e=.returned (.agg (cE (setW l)))/\aa w w':=by
 obtain⟨a,cap,rfl⟩:=h.form;obtain⟨n,iY⟩:=ag l.length;rw[<-iY]at h hn ⊢;have H:=hid h;have HN:=hid iY;have HL:=hid hl;clear h iY hl;go_enter Tryz.func229,Tryz.ntmps229;go_wp2;refine ax ?_;intro V hV;have B1:Hid (ar V w.heap.size (cE fun _=>0) 179):=hid (by rw[hV];exact(ar.new w _ _).alloc _);have B2:Hid (ar V (w.heap.size+1) (cE fun _=>0) 179):=hid (by rw[hV];exact(ar.new _ _ _).at (by simp));have X1:Hid (aa w V):=hid (by rw[hV];exact(((Ext.refl w).alloc _).alloc _).below);clear hV;go_loopw [8] (fun iv wr=>∃ k:Nat,k<=n/\iv=.int .i64 k/\ar wr (w.heap.size+1) (cE (setW (l.take k))) 179/\ae (fun x=>x<V.heap.size/\x≠w.heap.size+1) V wr) (fun iv _=>n-(intOf iv).toNat);case atStart=>exact⟨0,by omega,rfl,B2.out,ae.refl _ _⟩
 case round=>
  obtain⟨k,hk,rfl,hb,hx⟩:=hrel;have HB:=hid hb;have HX:=hid hx;have XX:Hid (aa w wr):=hid (X1.out.trans (hx.mono fun x yV=>⟨aA yV X1.out.size,by have:x<w.heap.size:=yV;omega⟩:ae (· <w.heap.size) V wr).below);clear hb hx;by_cases hlt:k<n
  ·obtain⟨p,hp⟩:∃ p,l[k]? =some p:=⟨_,az (by have:=HN.out;omega)⟩
   obtain⟨g,off,rfl,hg,c1⟩:=(H.out.below XX.out).elem hp;replace c1:wr.cell? ⟨g,off+k,none⟩=some (.int .i64 p):=c1;have eG:(k:Int)<n:=by omega
   have HP:=hid hp;have hp4:=HL.out p (aw hp);clear hp;go_wp2_with fail
   clear c1;refine(nC _ _ p hp4 wr HB.out).mono ?_;rintro e w2 ⟨⟨u,rfl⟩,hb2,hx2⟩;have iV:=hid hb2;have fK:=hid (HX.out.trans hx2 fun x yV=>⟨aA yV.1 HX.out.size,yV.2⟩);clear hb2 hx2;go_wp2;exact⟨⟨k+1,by omega,by go_num,by rw[List.take_add_one,HP.out];show ar _ _ (cE (setW (l.take k++ [p]))) _;rw[sQ];exact iV.out,fK.out⟩,by simp[intOf];omega⟩
  ·have tD:k=n:=by omega
   have Ii:¬ ((k:Int)<n):=by omega
   have fD:l.take k=l:=by rw[tD,HN.out,List.take_length]
   rw[fD]at HB;obtain⟨S,hS⟩:=ag (setW l);rw[<-hS]at HB;have HS:=hid hS;have R0:=hid (B1.out.keeps HX.out ⟨B1.out.lt,by omega⟩);have c0:wr.cell? ⟨w.heap.size+1,0,none⟩=some (.int .u64 (S 0).toNat):=HB.out.cell 0;have r0:wr.cell? ⟨w.heap.size,0,none⟩=some (.int .u64 0):=R0.out.cell 0;have c1:wr.cell? ⟨w.heap.size+1,1,none⟩=some (.int .u64 (S 1).toNat):=HB.out.cell 1;have r1:wr.cell? ⟨w.heap.size,1,none⟩=some (.int .u64 0):=R0.out.cell 1;have c2:wr.cell? ⟨w.heap.size+1,2,none⟩=some (.int .u64 (S 2).toNat):=HB.out.cell 2;have r2:wr.cell? ⟨w.heap.size,2,none⟩=some (.int .u64 0):=R0.out.cell 2;have c3:wr.cell? ⟨w.heap.size+1,3,none⟩=some (.int .u64 (S 3).toNat):=HB.out.cell 3;have r3:wr.cell? ⟨w.heap.size,3,none⟩=some (.int .u64 0):=R0.out.cell 3;have c4:wr.cell? ⟨w.heap.size+1,4,none⟩=some (.int .u64 (S 4).toNat):=HB.out.cell 4;have r4:wr.cell? ⟨w.heap.size,4,none⟩=some (.int .u64 0):=R0.out.cell 4;have c5:wr.cell? ⟨w.heap.size+1,5,none⟩=some (.int .u64 (S 5).toNat):=HB.out.cell 5;have r5:wr.cell? ⟨w.heap.size,5,none⟩=some (.int .u64 0):=R0.out.cell 5;have c6:wr.cell? ⟨w.heap.size+1,6,none⟩=some (.int .u64 (S 6).toNat):=HB.out.cell 6;have r6:wr.cell? ⟨w.heap.size,6,none⟩=some (.int .u64 0):=R0.out.cell 6;have rf:=fun i=>R0.out.frozen i
   clear hS fD HL HN H;go_wp2;refine bodyPost_ret (v:=.agg (cE S)) ?_ rfl ⟨by rw[HS.out];rfl,?_⟩
   ·simp[results,Tryz.results229,go_sem,r0,r1,r2,r3,r4,r5,r6]
   ·refine XX.out.trans (ae.below (((((((ae.refl (· <w.heap.size) _).setCell ?_ _).setCell ?_ _).setCell ?_ _).setCell ?_ _).setCell ?_ _).setCell ?_ _ |>.setCell ?_ _))<;>(intro h;simp at h)
end
section
open Go Go.RowKit Go.Shelf Go.Maps
theorem Bw (x:Int) (em:Bool) (s:Nat->BitVec 64) (B b:Nat) (W:World) (hB:W.cell? ⟨B,4,none⟩=some (.bool em)) (hb:ar W b (cE s) 179) (hx:x= -1\/(0<=x/\x<448)): ah 230 #[.int .i64 x,.pointer (some ⟨B,0,none⟩),.pointer (some ⟨b,0,none⟩)] W fun e w'=>e=.returned (.bool (if x= -1 then em else sP s x.toNat))/\w'=W:=by
 by_cases h1:x= -1
 ·subst h1
  rw[if_pos rfl];cases em
  ·go_enter Tryz.func230,Tryz.ntmps230
   go_wp2;go_ret;exact⟨rfl,rfl⟩
  ·go_enter Tryz.func230,Tryz.ntmps230
   go_wp2;go_ret;exact⟨rfl,rfl⟩
 ·rw[if_neg h1]
  obtain⟨p,rfl⟩:∃ p:Nat,x=p:=⟨x.toNat,by omega⟩;have hp:p<448:=by omega
  have d1:((p:Int)== -1)=false:=by rw[beq_eq_false_iff_ne];omega
  have d2:((p:Int) != -1)=true:=by rw[bne_iff_ne];omega
  have CH:=hid (tU s b p hp W hb);rw[Int.toNat_natCast];clear h1 hx hb;go_enter Tryz.func230,Tryz.ntmps230;go_wp2_with fail
  refine CH.out.mono ?_;rintro e w2 ⟨rfl,hw⟩;replace hw:=hw.symm;subst hw;go_wp2;go_ret;exact⟨rfl,rfl⟩
theorem wC (g:Nat) (lb:Array Value) (f:Int->Bool) (v:Value) (l:List Int) (w:World) (h:bZ aN w v l) (hn:l.length<=1000000) (eg:∀ args w,(callFunc g args).run Tryz.prog w=.ok (.enter g args) w) (hf:∀ s∈l,∀ W,aa w W->ah g (#[.int .i64 s]++lb) W fun e w'=>e=.returned (.bool (f s))/\w'=W): ah 120 #[v,.func (.func g) #[] lb] w fun e w'=>e=.returned (.int .i64 (eI f l))/\w'=w:=by
 obtain⟨a,cap,rfl⟩:=h.form;obtain⟨n,iY⟩:=ag l.length;rw[<-iY]at h hn ⊢;have H:=hid h;have HN:=hid iY;have HF:=hid fun s hs=>hf s hs w (Below.refl _ _)
 obtain⟨r,hr⟩:=ag (eI f l);rw[<-hr];have HR:=hid hr;clear h iY hf hr;go_enter Tryz.func120,Tryz.ntmps120;go_wp2
 go_loop [8] (fun i=>∃ k:Nat,k<=n/\i=.int .i64 k/\(∀ s∈l.take k,f s=false)) (fun i=>n-(intOf i).toNat)
 case atStart=>exact⟨0,by omega,rfl,fun s hs=>by simp at hs⟩
 case round=>
  obtain⟨k,hk,rfl,ha⟩:=hrel;by_cases hlt:k<n
  ·obtain⟨s,hs⟩:∃ s,l[k]? =some s:=⟨_,az (by have:=HN.out;omega)⟩
   obtain⟨b,off,rfl,hb,d0⟩:=H.out.elem hs;have d0':w.cell? ⟨b,off+k,none⟩=some (.int .i64 s):=d0;have H5:=hid (HF.out s (aw hs));have HA:=hid ha;have HS:=hid hs;clear ha hs d0;obtain⟨b1,hb1⟩:=ag (f s);rw[<-hb1]at H5;have qD:=hid hb1;clear hb1;cases b1 with
   | true=>
    have ig:=hid (HR.out.trans (km HS.out qD.out.symm HA.out));go_wp2;refine H5.out.mono ?_;rintro e w2 ⟨rfl,hw⟩;replace hw:=hw.symm;subst hw;go_wp2;go_ret;exact⟨by rw[ig.out];rfl,rfl⟩
   | false=>
    go_wp2;refine H5.out.mono ?_;rintro e w2 ⟨rfl,hw⟩;replace hw:=hw.symm;subst hw;go_wp2
    go_round
    case rel=>exact⟨k+1,by omega,by go_num,oq HS.out qD.out.symm HA.out⟩
    case measure=>simp[intOf];omega
  ·obtain rfl:k=n:=by omega
   have ig:=hid (HR.out.trans (kp fun y hy=>ha y (by rw[HN.out,List.take_length];exact hy)));clear ha;go_wp2;go_ret;exact⟨by rw[ig.out];rfl,rfl⟩
theorem rA (g:Nat) (lb:Array Value) (f:Int->Bool) (v:Value) (l:List Int) (w:World) (h:bZ aN w v l) (hn:l.length<=1000000) (eg:∀ args w,(callFunc g args).run Tryz.prog w=.ok (.enter g args) w) (hf:∀ s∈l,∀ W,aa w W->ah g (#[.int .i64 s]++lb) W fun e w'=>e=.returned (.bool (f s))/\w'=W): ah 65 #[v,.func (.func g) #[] lb] w fun e w'=>e=.returned (.bool (l.any f))/\w'=w:=by have HI:=hid (wC g lb f v l w h hn eg hf);rw[<-lM];obtain⟨a,cap,rfl⟩:=h.form;clear h hf eg;generalize eI f l=z at HI ⊢;go_enter Tryz.func65,Tryz.ntmps65;go_wp2_with (go_at_call 120;refine HI.out.mono ?_;rintro e w2 ⟨rfl,hw⟩;replace hw:=hw.symm;subst hw);go_ret;exact⟨rfl,rfl⟩
def dJ (s:Nat->BitVec 64) (n:Nat):List Nat:=(List.range n).filter (sP s)
theorem sR (s:Nat->BitVec 64) (k:Nat):dJ s (k+1)=dJ s k++if sP s k then [k]else []:=by unfold dJ;rw[List.range_succ,List.filter_append];by_cases h:sP s k=true<;>simp[h]
theorem tV (s:Nat->BitVec 64) {k n:Nat} (h:k<=n):dJ s k<+:dJ s n:=by
 induction n with
 | zero=>rw[show k=0 from by omega];exact List.prefix_rfl
 | succ n ih=>
  by_cases hk:k=n+1
  ·subst hk;exact List.prefix_rfl
  ·exact(ih (by omega)).trans (by rw[sR];exact List.prefix_append _ _)
theorem EB (s:Nat->BitVec 64) (n:Nat):(dJ s n).length<=n:=by unfold dJ;exact Nat.le_trans (List.length_filter_le _ _) (by simp)
def NF.on (a:NF) (c q:Nat):Bool:=(a.aL.getD q 0).getLsbD c
def lR (a:NF) (c:Nat) (l:List Int):List Nat:=(l.map Int.toNat).filter (a.on c)
theorem zR (a:NF) (c:Nat) (l:List Int) (q:Int):lR a c (l++ [q])=lR a c l++if a.on c q.toNat then [q.toNat]else []:=by unfold lR;rw[List.map_append,List.filter_append];by_cases h:a.on c q.toNat=true<;>simp[h]
def fG (a:NF) (c:Nat) (l:List Int):List Nat:=l.flatMap fun p=>lR a c (a.pS p)
theorem Il (a:NF) (c:Nat) (l:List Int) (p:Int):fG a c (l++ [p])=fG a c l++lR a c (a.pS p):=by unfold fG;rw[List.flatMap_append];simp
theorem Nt.Qe {a:NF} (h:Nt a) {l:List Int} (hl:a.st l=true) {p:Int} (hp:p∈l):dT 0 ((a.aL.length:Int)-1) (a.pS p)=true:=by
 have h1:=(dU hl).2 p hp;unfold NF.pS;split
 ·exact h.fst
 ·exact h.row _ (by omega)
theorem Mi {a:NF} (h:Nt a) {l:List Int} (hl:a.st l=true) (c:Nat):(dJ (setW (fG a c l)) 448).map Int.ofNat=a.step l c:=by
 have jY:∀ q,sP (setW (fG a c l)) q=(decide (q<a.aL.length)&&a.hit l c q):=by
  intro q;rw[Ki,Bool.eq_iff_iff,List.contains_iff_mem,Bool.and_eq_true,decide_eq_true_eq];unfold fG NF.hit lR;rw[List.mem_flatMap,List.any_eq_true];constructor
  ·rintro⟨p,hp,hq⟩
   rw[List.mem_filter,List.mem_map]at hq;obtain⟨⟨x,hx,rfl⟩,hon⟩:=hq;have h2:=(dU (h.Qe hl hp)).2 x hx;refine⟨by omega,p,hp,?_⟩;rw[Bool.and_eq_true,List.contains_iff_mem,Int.toNat_of_nonneg h2.1];exact⟨hx,hon⟩
  ·rintro⟨hq,p,hp,h3⟩
   rw[Bool.and_eq_true,List.contains_iff_mem]at h3;exact⟨p,hp,List.mem_filter.2 ⟨List.mem_map.2 ⟨_,h3.1,by simp⟩,h3.2⟩⟩
 have hle:=h.le;unfold NF.step dJ;congr 1;obtain⟨m,hm⟩:∃ m,448=a.aL.length+m:=⟨448-a.aL.length,by omega⟩;rw[hm,List.range_add,List.filter_append];have e2:(List.map (fun x=>a.aL.length+x) (List.range m)).filter (sP (setW (fG a c l)))=[]:=by rw[List.filter_eq_nil_iff];intro x hx;obtain⟨y,_,rfl⟩:=List.mem_map.1 hx;rw[jY,decide_eq_false (show ¬a.aL.length+y<a.aL.length by omega)];simp
 rw[e2,List.append_nil];refine List.filter_congr fun q hq=>?_
 rw[jY,decide_eq_true (List.mem_range.1 hq),Bool.true_and]
attribute [local go_sem] encS Oper.semAt_some gJ dB
def wD (p:Nat):Value:=.int .i64 (p:Int)
theorem wE {d:Bool} {gf:Nat} {lb:Array Value} {R:Nat->Prop} (xs:List Nat) (w:World) (hseq:Seq d Tryz.prog gf lb (fun c:Nat=> #[.int .i64 (c:Int)]) R xs w) (eg:∀ args w,(callFunc gf args).run Tryz.prog w=.ok (.enter gf args) w) (hR:∀ k,R k->k<w.heap.size) (hn:xs.length<=1000000): ah 208 #[.slice none 0 0,.func (.func gf) #[] lb] w fun e w'=>∃ v,e=.returned v/\w'.ownsRow w.heap.size 3 1 v xs.length (xs.map wD)/\aa w w':=by
 obtain⟨i0,hi,hz0,hz1,hz2⟩:=info_parts Tryz.mB;refine cq Tryz.func208 rfl ?_;simp only[Tryz.ntmps208,List.size_toArray,List.length_cons,List.length_nil,Nat.reduceAdd,Nat.reduceSub,Array.replicate_succ,Array.replicate_zero,List.push_toArray,List.append_toArray,List.nil_append,List.cons_append];go_wp2;refine ax ?_;intro W0 hW0;have h1:ar W0 w.heap.size #[.slice none 0 0] 39:=by rw[hW0];exact ar.new _ _ _
 have hx:Ext w W0:=by rw[hW0];exact(Ext.refl w).alloc _
 have hsz:W0.heap.size=w.heap.size+1:=by rw[hW0];simp
 refine iw (w:=W0) (hseq.at hx.keeps) (by rfl) eg (by intro _;rfl) (by intro k hk;have:=hR k hk;omega)
  (fun xs T W=>∃ v,ar W w.heap.size #[v] 39/\W.ownsRow (w.heap.size+1) 3 1 v xs.length (xs.map wD)/\(∀ k,v.ownBlock=some k->¬T k)/\aa w W)
  (fun _ _ _ _=>False)
  ?_
  (fun c xs T T' W W' h=>h.elim)
  ⟨_,h1,World.ownsRow_nil _ _ _ _,fun _ _ h=>h,hx.below⟩
  (fun x=>⟨#[.slice none 0 0,.func (.func gf) #[] lb,.pointer (some ⟨w.heap.size,0,none⟩),undef,.slice none 0 0,.int .i64 (x:Int),.func (.func gf) #[] lb,.int .i64 (x:Int),undef,undef,undef,undef,undef],[]⟩) ?assign ?body ?done ?stop
 ·intro xs T T' W W' ⟨v,g1,g2,g3,g4⟩ hT Pk hs hn hk
  refine⟨v,g1.mS hT hk (by omega),ai g2 hk.1 (fun k e=>⟨(g2.lt k e).2,g3 k e⟩),fun k e ht=>?_,iu g4 hT hk (aD _) (by omega)⟩;rcases hn k ht with h | h
  ·exact g3 k e h
  ·have:=(g2.lt k e).2;omega
 case assign=>
  intro l x W K hK
  gi_wp2
  exact hK
 case body=>
  rintro l pre x T W bO hT _ yF hl ⟨v,g1,g2,g3,g4⟩;have c1:W.cell? ⟨w.heap.size,0,none⟩=some v:=g1.cell 0;have f1:=g1.frozen 0;have hlen:pre.length<xs.length:=by obtain⟨r,hr⟩:=bO;rw[<-hr];simp
  have G1:=hid g1;have G3:=hid g3;have G4:=hid g4;have lI:=hid hsz;have HT:=hid hT;clear g1 g3 g4 hsz hW0 hT hl yF
  gi_wp2_with (gi_at_builtin;refine wpListIn_append_own_at _ rfl _ _ 39 rfl (w.heap.size+1) 3 i0 (.int .i64 0) 1 8 Tryz.underlying39 hi hz0 hz1 hz2 rfl (by decide) _ _ _ rfl (g2.alloc _) ⟨W.heap.size,0,none⟩ 1 1 [wD x] rfl rfl (cell_one_new _ _ _) (by simp[Value.oneCell',wD]) (by unfold maxLen;omega) (by omega) (by have h1:=G4.out.size;have h2:=lI.out;have h3:=G1.out.lt;simp;omega) ?_;intro v' w1 hown' hgrow hh hat;obtain⟨g',cap',rfl⟩:=ownsRow_succ hown';have hb1:=(G1.out.alloc (.cells #[.int .i64 (x:Int)] 3 (0,0))).grown hgrow (fun e=>by have:=(g2.lt _ e.symm).1;omega);have c2:=hb1.cell 0;have f2:=hb1.frozen 0;have HB:=hid hb1;have HO:=hid hown';have HG:=hid hgrow;have H2:=hid g2;have LL:=hid hat;clear hown' hgrow hb1 g2 hh hat)
  have hgT:¬T g':=fun ht=>by
   rcases LL.out with h | h
   ·exact G3.out g' h.symm ht
   ·have h1:=(HT.out g' ht).2;simp[Value.ownBlock]at h;omega
  have Xq:∀ k,(R k\/T k)->k<W.heap.size/\some k≠v.ownBlock:=fun k hk=>by
   refine⟨?_,fun e=>?_⟩
   ·rcases hk with hk | hk
    ·have h1:=hR k hk;have h2:=G4.out.size;omega
    ·exact(HT.out k hk).2
   ·rcases hk with hk | hk
    ·have h1:=hR k hk;have h2:=(H2.out.lt k e.symm).1;omega
    ·exact G3.out k e.symm hk
  have iK:ae (fun k=>R k\/T k) W w1:=(((ae.refl _ W).alloc (fun k hk=>(Xq k hk).1) _)).tr (ae.bw HG.out fun k hk=>⟨by have:=(Xq k hk).1;simp;omega,(Xq k hk).2⟩);have zD:∀ k,(R k\/T k)->k≠w.heap.size:=fun k hk=>by
   rcases hk with hk | hk
   ·have h1:=hR k hk;omega
   ·have h1:=(HT.out k hk).1;have h2:=lI.out;omega
  refine⟨iK.setCell (fun h=>zD _ h rfl) _,_,HB.out.set 0 _,?_,fun k e=>?_,?_⟩
  ·rw[aG,List.map_append]
   exact ai HO.out ((ae.refl (fun k=>k≠w.heap.size) _).setCell (by simp) _) (fun k e=>by have:=(HO.out.lt k e).1;omega)
  ·simp[Value.ownBlock]at e;subst e;exact hgT
  ·exact((G4.out.alloc (by exact G4.out.size) _).grown HG.out (by have:=G4.out.size;simp;omega) (fun k e=>by have:=(H2.out.lt k e).1;omega)).setCell (aD _) _
 case done=>
  rintro D T W hD yI hT ⟨v,g1,g2,g3,g4⟩ mI;have c1:W.cell? ⟨w.heap.size,0,none⟩=some v:=g1.cell 0;have G2:=hid g2;have G4:=hid g4;have HD:=hid hD;have lI:=hid hsz;have yx:=hid mI;clear g1 g2 g3 g4 hsz hW0 hT yI mI hD;dsimp only;go_wp2;refine dn rfl yx.out (results_tmp rfl _ _ _) ⟨v,rfl,ownsRow_putObj (aF G2.out (by omega)) _ yx.out rfl,((ae.ak G4.out (fun _ h=>h)).putObj (by have:=HD.out;have:=lI.out;omega) _).below⟩
 case stop=>rintro D c pre T W _ _ _ _ h _;exact h.elim
theorem rB {d:Bool} {gf:Nat} {lb:Array Value} {R:Nat->Prop} (xs:List Nat) (w:World) (hseq:Seq d Tryz.prog gf lb (fun c:Nat=> #[.int .i64 (c:Int)]) R xs w) (eg:∀ args w,(callFunc gf args).run Tryz.prog w=.ok (.enter gf args) w) (hR:∀ k,R k->k<w.heap.size) (hn:xs.length<=1000000): ah 164 #[.func (.func gf) #[] lb] w fun e w'=>∃ v,e=.returned v/\w'.ownsRow w.heap.size 3 1 v xs.length (xs.map wD)/\aa w w':=by have H:=hid (wE xs w hseq eg hR hn);clear hseq eg;go_enter Tryz.func164,Tryz.ntmps164;go_wp2_with (go_at_call 208;refine H.out.mono ?_;rintro e w1 ⟨v,rfl,h1,h2⟩;have H1:=hid h1;have H2:=hid h2;clear h1 h2);go_ret;exact⟨v,rfl,H1.out,H2.out⟩
end
section
open Go Go.RowKit Go.Shelf Go.Maps
attribute [local go_sem] Oper.semAt_some gJ dB
theorem EC (s:Nat->BitVec 64) (B b:Nat) (w:World) (hB:ar w B #[.pointer (some ⟨b,0,none⟩)] 255) (hb0:ar w b (cE s) 179):Seq true Tryz.prog 209 #[.pointer (some ⟨B,0,none⟩)] (fun p:Nat=> #[.int .i64 (p:Int)]) (fun k=>k=B\/k=b) (dJ s 448) w:=by
 intro l J Jx W hK hJ Xo hY h0;have HY:=hid hY;have HH:=hid (tU s b);clear hY;have B0:=hB.keeps hK hB.lt;have B1:=hb0.keeps hK hb0.lt;clear hB hb0;refine callsIn_wide (n:=0).1 ?_;refine callsIn_of_wp Tryz.func209 rfl trivial ?_ rfl;simp only[Tryz.ntmps209,List.size_toArray,List.length_cons,List.length_nil,Nat.reduceAdd,Nat.reduceSub,Array.replicate_succ,Array.replicate_zero,List.push_toArray,List.append_toArray,List.nil_append,List.cons_append]
 gi_wp2
 gi_loopw [4] (fun i wr=>∃ (k:Nat) (T:Nat->Prop),k<=448/\i=.int .i64 k/\ar wr B #[.pointer (some ⟨b,0,none⟩)] 255/\ar wr b (cE s) 179/\J (dJ s k) T wr/\(∀ k,T k->W.heap.size<=k/\k<wr.heap.size)/\ae (fun k=>k=B\/k=b) W wr)
  (fun i _=>448-(intOf i).toNat)
 case atStart=>
  exact⟨0,fun _=>False,by omega,rfl,B0,B1,h0,fun _ h=>h.elim,ae.refl _ _⟩
 case round=>
  obtain⟨k,T,hk,rfl,hB,hb,hj,hT,hR⟩:=hrel;by_cases hlt:k<448
  ·have c0:wr.cell? ⟨B,0,none⟩=some (.pointer (some ⟨b,0,none⟩)):=hB.cell 0
   have Uq:=hid hB;have HB:=hid hb;have HJ:=hid hj;have HT:=hid hT;have HR:=hid hR;clear hB hb hj hT hR B0 B1;have bO:=sR s k;by_cases iU:sP s k=true
   ·rw[if_pos iU]at bO
    have HP:=hid bO;have Ob:dJ s k++ [k]<+:dJ s 448:=by rw[<-bO];exact tV s (by omega)
    have Pj:=hid Ob;have h1:ah 210 #[.pointer (some ⟨b,0,none⟩),.int .i64 k] wr fun e w'=>e=.returned (.bool true)/\w'=wr:=by have:=HH.out k hlt wr HB.out;rwa[iU]at this
    have H1:=hid h1;clear bO Ob h1 iU HH
    gi_wp2_with (gi_at_call 210;refine(callsIn_wide.2 H1.out).mono ?_;rintro e w1 ⟨rfl,hw⟩;replace hw:=hw.symm;subst hw;obtain⟨fn,tm,DB,bd,hy,DZ⟩:=HY.out (dJ s k) k T _ Pj.out HT.out HR.out HJ.out;have Oc:=hid DZ;clear DZ)
    refine Oc.out.mono ?_;rintro e W2 (⟨rfl,kR,hk2⟩ | ⟨rfl,kR,hk2⟩)
    ·have vd:=hid kR
     have pN:=hid hk2;clear kR hk2 hy
     gi_wp2
     go_roundw
     case rel=>
      refine⟨k+1,T,by omega,by go_num,?_,?_,?_,?_,?_⟩
      ·exact Uq.out.keeps pN.out (.inl (.inl rfl))
      ·exact HB.out.keeps pN.out (.inl (.inr rfl))
      ·rw[HP.out];exact vd.out
      ·exact fun j hj=>⟨(HT.out j hj).1,aA (HT.out j hj).2 pN.out.size⟩
      ·exact HR.out.tr (pN.out.mono fun j hj=>.inl hj)
     case measure=>simp[intOf];omega
    ·have vd:=hid kR
     have pN:=hid hk2;clear kR hk2 hy
     gi_wp2
     refine bodyPost_ret (results_none rfl _ _ _) rfl ?_;exact⟨⟨_,rfl⟩,T,fun j hj=>⟨(HT.out j hj).1,aA (HT.out j hj).2 pN.out.size⟩,.inr ⟨_,Pj.out,vd.out⟩⟩
   ·have tG:sP s k=false:=by simpa using iU
    rw[if_neg iU,List.append_nil]at bO;have HP:=hid bO;have h1:ah 210 #[.pointer (some ⟨b,0,none⟩),.int .i64 k] wr fun e w'=>e=.returned (.bool false)/\w'=wr:=by have:=HH.out k hlt wr HB.out;rwa[tG]at this
    have H1:=hid h1;clear bO h1 iU tG HH
    gi_wp2_with (gi_at_call 210;refine(callsIn_wide.2 H1.out).mono ?_;rintro e w1 ⟨rfl,hw⟩;replace hw:=hw.symm;subst hw)
    go_roundw
    case rel=>
     refine⟨k+1,T,by omega,by go_num,Uq.out,HB.out,?_,HT.out,HR.out⟩;rw[HP.out];exact HJ.out
    case measure=>simp[intOf];omega
  ·obtain rfl:k=448:=by omega
   gi_wp2
   refine bodyPost_end (results_none rfl _ _ _) rfl ?_;exact⟨⟨_,rfl⟩,T,hT,.inl hj⟩
theorem Bx (b:Nat) (w:World):ah 165 #[.pointer (some ⟨b,0,none⟩)] w fun e w'=>e=.returned (.func (.func 209) #[] #[.pointer (some ⟨w.heap.size,0,none⟩)])/\w'=w.alloc (.cells #[.pointer (some ⟨b,0,none⟩)] 255 (0,0)):=by
 go_enter Tryz.func165,Tryz.ntmps165
 go_wp2;go_ret;exact⟨rfl,rfl⟩
theorem Bz (s:Nat->BitVec 64) (b:Nat) (w:World) (hb:ar w b (cE s) 179): ah 103 #[.pointer (some ⟨b,0,none⟩)] w fun e w'=>∃ v,e=.returned v/\w'.ownsRow w.heap.size 3 1 v (dJ s 448).length ((dJ s 448).map wD)/\aa w w':=by
 have eg:∀ args w,(callFunc 209 args).run Tryz.prog w=.ok (.enter 209 args) w:=enters_of Tryz.func209 (by kernel_rfl) rfl;have hlen:(dJ s 448).length<=1000000:=Nat.le_trans (EB _ _) (by decide);have H:Hid (∀ (W:World) (B:Nat),ar W B #[.pointer (some ⟨b,0,none⟩)] 255->ar W b (cE s) 179->ah 164 #[.func (.func 209) #[] #[.pointer (some ⟨B,0,none⟩)]] W fun e w'=>∃ v,e=.returned v/\w'.ownsRow W.heap.size 3 1 v (dJ s 448).length ((dJ s 448).map wD)/\aa W w'):=
  fun W B hB hb=>rB _ W (EC s B b W hB hb) eg (fun k hk=>hk.elim (fun e=>by rw[e];exact hB.lt) (fun e=>by rw[e];exact hb.lt)) hlen
 have HB:=hid hb;clear eg hlen hb;generalize dJ s 448=xs at H ⊢;go_enter Tryz.func103,Tryz.ntmps103;go_wp2_with (first | (go_at_call 165;refine(Bx b _).mono ?_;rintro e w1 ⟨rfl,rfl⟩) | (go_at_call 164;refine(H.out _ _ ((ar.new _ _ _).at (by simp)) (HB.out.alloc _)).mono ?_;rintro e w1 ⟨v,rfl,h1,h2⟩;have H1:=hid h1;have H2:=hid h2;clear h1 h2));go_ret;refine⟨v,rfl,aF H1.out (by simp),?_⟩;exact((Ext.refl w).alloc _).below.trans (H2.out.mono (by simp))
end
section
open Go Go.RowKit Go.Shelf Go.Maps
theorem bZ.pos {w:World} {v:Value} {l:List Int} (h:bZ aN w v l) (hp:∀ x∈l,0<=x):bZ (fun p:Nat=>.int .i64 p) w v (l.map Int.toNat):=by
 rcases h with⟨rfl,rfl⟩ | ⟨b,off,cap,rfl,hb,hc,h⟩
 ·exact .inl ⟨rfl,rfl⟩
 ·refine .inr ⟨b,off,cap,by rw[aQ],hb,by rw[aQ];exact hc,fun i p hi=>?_⟩
  rw[aO]at hi;obtain⟨x,hx,rfl⟩:=Option.map_eq_some_iff.1 hi;have e:=Int.toNat_of_nonneg (hp x (aw hx));rw[h i x hx];show some (Value.int .i64 x)=some (Value.int .i64 (x.toNat:Int));rw[e]
theorem Ur:∀ args w,(callFunc 230 args).run Tryz.prog w=.ok (.enter 230 args) w:=fun args w=>by kernel_rfl
theorem BB (v u:Value) (a:NF) (rt:Nt a) (l:List Int) (hst:a.st l=true) (w:World) (h:kX w v a) (sm:PZ a) (hu:bZ aN w u l) (hl:l.length<=1000000): ah 190 #[v,u] w fun e w'=>e=.returned (.bool (a.acc l))/\aa w w':=by
 have Us:=(dU rt.cR).2;have hle:=rt.le;have CS:Hid (∀ W v,bZ aN W v a.cR->ah 229 #[v] W fun e w'=>e=.returned (.agg (cE (setW (a.cR.map Int.toNat))))/\aa W w'):=hid fun W v h=>EA v (a.cR.map Int.toNat) W (h.pos fun x hx=>(Us x hx).1) (fun p hp=>by obtain⟨x,hx,rfl⟩:=List.mem_map.1 hp;have:=Us x hx;omega) (by rw[aQ];exact sm.cR)
 have oP:∀ x:Int,0<=x->sP (setW (a.cR.map Int.toNat)) x.toNat=a.cR.contains x:=fun x hx=>by
  rw[Ki,Bool.eq_iff_iff,List.contains_iff_mem,List.contains_iff_mem,List.mem_map];constructor
  ·rintro⟨y,hy,e⟩
   have:=(Us y hy).1;obtain rfl:y=x:=by omega
   exact hy
  ·exact fun h=>⟨x,h,rfl⟩
 have CC:Hid (∀ W v' B b,bZ aN W v' l->W.cell? ⟨B,4,none⟩=some (.bool a.emp)->B<W.heap.size->ar W b (cE (setW (a.cR.map Int.toNat))) 179->ah 65 #[v',.func (.func 230) #[] #[.pointer (some ⟨B,0,none⟩),.pointer (some ⟨b,0,none⟩)]] W fun e w'=>e=.returned (.bool (a.acc l))/\w'=W):=hid fun W v' B b hv' hB hBl hb=>by
  refine rA 230 #[.pointer (some ⟨B,0,none⟩),.pointer (some ⟨b,0,none⟩)] a.Un v' l W hv' hl Ur fun x hx W' hk=>?_
  have Ut:=(dU hst).2 x hx
  have:=Bw x a.emp (setW (a.cR.map Int.toNat)) B b W' ((ae.ak hk (R:=(· <W.heap.size)) fun _ h=>h).cell (p:=⟨B,4,none⟩) hBl |>.trans hB) (hb.below hk hb.lt) (by
   rcases Int.lt_or_le x 0 with h1 | h1
   ·exact .inl (by omega)
   ·exact .inr ⟨h1,by omega⟩)
  have e:(if x= -1 then a.emp else sP (setW (a.cR.map Int.toNat)) x.toNat)=a.Un x:=by
   unfold NF.Un;split
   ·rfl
   ·exact oP x (by omega)
  rw[e]at this;exact this
 obtain⟨v0,v1,v2,v3,rfl,h0,h1,h2,h3⟩:=h;obtain⟨a3,c3,rfl⟩:=h3.form;obtain⟨ua,uc,rfl⟩:=hu.form;obtain⟨R,hR⟩:=ag (a.acc l);obtain⟨S,hS⟩:=ag (setW (a.cR.map Int.toNat));obtain⟨n3,GU⟩:=ag a.cR.length;obtain⟨m,hm⟩:=ag l.length;rw[<-hS]at CS CC;rw[<-hR]at CC ⊢;rw[<-GU]at h3 ⊢;rw[<-hm]at hu ⊢;have H3:=hid h3;have HU:=hid hu;clear h0 h1 h2 h3 hu hR hS GU hm sm rt Us oP hst hle;go_enter Tryz.func190,Tryz.ntmps190;go_wp2_with fail
 refine aH ?_;intro V hV;have B1:Hid (ar V w.heap.size #[v0,v1,v2,.slice a3 n3 c3,.bool a.emp] 118):=hid (by rw[hV];exact ar.new w _ _);have X1:Hid (aa w V):=hid (by rw[hV];exact((Ext.refl w).alloc _).below);clear hV;refine(CS.out V _ (H3.out.below X1.out)).mono ?_;rintro e w1 ⟨rfl,hx⟩;have B2:=hid (B1.out.below hx B1.out.lt);have X2:=hid (X1.out.trans (hx.mono X1.out.size));clear hx B1 X1 CS;have hst:=run_storeCells_new (P:=Tryz.prog) w1 179 #[.int .u64 0,.int .u64 0,.int .u64 0,.int .u64 0,.int .u64 0,.int .u64 0,.int .u64 0] (cE S) (by kernel_rfl) rfl (by simp[cE,Value.oneCell']);go_wp2_with fail
 refine aH ?_;intro V2 hV2;have b6:Hid (ar V2 w1.heap.size (cE S) 179):=hid (by rw[hV2];exact ar.new _ _ _);have XV:Hid (aa w1 V2):=hid (by rw[hV2];exact((Ext.refl w1).alloc _).below);clear hV2 hst;have i4:=(B2.out.below XV.out B2.out.lt).five.2.2.2.2;have hl:=(B2.out.below XV.out B2.out.lt).lt;refine(CC.out V2 _ _ _ (HU.out.below (X2.out.trans (XV.out.mono X2.out.size))) i4 hl b6.out).mono ?_;rintro e w' ⟨rfl,hw⟩;replace hw:=hw.symm;subst hw;go_wp2;go_ret;exact⟨rfl,X2.out.trans (XV.out.mono X2.out.size)⟩
theorem BH (v u:Value) (a:NF) (rt:Nt a) (l:List Int) (hst:a.st l=true) (w:World) (h:kX w v a) (sm:PZ a) (hu:bZ aN w u l) (hl:l.length<=1000000): ah 213 #[v,u] w fun e w'=>e=.returned (.tuple #[.bool (a.acc l),.int .i64 0])/\aa w w':=by
 have CK:Hid (∀ W,aa w W->ah 241 #[v,u] W fun e w'=>e=.returned (.int .i64 0)/\aa W w'):=hid fun W hW=>by
  have:=wB v u a l W (h.below hW) sm (hu.below hW) hl;have e:a.XT l=0:=by unfold NF.XT;rw[(eY a).2 rt,hst];rfl
  rwa[e]at this
 have CA:Hid (∀ W,aa w W->ah 190 #[v,u] W fun e w'=>e=.returned (.bool (a.acc l))/\aa W w'):=hid fun W hW=>BB v u a rt l hst W (h.below hW) sm (hu.below hW) hl
 obtain⟨a0,c0,a1,n1,c1,a2,n2,c2,a3,n3,c3,rfl⟩:=h.P8;generalize a.aL.length=n0 at*;generalize a.acc l=R at*;obtain⟨ua,uc,rfl⟩:=hu.form;generalize l.length=m at*;clear h hu sm rt hst hl;go_enter Tryz.func213,Tryz.ntmps213;go_wp2_with fail
 refine aH ?_;intro V hV;have B1:Hid (ar V w.heap.size #[.slice a0 n0 c0,.slice a1 n1 c1,.slice a2 n2 c2,.slice a3 n3 c3,.bool a.emp] 118):=hid (by rw[hV];exact ar.new w _ _);have X1:Hid (aa w V):=hid (by rw[hV];exact((Ext.refl w).alloc _).below);clear hV;refine(CK.out V X1.out).mono ?_;rintro e w1 ⟨rfl,hx⟩;have B2:=hid (B1.out.below hx B1.out.lt);have X2:=hid (X1.out.trans (hx.mono X1.out.size));clear hx B1 X1;obtain⟨i0,i1,i2,i3,i4⟩:=B2.out.five;go_wp2_with fail
 refine(CA.out w1 X2.out).mono ?_;rintro e w2 ⟨rfl,hx⟩;have X3:=hid (X2.out.trans (hx.mono X2.out.size));clear hx i0 i1 i2 i3 i4;go_wp2;refine bodyPost_ret (v:=.tuple #[.bool R,.int .i64 0]) (by simp[results,Tryz.results213,go_sem]) rfl ⟨rfl,X3.out⟩
attribute [local go_sem] encS
theorem Mj (v u:Value) (a:NF) (rt:Nt a) (l:List Int) (hst:a.st l=true) (c:Nat) (hc:c<256) (w:World) (h:kX w v a) (sm:PZ a) (hu:bZ aN w u l) (hl:l.length<=1000000): ah 231 #[v,u,.int .u8 c] w fun e w'=>∃ r,e=.returned r/\w'.ownsRow w.heap.size 3 1 r (a.step l c).length ((a.step l c).map aN)/\aa w w':=by
 have HSt:=hid (Mi rt hst c);have FR:Hid (∀ p∈l,∀ q∈a.pS p,0<=q/\q<a.aL.length):=hid fun p hp q hq=>by have:=(dU (rt.Qe hst hp)).2 q hq;omega
 have FL:Hid (∀ p,(a.pS p).length<=1000000):=hid fun p=>by
  unfold NF.pS;split
  ·exact sm.fst
  ·rcases Nat.lt_or_ge p.toNat a.cF.length with h1 | h1
   ·exact sm.row _ (aw (aV [] h1))
   ·rw[bh,aX h1];exact Nat.zero_le _
 have ST:Hid (∀ p∈l, -1<=p/\p<a.aL.length):=hid fun p hp=>by have:=(dU hst).2 p hp;omega
 have hle:=rt.le;have Uu:=rt.cF;obtain⟨v0,v1,v2,v3,rfl,h0,h1,h2,h3⟩:=h;obtain⟨a0,c0,rfl⟩:=h0.1.form;obtain⟨a1,c1,rfl⟩:=h1.form;obtain⟨a2,c2,rfl⟩:=h2.form;obtain⟨ua,uc,rfl⟩:=hu.form;obtain⟨n0,dh⟩:=ag a.aL.length;obtain⟨n2,jk⟩:=ag a.fst.length;obtain⟨m,hm⟩:=ag l.length;rw[Uu]at h1;rw[<-dh]at h0 h1 hle ST FR ⊢;rw[<-jk]at h2 ⊢;rw[<-hm]at hu hl ⊢;rw[Uu, <-dh];have zM:=hid dh;have uM:=hid jk;have HM:=hid hm;have afR:=hid Uu;have H0:=hid h0;have H1:=hid h1;have H2:=hid h2;have HU:=hid hu;have CH:Hid (∀ s W,ah 77 #[.agg (encS s),.int .u8 c] W fun e w'=>e=.returned (.bool (s.getLsbD c))/\Ext W w'):=hid fun s W=>qQ s c hc W
 clear h0 h1 h2 h3 hu dh jk hm Uu sm rt hst;go_enter Tryz.func231,Tryz.ntmps231;go_wp2;refine ax ?_;intro V hV;have B1:Hid (ar V w.heap.size #[.slice a0 n0 c0,.slice a1 n0 c1,.slice a2 n2 c2,v3,.bool a.emp] 118):=hid (by rw[hV];exact(ar.new w _ _).alloc _);have B2:Hid (ar V (w.heap.size+1) (cE fun _=>0) 179):=hid (by rw[hV];exact(ar.new _ _ _).at (by simp));have X1:Hid (aa w V):=hid (by rw[hV];exact(((Ext.refl w).alloc _).alloc _).below);have yX:V.heap.size=w.heap.size+2:=by rw[hV];simp
 have qE:=hid yX;clear hV yX;go_loopw [15] (fun iv wr=>∃ k:Nat,k<=m/\iv=.int .i64 k/\ar wr (w.heap.size+1) (cE (setW (fG a c (l.take k)))) 179/\ae (fun x=>x<w.heap.size+1) V wr) (fun iv _=>m-(intOf iv).toNat);case atStart=>exact⟨0,by omega,rfl,B2.out,ae.refl _ _⟩
 case round=>
  obtain⟨k,hk,rfl,hb,hx⟩:=hrel;obtain⟨wo,rfl⟩:=ag (wr:World);have HB:=hid hb;have HX:=hid hx;have XX:Hid (aa w wo):=hid (X1.out.trans (hx.mono fun x yV=>by have:x<w.heap.size:=yV;show x<w.heap.size+1;omega:ae (· <w.heap.size) V wo).below);have BN:=hid (B1.out.keeps hx (by show w.heap.size<w.heap.size+1;omega));clear hb hx;by_cases hlt:k<m
  ·obtain⟨p,hp⟩:∃ p,l[k]? =some p:=⟨_,az (by have:=HM.out;omega)⟩
   obtain⟨g,off,rfl,hg,q1⟩:=(HU.out.below XX.out).elem hp;replace q1:wo.cell? ⟨g,off+k,none⟩=some (.int .i64 p):=q1;have J9:=aw hp;have Kj:=ST.out p J9;have FRp:=hid (FR.out p J9);have HP:=hid hp;have eG:(k:Int)<m:=by omega
   clear hp J9;obtain⟨fl,nY⟩:=ag ((a.pS p).length);have flm:fl<=1000000:=by rw[nY];exact FL.out p
   have pO:Hid (fG a c (l.take (k+1))=fG a c (l.take k)++lR a c (a.pS p)):=hid (by
    rw[List.take_add_one,HP.out]
    exact Il a c _ p)
   have Kk:=hid nY;clear nY;rcases Decidable.em (p= -1)with h1 | h1
   ·subst h1
    obtain rfl:fl=n2:=by rw[Kk.out,show a.pS (-1)=a.fst from rfl,uM.out]
    have HF:Hid (∀ W,aa w W->bZ aN W (.slice a2 fl c2) (a.pS (-1))):=hid fun W hW=>H2.out.below hW
    obtain⟨i0,i1,i2,i3,i4⟩:=BN.out.five;go_wp2;clear Kj q1 i0 i1 i2 i3 i4;go_loopw [30] (fun iv wi=>∃ j:Nat,j<=fl/\iv=.int .i64 j/\ar wi (w.heap.size+1) (cE (setW (fG a c (l.take k)++lR a c ((a.pS (-1)).take j)))) 179/\ae (fun x=>x<w.heap.size+1) wo wi) (fun iv _=>fl-(intOf iv).toNat);case atStart=>exact⟨0,by omega,rfl,by rw[List.take_zero];simp only[lR,List.map_nil,List.filter_nil,List.append_nil];exact HB.out,ae.refl _ _⟩
    case round=>
     obtain⟨j,hj,rfl,hb,hx⟩:=hrel;have iV:=hid hb;have fK:=hid hx;have XI:Hid (aa w wr):=hid (XX.out.trans (hx.mono fun x yV=>by have:x<w.heap.size:=yV;show x<w.heap.size+1;omega:ae (· <w.heap.size) wo wr).below);have BI:=hid (BN.out.keeps hx (by show w.heap.size<w.heap.size+1;omega));clear hb hx;by_cases kR:j<fl
     ·obtain⟨q,hq⟩:∃ q,(a.pS (-1))[j]? =some q:=⟨_,az (by have:=Kk.out;omega)⟩
      have hqr:=FRp.out q (aw hq);obtain⟨qn,rfl⟩:∃ qn:Nat,q=qn:=⟨q.toNat,by omega⟩;have hqn:(qn:Int)<n0:=by omega
      have ki:(j:Int)<fl:=by omega
      obtain⟨s,hs⟩:∃ s,a.aL[qn]? =some s:=⟨_,az (by have:=zM.out;omega)⟩;obtain⟨g2,o2,rfl,_,q2⟩:=(HF.out wr XI.out).elem hq;replace q2:wr.cell? ⟨g2,o2+j,none⟩=some (.int .i64 (qn:Int)):=q2;obtain⟨b3,o3,rfl,hb3,s0,s1,s2,s3⟩:=(H0.out.1.below XI.out).elem hs;obtain⟨i0,i1,i2,i3,i4⟩:=BI.out.five
      have HQ:Hid (fG a c (l.take k)++lR a c ((a.pS (-1)).take (j+1))=if s.getLsbD c then(fG a c (l.take k)++lR a c ((a.pS (-1)).take j))++ [qn]else fG a c (l.take k)++lR a c ((a.pS (-1)).take j)):=hid (by
       rw[List.take_add_one,hq];show fG a c (l.take k)++lR a c ((a.pS (-1)).take j++ [(qn:Int)])=_;rw[zR,Int.toNat_natCast,show a.on c qn=s.getLsbD c from by unfold NF.on;rw[getD_some hs]];split
       ·rw[List.append_assoc]
       ·rw[List.append_nil])
      obtain⟨bt,Qf⟩:=ag (s.getLsbD c);have XU:=hid (CH.out s);rw[<-Qf]at HQ XU;clear hq hs Qf;cases bt
      ·go_wp2_with fail
       refine(XU.out _).mono ?_;rintro e w1 ⟨rfl,hx⟩;have od:=hid hx;clear hx;go_wp2;exact⟨⟨j+1,by omega,by go_num,by rw[HQ.out];exact iV.out.ext od.out,fK.out.tr (od.out.mono fun x hx=>by have:x<w.heap.size+1:=hx;have:=iV.out.lt;omega)⟩,by simp[intOf];omega⟩
      ·go_wp2_with fail
       refine(XU.out _).mono ?_;rintro e w1 ⟨rfl,hx⟩;have od:=hid hx;clear hx;go_wp2_with fail
       refine(nC _ _ qn (by omega) w1 (iV.out.ext od.out)).mono ?_;rintro e w2 ⟨⟨u,rfl⟩,hb4,hx4⟩;have XY:=hid hb4;have D9:=hid hx4;clear hb4 hx4;go_wp2;exact⟨⟨j+1,by omega,by go_num,by rw[HQ.out,if_pos trivial,sQ];exact XY.out,(fK.out.tr (od.out.mono fun x hx=>by have:x<w.heap.size+1:=hx;have:=iV.out.lt;omega)).tr (D9.out.mono fun x hx=>by have h5:x<w.heap.size+1:=hx;have:=iV.out.lt;have:=od.out.size;exact⟨by omega,by omega⟩)⟩,by simp[intOf];omega⟩
     ·obtain rfl:j=fl:=by omega
      have ki:¬ ((j:Int)<j):=by omega
      have fD:(a.pS (-1)).take j=a.pS (-1):=by rw[Kk.out,List.take_length]
      rw[fD, <-pO.out]at iV;go_wp2;exact⟨⟨k+1,by omega,by go_num,iV.out,HX.out.tr fK.out⟩,by simp[intOf];omega⟩
   ·obtain⟨pn,rfl⟩:∃ pn:Nat,p=pn:=⟨p.toNat,by omega⟩
    have d1:((pn:Int) != -1)=true:=by rw[bne_iff_ne];omega
    have Kl:(pn:Int)<n0:=by omega
    obtain⟨b1,o1,fa,fc,ea1,hb1,cl1,h4⟩:=H1.out.elem (aV (l:=a.cF) [] (by rw[afR.out, <-zM.out];omega:pn<a.cF.length));have e:a.pS (pn:Int)=a.cF.getD pn []:=by unfold NF.pS;rw[if_neg h1,Int.toNat_natCast]
    rw[<-e, <-Kk.out]at cl1 h4;have HF:Hid (∀ W,aa w W->bZ aN W (.slice fa fl fc) (a.pS (pn:Int))):=hid fun W hW=>h4.below hW
    have ED:wo.cell? ⟨b1,o1+pn,none⟩=some (.slice fa fl fc):=((ae.ak XX.out fun _ h=>h:ae (· <w.heap.size) w wo).cell (p:=⟨b1,o1+pn,none⟩) hb1).trans cl1;subst ea1;clear cl1 h4 e;obtain⟨i0,i1,i2,i3,i4⟩:=BN.out.five;go_wp2;clear Kj q1 i0 i1 i2 i3 i4;go_loopw [30] (fun iv wi=>∃ j:Nat,j<=fl/\iv=.int .i64 j/\ar wi (w.heap.size+1) (cE (setW (fG a c (l.take k)++lR a c ((a.pS (pn:Int)).take j)))) 179/\ae (fun x=>x<w.heap.size+1) wo wi) (fun iv _=>fl-(intOf iv).toNat);case atStart=>exact⟨0,by omega,rfl,by rw[List.take_zero];simp only[lR,List.map_nil,List.filter_nil,List.append_nil];exact HB.out,ae.refl _ _⟩
    case round=>
     obtain⟨j,hj,rfl,hb,hx⟩:=hrel;have iV:=hid hb;have fK:=hid hx;have XI:Hid (aa w wr):=hid (XX.out.trans (hx.mono fun x yV=>by have:x<w.heap.size:=yV;show x<w.heap.size+1;omega:ae (· <w.heap.size) wo wr).below);have BI:=hid (BN.out.keeps hx (by show w.heap.size<w.heap.size+1;omega));clear hb hx;by_cases kR:j<fl
     ·obtain⟨q,hq⟩:∃ q,(a.pS (pn:Int))[j]? =some q:=⟨_,az (by have:=Kk.out;omega)⟩
      have hqr:=FRp.out q (aw hq);obtain⟨qn,rfl⟩:∃ qn:Nat,q=qn:=⟨q.toNat,by omega⟩;have hqn:(qn:Int)<n0:=by omega
      have ki:(j:Int)<fl:=by omega
      obtain⟨s,hs⟩:∃ s,a.aL[qn]? =some s:=⟨_,az (by have:=zM.out;omega)⟩;obtain⟨g2,o2,rfl,_,q2⟩:=(HF.out wr XI.out).elem hq;replace q2:wr.cell? ⟨g2,o2+j,none⟩=some (.int .i64 (qn:Int)):=q2;obtain⟨b3,o3,rfl,hb3,s0,s1,s2,s3⟩:=(H0.out.1.below XI.out).elem hs;obtain⟨i0,i1,i2,i3,i4⟩:=BI.out.five
      have HQ:Hid (fG a c (l.take k)++lR a c ((a.pS (pn:Int)).take (j+1))=if s.getLsbD c then(fG a c (l.take k)++lR a c ((a.pS (pn:Int)).take j))++ [qn]else fG a c (l.take k)++lR a c ((a.pS (pn:Int)).take j)):=hid (by
       rw[List.take_add_one,hq];show fG a c (l.take k)++lR a c ((a.pS (pn:Int)).take j++ [(qn:Int)])=_;rw[zR,Int.toNat_natCast,show a.on c qn=s.getLsbD c from by unfold NF.on;rw[getD_some hs]];split
       ·rw[List.append_assoc]
       ·rw[List.append_nil])
      obtain⟨bt,Qf⟩:=ag (s.getLsbD c);have XU:=hid (CH.out s);rw[<-Qf]at HQ XU;clear hq hs Qf;cases bt
      ·go_wp2_with fail
       refine(XU.out _).mono ?_;rintro e w1 ⟨rfl,hx⟩;have od:=hid hx;clear hx;go_wp2;exact⟨⟨j+1,by omega,by go_num,by rw[HQ.out];exact iV.out.ext od.out,fK.out.tr (od.out.mono fun x hx=>by have:x<w.heap.size+1:=hx;have:=iV.out.lt;omega)⟩,by simp[intOf];omega⟩
      ·go_wp2_with fail
       refine(XU.out _).mono ?_;rintro e w1 ⟨rfl,hx⟩;have od:=hid hx;clear hx;go_wp2_with fail
       refine(nC _ _ qn (by omega) w1 (iV.out.ext od.out)).mono ?_;rintro e w2 ⟨⟨u,rfl⟩,hb4,hx4⟩;have XY:=hid hb4;have D9:=hid hx4;clear hb4 hx4;go_wp2;exact⟨⟨j+1,by omega,by go_num,by rw[HQ.out,if_pos trivial,sQ];exact XY.out,(fK.out.tr (od.out.mono fun x hx=>by have:x<w.heap.size+1:=hx;have:=iV.out.lt;omega)).tr (D9.out.mono fun x hx=>by have h5:x<w.heap.size+1:=hx;have:=iV.out.lt;have:=od.out.size;exact⟨by omega,by omega⟩)⟩,by simp[intOf];omega⟩
     ·obtain rfl:j=fl:=by omega
      have ki:¬ ((j:Int)<j):=by omega
      have fD:(a.pS (pn:Int)).take j=a.pS (pn:Int):=by rw[Kk.out,List.take_length]
      rw[fD, <-pO.out]at iV;go_wp2;exact⟨⟨k+1,by omega,by go_num,iV.out,HX.out.tr fK.out⟩,by simp[intOf];omega⟩
  ·obtain rfl:k=m:=by omega
   have Ii:¬ ((k:Int)<k):=by omega
   have fD:l.take k=l:=by rw[HM.out,List.take_length]
   rw[fD]at HB;go_wp2_with fail
   refine(Bz _ _ wo HB.out).mono ?_;rintro e w2 ⟨v,rfl,ho,hx⟩;have HO:=hid ho;have fK:=hid hx;clear ho hx;go_wp2;go_ret;refine⟨_,rfl,?_,XX.out.trans (fK.out.mono XX.out.size)⟩;have h:=aF HO.out XX.out.size;have e:(dJ (setW (fG a c l)) 448).map wD=(a.step l c).map aN:=by rw[<-HSt.out,List.map_map];rfl
   have e2:(dJ (setW (fG a c l)) 448).length=(a.step l c).length:=by rw[<-HSt.out,aQ]
   rwa[e,e2]at h
theorem Ml (v u:Value) (a:NF) (rt:Nt a) (l:List Int) (hst:a.st l=true) (c:Nat) (hc:c<256) (w:World) (h:kX w v a) (sm:PZ a) (hu:bZ aN w u l) (hl:l.length<=1000000): ah 216 #[v,u,.int .u8 c] w fun e w'=>∃ r,e=.returned (.tuple #[r,.int .i64 0])/\w'.ownsRow w.heap.size 3 1 r (a.step l c).length ((a.step l c).map aN)/\aa w w':=by
 have CK:Hid (∀ W,aa w W->ah 241 #[v,u] W fun e w'=>e=.returned (.int .i64 0)/\aa W w'):=hid fun W hW=>by
  have:=wB v u a l W (h.below hW) sm (hu.below hW) hl;have e:a.XT l=0:=by unfold NF.XT;rw[(eY a).2 rt,hst];rfl
  rwa[e]at this
 have CA:Hid (∀ W,aa w W->ah 231 #[v,u,.int .u8 c] W fun e w'=>∃ r,e=.returned r/\w'.ownsRow W.heap.size 3 1 r (a.step l c).length ((a.step l c).map aN)/\aa W w'):=hid fun W hW=>Mj v u a rt l hst c hc W (h.below hW) sm (hu.below hW) hl
 obtain⟨a0,c0,a1,n1,c1,a2,n2,c2,a3,n3,c3,rfl⟩:=h.P8;generalize a.aL.length=n0 at*;generalize a.step l c=R at*;obtain⟨ua,uc,rfl⟩:=hu.form;generalize l.length=m at*;clear h hu sm rt hst hl;go_enter Tryz.func216,Tryz.ntmps216;go_wp2_with fail
 refine aH ?_;intro V hV;have B1:Hid (ar V w.heap.size #[.slice a0 n0 c0,.slice a1 n1 c1,.slice a2 n2 c2,.slice a3 n3 c3,.bool a.emp] 118):=hid (by rw[hV];exact ar.new w _ _);have X1:Hid (aa w V):=hid (by rw[hV];exact((Ext.refl w).alloc _).below);clear hV;refine(CK.out V X1.out).mono ?_;rintro e w1 ⟨rfl,hx⟩;have B2:=hid (B1.out.below hx B1.out.lt);have X2:=hid (X1.out.trans (hx.mono X1.out.size));clear hx B1 X1;obtain⟨i0,i1,i2,i3,i4⟩:=B2.out.five;go_wp2_with fail
 refine(CA.out w1 X2.out).mono ?_;rintro e w2 ⟨r,rfl,ho,hx⟩;have X3:=hid (X2.out.trans (hx.mono X2.out.size));have HO:=hid (aF ho X2.out.size);clear ho hx i0 i1 i2 i3 i4;go_wp2;refine bodyPost_ret (v:=.tuple #[r,.int .i64 0]) (by simp[results,Tryz.results216,go_sem]) rfl ⟨_,rfl,HO.out,X3.out⟩
end
end Go.Proofs.YtjgccapbphadjaaGreatDoor
