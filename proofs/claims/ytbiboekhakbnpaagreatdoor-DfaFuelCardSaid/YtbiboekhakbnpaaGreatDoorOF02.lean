/- Walks: slices.AppendSeq, slices.Collect at bytes; sets.Bytes, sets.Size. -/
import Derived.Test.YtbiboekhakbnpaaGreatDoorOF01
import Derived.Test.YtbiboekhakbnpaaGreatDoorProg
import Derived.WalkSpells
import Derived.WalkLawsBesides
import Derived.BigQuiet
import Derived.TacticsInMore
import Derived.LoopNIn
import Derived.LoopIn
import Derived.Shelf.AbstractIn
import Derived.Maps.OwnIn
set_option maxRecDepth 100000
set_option maxHeartbeats 16000000
open Go.Lib (hid)
namespace Go.Proofs.YtbiboekhakbnpaaGreatDoor
open Go Go.RowKit
abbrev BS:=BitVec 256
def wd (s:BS) (i:Nat):BitVec 64:=s.extractLsb' (64*i) 64
def encS (s:BS):Array Value:= #[.int .u64 (wd s 0).toNat,.int .u64 (wd s 1).toNat,.int .u64 (wd s 2).toNat,.int .u64 (wd s 3).toNat]
theorem im (s:BS):(encS s).size=4:=rfl
theorem eA (s:BS) {k:Nat} (hk:k<4):(encS s)[k]? =some (.int .u64 (wd s k).toNat):=by
 match k,hk with
 | 0,_=>rfl
 | 1,_=>rfl
 | 2,_=>rfl
 | 3,_=>rfl
theorem sf (op:BinOp) (x y:BitVec 64):bits op .u64 x.toNat y.toNat=((match op with | .and=>x&&& y | .or=>x ||| y | .xor=>x ^^^ y | _=>x&&& ~~~y).toNat:Int):=by
 have hx:BitVec.ofInt (IntKind.u64).bits (x.toNat:Int)=x:=by apply BitVec.eq_of_toNat_eq;simp[IntKind.bits]
 have hy:BitVec.ofInt (IntKind.u64).bits (y.toNat:Int)=y:=by apply BitVec.eq_of_toNat_eq;simp[IntKind.bits]
 have hw:∀ z:BitVec 64,IntKind.u64.wrap (z.toNat:Int)=z.toNat:=fun z=>by
  have:=z.isLt;simp only[IntKind.wrap,IntKind.bits,IntKind.signed,Bool.false_and,Bool.false_eq_true,if_false];omega
 unfold bits;simp only[hx,hy];cases op<;>exact hw _
theorem x9 (x y:BitVec 64):bits .or .u64 x.toNat y.toNat=((x ||| y).toNat:Int):=sf .or x y
theorem Am (x y:BitVec 64):bits .and .u64 x.toNat y.toNat=((x&&& y).toNat:Int):=sf .and x y
theorem KF (x y:BitVec 64):bits .xor .u64 x.toNat y.toNat=((x ^^^ y).toNat:Int):=sf .xor x y
theorem Hw (x y:BitVec 64):bits .andNot .u64 x.toNat y.toNat=((x&&& ~~~y).toNat:Int):=sf .andNot x y
theorem KH (x:BitVec 64):bits .xor .u64 IntKind.u64.max x.toNat=((~~~x).toNat:Int):=by
 have h:IntKind.u64.max=((BitVec.allOnes 64).toNat:Int):=by decide
 rw[h,KF,BitVec.allOnes_xor]
theorem Ao (n:Nat) (h:n<2^64):bits .and .u64 (n:Int) 1=((n%2:Nat):Int):=by
 have e1:((BitVec.ofNat 64 n).toNat:Int)=n:=by rw[BitVec.toNat_ofNat,Nat.mod_eq_of_lt h]
 have e2:(((1:BitVec 64)).toNat:Int)=1:=rfl;rw[<-e1, <-e2,Am];congr 1;rw[BitVec.toNat_and,BitVec.toNat_ofNat,Nat.mod_eq_of_lt h];exact Nat.and_one_is_mod n
theorem Xs (s t:BS) (i:Nat):wd (s ||| t) i=wd s i ||| wd t i:=by unfold wd;exact BitVec.extractLsb'_or ..
theorem KJ (s t:BS) (i:Nat):wd (s&&& t) i=wd s i&&& wd t i:=by unfold wd;exact BitVec.extractLsb'_and ..
theorem KM (s:BS) {i:Nat} (hi:i<4):wd (~~~s) i= ~~~(wd s i):=by
 unfold wd;apply BitVec.eq_of_getLsbD_eq;intro k hk;simp only[BitVec.getLsbD_extractLsb',BitVec.getLsbD_not,hk,decide_true,Bool.true_and];have:64*i+k<256:=by omega
 simp[this]
theorem Px (i:Nat):wd 0 i=0:=by unfold wd;exact BitVec.extractLsb'_zero ..
theorem BS.Tu {s t:BS} (h:∀ i,i<4->wd s i=wd t i):s=t:=by apply BitVec.eq_of_getLsbD_eq;intro k hk;have h1:=congrArg (fun b:BitVec 64=>b.getLsbD (k%64)) (h (k/64) (by omega));simp only[wd,BitVec.getLsbD_extractLsb',show k%64<64 from by omega,decide_true,Bool.true_and]at h1;rwa[show 64*(k/64)+k%64=k from by omega]at h1
theorem Tv (s:BS) (c:Nat):(wd s (c/64)).toNat/2^ (c%64)%2=(s.getLsbD c).toNat:=by
 have h:(wd s (c/64)).getLsbD (c%64)=s.getLsbD c:=by simp only[wd,BitVec.getLsbD_extractLsb',show c%64<64 from by omega,decide_true,Bool.true_and];rw[show 64*(c/64)+c%64=c from by omega]
 rw[<-h,BitVec.getLsbD,Nat.testBit_eq_decide_div_mod_eq];have:=Nat.mod_lt ((wd s (c/64)).toNat/2^ (c%64)) (show 0<2 by decide);generalize (wd s (c/64)).toNat/2^ (c%64)%2=z at*;match z,this with
 | 0,_=>rfl
 | 1,_=>rfl
theorem KN (s:BS) (c:Nat):(bits .and .u64 (((wd s (c/64)).toNat:Int)/2^ (c%64)) 1==1)=s.getLsbD c:=by
 have h:(((wd s (c/64)).toNat:Int)/2^ (c%64))=((((wd s (c/64)).toNat/2^ (c%64):Nat)):Int):=by simp
 rw[h,Ao _ (Nat.lt_of_le_of_lt (Nat.div_le_self _ _) (wd s (c/64)).isLt),Tv];cases s.getLsbD c<;>rfl
/-! '==' on arrays of whole numbers. -/
theorem oK {P:Program} {w:World} {e:TypeId} {cs:Array Value} {i:Nat} {v:Value} (ha:∀ w,(isAgg e).run P w=.ok false w) (h:cs[i]? =some v):(part e cs i).run P w=.ok v w:=by unfold part;simp[Sem.run_bind,ha,h]
theorem run_equalIn_array {P:Program} (w:World) (d:Nat) {t e:TypeId} {len:Nat} {k:IntKind} (xs ys:Array Value) (x y:Nat->Int) (ht:P.underlying t=some (.array len e)) (he:P.underlying e=some (.int k)) (ha:∀ w,(isAgg e).run P w=.ok false w) (hz:∀ w,(sizeOf e).run P w=.ok 1 w) (hx:∀ i,i<len->xs[i]? =some (.int k (x i))) (hy:∀ i,i<len->ys[i]? =some (.int k (y i))): (Op.equalIn (d+2) t (.agg xs) (.agg ys)).run P w=.ok ((List.range len).all fun i=>x i==y i) w:=by
 rw[show d+2=(d+1)+1 from rfl,Op.equalIn];simp only[Sem.run_bind,run_underlying ht,Result.andThen_ok,hz];simp only[Std.Legacy.Range.forIn_eq_forIn_range',Std.Legacy.Range.size,Nat.sub_zero,Nat.add_one_sub_one,Nat.div_one]
 have key:∀ (l:List Nat),(∀ i∈l,i<len)->(Sem.run P (forIn (m:=Sem) l ((none,()):Option Bool×Unit) fun i (_:Option Bool×Unit)=>do
   let a <-part e xs (i*1)
   let b <-part e ys (i*1)
   let r <-Op.equalIn (d+1) e a b
   if(!r)=true then pure (ForInStep.done (some false,()))else pure (ForInStep.yield (none,()))) w)=.ok (if(l.all fun i=>x i==y i)then none else some false,()) w:=by
  intro l;induction l with
  | nil=>intro _;simp
  | cons i l ih=>
   intro hl;have hi:=hl i (by simp);simp only[List.forIn_cons,Sem.run_bind,Nat.mul_one,oK ha (hx i hi),oK ha (hy i hi),Result.andThen_ok,run_equalIn_int w d e k k _ _ he];by_cases h:x i=y i
   ·have h':(x i==y i)=true:=by simpa using h
    have:=ih (fun j hj=>hl j (by simp[hj]));simp only[Nat.mul_one]at this;simp only[h',Bool.not_true,Bool.false_eq_true,if_false,Sem.run_pure,Result.andThen_ok,List.all_cons,Bool.true_and];exact this
   ·have h':(x i==y i)=false:=by simpa using h
    simp[h']
 rw[key (List.range' 0 len) (fun i hi=>by simpa[List.mem_range']using hi)];simp only[Result.andThen_ok];rw[List.range_eq_range'];split<;>simp_all
theorem KQ (s t:BS):((List.range 4).all fun i=>(((wd s i).toNat:Int)==((wd t i).toNat:Int)))=(s==t):=by
 rw[Bool.eq_iff_iff];simp only[List.all_eq_true,List.mem_range,beq_iff_eq];constructor
 ·intro h;exact BS.Tu fun i hi=>BitVec.eq_of_toNat_eq (by have:=h i hi;omega)
 ·intro h i _;rw[h]
theorem ya {C:World->Prop} {S:Nat->Prop} {w:World} (hC:∀ W,C W↔aa S w W) {b:Nat} {s:BS} {t:TypeId} (hs:S b) (h:ak w b (encS s) t): (∀ W: {W//C W},W.1.cell? ⟨b,0,none⟩=some (.int .u64 (wd s 0).toNat))/\(∀ W: {W//C W},W.1.cell? ⟨b,1,none⟩=some (.int .u64 (wd s 1).toNat))/\ (∀ W: {W//C W},W.1.cell? ⟨b,2,none⟩=some (.int .u64 (wd s 2).toNat))/\(∀ W: {W//C W},W.1.cell? ⟨b,3,none⟩=some (.int .u64 (wd s 3).toNat)):=
 ⟨cL hC (p:=⟨b,0,none⟩) hs (h.cell 0),cL hC (p:=⟨b,1,none⟩) hs (h.cell 1),cL hC (p:=⟨b,2,none⟩) hs (h.cell 2),cL hC (p:=⟨b,3,none⟩) hs (h.cell 3)⟩
theorem ak.Eg {w:World} {b:Nat} {s:BS} {t:TypeId} (h:ak w b (encS s) t): w.cell? ⟨b,0,none⟩=some (.int .u64 (wd s 0).toNat)/\w.cell? ⟨b,1,none⟩=some (.int .u64 (wd s 1).toNat)/\w.cell? ⟨b,2,none⟩=some (.int .u64 (wd s 2).toNat)/\w.cell? ⟨b,3,none⟩=some (.int .u64 (wd s 3).toNat):=
 ⟨h.cell 0,h.cell 1,h.cell 2,h.cell 3⟩
def mY (s:BS) (c:Nat):BS:=s ||| BitVec.twoPow 256 c
theorem jD (s:BS) {c d:Nat} (hc:c<256):(mY s c).getLsbD d=(s.getLsbD d || (d==c)):=by unfold mY;rw[BitVec.getLsbD_or,BitVec.getLsbD_twoPow];simp only[hc,decide_true,Bool.true_and];congr 1;rw[Bool.eq_iff_iff];simp;exact eq_comm
theorem KT (s:BS) {c i:Nat} (hc:c<256) (hi:i<4):wd (mY s c) i=if i=c/64 then wd s i ||| BitVec.twoPow 64 (c%64)else wd s i:=by
 have hm:c%64<64:=Nat.mod_lt _ (by decide);split
 ·rename_i h
  subst h;apply BitVec.eq_of_getLsbD_eq;intro k hk;have h2:∀ d,(mY s c).getLsbD d=(s.getLsbD d || (d==c)):=fun d=>jD s hc
  simp only[wd,BitVec.getLsbD_extractLsb',hk,decide_true,Bool.true_and,h2,BitVec.getLsbD_or,BitVec.getLsbD_twoPow,hm];congr 1;rw[Bool.eq_iff_iff];simp;omega
 ·rename_i h
  apply BitVec.eq_of_getLsbD_eq;intro k hk;simp only[wd,BitVec.getLsbD_extractLsb',hk,decide_true,Bool.true_and,jD s hc];rw[show(64*i+k==c)=false from by simp;omega,Bool.or_false]
theorem Eh (x:BitVec 64) {m:Nat} (hm:m<64):bits .or .u64 x.toNat (IntKind.u64.wrap (2^m))=((x ||| BitVec.twoPow 64 m).toNat:Int):=by
 have h:IntKind.u64.wrap (2^m)=((BitVec.twoPow 64 m).toNat:Int):=by
  have h1:(2:Nat)^m<2^64:=Nat.pow_lt_pow_right (by decide) hm;have h2:((2:Int)^m)=((2^m:Nat):Int):=by simp
  rw[BitVec.toNat_twoPow,Nat.mod_eq_of_lt h1,h2];simp only[IntKind.wrap,IntKind.bits,IntKind.signed,Bool.false_and,Bool.false_eq_true,if_false];exact Int.emod_eq_of_lt (Int.natCast_nonneg _) (by exact_mod_cast h1)
 rw[h,x9]
theorem sQ (s:BS) {c:Nat} (hc:c<256):(encS s).setIfInBounds (c/64) (.int .u64 (bits .or .u64 (wd s (c/64)).toNat (IntKind.u64.wrap (2^ (c%64)))))=encS (mY s c):=by
 rw[Eh _ (Nat.mod_lt _ (by decide))];apply Array.ext_getElem?;intro i;rw[Array.getElem?_setIfInBounds];by_cases hi:i<4
 ·rw[eA _ hi,eA _ hi,KT s hc hi]
  split
  ·rename_i h;subst h;simp[im,hi]
  ·rename_i h;rw[if_neg (fun e=>h e.symm)]
 ·have h1:(encS s)[i]? =none:=by simp[im];omega
  have h2:(encS (mY s c))[i]? =none:=by simp[im];omega
  rw[h1,h2];split
  ·rw[if_neg (by rw[im];omega)]
  ·rfl
def nE (p:Nat->Bool):BS:=(List.range 256).foldl (fun s c=>if p c then mY s c else s) 0
theorem KU (p:Nat->Bool):∀ n,n<=256->∀ d,((List.range n).foldl (fun s c=>if p c then mY s c else s) (0:BS)).getLsbD d=(decide (d<n)&&p d):=by
 intro n;induction n with
 | zero=>intro _ d;simp
 | succ n ih=>
  intro hn d;rw[List.range_succ,List.foldl_append,List.foldl_cons,List.foldl_nil];have h:=ih (by omega) d;by_cases hp:p n=true
  ·rw[if_pos hp,jD _ (by omega),h]
   by_cases hd:d=n
   ·subst hd;simp[hp]
   ·rw[Bool.eq_iff_iff];simp[hd];intro _;omega
  ·rw[if_neg hp,h]
   by_cases hd:d=n
   ·subst hd;simp[hp]
   ·rw[Bool.eq_iff_iff];simp;intro _;omega
theorem KY (p:Nat->Bool) {d:Nat} (hd:d<256):(nE p).getLsbD d=p d:=by have:=KU p 256 (Nat.le_refl _) d;rw[nE,this];simp[hd]
theorem BS.ext {s t:BS} (h:∀ c,c<256->s.getLsbD c=t.getLsbD c):s=t:=BitVec.eq_of_getLsbD_eq h
theorem BS.Gp {s:BS} {p:Nat->Bool} (h:∀ c,c<256->s.getLsbD c=p c):s=nE p:=BS.ext fun c hc=>by rw[h c hc,KY p hc]
def bg {α:Type} (enc:α->Value) (w:World) (v:Value) (l:List α):Prop:=
 (v=.slice none 0 0/\l=[])\/∃ b off cap,v=.slice (some ⟨b,off,none⟩) l.length cap/\b<w.heap.size/\l.length<=cap/\∀ i x,l[i]? =some x->w.cell? ⟨b,off+i,none⟩=some (enc x)
theorem oL (s:BS) (c:Nat) (hc:c<256) (w:World): Calls Tryz.prog 128 #[.agg (encS s),.int .u8 c] w fun e w'=>e=.returned (.bool (s.getLsbD c))/\Ext w w':=by have hcell:=eA s (show c/64<4 by omega);go_enter Tryz.func128,Tryz.ntmps128;go_wp2;go_ret;exact⟨congrArg (fun b=>Ending.returned (.bool b)) (KN s c),(Ext.refl w).alloc _⟩
theorem Py (x y:BitVec 64) (w:World):Calls Tryz.prog 169 #[.int .u64 x.toNat,.int .u64 y.toNat] w fun e w'=>e=.returned (.int .u64 (x ||| y).toNat)/\w'=w:=by have h:=x9 x y;go_enter Tryz.func169,Tryz.ntmps169;go_wp2;go_ret;exact⟨rfl,rfl⟩
theorem KZ (x y:BitVec 64) (w:World):Calls Tryz.prog 124 #[.int .u64 x.toNat,.int .u64 y.toNat] w fun e w'=>e=.returned (.int .u64 (x&&& y).toNat)/\w'=w:=by have h:=Am x y;go_enter Tryz.func124,Tryz.ntmps124;go_wp2;go_ret;exact⟨rfl,rfl⟩
theorem Hy (x y:BitVec 64) (w:World):Calls Tryz.prog 125 #[.int .u64 x.toNat,.int .u64 y.toNat] w fun e w'=>e=.returned (.int .u64 (x&&& ~~~y).toNat)/\w'=w:=by
 go_enter Tryz.func125,Tryz.ntmps125
 go_wp2;go_ret;exact⟨congrArg (fun z=>Ending.returned (.int .u64 z)) (Hw x y),rfl⟩
theorem La (x y:BitVec 64) (w:World):Calls Tryz.prog 160 #[.int .u64 x.toNat,.int .u64 y.toNat] w fun e w'=>e=.returned (.int .u64 (~~~x).toNat)/\w'=w:=by have hsg:IntKind.u64.signed=false:=rfl;go_enter Tryz.func160,Tryz.ntmps160;go_wp2;go_ret;exact⟨congrArg (fun z=>Ending.returned (.int .u64 z)) (KH x),rfl⟩
def yc (u:BS) (k:Nat):Array Value:= #[.int .u64 (if 0<k then wd u 0 else 0).toNat,.int .u64 (if 1<k then wd u 1 else 0).toNat,.int .u64 (if 2<k then wd u 2 else 0).toNat,.int .u64 (if 3<k then wd u 3 else 0).toNat]
theorem Ei (u:BS) {k:Nat} (hk:k<4):(yc u k).setIfInBounds k (.int .u64 (wd u k).toNat)=yc u (k+1):=by
 match k,hk with
 | 0,_=>rfl
 | 1,_=>rfl
 | 2,_=>rfl
 | 3,_=>rfl
theorem Ej (u:BS) {k j:Nat} (hj:j<4):∃ z:Nat,(yc u k)[j]? =some (.int .u64 z):=by
 match j,hj with
 | 0,_=>exact⟨_,rfl⟩
 | 1,_=>exact⟨_,rfl⟩
 | 2,_=>exact⟨_,rfl⟩
 | 3,_=>exact⟨_,rfl⟩
theorem oM (s t u:BS) (f:BitVec 64→BitVec 64→BitVec 64) (g:Nat) (w:World) (hu:∀ i,i<4→f (wd s i) (wd t i)=wd u i) (eg:∀ args w,(callFunc g args).run Tryz.prog w=.ok (.enter g args) w) (hg:∀ (x y:BitVec 64) W,Calls Tryz.prog g #[.int .u64 x.toNat,.int .u64 y.toNat] W fun e w'=>e=.returned (.int .u64 (f x y).toNat)∧w'=W): Calls Tryz.prog 123 #[.agg (encS s),.agg (encS t),.func (.func g) #[] #[]] w fun e w'=>e=.returned (.agg (encS u))∧Ext w w':=by
  have HG:=hid hg;have HU:=hid hu;clear hg hu;go_enter Tryz.func123,Tryz.ntmps123;go_wp2
  go_loopw [9,8] (fun i _ wr=>∃ k:Nat,k≤4∧i=.int .i64 k∧ak wr w.heap.size (encS s) 70∧ak wr (w.heap.size+1) (encS t) 70∧ak wr (w.heap.size+1+1+1) (yc u k) 70∧
     ak wr (w.heap.size+1+1) #[.int .u64 0,.int .u64 0,.int .u64 0,.int .u64 0] 70∧Ext w wr)
     (fun i _ _=>4-(intOf i).toNat)
  case atStart=>
    refine⟨0,by omega,rfl,?_,?_,?_,?_,(((((Ext.refl w).alloc _).alloc _).alloc _).alloc _)⟩<;>(repeat (first | (refine(ak.new _ _ _).at ?_;simp;done) | refine ak.alloc ?_ _))
  case round=>
    obtain⟨k,hk,rfl,hA,hB,hO,hR,hx⟩:=hrel;by_cases hlt:k<4
    · have ca:=(hA.cell k).trans (eA s hlt)
      have cb:=(hB.cell k).trans (eA t hlt);obtain⟨z,hz⟩:=Ej u (k:=k) hlt;have HA:=hid hA;have HB:=hid hB;have HO:=hid hO;have HR:=hid hR;have HX:=hid hx;have HF:=hid (HU.out k hlt);clear hA hB hO hR hx;go_wp2;refine fj (fun b=>b=w.heap.size∨b=w.heap.size+1) (by kernel_rfl) (fun i=>i==8 || i==10) (by kernel_rfl) ?_;intro C hC hne W0 Hz hblk hsz hx0;have JT:=hid hx0;clear hx0;have fa:=cL hC (.inl rfl) ca;have fb:=cL hC (.inr rfl) cb;have HO':=hid (HO.out.same (hblk _));have co:=(HO'.out.cell k).trans hz;have cf:=HO'.out.frozen k;have HC:=hid hC;have HBl:=hid hblk;have HK:=hid Hz;have HZ:=hid hz;clear hC ca cb hblk Hz hz
      repeat (refine bj (fun K hK=>?_);refine cC rfl ?_;unfold ar;go_simp;refine hK _ _ ?_;clear hK K)
      refine bj (fun K hK=>?_);refine dJ rfl ?_;go_simp;refine eK ((HG.out _ _ _).mono ?_);rintro e w' ⟨rfl,rfl⟩;refine⟨_,rfl,(HC.out _).2 HK.out,hK _ _ ?_⟩;clear hK K
      repeat (refine bj (fun K hK=>?_);refine cC rfl ?_;unfold ar;go_simp;refine hK _ _ ?_;clear hK K)
      refine bj (fun K hK=>?_);refine dJ rfl ?_;go_simp;refine⟨(HC.out _).2 (HK.out.setCell (by simp;omega) _),hK _ _ ?_⟩;clear hK K;refine mh ?_;go_wp2;go_roundw
      case rel=>
        refine⟨k+1,by omega,by go_num,?_,?_,?_,?_,?_⟩
        · exact(HA.out.same (HBl.out _)).other (by simp<;>omega) _
        · exact(HB.out.same (HBl.out _)).other (by simp<;>omega) _
        · rw[←Ei u hlt, ←HF.out];exact HO'.out.set k _
        · exact(HR.out.same (HBl.out _)).other (by simp<;>omega) _
        · exact Ext.setCell (HX.out.trans JT.out) (by simp;omega) _
      case measure=>simp[intOf];omega
    · obtain rfl:k=4:=by omega
      have c0:wr.cell? ⟨w.heap.size+1+1+1,0,none⟩=some (.int .u64 (wd u 0).toNat):=hO.cell 0;have c1:wr.cell? ⟨w.heap.size+1+1+1,1,none⟩=some (.int .u64 (wd u 1).toNat):=hO.cell 1;have c2:wr.cell? ⟨w.heap.size+1+1+1,2,none⟩=some (.int .u64 (wd u 2).toNat):=hO.cell 2;have c3:wr.cell? ⟨w.heap.size+1+1+1,3,none⟩=some (.int .u64 (wd u 3).toNat):=hO.cell 3;have r0:wr.cell? ⟨w.heap.size+1+1,0,none⟩=some (.int .u64 0):=hR.cell 0;have r1:wr.cell? ⟨w.heap.size+1+1,1,none⟩=some (.int .u64 0):=hR.cell 1;have r2:wr.cell? ⟨w.heap.size+1+1,2,none⟩=some (.int .u64 0):=hR.cell 2;have r3:wr.cell? ⟨w.heap.size+1+1,3,none⟩=some (.int .u64 0):=hR.cell 3;have rf:=hR.frozen;clear hO hA hB hR;go_wp2;refine bodyPost_ret (v:=.agg (encS u)) ?_ rfl ⟨rfl,?_⟩
      · simp[results,Tryz.results123,go_sem,r0,r1,r2,r3,encS]
      · exact(((hx.setCell (by simp;omega) _).setCell (by simp;omega) _).setCell (by simp;omega) _).setCell (by simp;omega) _
end Go.Proofs.YtbiboekhakbnpaaGreatDoor
namespace Go.Proofs.YtbiboekhakbnpaaGreatDoor
open Go Go.RowKit Go.Shelf
attribute [local go_sem] encS
theorem Tw (s t:BS) (w:World):Calls Tryz.prog 127 #[.agg (encS s),.agg (encS t)] w fun e w'=>e=.returned (.agg (encS (s ||| t)))/\Ext w w':=by
 have eg:∀ args w,(callFunc 169 args).run Tryz.prog w=.ok (.enter 169 args) w:=enters_of Tryz.func169 (by kernel_rfl) rfl;have H:=hid fun W=>oM s t (s ||| t) (· ||| ·) 169 W (fun i _=>(Xs s t i).symm) eg Py
 clear eg;obtain⟨u,hu⟩:∃ u,u=s ||| t:=⟨_,rfl⟩
 rw[<-hu]at H ⊢;clear hu;go_enter Tryz.func127,Tryz.ntmps127;go_wp2_with (go_at_call 123;refine(H.out _).mono ?_;rintro e w1 ⟨rfl,hx⟩;have HX:=hid hx;obtain⟨hc,hf⟩:=hx.cells;clear hx);refine bodyPost_ret (v:=.agg (encS u)) ?_ rfl ⟨rfl,?_⟩
 ·simp[results,Tryz.results127,go_sem,hc]
 ·exact(((((((Ext.refl w).alloc _).alloc _).alloc _).trans HX.out).setCell (by simp<;>omega) _ |>.setCell (by simp<;>omega) _).setCell (by simp<;>omega) _).setCell (by simp<;>omega) _
theorem Pz (s t:BS) (w:World):Calls Tryz.prog 86 #[.agg (encS s),.agg (encS t)] w fun e w'=>e=.returned (.agg (encS (s&&& t)))/\Ext w w':=by
 have eg:∀ args w,(callFunc 124 args).run Tryz.prog w=.ok (.enter 124 args) w:=enters_of Tryz.func124 (by kernel_rfl) rfl;have H:=hid fun W=>oM s t (s&&& t) (· &&& ·) 124 W (fun i _=>(KJ s t i).symm) eg KZ
 clear eg;obtain⟨u,hu⟩:∃ u,u=s&&& t:=⟨_,rfl⟩;rw[<-hu]at H ⊢;clear hu;go_enter Tryz.func86,Tryz.ntmps86;go_wp2_with (go_at_call 123;refine(H.out _).mono ?_;rintro e w1 ⟨rfl,hx⟩;have HX:=hid hx;obtain⟨hc,hf⟩:=hx.cells;clear hx);refine bodyPost_ret (v:=.agg (encS u)) ?_ rfl ⟨rfl,?_⟩
 ·simp[results,Tryz.results86,go_sem,hc]
 ·exact(((((((Ext.refl w).alloc _).alloc _).alloc _).trans HX.out).setCell (by simp<;>omega) _ |>.setCell (by simp<;>omega) _).setCell (by simp<;>omega) _).setCell (by simp<;>omega) _
theorem sR (s t:BS) (w:World):Calls Tryz.prog 87 #[.agg (encS s),.agg (encS t)] w fun e w'=>e=.returned (.agg (encS (s&&& ~~~t)))/\Ext w w':=by
 have eg:∀ args w,(callFunc 125 args).run Tryz.prog w=.ok (.enter 125 args) w:=enters_of Tryz.func125 (by kernel_rfl) rfl;have H:=hid fun W=>oM s t (s&&& ~~~t) (fun x y=>x&&& ~~~y) 125 W (fun i hi=>by rw[KJ,KM t hi]) eg Hy
 clear eg;obtain⟨u,hu⟩:∃ u,u=s&&& ~~~t:=⟨_,rfl⟩;rw[<-hu]at H ⊢;clear hu;go_enter Tryz.func87,Tryz.ntmps87;go_wp2_with (go_at_call 123;refine(H.out _).mono ?_;rintro e w1 ⟨rfl,hx⟩;have HX:=hid hx;obtain⟨hc,hf⟩:=hx.cells;clear hx);refine bodyPost_ret (v:=.agg (encS u)) ?_ rfl ⟨rfl,?_⟩
 ·simp[results,Tryz.results87,go_sem,hc]
 ·exact(((((((Ext.refl w).alloc _).alloc _).alloc _).trans HX.out).setCell (by simp<;>omega) _ |>.setCell (by simp<;>omega) _).setCell (by simp<;>omega) _).setCell (by simp<;>omega) _
theorem PA (s:BS) (w:World):Calls Tryz.prog 122 #[.agg (encS s)] w fun e w'=>e=.returned (.agg (encS (~~~s)))/\Ext w w':=by
 have eg:∀ args w,(callFunc 160 args).run Tryz.prog w=.ok (.enter 160 args) w:=enters_of Tryz.func160 (by kernel_rfl) rfl;have H:=hid fun W=>oM s s (~~~s) (fun x _=> ~~~x) 160 W (fun i hi=>by rw[KM s hi]) eg La
 clear eg;obtain⟨u,hu⟩:∃ u,u= ~~~s:=⟨_,rfl⟩;rw[<-hu]at H ⊢;clear hu;go_enter Tryz.func122,Tryz.ntmps122;go_wp2_with (go_at_call 123;refine(H.out _).mono ?_;rintro e w1 ⟨rfl,hx⟩;have HX:=hid hx;obtain⟨hc,hf⟩:=hx.cells;clear hx);refine bodyPost_ret (v:=.agg (encS u)) ?_ rfl ⟨rfl,?_⟩
 ·simp[results,Tryz.results122,go_sem,hc]
 ·exact((((((Ext.refl w).alloc _).alloc _).trans HX.out).setCell (by simp<;>omega) _ |>.setCell (by simp<;>omega) _).setCell (by simp<;>omega) _).setCell (by simp<;>omega) _
theorem ej:encS 0= #[.int .u64 0,.int .u64 0,.int .u64 0,.int .u64 0]:=rfl
theorem iq (s t:BS) (w:World):(Op.equalIn 10000 70 (.agg (encS s)) (.agg (encS t))).run Tryz.prog w=.ok (s==t) w:=by rw[<-KQ];exact run_equalIn_array w 9998 (encS s) (encS t) (fun i=>(wd s i).toNat) (fun i=>(wd t i).toNat) Tryz.underlying70 Tryz.underlying68 Tryz.isAgg68 Tryz.sizeOf68 (fun i hi=>eA s hi) (fun i hi=>eA t hi)
theorem PC (w:World):Calls Tryz.prog 85 #[] w fun e w'=>e=.returned (.agg (encS (~~~(0:BS))))/\Ext w w':=by
 have H:=hid fun W=>PA 0 W
 obtain⟨u,hu⟩:∃ u,u= ~~~(0:BS):=⟨_,rfl⟩;rw[<-hu]at H ⊢;clear hu;rw[ej]at H;go_enter Tryz.func85,Tryz.ntmps85;go_wp2_with (go_at_call 122;refine(H.out _).mono ?_;rintro e w1 ⟨rfl,hx⟩;have HX:=hid hx;obtain⟨hc,hf⟩:=hx.cells;clear hx);refine bodyPost_ret (v:=.agg (encS u)) ?_ rfl ⟨rfl,?_⟩
 ·simp[results,Tryz.results85,go_sem,hc]
 ·exact(((((Ext.refl w).alloc _).trans HX.out).setCell (by simp<;>omega) _ |>.setCell (by simp<;>omega) _).setCell (by simp<;>omega) _).setCell (by simp<;>omega) _
end Go.Proofs.YtbiboekhakbnpaaGreatDoor
namespace Go.Proofs.YtbiboekhakbnpaaGreatDoor
open Go Go.RowKit Go.Shelf
attribute [local go_sem] encS Oper.semAt_some fk cG
def aX (s:BS) (k:Nat):List Nat:=(List.range k).filter fun c=>s.getLsbD c
theorem fq (s:BS) (k:Nat):aX s (k+1)=aX s k++if s.getLsbD k then [k]else []:=by unfold aX;rw[List.range_succ,List.filter_append];by_cases h:s.getLsbD k=true<;>simp[h]
theorem sS (s:BS) {k n:Nat} (h:k<=n):aX s k<+:aX s n:=by
 induction n with
 | zero=>rw[show k=0 from by omega];exact List.prefix_rfl
 | succ n ih=>
  by_cases hk:k=n+1
  ·subst hk;exact List.prefix_rfl
  ·exact(ih (by omega)).trans (by rw[fq];exact List.prefix_append _ _)
theorem Gq (s:BS) (B:Nat) (w:World) (hB:ak w B (encS s) 70):Seq true Tryz.prog 152 #[.pointer (some ⟨B,0,none⟩)] (fun c:Nat=> #[.int .u8 c]) (· =B) (aX s 256) w:=by
 intro l J Jx W hK hJ Tx hY h0;have HY:=hid hY;have HH:=hid (oL s);clear hY;refine callsIn_wide (n:=0).1 ?_;refine callsIn_of_wp Tryz.func152 rfl trivial ?_ rfl;simp only[Tryz.ntmps152,List.size_toArray,List.length_cons,List.length_nil,Nat.reduceAdd,Nat.reduceSub,Array.replicate_succ,Array.replicate_zero,List.push_toArray,List.append_toArray,List.nil_append,List.cons_append]
 gi_wp2
 gi_loopw [4] (fun i wr=>∃ (k:Nat) (T:Nat->Prop),k<=256/\i=.int .i64 k/\ak wr B (encS s) 70/\J (aX s k) T wr/\(∀ k,T k->W.heap.size<=k/\k<wr.heap.size)/\aa (· =B) W wr)
  (fun i _=>256-(intOf i).toNat)
 case atStart=>
  exact⟨0,fun _=>False,by omega,rfl,hB.keeps hK hB.lt,h0,fun _ h=>h.elim,aa.refl _ _⟩
 case round=>
  obtain⟨k,T,hk,rfl,hb,hj,hT,hR⟩:=hrel;by_cases hlt:k<256
  ·have c0:wr.cell? ⟨B,0,none⟩=some (.int .u64 (wd s 0).toNat):=hb.cell 0
   have c1:wr.cell? ⟨B,1,none⟩=some (.int .u64 (wd s 1).toNat):=hb.cell 1;have c2:wr.cell? ⟨B,2,none⟩=some (.int .u64 (wd s 2).toNat):=hb.cell 2;have c3:wr.cell? ⟨B,3,none⟩=some (.int .u64 (wd s 3).toNat):=hb.cell 3;have HB:=hid hb;have HJ:=hid hj;have HT:=hid hT;have HR:=hid hR;clear hb hj hT hR;have bp:=fq s k;by_cases jE:s.getLsbD k=true
   ·rw[if_pos jE]at bp
    have HP:=hid bp;have JU:aX s k++ [k]<+:aX s 256:=by rw[<-bp];exact sS s (by omega)
    have Lb:=hid JU;have h1:∀ W,Calls Tryz.prog 128 #[.agg (encS s),.int .u8 k] W fun e w'=>e=.returned (.bool true)/\Ext W w':=fun W=>by have:=oL s k hlt W;rwa[jE]at this
    have H1:=hid h1;clear bp JU h1 jE HH
    gi_wp2_with (gi_at_call 128;refine(callsIn_wide.2 (H1.out _)).mono ?_;rintro e w1 ⟨rfl,hx⟩;obtain⟨fn,tm,zV,bd,hy,Ap⟩:=HY.out (aX s k) k T w1 Lb.out (fun j hj=>⟨(HT.out j hj).1,Nat.lt_of_lt_of_le (HT.out j hj).2 hx.size⟩) (HR.out.tr (hx.mono fun j hj=>by rw[show j=B from hj];exact HB.out.lt)) (hJ.ext HJ.out HT.out hx);have HX:=hid hx;have JV:=hid Ap;clear hx Ap)
    refine JV.out.mono ?_;rintro e W2 (⟨rfl,iz,hk2⟩ | ⟨rfl,iz,hk2⟩)
    ·have si:=hid iz
     have qb:=hid hk2;clear iz hk2 hy
     gi_wp2
     go_roundw
     case rel=>
      refine⟨k+1,T,by omega,by go_num,?_,?_,?_,?_⟩
      ·exact(HB.out.ext HX.out).keeps qb.out (.inl rfl)
      ·rw[HP.out];exact si.out
      ·exact fun j hj=>⟨(HT.out j hj).1,Nat.lt_of_lt_of_le (HT.out j hj).2 (Nat.le_trans HX.out.size qb.out.size)⟩
      ·exact(HR.out.tr (HX.out.mono fun j hj=>by rw[show j=B from hj];exact HB.out.lt)).tr (qb.out.mono fun j hj=>.inl hj)
     case measure=>simp[intOf];omega
    ·have si:=hid iz
     have qb:=hid hk2;clear iz hk2 hy
     gi_wp2
     refine bodyPost_ret (results_none rfl _ _ _) rfl ?_;exact⟨⟨_,rfl⟩,T,fun j hj=>⟨(HT.out j hj).1,Nat.lt_of_lt_of_le (HT.out j hj).2 (Nat.le_trans HX.out.size qb.out.size)⟩,.inr ⟨_,Lb.out,si.out⟩⟩
   ·have qR:s.getLsbD k=false:=by simpa using jE
    rw[if_neg jE,List.append_nil]at bp;have HP:=hid bp;have h1:∀ W,Calls Tryz.prog 128 #[.agg (encS s),.int .u8 k] W fun e w'=>e=.returned (.bool false)/\Ext W w':=fun W=>by have:=oL s k hlt W;rwa[qR]at this
    have H1:=hid h1;clear bp h1 jE qR HH
    gi_wp2_with (gi_at_call 128;refine(callsIn_wide.2 (H1.out _)).mono ?_;rintro e w1 ⟨rfl,hx⟩;have HX:=hid hx;clear hx)
    go_roundw
    case rel=>
     refine⟨k+1,T,by omega,by go_num,?_,?_,?_,?_⟩
     ·exact HB.out.ext HX.out
     ·rw[HP.out];exact hJ.ext HJ.out HT.out HX.out
     ·exact fun j hj=>⟨(HT.out j hj).1,Nat.lt_of_lt_of_le (HT.out j hj).2 HX.out.size⟩
     ·exact HR.out.tr (HX.out.mono fun j hj=>by rw[show j=B from hj];exact HB.out.lt)
    case measure=>simp[intOf];omega
  ·obtain rfl:k=256:=by omega
   gi_wp2
   refine bodyPost_end (results_none rfl _ _ _) rfl ?_;exact⟨⟨_,rfl⟩,T,hT,.inl hj⟩
theorem Aq (s:BS) (w:World):Calls Tryz.prog 117 #[.agg (encS s)] w fun e w'=>e=.returned (.func (.func 152) #[] #[.pointer (some ⟨w.heap.size,0,none⟩)])/\w'=w.alloc (.cells (encS s) 70 (0,0)):=by
 go_enter Tryz.func117,Tryz.ntmps117
 go_wp2;go_ret;exact⟨rfl,rfl⟩
def aB (s:BS):Nat×Bool:=match aX s 256 with | []=>(0,false) | c::_=>(c,true)
theorem wH (s:BS) (w:World):Calls Tryz.prog 79 #[.agg (encS s)] w fun e w'=>e=.returned (.tuple #[.int .u8 (aB s).1,.bool (aB s).2])/\Ext w w':=by
 refine bD Tryz.func79 rfl ?_;simp only[Tryz.ntmps79,List.size_toArray,List.length_cons,List.length_nil,Nat.reduceAdd,Nat.reduceSub,Array.replicate_succ,Array.replicate_zero,List.push_toArray,List.append_toArray,List.nil_append,List.cons_append];go_wp2_with (go_at_call 117;refine(Aq s _).mono ?_;rintro e w1 ⟨rfl,rfl⟩);refine au ?_;intro W0 hW0;have h1:ak W0 (w.heap.size+1) #[.int .u8 0] 5:=by rw[hW0];repeat (first | (refine(ak.new _ _ _).at ?_;simp;done) | refine ak.alloc ?_ _)
 have h2:ak W0 (w.heap.size+1+1) #[.bool false] 4:=by rw[hW0];repeat (first | (refine(ak.new _ _ _).at ?_;simp;done) | refine ak.alloc ?_ _)
 have h3:ak W0 (w.heap.size+1+1+1) (encS s) 70:=by rw[hW0];exact(ak.new _ _ _).at (by simp)
 have hx:Ext w W0:=by rw[hW0];exact((((Ext.refl w).alloc _).alloc _).alloc _).alloc _
 have hsz:W0.heap.size=w.heap.size+1+1+1+1:=by rw[hW0];simp
 have eg:∀ args w,(callFunc 152 args).run Tryz.prog w=.ok (.enter 152 args) w:=enters_of Tryz.func152 (by kernel_rfl) rfl;refine fT (w:=W0) (Gq s _ W0 h3) (by rfl) eg (by intro _;rfl) (by intro k hk;rw[show k=_ from hk,hsz];omega)
  (fun xs _ W=>xs=[]/\ak W (w.heap.size+1) #[.int .u8 0] 5/\ak W (w.heap.size+1+1) #[.bool false] 4/\Ext w W)
  (fun c xs _ W=>c=.ret/\∃ x,xs=[x]/\ak W (w.heap.size+1) #[.int .u8 x] 5/\ak W (w.heap.size+1+1) #[.bool true] 4/\Ext w W)
  (fun xs T T' W W' ⟨h0,h1,h2,h3⟩ hT _ _ _ hk=>⟨h0,h1.kX hT hk (by omega),h2.kX hT hk (by omega),h3.kX hT hk (by omega)⟩)
  (fun c xs T T' W W' ⟨h0,x,h1,h2,h3,h4⟩ hT _ _ _ hk=>⟨h0,x,h1,h2.kX hT hk (by omega),h3.kX hT hk (by omega),h4.kX hT hk (by omega)⟩)
  ⟨rfl,h1,h2,hx⟩
  (fun x=>⟨#[.agg (encS s),.pointer (some ⟨w.heap.size,0,none⟩),.pointer (some ⟨w.heap.size+1,0,none⟩),.pointer (some ⟨w.heap.size+1+1,0,none⟩),.int .u8 x,.agg (encS s),.func (.func 152) #[] #[.pointer (some ⟨w.heap.size+1+1+1,0,none⟩)],.int .u8 x,undef],[]⟩) ?assign ?body ?done ?stop
 case assign=>
  intro l x W K hK
  gi_wp2
  exact hK
 case body=>
  rintro l pre x T W bp hT hR vA hl ⟨rfl,h1,h2,hx⟩;have c1:W.cell? ⟨w.heap.size+1,0,none⟩=some (.int .u8 0):=h1.cell 0;have c2:W.cell? ⟨w.heap.size+1+1,0,none⟩=some (.bool false):=h2.cell 0;have f1:=h1.frozen 0;have f2:=h2.frozen 0;have H1:=hid h1;have H2:=hid h2;have HX:=hid hx;have HS:=hid hsz;have HT:=hid hT;clear h1 h2 hx hR hl vA hsz hW0 hT
  gi_wp2
  refine⟨((aa.refl _ _).setCell (fun h=>?_) _).setCell (fun h=>?_) _,rfl,x,rfl,(H1.out.set 0 _).other (by simp) _,(H2.out.other (by simp) _).set 0 _,(HX.out.setCell (by simp<;>omega) _).setCell (by simp<;>omega) _⟩
  ·have h1:=(HT.out _ h).1;have h2:=HS.out;dsimp only at h1;omega
  ·have h1:=(HT.out _ h).1;have h2:=HS.out;dsimp only at h1;omega
 case done=>
  rintro D T W hD vD hT ⟨h0,h1,h2,hx⟩ kO;have c1:W.cell? ⟨w.heap.size+1,0,none⟩=some (.int .u8 0):=h1.cell 0;have c2:W.cell? ⟨w.heap.size+1+1,0,none⟩=some (.bool false):=h2.cell 0;have f1:=h1.frozen 0;have f2:=h2.frozen 0;have H1:=hid h1;have H2:=hid h2;have HX:=hid hx;have HS:=hid hsz;have HD:=hid hD;have vt:=hid kO;have H0:=hid h0;clear h1 h2 hx vD hsz hW0 hT kO hD h0;dsimp only;go_wp2;have Dy:∀ b:Nat,b<w.heap.size+1+1+1->D≠b:=fun b hb=>by have h1:=HD.out;have h2:=HS.out;omega
  have Xt:=((aa.refl (· =D) W).setCell (p:=⟨w.heap.size+1,0,none⟩) (fun h=>Dy (w.heap.size+1) (by omega) (h.symm)) (.int .u8 0)).setCell (p:=⟨w.heap.size+1+1,0,none⟩) (fun h=>Dy (w.heap.size+1+1) (by omega) (h.symm)) (.bool false) |>.keep D rfl;rw[vt.out]at Xt;have q1:=(((H1.out.set 0 (.int .u8 0)).other (p:=⟨w.heap.size+1+1,0,none⟩) (by simp) (.bool false)).put (Dy _ (by omega)) (.deferred none)).cell 0;have q2:=(((H2.out.other (p:=⟨w.heap.size+1,0,none⟩) (by simp) (.int .u8 0)).set 0 (.bool false)).put (Dy _ (by omega)) (.deferred none)).cell 0;refine cm (v:=.tuple #[.int .u8 0,.bool false]) rfl Xt ?_ ⟨?_,?_⟩
  ·simp[results,Tryz.results79,go_sem,q1,q2]
  ·simp[aB,H0.out]
  ·exact((HX.out.setCell (by simp<;>omega) _).setCell (by simp<;>omega) _).putObj (by have h1:=HD.out;have h2:=HS.out;omega) _
 case stop=>
  rintro D c pre T W hD vD hT bp ⟨rfl,x,h0,h1,h2,hx⟩ kO;have c1:W.cell? ⟨w.heap.size+1,0,none⟩=some (.int .u8 x):=h1.cell 0;have c2:W.cell? ⟨w.heap.size+1+1,0,none⟩=some (.bool true):=h2.cell 0;have H1:=hid h1;have H2:=hid h2;have HX:=hid hx;have HS:=hid hsz;have HD:=hid hD;have vt:=hid kO;have H0:=hid h0;clear h1 h2 hx vD hsz hW0 hT kO hD h0;dsimp only;go_wp2;have Dy:∀ b:Nat,b<w.heap.size+1+1+1->D≠b:=fun b hb=>by have h1:=HD.out;have h2:=HS.out;omega
  have q1:=(H1.out.put (Dy _ (by omega)) (.deferred none)).cell 0;have q2:=(H2.out.put (Dy _ (by omega)) (.deferred none)).cell 0;refine cm (v:=.tuple #[.int .u8 x,.bool true]) rfl vt.out ?_ ⟨?_,?_⟩
  ·simp[results,Tryz.results79,go_sem,q1,q2]
  ·obtain⟨r,hr⟩:=bp
   rw[H0.out]at hr;simp[aB, <-hr]
  ·exact HX.out.putObj (by have h1:=HD.out;have h2:=HS.out;omega) _
end Go.Proofs.YtbiboekhakbnpaaGreatDoor
namespace Go.Proofs.YtbiboekhakbnpaaGreatDoor
open Go Go.RowKit Go.Shelf
attribute [local go_sem] encS
def aI (s t:BS):Int:=if(aB ((s&&& ~~~t) ||| (t&&& ~~~s))).2 then(if s.getLsbD (aB ((s&&& ~~~t) ||| (t&&& ~~~s))).1 then-1 else 1)else 0
theorem Ek (s:BS):(aB s).1<256:=by
 unfold aB;split
 ·decide
 ·rename_i c l h
  have:c∈aX s 256:=by rw[h];simp
  simp[aX]at this;exact this.1
theorem Ar (s t:BS) (w:World):Calls Tryz.prog 89 #[.agg (encS s),.agg (encS t)] w fun e w'=>e=.returned (.int .i64 (aI s t))/\Ext w w':=by
 have HL1:=hid fun W=>sR s t W
 have HL2:=hid fun W=>sR t s W
 have HO:=hid fun W=>Tw (s&&& ~~~t) (t&&& ~~~s) W
 have HF:=hid fun W=>wH ((s&&& ~~~t) ||| (t&&& ~~~s)) W
 have hv:aI s t=if(aB ((s&&& ~~~t) ||| (t&&& ~~~s))).2 then(if s.getLsbD (aB ((s&&& ~~~t) ||| (t&&& ~~~s))).1 then-1 else 1)else 0:=rfl
 have hlt:=Ek ((s&&& ~~~t) ||| (t&&& ~~~s));generalize aI s t=z at hv ⊢;generalize aB ((s&&& ~~~t) ||| (t&&& ~~~s))=fo at HF hv hlt;obtain⟨c,b⟩:=fo;dsimp only at hv hlt;generalize (s&&& ~~~t) ||| (t&&& ~~~s)=u3 at HO HF
 generalize (s&&& ~~~t)=u1 at HO HL1;generalize (t&&& ~~~s)=u2 at HO HL2;have HV:=hid hv;have HH:=hid fun W=>oL s c hlt W
 clear hv;go_enter Tryz.func89,Tryz.ntmps89;go_wp2;refine fj (fun b=>b=w.heap.size\/b=w.heap.size+1) (by kernel_rfl) (fun i=>i==2 || i==5 || i==6 || i==7) (by kernel_rfl) ?_;intro C hC hne W0 Hz hblk hsz hx0;have hA:ak ((w.alloc (.cells (encS s) 70 (0,0))).alloc (.cells (encS t) 70 (0,0))) w.heap.size (encS s) 70:=(ak.new w _ _).alloc _;have hB:ak ((w.alloc (.cells (encS s) 70 (0,0))).alloc (.cells (encS t) 70 (0,0))) (w.heap.size+1) (encS t) 70:=(ak.new _ _ _).at (by simp);obtain⟨a0,a1,a2,a3⟩:=ya hC (.inl rfl) hA;obtain⟨b0,b1,b2,b3⟩:=ya hC (.inr rfl) hB;have HC:=hid hC;have Xu:=hid Hz;have JT:=hid ((((Ext.refl w).alloc _).alloc _).trans hx0);have HA:=hid (hA.same (hblk _));have HS:Hid (∀ k,(k=w.heap.size\/k=w.heap.size+1)->k<((w.alloc (.cells (encS s) 70 (0,0))).alloc (.cells (encS t) 70 (0,0))).heap.size):=fun k hk=>by simp;omega
 clear hC Hz hblk hsz hA hB hx0
 repeat (refine bj (fun K hK=>?_);refine cC rfl ?_;unfold ar;go_simp;refine hK _ _ ?_;clear hK K)
 refine bj (fun K hK=>?_);refine dJ rfl ?_;go_simp;refine eK ((HL1.out _).mono ?_);rintro e w1 ⟨rfl,hx⟩;have sU:=aa.step Xu.out HS hx;refine⟨_,rfl,(HC.out _).2 sU,hK _ _ ?_⟩;have Xv:=hid sU;have iZ:=hid hx;clear hK K sU hx
 repeat (refine bj (fun K hK=>?_);refine cC rfl ?_;unfold ar;go_simp;refine hK _ _ ?_;clear hK K)
 refine bj (fun K hK=>?_);refine dJ rfl ?_;go_simp;refine eK ((HL2.out _).mono ?_);rintro e w2 ⟨rfl,hx⟩;have hk2:=aa.step Xv.out HS hx;refine⟨_,rfl,(HC.out _).2 hk2,hK _ _ ?_⟩;have qb:=hid hk2;have eZ:=hid hx;clear hK K hk2 hx;refine bj (fun K hK=>?_);refine dJ rfl ?_;go_simp;refine eK ((HO.out _).mono ?_);rintro e w3 ⟨rfl,hx⟩;have hk3:=aa.step qb.out HS hx;refine⟨_,rfl,(HC.out _).2 hk3,hK _ _ ?_⟩;have Xw:=hid hk3;have nG:=hid hx;clear hK K hk3 hx;refine bj (fun K hK=>?_);refine dJ rfl ?_;go_simp;refine eK ((HF.out _).mono ?_);rintro e w4 ⟨rfl,hx⟩;have hk4:=aa.step Xw.out HS hx;refine⟨_,rfl,(HC.out _).2 hk4,hK _ _ ?_⟩;have HK4:=hid hk4;have Au:=hid hx;clear hK K hk4 hx
 repeat (refine bj (fun K hK=>?_);refine cC rfl ?_;unfold ar;go_simp;refine hK _ _ ?_;clear hK K)
 refine mh ?_;have Ty:=hid ((((JT.out.trans iZ.out).trans eZ.out).trans nG.out).trans Au.out);have HA4:=hid (HA.out.ext ((((iZ.out.trans eZ.out).trans nG.out).trans Au.out)));clear a0 a1 a2 a3 b0 b1 b2 b3 Xu Xv qb Xw HK4 HC HS JT iZ eZ nG Au HL1 HL2 HO HF HA;cases b with
 | false=>
  go_wp2;go_ret;exact⟨congrArg (fun z=>Ending.returned (.int .i64 z)) HV.out.symm,Ty.out⟩
 | true=>
  obtain⟨a0,a1,a2,a3⟩:=HA4.out.Eg;by_cases hb:s.getLsbD c=true
  ·have H1:Hid (∀ W,Calls Tryz.prog 128 #[.agg (encS s),.int .u8 c] W fun e w'=>e=.returned (.bool true)/\Ext W w'):=fun W=>by have:=HH.out W;rwa[hb]at this
   have HV':=hid (show z= -1 from by have:=HV.out;simpa[hb]using this);clear hb HV;go_wp2_with (go_at_call 128;refine(H1.out _).mono ?_;rintro e w5 ⟨rfl,hx⟩;have RU:=hid hx;clear hx);go_ret;exact⟨congrArg (fun z=>Ending.returned (.int .i64 z)) HV'.out.symm,Ty.out.trans RU.out⟩
  ·have hb':s.getLsbD c=false:=by simpa using hb
   have H1:Hid (∀ W,Calls Tryz.prog 128 #[.agg (encS s),.int .u8 c] W fun e w'=>e=.returned (.bool false)/\Ext W w'):=fun W=>by have:=HH.out W;rwa[hb']at this
   have HV':=hid (show z=1 from by have:=HV.out;simpa[hb']using this);clear hb hb' HV;go_wp2_with (go_at_call 128;refine(H1.out _).mono ?_;rintro e w5 ⟨rfl,hx⟩;have RU:=hid hx;clear hx);go_ret;exact⟨congrArg (fun z=>Ending.returned (.int .i64 z)) HV'.out.symm,Ty.out.trans RU.out⟩
end Go.Proofs.YtbiboekhakbnpaaGreatDoor
namespace Go.Proofs.YtbiboekhakbnpaaGreatDoor
open Go Go.RowKit Go.Shelf
attribute [local go_sem] encS
end Go.Proofs.YtbiboekhakbnpaaGreatDoor
namespace Go.Proofs.YtbiboekhakbnpaaGreatDoor
open Go Go.RowKit Go.Shelf Go.Maps
attribute [local go_sem] encS Oper.semAt_some fk cG
theorem Tryz.Lc:(Tryz.prog.info? 5).map (fun i=>(i.zero,i.size,i.bytes))=some (some (.int .u8 0),1,1):=by kernel_rfl
def en (c:Nat):Value:=.int .u8 c
theorem vE {d:Bool} {gf:Nat} {lb:Array Value} {R:Nat->Prop} (xs:List Nat) (w:World) (hseq:Seq d Tryz.prog gf lb (fun c:Nat=> #[.int .u8 c]) R xs w) (eg:∀ args w,(callFunc gf args).run Tryz.prog w=.ok (.enter gf args) w) (hR:∀ k,R k->k<w.heap.size) (hn:xs.length<=1000000): Calls Tryz.prog 181 #[.slice none 0 0,.func (.func gf) #[] lb] w fun e w'=>∃ v,e=.returned v/\w'.ownsRow w.heap.size 5 1 v xs.length (xs.map en)/\Below w.heap.size w w':=by
 obtain⟨i0,hi,hz0,hz1,hz2⟩:=info_parts Tryz.Lc;refine bD Tryz.func181 rfl ?_;simp only[Tryz.ntmps181,List.size_toArray,List.length_cons,List.length_nil,Nat.reduceAdd,Nat.reduceSub,Array.replicate_succ,Array.replicate_zero,List.push_toArray,List.append_toArray,List.nil_append,List.cons_append];go_wp2;refine au ?_;intro W0 hW0;have h1:ak W0 w.heap.size #[.slice none 0 0] 23:=by rw[hW0];exact ak.new _ _ _
 have hx:Ext w W0:=by rw[hW0];exact(Ext.refl w).alloc _
 have hsz:W0.heap.size=w.heap.size+1:=by rw[hW0];simp
 refine fT (w:=W0) (hseq.at hx.keeps) (by rfl) eg (by intro _;rfl) (by intro k hk;have:=hR k hk;omega)
  (fun xs T W=>∃ v,ak W w.heap.size #[v] 23/\W.ownsRow (w.heap.size+1) 5 1 v xs.length (xs.map en)/\(∀ k,v.ownBlock=some k->¬T k)/\Below w.heap.size w W)
  (fun _ _ _ _=>False)
  ?_
  (fun c xs T T' W W' h=>h.elim)
  ⟨_,h1,World.ownsRow_nil _ _ _ _,fun _ _ h=>h,hx.below⟩
  (fun x=>⟨#[.slice none 0 0,.func (.func gf) #[] lb,.pointer (some ⟨w.heap.size,0,none⟩),undef,.slice none 0 0,.int .u8 x,.func (.func gf) #[] lb,.int .u8 x,undef,undef,undef,undef,undef],[]⟩) ?assign ?body ?done ?stop
 ·intro xs T T' W W' ⟨v,g1,g2,g3,g4⟩ hT Ld hs hn hk
  refine⟨v,g1.kX hT hk (by omega),ae g2 hk.1 (fun k e=>⟨(g2.lt k e).2,g3 k e⟩),fun k e ht=>?_,fS g4 hT hk (Nat.le_refl _) (by omega)⟩;rcases hn k ht with h | h
  ·exact g3 k e h
  ·have:=(g2.lt k e).2;omega
 case assign=>
  intro l x W K hK
  gi_wp2
  exact hK
 case body=>
  rintro l pre x T W bp hT _ vA hl ⟨v,g1,g2,g3,g4⟩;have c1:W.cell? ⟨w.heap.size,0,none⟩=some v:=g1.cell 0;have f1:=g1.frozen 0;have hlen:pre.length<xs.length:=by obtain⟨r,hr⟩:=bp;rw[<-hr];simp
  have G1:=hid g1;have G3:=hid g3;have G4:=hid g4;have jZ:=hid hsz;have HT:=hid hT;clear g1 g3 g4 hsz hW0 hT hl vA
  gi_wp2_with (gi_at_builtin;refine wpListIn_append_own_at _ rfl _ _ 23 rfl (w.heap.size+1) 5 i0 (.int .u8 0) 1 1 Tryz.underlying23 hi hz0 hz1 hz2 rfl (by decide) _ _ _ rfl (g2.alloc _) ⟨W.heap.size,0,none⟩ 1 1 [en x] rfl rfl (cell_one_new _ _ _) (by simp[Value.oneCell',en]) (by unfold maxLen;omega) (by omega) (by have h1:=G4.out.size;have h2:=jZ.out;have h3:=G1.out.lt;simp;omega) ?_;intro v' w1 hown' hgrow hh hat;obtain⟨g',cap',rfl⟩:=ownsRow_succ hown';have hb1:=(G1.out.alloc (.cells #[.int .u8 x] 5 (0,0))).grown hgrow (fun e=>by have:=(g2.lt _ e.symm).1;omega);have c2:=hb1.cell 0;have f2:=hb1.frozen 0;have HB:=hid hb1;have HO:=hid hown';have HG:=hid hgrow;have H2:=hid g2;have Le:=hid hat;clear hown' hgrow hb1 g2 hh hat)
  have hgT:¬T g':=fun ht=>by
   rcases Le.out with h | h
   ·exact G3.out g' h.symm ht
   ·have h1:=(HT.out g' ht).2;simp[Value.ownBlock]at h;omega
  have Tz:∀ k,(R k\/T k)->k<W.heap.size/\some k≠v.ownBlock:=fun k hk=>by
   refine⟨?_,fun e=>?_⟩
   ·rcases hk with hk | hk
    ·have h1:=hR k hk;have h2:=G4.out.size;omega
    ·exact(HT.out k hk).2
   ·rcases hk with hk | hk
    ·have h1:=hR k hk;have h2:=(H2.out.lt k e.symm).1;omega
    ·exact G3.out k e.symm hk
  have sU:aa (fun k=>R k\/T k) W w1:=(((aa.refl _ W).alloc (fun k hk=>(Tz k hk).1) _)).tr (aa.aW HG.out fun k hk=>⟨by have:=(Tz k hk).1;simp;omega,(Tz k hk).2⟩);have vu:∀ k,(R k\/T k)->k≠w.heap.size:=fun k hk=>by
   rcases hk with hk | hk
   ·have h1:=hR k hk;omega
   ·have h1:=(HT.out k hk).1;have h2:=jZ.out;omega
  refine⟨sU.setCell (fun h=>vu _ h rfl) _,_,HB.out.set 0 _,?_,fun k e=>?_,?_⟩
  ·rw[List.length_append,List.map_append]
   exact ae HO.out ((aa.refl (fun k=>k≠w.heap.size) _).setCell (by simp) _) (fun k e=>by have:=(HO.out.lt k e).1;omega)
  ·simp[Value.ownBlock]at e;subst e;exact hgT
  ·exact((G4.out.alloc (by exact G4.out.size) _).grown HG.out (by have:=G4.out.size;simp;omega) (fun k e=>by have:=(H2.out.lt k e).1;omega)).setCell (Nat.le_refl _) _
 case done=>
  rintro D T W hD vD hT ⟨v,g1,g2,g3,g4⟩ kO;have c1:W.cell? ⟨w.heap.size,0,none⟩=some v:=g1.cell 0;have G2:=hid g2;have G4:=hid g4;have HD:=hid hD;have jZ:=hid hsz;have vt:=hid kO;clear g1 g2 g3 g4 hsz hW0 hT vD kO hD;dsimp only;go_wp2;refine cm rfl vt.out (results_tmp rfl _ _ _) ⟨v,rfl,ownsRow_putObj (ax G2.out (by omega)) _ vt.out rfl,((aa.ah G4.out (fun _ h=>h)).putObj (by have:=HD.out;have:=jZ.out;omega) _).below⟩
 case stop=>rintro D c pre T W _ _ _ _ h _;exact h.elim
theorem Av {d:Bool} {gf:Nat} {lb:Array Value} {R:Nat->Prop} (xs:List Nat) (w:World) (hseq:Seq d Tryz.prog gf lb (fun c:Nat=> #[.int .u8 c]) R xs w) (eg:∀ args w,(callFunc gf args).run Tryz.prog w=.ok (.enter gf args) w) (hR:∀ k,R k->k<w.heap.size) (hn:xs.length<=1000000): Calls Tryz.prog 174 #[.func (.func gf) #[] lb] w fun e w'=>∃ v,e=.returned v/\w'.ownsRow w.heap.size 5 1 v xs.length (xs.map en)/\Below w.heap.size w w':=by have H:=hid (vE xs w hseq eg hR hn);clear hseq eg;go_enter Tryz.func174,Tryz.ntmps174;go_wp2_with (go_at_call 181;refine H.out.mono ?_;rintro e w1 ⟨v,rfl,h1,h2⟩;have H1:=hid h1;have H2:=hid h2;clear h1 h2);go_ret;exact⟨v,rfl,H1.out,H2.out⟩
theorem H5 (s:BS) (w:World): Calls Tryz.prog 151 #[.agg (encS s)] w fun e w'=>∃ v,e=.returned v/\w'.ownsRow w.heap.size 5 1 v (aX s 256).length ((aX s 256).map en)/\Below w.heap.size w w':=by
 have eg:∀ args w,(callFunc 152 args).run Tryz.prog w=.ok (.enter 152 args) w:=enters_of Tryz.func152 (by kernel_rfl) rfl;have hlen:(aX s 256).length<=1000000:=by unfold aX;exact Nat.le_trans (List.length_filter_le _ _) (by simp)
 have H:Hid (∀ (W:World) (B:Nat),ak W B (encS s) 70->Calls Tryz.prog 174 #[.func (.func 152) #[] #[.pointer (some ⟨B,0,none⟩)]] W fun e w'=>∃ v,e=.returned v/\w'.ownsRow W.heap.size 5 1 v (aX s 256).length ((aX s 256).map en)/\Below W.heap.size W w'):=
  fun W B hB=>Av _ W (Gq s B W hB) eg (fun k hk=>by rw[show k=B from hk];exact hB.lt) hlen
 clear eg hlen;generalize aX s 256=xs at H ⊢;go_enter Tryz.func151,Tryz.ntmps151;go_wp2_with (first | (go_at_call 117;refine(Aq s _).mono ?_;rintro e w1 ⟨rfl,rfl⟩) | (go_at_call 174;refine(H.out _ _ ((ak.new _ _ _).at (by simp))).mono ?_;rintro e w1 ⟨v,rfl,h1,h2⟩;have H1:=hid h1;have H2:=hid h2;clear h1 h2));go_ret;refine⟨v,rfl,ax H1.out (by simp;omega),?_⟩;exact(((Ext.refl w).alloc _).alloc _).below.trans (H2.out.mono (by simp;omega))
end Go.Proofs.YtbiboekhakbnpaaGreatDoor
