/- Walks: slices.AppendSeq, slices.Collect at bytes; sets.Bytes, sets.Size. -/
import Derived.Test.YtalombmiochpmaaGreatDoorOR01
import Derived.Test.YtalombmiochpmaaGreatDoorProg
import Derived.WalkSpells
import Derived.WalkLawsBesides
import Derived.BigQuiet
import Derived.TacticsInMore
import Derived.LoopNIn
import Derived.LoopIn
import Derived.Shelf.AbstractIn
import Derived.Maps.OwnIn
set_option maxRecDepth 100000
set_option maxHeartbeats 16000000
open Go.Lib (hid)
namespace Go.Proofs.YtalombmiochpmaaGreatDoor
section
open Go Go.RowKit
abbrev BS:=BitVec 256
def wd (s:BS) (i:Nat):BitVec 64:=s.extractLsb' (64*i) 64
def encS (s:BS):Array Value:= #[.int .u64 (wd s 0).toNat,.int .u64 (wd s 1).toNat,.int .u64 (wd s 2).toNat,.int .u64 (wd s 3).toNat]
theorem j6 (s:BS):(encS s).size=4:=rfl
theorem gI (s:BS) {k:Nat} (hk:k<4):(encS s)[k]? =some (.int .u64 (wd s k).toNat):=by
 match k,hk with
 | 0,_=>rfl
 | 1,_=>rfl
 | 2,_=>rfl
 | 3,_=>rfl
theorem xA (op:BinOp) (x y:BitVec 64):bits op .u64 x.toNat y.toNat=((match op with | .and=>x&&& y | .or=>x ||| y | .xor=>x ^^^ y | _=>x&&& ~~~y).toNat:Int):=by
 have hx:BitVec.ofInt (IntKind.u64).bits (x.toNat:Int)=x:=by apply BitVec.eq_of_toNat_eq;simp[IntKind.bits]
 have hy:BitVec.ofInt (IntKind.u64).bits (y.toNat:Int)=y:=by apply BitVec.eq_of_toNat_eq;simp[IntKind.bits]
 have hw:∀ z:BitVec 64,IntKind.u64.wrap (z.toNat:Int)=z.toNat:=fun z=>by
  have:=z.isLt;simp only[IntKind.wrap,IntKind.bits,IntKind.signed,Bool.false_and,Bool.false_eq_true,if_false];omega
 unfold bits;simp only[hx,hy];cases op<;>exact hw _
theorem Eb (x y:BitVec 64):bits .or .u64 x.toNat y.toNat=((x ||| y).toNat:Int):=xA .or x y
theorem GG (x y:BitVec 64):bits .and .u64 x.toNat y.toNat=((x&&& y).toNat:Int):=xA .and x y
theorem QS (x y:BitVec 64):bits .xor .u64 x.toNat y.toNat=((x ^^^ y).toNat:Int):=xA .xor x y
theorem Nu (x y:BitVec 64):bits .andNot .u64 x.toNat y.toNat=((x&&& ~~~y).toNat:Int):=xA .andNot x y
theorem GH (x:BitVec 64):bits .xor .u64 IntKind.u64.max x.toNat=((~~~x).toNat:Int):=by
 have h:IntKind.u64.max=((BitVec.allOnes 64).toNat:Int):=by decide
 rw[h,QS,BitVec.allOnes_xor]
theorem GI (n:Nat) (h:n<2^64):bits .and .u64 (n:Int) 1=((n%2:Nat):Int):=by
 have e1:((BitVec.ofNat 64 n).toNat:Int)=n:=by rw[BitVec.toNat_ofNat,Nat.mod_eq_of_lt h]
 have e2:(((1:BitVec 64)).toNat:Int)=1:=rfl;rw[<-e1, <-e2,GG];congr 1;rw[BitVec.toNat_and,BitVec.toNat_ofNat,Nat.mod_eq_of_lt h];exact Nat.and_one_is_mod n
theorem adJ (s t:BS) (i:Nat):wd (s ||| t) i=wd s i ||| wd t i:=by unfold wd;exact BitVec.extractLsb'_or ..
theorem QT (s t:BS) (i:Nat):wd (s&&& t) i=wd s i&&& wd t i:=by unfold wd;exact BitVec.extractLsb'_and ..
theorem J3 (s:BS) {i:Nat} (hi:i<4):wd (~~~s) i= ~~~(wd s i):=by
 unfold wd;apply BitVec.eq_of_getLsbD_eq;intro k hk;simp only[BitVec.getLsbD_extractLsb',BitVec.getLsbD_not,hk,decide_true,Bool.true_and];have:64*i+k<256:=by omega
 simp[this]
theorem VK (i:Nat):wd 0 i=0:=by unfold wd;exact BitVec.extractLsb'_zero ..
theorem BS.aaf {s t:BS} (h:∀ i,i<4->wd s i=wd t i):s=t:=by apply BitVec.eq_of_getLsbD_eq;intro k hk;have h1:=congrArg (fun b:BitVec 64=>b.getLsbD (k%64)) (h (k/64) (by omega));simp only[wd,BitVec.getLsbD_extractLsb',show k%64<64 from by omega,decide_true,Bool.true_and]at h1;rwa[show 64*(k/64)+k%64=k from by omega]at h1
theorem aag (s:BS) (c:Nat):(wd s (c/64)).toNat/2^ (c%64)%2=(s.getLsbD c).toNat:=by
 have h:(wd s (c/64)).getLsbD (c%64)=s.getLsbD c:=by simp only[wd,BitVec.getLsbD_extractLsb',show c%64<64 from by omega,decide_true,Bool.true_and];rw[show 64*(c/64)+c%64=c from by omega]
 rw[<-h,BitVec.getLsbD,Nat.testBit_eq_decide_div_mod_eq];have:=Nat.mod_lt ((wd s (c/64)).toNat/2^ (c%64)) (show 0<2 by decide);generalize (wd s (c/64)).toNat/2^ (c%64)%2=z at*;match z,this with
 | 0,_=>rfl
 | 1,_=>rfl
theorem QU (s:BS) (c:Nat):(bits .and .u64 (((wd s (c/64)).toNat:Int)/2^ (c%64)) 1==1)=s.getLsbD c:=by
 have h:(((wd s (c/64)).toNat:Int)/2^ (c%64))=((((wd s (c/64)).toNat/2^ (c%64):Nat)):Int):=by simp
 rw[h,GI _ (Nat.lt_of_le_of_lt (Nat.div_le_self _ _) (wd s (c/64)).isLt),aag];cases s.getLsbD c<;>rfl
/-! '==' on arrays of whole numbers. -/
theorem s5 {P:Program} {w:World} {e:TypeId} {cs:Array Value} {i:Nat} {v:Value} (ha:∀ w,(isAgg e).run P w=.ok false w) (h:cs[i]? =some v):(part e cs i).run P w=.ok v w:=by unfold part;simp[Sem.run_bind,ha,h]
theorem run_equalIn_array {P:Program} (w:World) (d:Nat) {t e:TypeId} {len:Nat} {k:IntKind} (xs ys:Array Value) (x y:Nat->Int) (ht:P.underlying t=some (.array len e)) (he:P.underlying e=some (.int k)) (ha:∀ w,(isAgg e).run P w=.ok false w) (hz:∀ w,(sizeOf e).run P w=.ok 1 w) (hx:∀ i,i<len->xs[i]? =some (.int k (x i))) (hy:∀ i,i<len->ys[i]? =some (.int k (y i))): (Op.equalIn (d+2) t (.agg xs) (.agg ys)).run P w=.ok ((List.range len).all fun i=>x i==y i) w:=by
 rw[show d+2=(d+1)+1 from rfl,Op.equalIn];simp only[Sem.run_bind,run_underlying ht,Result.andThen_ok,hz];simp only[Std.Legacy.Range.forIn_eq_forIn_range',Std.Legacy.Range.size,Nat.sub_zero,Nat.add_one_sub_one,Nat.div_one]
 have key:∀ (l:List Nat),(∀ i∈l,i<len)->(Sem.run P (forIn (m:=Sem) l ((none,()):Option Bool×Unit) fun i (_:Option Bool×Unit)=>do
   let a <-part e xs (i*1)
   let b <-part e ys (i*1)
   let r <-Op.equalIn (d+1) e a b
   if(!r)=true then pure (ForInStep.done (some false,()))else pure (ForInStep.yield (none,()))) w)=.ok (if(l.all fun i=>x i==y i)then none else some false,()) w:=by
  intro l;induction l with
  | nil=>intro _;simp
  | cons i l ih=>
   intro hl;have hi:=hl i (by simp);simp only[List.forIn_cons,Sem.run_bind,Nat.mul_one,s5 ha (hx i hi),s5 ha (hy i hi),Result.andThen_ok,run_equalIn_int w d e k k _ _ he];by_cases h:x i=y i
   ·have h':(x i==y i)=true:=by simpa using h
    have:=ih (fun j hj=>hl j (by simp[hj]));simp only[Nat.mul_one]at this;simp only[h',Bool.not_true,Bool.false_eq_true,if_false,Sem.run_pure,Result.andThen_ok,List.all_cons,Bool.true_and];exact this
   ·have h':(x i==y i)=false:=by simpa using h
    simp[h']
 rw[key (List.range' 0 len) (fun i hi=>by simpa[List.mem_range']using hi)];simp only[Result.andThen_ok];rw[List.range_eq_range'];split<;>simp_all
theorem QV (s t:BS):((List.range 4).all fun i=>(((wd s i).toNat:Int)==((wd t i).toNat:Int)))=(s==t):=by
 rw[Bool.eq_iff_iff];simp only[List.all_eq_true,List.mem_range,beq_iff_eq];constructor
 ·intro h;exact BS.aaf fun i hi=>BitVec.eq_of_toNat_eq (by have:=h i hi;omega)
 ·intro h i _;rw[h]
theorem Ec {C:World->Prop} {S:Nat->Prop} {w:World} (hC:∀ W,C W↔aa S w W) {b:Nat} {s:BS} {t:TypeId} (hs:S b) (h:ah w b (encS s) t): (∀ W: {W//C W},W.1.cell? ⟨b,0,none⟩=some (.int .u64 (wd s 0).toNat))/\(∀ W: {W//C W},W.1.cell? ⟨b,1,none⟩=some (.int .u64 (wd s 1).toNat))/\ (∀ W: {W//C W},W.1.cell? ⟨b,2,none⟩=some (.int .u64 (wd s 2).toNat))/\(∀ W: {W//C W},W.1.cell? ⟨b,3,none⟩=some (.int .u64 (wd s 3).toNat)):=
 ⟨dV hC (p:=⟨b,0,none⟩) hs (h.cell 0),dV hC (p:=⟨b,1,none⟩) hs (h.cell 1),dV hC (p:=⟨b,2,none⟩) hs (h.cell 2),dV hC (p:=⟨b,3,none⟩) hs (h.cell 3)⟩
theorem ah.wT {w:World} {b:Nat} {s:BS} {t:TypeId} (h:ah w b (encS s) t): w.cell? ⟨b,0,none⟩=some (.int .u64 (wd s 0).toNat)/\w.cell? ⟨b,1,none⟩=some (.int .u64 (wd s 1).toNat)/\w.cell? ⟨b,2,none⟩=some (.int .u64 (wd s 2).toNat)/\w.cell? ⟨b,3,none⟩=some (.int .u64 (wd s 3).toNat):=
 ⟨h.cell 0,h.cell 1,h.cell 2,h.cell 3⟩
def rG (s:BS) (c:Nat):BS:=s ||| BitVec.twoPow 256 c
theorem mB (s:BS) {c d:Nat} (hc:c<256):(rG s c).getLsbD d=(s.getLsbD d || (d==c)):=by unfold rG;rw[BitVec.getLsbD_or,BitVec.getLsbD_twoPow];simp only[hc,decide_true,Bool.true_and];congr 1;rw[Bool.eq_iff_iff];simp;exact eq_comm
theorem QW (s:BS) {c i:Nat} (hc:c<256) (hi:i<4):wd (rG s c) i=if i=c/64 then wd s i ||| BitVec.twoPow 64 (c%64)else wd s i:=by
 have hm:c%64<64:=Nat.mod_lt _ (by decide);split
 ·rename_i h
  subst h;apply BitVec.eq_of_getLsbD_eq;intro k hk;have h2:∀ d,(rG s c).getLsbD d=(s.getLsbD d || (d==c)):=fun d=>mB s hc
  simp only[wd,BitVec.getLsbD_extractLsb',hk,decide_true,Bool.true_and,h2,BitVec.getLsbD_or,BitVec.getLsbD_twoPow,hm];congr 1;rw[Bool.eq_iff_iff];simp;omega
 ·rename_i h
  apply BitVec.eq_of_getLsbD_eq;intro k hk;simp only[wd,BitVec.getLsbD_extractLsb',hk,decide_true,Bool.true_and,mB s hc];rw[show(64*i+k==c)=false from by simp;omega,Bool.or_false]
theorem J4 (x:BitVec 64) {m:Nat} (hm:m<64):bits .or .u64 x.toNat (IntKind.u64.wrap (2^m))=((x ||| BitVec.twoPow 64 m).toNat:Int):=by
 have h:IntKind.u64.wrap (2^m)=((BitVec.twoPow 64 m).toNat:Int):=by
  have h1:(2:Nat)^m<2^64:=Nat.pow_lt_pow_right (by decide) hm;have h2:((2:Int)^m)=((2^m:Nat):Int):=by simp
  rw[BitVec.toNat_twoPow,Nat.mod_eq_of_lt h1,h2];simp only[IntKind.wrap,IntKind.bits,IntKind.signed,Bool.false_and,Bool.false_eq_true,if_false];exact Int.emod_eq_of_lt (Int.natCast_nonneg _) (by exact_mod_cast h1)
 rw[h,Eb]
theorem xZ (s:BS) {c:Nat} (hc:c<256):(encS s).setIfInBounds (c/64) (.int .u64 (bits .or .u64 (wd s (c/64)).toNat (IntKind.u64.wrap (2^ (c%64)))))=encS (rG s c):=by
 rw[J4 _ (Nat.mod_lt _ (by decide))];apply Array.ext_getElem?;intro i;rw[Array.getElem?_setIfInBounds];by_cases hi:i<4
 ·rw[gI _ hi,gI _ hi,QW s hc hi]
  split
  ·rename_i h;subst h;simp[j6,hi]
  ·rename_i h;rw[if_neg (fun e=>h e.symm)]
 ·have h1:(encS s)[i]? =none:=by simp[j6];omega
  have h2:(encS (rG s c))[i]? =none:=by simp[j6];omega
  rw[h1,h2];split
  ·rw[if_neg (by rw[j6];omega)]
  ·rfl
def oJ (p:Nat->Bool):BS:=(List.range 256).foldl (fun s c=>if p c then rG s c else s) 0
theorem QX (p:Nat->Bool):∀ n,n<=256->∀ d,((List.range n).foldl (fun s c=>if p c then rG s c else s) (0:BS)).getLsbD d=(decide (d<n)&&p d):=by
 intro n;induction n with
 | zero=>intro _ d;simp
 | succ n ih=>
  intro hn d;rw[List.range_succ,List.foldl_append,List.foldl_cons,List.foldl_nil];have h:=ih (by omega) d;by_cases hp:p n=true
  ·rw[if_pos hp,mB _ (by omega),h]
   by_cases hd:d=n
   ·subst hd;simp[hp]
   ·rw[Bool.eq_iff_iff];simp[hd];intro _;omega
  ·rw[if_neg hp,h]
   by_cases hd:d=n
   ·subst hd;simp[hp]
   ·rw[Bool.eq_iff_iff];simp;intro _;omega
theorem QY (p:Nat->Bool) {d:Nat} (hd:d<256):(oJ p).getLsbD d=p d:=by have:=QX p 256 (Nat.le_refl _) d;rw[oJ,this];simp[hd]
theorem BS.ext {s t:BS} (h:∀ c,c<256->s.getLsbD c=t.getLsbD c):s=t:=BitVec.eq_of_getLsbD_eq h
theorem BS.Mn {s:BS} {p:Nat->Bool} (h:∀ c,c<256->s.getLsbD c=p c):s=oJ p:=BS.ext fun c hc=>by rw[h c hc,QY p hc]
def aZ {α:Type} (enc:α->Value) (w:World) (v:Value) (l:List α):Prop:=
 (v=.slice none 0 0/\l=[])\/∃ b off cap,v=.slice (some ⟨b,off,none⟩) l.length cap/\b<w.heap.size/\l.length<=cap/\∀ i x,l[i]? =some x->w.cell? ⟨b,off+i,none⟩=some (enc x)
theorem s6 (s:BS) (c:Nat) (hc:c<256) (w:World): Calls Tryz.prog 92 #[.agg (encS s),.int .u8 c] w fun e w'=>e=.returned (.bool (s.getLsbD c))/\Ext w w':=by have hcell:=gI s (show c/64<4 by omega);go_enter Tryz.func92,Tryz.ntmps92;go_wp2;go_ret;exact⟨congrArg (fun b=>Ending.returned (.bool b)) (QU s c),(Ext.refl w).alloc _⟩
theorem VL (x y:BitVec 64) (w:World):Calls Tryz.prog 120 #[.int .u64 x.toNat,.int .u64 y.toNat] w fun e w'=>e=.returned (.int .u64 (x ||| y).toNat)/\w'=w:=by have h:=Eb x y;go_enter Tryz.func120,Tryz.ntmps120;go_wp2;go_ret;exact⟨rfl,rfl⟩
theorem QZ (x y:BitVec 64) (w:World):Calls Tryz.prog 87 #[.int .u64 x.toNat,.int .u64 y.toNat] w fun e w'=>e=.returned (.int .u64 (x&&& y).toNat)/\w'=w:=by have h:=GG x y;go_enter Tryz.func87,Tryz.ntmps87;go_wp2;go_ret;exact⟨rfl,rfl⟩
theorem Nv (x y:BitVec 64) (w:World):Calls Tryz.prog 88 #[.int .u64 x.toNat,.int .u64 y.toNat] w fun e w'=>e=.returned (.int .u64 (x&&& ~~~y).toNat)/\w'=w:=by
 go_enter Tryz.func88,Tryz.ntmps88
 go_wp2;go_ret;exact⟨congrArg (fun z=>Ending.returned (.int .u64 z)) (Nu x y),rfl⟩
theorem Q8 (x y:BitVec 64) (w:World):Calls Tryz.prog 109 #[.int .u64 x.toNat,.int .u64 y.toNat] w fun e w'=>e=.returned (.int .u64 (~~~x).toNat)/\w'=w:=by have hsg:IntKind.u64.signed=false:=rfl;go_enter Tryz.func109,Tryz.ntmps109;go_wp2;go_ret;exact⟨congrArg (fun z=>Ending.returned (.int .u64 z)) (GH x),rfl⟩
def Ed (u:BS) (k:Nat):Array Value:= #[.int .u64 (if 0<k then wd u 0 else 0).toNat,.int .u64 (if 1<k then wd u 1 else 0).toNat,.int .u64 (if 2<k then wd u 2 else 0).toNat,.int .u64 (if 3<k then wd u 3 else 0).toNat]
theorem J5 (u:BS) {k:Nat} (hk:k<4):(Ed u k).setIfInBounds k (.int .u64 (wd u k).toNat)=Ed u (k+1):=by
 match k,hk with
 | 0,_=>rfl
 | 1,_=>rfl
 | 2,_=>rfl
 | 3,_=>rfl
theorem J6 (u:BS) {k j:Nat} (hj:j<4):∃ z:Nat,(Ed u k)[j]? =some (.int .u64 z):=by
 match j,hj with
 | 0,_=>exact⟨_,rfl⟩
 | 1,_=>exact⟨_,rfl⟩
 | 2,_=>exact⟨_,rfl⟩
 | 3,_=>exact⟨_,rfl⟩
theorem s7 (s t u:BS) (f:BitVec 64→BitVec 64→BitVec 64) (g:Nat) (w:World) (hu:∀ i,i<4→f (wd s i) (wd t i)=wd u i) (eg:∀ args w,(callFunc g args).run Tryz.prog w=.ok (.enter g args) w) (hg:∀ (x y:BitVec 64) W,Calls Tryz.prog g #[.int .u64 x.toNat,.int .u64 y.toNat] W fun e w'=>e=.returned (.int .u64 (f x y).toNat)∧w'=W): Calls Tryz.prog 86 #[.agg (encS s),.agg (encS t),.func (.func g) #[] #[]] w fun e w'=>e=.returned (.agg (encS u))∧Ext w w':=by
  have HG:=hid hg;have HU:=hid hu;clear hg hu;go_enter Tryz.func86,Tryz.ntmps86;go_wp2
  go_loopw [9,8] (fun i _ wr=>∃ k:Nat,k≤4∧i=.int .i64 k∧ah wr w.heap.size (encS s) 59∧ah wr (w.heap.size+1) (encS t) 59∧ah wr (w.heap.size+1+1+1) (Ed u k) 59∧
     ah wr (w.heap.size+1+1) #[.int .u64 0,.int .u64 0,.int .u64 0,.int .u64 0] 59∧Ext w wr)
     (fun i _ _=>4-(intOf i).toNat)
  case atStart=>
    refine⟨0,by omega,rfl,?_,?_,?_,?_,(((((Ext.refl w).alloc _).alloc _).alloc _).alloc _)⟩<;>(repeat (first | (refine(ah.new _ _ _).at ?_;simp;done) | refine ah.alloc ?_ _))
  case round=>
    obtain⟨k,hk,rfl,hA,hB,hO,hR,hx⟩:=hrel;by_cases hlt:k<4
    · have ca:=(hA.cell k).trans (gI s hlt)
      have cb:=(hB.cell k).trans (gI t hlt);obtain⟨z,hz⟩:=J6 u (k:=k) hlt;have HA:=hid hA;have HB:=hid hB;have HO:=hid hO;have HR:=hid hR;have HX:=hid hx;have HF:=hid (HU.out k hlt);clear hA hB hO hR hx;go_wp2;refine iD (fun b=>b=w.heap.size∨b=w.heap.size+1) (by kernel_rfl) (fun i=>i==8 || i==10) (by kernel_rfl) ?_;intro C hC hne W0 Mo hblk hsz hx0;have UY:=hid hx0;clear hx0;have fa:=dV hC (.inl rfl) ca;have fb:=dV hC (.inr rfl) cb;have HO':=hid (HO.out.same (hblk _));have co:=(HO'.out.cell k).trans hz;have cf:=HO'.out.frozen k;have HC:=hid hC;have HBl:=hid hblk;have HK:=hid Mo;have HZ:=hid hz;clear hC ca cb hblk Mo hz
      repeat (refine bZ (fun K hK=>?_);refine dU rfl ?_;unfold ai;go_simp;refine hK _ _ ?_;clear hK K)
      refine bZ (fun K hK=>?_);refine eV rfl ?_;go_simp;refine fA ((HG.out _ _ _).mono ?_);rintro e w' ⟨rfl,rfl⟩;refine⟨_,rfl,(HC.out _).2 HK.out,hK _ _ ?_⟩;clear hK K
      repeat (refine bZ (fun K hK=>?_);refine dU rfl ?_;unfold ai;go_simp;refine hK _ _ ?_;clear hK K)
      refine bZ (fun K hK=>?_);refine eV rfl ?_;go_simp;refine⟨(HC.out _).2 (HK.out.setCell (by simp;omega) _),hK _ _ ?_⟩;clear hK K;refine uG ?_;go_wp2;go_roundw
      case rel=>
        refine⟨k+1,by omega,by go_num,?_,?_,?_,?_,?_⟩
        · exact(HA.out.same (HBl.out _)).other (by simp<;>omega) _
        · exact(HB.out.same (HBl.out _)).other (by simp<;>omega) _
        · rw[←J5 u hlt, ←HF.out];exact HO'.out.set k _
        · exact(HR.out.same (HBl.out _)).other (by simp<;>omega) _
        · exact Ext.setCell (HX.out.trans UY.out) (by simp;omega) _
      case measure=>simp[intOf];omega
    · obtain rfl:k=4:=by omega
      have c0:wr.cell? ⟨w.heap.size+1+1+1,0,none⟩=some (.int .u64 (wd u 0).toNat):=hO.cell 0;have c1:wr.cell? ⟨w.heap.size+1+1+1,1,none⟩=some (.int .u64 (wd u 1).toNat):=hO.cell 1;have c2:wr.cell? ⟨w.heap.size+1+1+1,2,none⟩=some (.int .u64 (wd u 2).toNat):=hO.cell 2;have c3:wr.cell? ⟨w.heap.size+1+1+1,3,none⟩=some (.int .u64 (wd u 3).toNat):=hO.cell 3;have r0:wr.cell? ⟨w.heap.size+1+1,0,none⟩=some (.int .u64 0):=hR.cell 0;have r1:wr.cell? ⟨w.heap.size+1+1,1,none⟩=some (.int .u64 0):=hR.cell 1;have r2:wr.cell? ⟨w.heap.size+1+1,2,none⟩=some (.int .u64 0):=hR.cell 2;have r3:wr.cell? ⟨w.heap.size+1+1,3,none⟩=some (.int .u64 0):=hR.cell 3;have rf:=hR.frozen;clear hO hA hB hR;go_wp2;refine bodyPost_ret (v:=.agg (encS u)) ?_ rfl ⟨rfl,?_⟩
      · simp[results,Tryz.results86,go_sem,r0,r1,r2,r3,encS]
      · exact(((hx.setCell (by simp;omega) _).setCell (by simp;omega) _).setCell (by simp;omega) _).setCell (by simp;omega) _
end
section
open Go Go.RowKit Go.Shelf
attribute [local go_sem] encS
theorem aah (s t:BS) (w:World):Calls Tryz.prog 91 #[.agg (encS s),.agg (encS t)] w fun e w'=>e=.returned (.agg (encS (s ||| t)))/\Ext w w':=by
 have eg:∀ args w,(callFunc 120 args).run Tryz.prog w=.ok (.enter 120 args) w:=enters_of Tryz.func120 (by kernel_rfl) rfl;have H:=hid fun W=>s7 s t (s ||| t) (· ||| ·) 120 W (fun i _=>(adJ s t i).symm) eg VL
 clear eg;obtain⟨u,hu⟩:∃ u,u=s ||| t:=⟨_,rfl⟩
 rw[<-hu]at H ⊢;clear hu;go_enter Tryz.func91,Tryz.ntmps91;go_wp2_with (go_at_call 86;refine(H.out _).mono ?_;rintro e w1 ⟨rfl,hx⟩;have HX:=hid hx;obtain⟨hc,hf⟩:=hx.cells;clear hx);refine bodyPost_ret (v:=.agg (encS u)) ?_ rfl ⟨rfl,?_⟩
 ·simp[results,Tryz.results91,go_sem,hc]
 ·exact(((((((Ext.refl w).alloc _).alloc _).alloc _).trans HX.out).setCell (by simp<;>omega) _ |>.setCell (by simp<;>omega) _).setCell (by simp<;>omega) _).setCell (by simp<;>omega) _
theorem VM (s t:BS) (w:World):Calls Tryz.prog 67 #[.agg (encS s),.agg (encS t)] w fun e w'=>e=.returned (.agg (encS (s&&& t)))/\Ext w w':=by
 have eg:∀ args w,(callFunc 87 args).run Tryz.prog w=.ok (.enter 87 args) w:=enters_of Tryz.func87 (by kernel_rfl) rfl;have H:=hid fun W=>s7 s t (s&&& t) (· &&& ·) 87 W (fun i _=>(QT s t i).symm) eg QZ
 clear eg;obtain⟨u,hu⟩:∃ u,u=s&&& t:=⟨_,rfl⟩;rw[<-hu]at H ⊢;clear hu;go_enter Tryz.func67,Tryz.ntmps67;go_wp2_with (go_at_call 86;refine(H.out _).mono ?_;rintro e w1 ⟨rfl,hx⟩;have HX:=hid hx;obtain⟨hc,hf⟩:=hx.cells;clear hx);refine bodyPost_ret (v:=.agg (encS u)) ?_ rfl ⟨rfl,?_⟩
 ·simp[results,Tryz.results67,go_sem,hc]
 ·exact(((((((Ext.refl w).alloc _).alloc _).alloc _).trans HX.out).setCell (by simp<;>omega) _ |>.setCell (by simp<;>omega) _).setCell (by simp<;>omega) _).setCell (by simp<;>omega) _
theorem ya (s t:BS) (w:World):Calls Tryz.prog 68 #[.agg (encS s),.agg (encS t)] w fun e w'=>e=.returned (.agg (encS (s&&& ~~~t)))/\Ext w w':=by
 have eg:∀ args w,(callFunc 88 args).run Tryz.prog w=.ok (.enter 88 args) w:=enters_of Tryz.func88 (by kernel_rfl) rfl;have H:=hid fun W=>s7 s t (s&&& ~~~t) (fun x y=>x&&& ~~~y) 88 W (fun i hi=>by rw[QT,J3 t hi]) eg Nv
 clear eg;obtain⟨u,hu⟩:∃ u,u=s&&& ~~~t:=⟨_,rfl⟩;rw[<-hu]at H ⊢;clear hu;go_enter Tryz.func68,Tryz.ntmps68;go_wp2_with (go_at_call 86;refine(H.out _).mono ?_;rintro e w1 ⟨rfl,hx⟩;have HX:=hid hx;obtain⟨hc,hf⟩:=hx.cells;clear hx);refine bodyPost_ret (v:=.agg (encS u)) ?_ rfl ⟨rfl,?_⟩
 ·simp[results,Tryz.results68,go_sem,hc]
 ·exact(((((((Ext.refl w).alloc _).alloc _).alloc _).trans HX.out).setCell (by simp<;>omega) _ |>.setCell (by simp<;>omega) _).setCell (by simp<;>omega) _).setCell (by simp<;>omega) _
theorem VN (s:BS) (w:World):Calls Tryz.prog 85 #[.agg (encS s)] w fun e w'=>e=.returned (.agg (encS (~~~s)))/\Ext w w':=by
 have eg:∀ args w,(callFunc 109 args).run Tryz.prog w=.ok (.enter 109 args) w:=enters_of Tryz.func109 (by kernel_rfl) rfl;have H:=hid fun W=>s7 s s (~~~s) (fun x _=> ~~~x) 109 W (fun i hi=>by rw[J3 s hi]) eg Q8
 clear eg;obtain⟨u,hu⟩:∃ u,u= ~~~s:=⟨_,rfl⟩;rw[<-hu]at H ⊢;clear hu;go_enter Tryz.func85,Tryz.ntmps85;go_wp2_with (go_at_call 86;refine(H.out _).mono ?_;rintro e w1 ⟨rfl,hx⟩;have HX:=hid hx;obtain⟨hc,hf⟩:=hx.cells;clear hx);refine bodyPost_ret (v:=.agg (encS u)) ?_ rfl ⟨rfl,?_⟩
 ·simp[results,Tryz.results85,go_sem,hc]
 ·exact((((((Ext.refl w).alloc _).alloc _).trans HX.out).setCell (by simp<;>omega) _ |>.setCell (by simp<;>omega) _).setCell (by simp<;>omega) _).setCell (by simp<;>omega) _
theorem fQ:encS 0= #[.int .u64 0,.int .u64 0,.int .u64 0,.int .u64 0]:=rfl
theorem j7 (s t:BS) (w:World):(Op.equalIn 10000 59 (.agg (encS s)) (.agg (encS t))).run Tryz.prog w=.ok (s==t) w:=by rw[<-QV];exact run_equalIn_array w 9998 (encS s) (encS t) (fun i=>(wd s i).toNat) (fun i=>(wd t i).toNat) Tryz.underlying59 Tryz.underlying57 Tryz.isAgg57 Tryz.sizeOf57 (fun i hi=>gI s hi) (fun i hi=>gI t hi)
theorem VO (w:World):Calls Tryz.prog 66 #[] w fun e w'=>e=.returned (.agg (encS (~~~(0:BS))))/\Ext w w':=by
 have H:=hid fun W=>VN 0 W
 obtain⟨u,hu⟩:∃ u,u= ~~~(0:BS):=⟨_,rfl⟩;rw[<-hu]at H ⊢;clear hu;rw[fQ]at H;go_enter Tryz.func66,Tryz.ntmps66;go_wp2_with (go_at_call 85;refine(H.out _).mono ?_;rintro e w1 ⟨rfl,hx⟩;have HX:=hid hx;obtain⟨hc,hf⟩:=hx.cells;clear hx);refine bodyPost_ret (v:=.agg (encS u)) ?_ rfl ⟨rfl,?_⟩
 ·simp[results,Tryz.results66,go_sem,hc]
 ·exact(((((Ext.refl w).alloc _).trans HX.out).setCell (by simp<;>omega) _ |>.setCell (by simp<;>omega) _).setCell (by simp<;>omega) _).setCell (by simp<;>omega) _
end
section
open Go Go.RowKit Go.Shelf
attribute [local go_sem] encS Oper.semAt_some gO dC
def bF (s:BS) (k:Nat):List Nat:=(List.range k).filter fun c=>s.getLsbD c
theorem fR (s:BS) (k:Nat):bF s (k+1)=bF s k++if s.getLsbD k then [k]else []:=by unfold bF;rw[List.range_succ,List.filter_append];by_cases h:s.getLsbD k=true<;>simp[h]
theorem yc (s:BS) {k n:Nat} (h:k<=n):bF s k<+:bF s n:=by
 induction n with
 | zero=>rw[show k=0 from by omega];exact List.prefix_rfl
 | succ n ih=>
  by_cases hk:k=n+1
  ·subst hk;exact List.prefix_rfl
  ·exact(ih (by omega)).trans (by rw[fR];exact List.prefix_append _ _)
theorem Ee (s:BS) (B:Nat) (w:World) (hB:ah w B (encS s) 59):Seq true Tryz.prog 93 #[.pointer (some ⟨B,0,none⟩)] (fun c:Nat=> #[.int .u8 c]) (· =B) (bF s 256) w:=by
 intro l J Jx W hK hJ hJx hY h0;have HY:=hid hY;have HH:=hid (s6 s);clear hY;refine callsIn_wide (n:=0).1 ?_;refine callsIn_of_wp Tryz.func93 rfl trivial ?_ rfl;simp only[Tryz.ntmps93,List.size_toArray,List.length_cons,List.length_nil,Nat.reduceAdd,Nat.reduceSub,Array.replicate_succ,Array.replicate_zero,List.push_toArray,List.append_toArray,List.nil_append,List.cons_append]
 gi_wp2
 gi_loopw [4] (fun i wr=>∃ (k:Nat) (T:Nat->Prop),k<=256/\i=.int .i64 k/\ah wr B (encS s) 59/\J (bF s k) T wr/\(∀ k,T k->W.heap.size<=k/\k<wr.heap.size)/\aa (· =B) W wr)
  (fun i _=>256-(intOf i).toNat)
 case atStart=>
  exact⟨0,fun _=>False,by omega,rfl,hB.keeps hK hB.lt,h0,fun _ h=>h.elim,aa.refl _ _⟩
 case round=>
  obtain⟨k,T,hk,rfl,hb,hj,hT,hR⟩:=hrel;by_cases hlt:k<256
  ·have c0:wr.cell? ⟨B,0,none⟩=some (.int .u64 (wd s 0).toNat):=hb.cell 0
   have c1:wr.cell? ⟨B,1,none⟩=some (.int .u64 (wd s 1).toNat):=hb.cell 1;have c2:wr.cell? ⟨B,2,none⟩=some (.int .u64 (wd s 2).toNat):=hb.cell 2;have c3:wr.cell? ⟨B,3,none⟩=some (.int .u64 (wd s 3).toNat):=hb.cell 3;have HB:=hid hb;have HJ:=hid hj;have HT:=hid hT;have HR:=hid hR;clear hb hj hT hR;have bQ:=fR s k;by_cases mC:s.getLsbD k=true
   ·rw[if_pos mC]at bQ
    have HP:=hid bQ;have Qh:bF s k++ [k]<+:bF s 256:=by rw[<-bQ];exact yc s (by omega)
    have Q9:=hid Qh;have h1:∀ W,Calls Tryz.prog 92 #[.agg (encS s),.int .u8 k] W fun e w'=>e=.returned (.bool true)/\Ext W w':=fun W=>by have:=s6 s k hlt W;rwa[mC]at this
    have H1:=hid h1;clear bQ Qh h1 mC HH
    gi_wp2_with (gi_at_call 92;refine(callsIn_wide.2 (H1.out _)).mono ?_;rintro e w1 ⟨rfl,hx⟩;obtain⟨fn,tm,Gq,bd,hy,GJ⟩:=HY.out (bF s k) k T w1 Q9.out (fun j hj=>⟨(HT.out j hj).1,Nat.lt_of_lt_of_le (HT.out j hj).2 hx.size⟩) (HR.out.tr (hx.mono fun j hj=>by rw[show j=B from hj];exact HB.out.lt)) (hJ.ext HJ.out HT.out hx);have HX:=hid hx;have Qi:=hid GJ;clear hx GJ)
    refine Qi.out.mono ?_;rintro e W2 (⟨rfl,eE,hk2⟩ | ⟨rfl,eE,hk2⟩)
    ·have xB:=hid eE
     have rS:=hid hk2;clear eE hk2 hy
     gi_wp2
     go_roundw
     case rel=>
      refine⟨k+1,T,by omega,by go_num,?_,?_,?_,?_⟩
      ·exact(HB.out.ext HX.out).keeps rS.out (.inl rfl)
      ·rw[HP.out];exact xB.out
      ·exact fun j hj=>⟨(HT.out j hj).1,Nat.lt_of_lt_of_le (HT.out j hj).2 (Nat.le_trans HX.out.size rS.out.size)⟩
      ·exact(HR.out.tr (HX.out.mono fun j hj=>by rw[show j=B from hj];exact HB.out.lt)).tr (rS.out.mono fun j hj=>.inl hj)
     case measure=>simp[intOf];omega
    ·have xB:=hid eE
     have rS:=hid hk2;clear eE hk2 hy
     gi_wp2
     refine bodyPost_ret (results_none rfl _ _ _) rfl ?_;exact⟨⟨_,rfl⟩,T,fun j hj=>⟨(HT.out j hj).1,Nat.lt_of_lt_of_le (HT.out j hj).2 (Nat.le_trans HX.out.size rS.out.size)⟩,.inr ⟨_,Q9.out,xB.out⟩⟩
   ·have vL:s.getLsbD k=false:=by simpa using mC
    rw[if_neg mC,List.append_nil]at bQ;have HP:=hid bQ;have h1:∀ W,Calls Tryz.prog 92 #[.agg (encS s),.int .u8 k] W fun e w'=>e=.returned (.bool false)/\Ext W w':=fun W=>by have:=s6 s k hlt W;rwa[vL]at this
    have H1:=hid h1;clear bQ h1 mC vL HH
    gi_wp2_with (gi_at_call 92;refine(callsIn_wide.2 (H1.out _)).mono ?_;rintro e w1 ⟨rfl,hx⟩;have HX:=hid hx;clear hx)
    go_roundw
    case rel=>
     refine⟨k+1,T,by omega,by go_num,?_,?_,?_,?_⟩
     ·exact HB.out.ext HX.out
     ·rw[HP.out];exact hJ.ext HJ.out HT.out HX.out
     ·exact fun j hj=>⟨(HT.out j hj).1,Nat.lt_of_lt_of_le (HT.out j hj).2 HX.out.size⟩
     ·exact HR.out.tr (HX.out.mono fun j hj=>by rw[show j=B from hj];exact HB.out.lt)
    case measure=>simp[intOf];omega
  ·obtain rfl:k=256:=by omega
   gi_wp2
   refine bodyPost_end (results_none rfl _ _ _) rfl ?_;exact⟨⟨_,rfl⟩,T,hT,.inl hj⟩
theorem ye (s:BS) (w:World):Calls Tryz.prog 72 #[.agg (encS s)] w fun e w'=>e=.returned (.func (.func 93) #[] #[.pointer (some ⟨w.heap.size,0,none⟩)])/\w'=w.alloc (.cells (encS s) 59 (0,0)):=by
 go_enter Tryz.func72,Tryz.ntmps72
 go_wp2;go_ret;exact⟨rfl,rfl⟩
def bC (s:BS):Nat×Bool:=match bF s 256 with | []=>(0,false) | c::_=>(c,true)
theorem uN (s:BS) (w:World):Calls Tryz.prog 44 #[.agg (encS s)] w fun e w'=>e=.returned (.tuple #[.int .u8 (bC s).1,.bool (bC s).2])/\Ext w w':=by
 refine ck Tryz.func44 rfl ?_;simp only[Tryz.ntmps44,List.size_toArray,List.length_cons,List.length_nil,Nat.reduceAdd,Nat.reduceSub,Array.replicate_succ,Array.replicate_zero,List.push_toArray,List.append_toArray,List.nil_append,List.cons_append];go_wp2_with (go_at_call 72;refine(ye s _).mono ?_;rintro e w1 ⟨rfl,rfl⟩);refine aw ?_;intro W0 hW0;have h1:ah W0 (w.heap.size+1) #[.int .u8 0] 5:=by rw[hW0];repeat (first | (refine(ah.new _ _ _).at ?_;simp;done) | refine ah.alloc ?_ _)
 have h2:ah W0 (w.heap.size+1+1) #[.bool false] 4:=by rw[hW0];repeat (first | (refine(ah.new _ _ _).at ?_;simp;done) | refine ah.alloc ?_ _)
 have h3:ah W0 (w.heap.size+1+1+1) (encS s) 59:=by rw[hW0];exact(ah.new _ _ _).at (by simp)
 have hx:Ext w W0:=by rw[hW0];exact((((Ext.refl w).alloc _).alloc _).alloc _).alloc _
 have hsz:W0.heap.size=w.heap.size+1+1+1+1:=by rw[hW0];simp
 have eg:∀ args w,(callFunc 93 args).run Tryz.prog w=.ok (.enter 93 args) w:=enters_of Tryz.func93 (by kernel_rfl) rfl;refine im (w:=W0) (Ee s _ W0 h3) (by rfl) eg (by intro _;rfl) (by intro k hk;rw[show k=_ from hk,hsz];omega)
  (fun xs _ W=>xs=[]/\ah W (w.heap.size+1) #[.int .u8 0] 5/\ah W (w.heap.size+1+1) #[.bool false] 4/\Ext w W)
  (fun c xs _ W=>c=.ret/\∃ x,xs=[x]/\ah W (w.heap.size+1) #[.int .u8 x] 5/\ah W (w.heap.size+1+1) #[.bool true] 4/\Ext w W)
  (fun xs T T' W W' ⟨h0,h1,h2,h3⟩ hT _ _ _ hk=>⟨h0,h1.nA hT hk (by omega),h2.nA hT hk (by omega),h3.nA hT hk (by omega)⟩)
  (fun c xs T T' W W' ⟨h0,x,h1,h2,h3,h4⟩ hT _ _ _ hk=>⟨h0,x,h1,h2.nA hT hk (by omega),h3.nA hT hk (by omega),h4.nA hT hk (by omega)⟩)
  ⟨rfl,h1,h2,hx⟩
  (fun x=>⟨#[.agg (encS s),.pointer (some ⟨w.heap.size,0,none⟩),.pointer (some ⟨w.heap.size+1,0,none⟩),.pointer (some ⟨w.heap.size+1+1,0,none⟩),.int .u8 x,.agg (encS s),.func (.func 93) #[] #[.pointer (some ⟨w.heap.size+1+1+1,0,none⟩)],.int .u8 x,undef],[]⟩) ?assign ?body ?done ?stop
 case assign=>
  intro l x W K hK
  gi_wp2
  exact hK
 case body=>
  rintro l pre x T W bQ hT hR xR hl ⟨rfl,h1,h2,hx⟩;have c1:W.cell? ⟨w.heap.size+1,0,none⟩=some (.int .u8 0):=h1.cell 0;have c2:W.cell? ⟨w.heap.size+1+1,0,none⟩=some (.bool false):=h2.cell 0;have f1:=h1.frozen 0;have f2:=h2.frozen 0;have H1:=hid h1;have H2:=hid h2;have HX:=hid hx;have HS:=hid hsz;have HT:=hid hT;clear h1 h2 hx hR hl xR hsz hW0 hT
  gi_wp2
  refine⟨((aa.refl _ _).setCell (fun h=>?_) _).setCell (fun h=>?_) _,rfl,x,rfl,(H1.out.set 0 _).other (by simp) _,(H2.out.other (by simp) _).set 0 _,(HX.out.setCell (by simp<;>omega) _).setCell (by simp<;>omega) _⟩
  ·have h1:=(HT.out _ h).1;have h2:=HS.out;dsimp only at h1;omega
  ·have h1:=(HT.out _ h).1;have h2:=HS.out;dsimp only at h1;omega
 case done=>
  rintro D T W hD yf hT ⟨h0,h1,h2,hx⟩ nw;have c1:W.cell? ⟨w.heap.size+1,0,none⟩=some (.int .u8 0):=h1.cell 0;have c2:W.cell? ⟨w.heap.size+1+1,0,none⟩=some (.bool false):=h2.cell 0;have f1:=h1.frozen 0;have f2:=h2.frozen 0;have H1:=hid h1;have H2:=hid h2;have HX:=hid hx;have HS:=hid hsz;have HD:=hid hD;have xC:=hid nw;have H0:=hid h0;clear h1 h2 hx yf hsz hW0 hT nw hD h0;dsimp only;go_wp2;have JB:∀ b:Nat,b<w.heap.size+1+1+1->D≠b:=fun b hb=>by have h1:=HD.out;have h2:=HS.out;omega
  have adK:=((aa.refl (· =D) W).setCell (p:=⟨w.heap.size+1,0,none⟩) (fun h=>JB (w.heap.size+1) (by omega) (h.symm)) (.int .u8 0)).setCell (p:=⟨w.heap.size+1+1,0,none⟩) (fun h=>JB (w.heap.size+1+1) (by omega) (h.symm)) (.bool false) |>.keep D rfl;rw[xC.out]at adK;have q1:=(((H1.out.set 0 (.int .u8 0)).other (p:=⟨w.heap.size+1+1,0,none⟩) (by simp) (.bool false)).put (JB _ (by omega)) (.deferred none)).cell 0;have q2:=(((H2.out.other (p:=⟨w.heap.size+1,0,none⟩) (by simp) (.int .u8 0)).set 0 (.bool false)).put (JB _ (by omega)) (.deferred none)).cell 0;refine dz (v:=.tuple #[.int .u8 0,.bool false]) rfl adK ?_ ⟨?_,?_⟩
  ·simp[results,Tryz.results44,go_sem,q1,q2]
  ·simp[bC,H0.out]
  ·exact((HX.out.setCell (by simp<;>omega) _).setCell (by simp<;>omega) _).putObj (by have h1:=HD.out;have h2:=HS.out;omega) _
 case stop=>
  rintro D c pre T W hD yf hT bQ ⟨rfl,x,h0,h1,h2,hx⟩ nw;have c1:W.cell? ⟨w.heap.size+1,0,none⟩=some (.int .u8 x):=h1.cell 0;have c2:W.cell? ⟨w.heap.size+1+1,0,none⟩=some (.bool true):=h2.cell 0;have H1:=hid h1;have H2:=hid h2;have HX:=hid hx;have HS:=hid hsz;have HD:=hid hD;have xC:=hid nw;have H0:=hid h0;clear h1 h2 hx yf hsz hW0 hT nw hD h0;dsimp only;go_wp2;have JB:∀ b:Nat,b<w.heap.size+1+1+1->D≠b:=fun b hb=>by have h1:=HD.out;have h2:=HS.out;omega
  have q1:=(H1.out.put (JB _ (by omega)) (.deferred none)).cell 0;have q2:=(H2.out.put (JB _ (by omega)) (.deferred none)).cell 0;refine dz (v:=.tuple #[.int .u8 x,.bool true]) rfl xC.out ?_ ⟨?_,?_⟩
  ·simp[results,Tryz.results44,go_sem,q1,q2]
  ·obtain⟨r,hr⟩:=bQ
   rw[H0.out]at hr;simp[bC, <-hr]
  ·exact HX.out.putObj (by have h1:=HD.out;have h2:=HS.out;omega) _
end
section
open Go Go.RowKit Go.Shelf
attribute [local go_sem] encS
def bM (s t:BS):Int:=if(bC ((s&&& ~~~t) ||| (t&&& ~~~s))).2 then(if s.getLsbD (bC ((s&&& ~~~t) ||| (t&&& ~~~s))).1 then-1 else 1)else 0
theorem J7 (s:BS):(bC s).1<256:=by
 unfold bC;split
 ·decide
 ·rename_i c l h
  have:c∈bF s 256:=by rw[h];simp
  simp[bF]at this;exact this.1
theorem GK (s t:BS) (w:World):Calls Tryz.prog 70 #[.agg (encS s),.agg (encS t)] w fun e w'=>e=.returned (.int .i64 (bM s t))/\Ext w w':=by
 have HL1:=hid fun W=>ya s t W
 have HL2:=hid fun W=>ya t s W
 have HO:=hid fun W=>aah (s&&& ~~~t) (t&&& ~~~s) W
 have HF:=hid fun W=>uN ((s&&& ~~~t) ||| (t&&& ~~~s)) W
 have hv:bM s t=if(bC ((s&&& ~~~t) ||| (t&&& ~~~s))).2 then(if s.getLsbD (bC ((s&&& ~~~t) ||| (t&&& ~~~s))).1 then-1 else 1)else 0:=rfl
 have hlt:=J7 ((s&&& ~~~t) ||| (t&&& ~~~s));generalize bM s t=z at hv ⊢;generalize bC ((s&&& ~~~t) ||| (t&&& ~~~s))=fo at HF hv hlt;obtain⟨c,b⟩:=fo;dsimp only at hv hlt;generalize (s&&& ~~~t) ||| (t&&& ~~~s)=u3 at HO HF
 generalize (s&&& ~~~t)=u1 at HO HL1;generalize (t&&& ~~~s)=u2 at HO HL2;have HV:=hid hv;have HH:=hid fun W=>s6 s c hlt W
 clear hv;go_enter Tryz.func70,Tryz.ntmps70;go_wp2;refine iD (fun b=>b=w.heap.size\/b=w.heap.size+1) (by kernel_rfl) (fun i=>i==2 || i==5 || i==6 || i==7) (by kernel_rfl) ?_;intro C hC hne W0 Mo hblk hsz hx0;have hA:ah ((w.alloc (.cells (encS s) 59 (0,0))).alloc (.cells (encS t) 59 (0,0))) w.heap.size (encS s) 59:=(ah.new w _ _).alloc _;have hB:ah ((w.alloc (.cells (encS s) 59 (0,0))).alloc (.cells (encS t) 59 (0,0))) (w.heap.size+1) (encS t) 59:=(ah.new _ _ _).at (by simp);obtain⟨a0,a1,a2,a3⟩:=Ec hC (.inl rfl) hA;obtain⟨b0,b1,b2,b3⟩:=Ec hC (.inr rfl) hB;have HC:=hid hC;have Ef:=hid Mo;have UY:=hid ((((Ext.refl w).alloc _).alloc _).trans hx0);have HA:=hid (hA.same (hblk _));have HS:Hid (∀ k,(k=w.heap.size\/k=w.heap.size+1)->k<((w.alloc (.cells (encS s) 59 (0,0))).alloc (.cells (encS t) 59 (0,0))).heap.size):=fun k hk=>by simp;omega
 clear hC Mo hblk hsz hA hB hx0
 repeat (refine bZ (fun K hK=>?_);refine dU rfl ?_;unfold ai;go_simp;refine hK _ _ ?_;clear hK K)
 refine bZ (fun K hK=>?_);refine eV rfl ?_;go_simp;refine fA ((HL1.out _).mono ?_);rintro e w1 ⟨rfl,hx⟩;have uO:=aa.step Ef.out HS hx;refine⟨_,rfl,(HC.out _).2 uO,hK _ _ ?_⟩;have Nw:=hid uO;have lI:=hid hx;clear hK K uO hx
 repeat (refine bZ (fun K hK=>?_);refine dU rfl ?_;unfold ai;go_simp;refine hK _ _ ?_;clear hK K)
 refine bZ (fun K hK=>?_);refine eV rfl ?_;go_simp;refine fA ((HL2.out _).mono ?_);rintro e w2 ⟨rfl,hx⟩;have hk2:=aa.step Nw.out HS hx;refine⟨_,rfl,(HC.out _).2 hk2,hK _ _ ?_⟩;have rS:=hid hk2;have gP:=hid hx;clear hK K hk2 hx;refine bZ (fun K hK=>?_);refine eV rfl ?_;go_simp;refine fA ((HO.out _).mono ?_);rintro e w3 ⟨rfl,hx⟩;have hk3:=aa.step rS.out HS hx;refine⟨_,rfl,(HC.out _).2 hk3,hK _ _ ?_⟩;have Yi:=hid hk3;have rT:=hid hx;clear hK K hk3 hx;refine bZ (fun K hK=>?_);refine eV rfl ?_;go_simp;refine fA ((HF.out _).mono ?_);rintro e w4 ⟨rfl,hx⟩;have hk4:=aa.step Yi.out HS hx;refine⟨_,rfl,(HC.out _).2 hk4,hK _ _ ?_⟩;have HK4:=hid hk4;have Eg:=hid hx;clear hK K hk4 hx
 repeat (refine bZ (fun K hK=>?_);refine dU rfl ?_;unfold ai;go_simp;refine hK _ _ ?_;clear hK K)
 refine uG ?_;have HX5:=hid ((((UY.out.trans lI.out).trans gP.out).trans rT.out).trans Eg.out);have HA4:=hid (HA.out.ext ((((lI.out.trans gP.out).trans rT.out).trans Eg.out)));clear a0 a1 a2 a3 b0 b1 b2 b3 Ef Nw rS Yi HK4 HC HS UY lI gP rT Eg HL1 HL2 HO HF HA;cases b with
 | false=>
  go_wp2;go_ret;exact⟨congrArg (fun z=>Ending.returned (.int .i64 z)) HV.out.symm,HX5.out⟩
 | true=>
  obtain⟨a0,a1,a2,a3⟩:=HA4.out.wT;by_cases hb:s.getLsbD c=true
  ·have H1:Hid (∀ W,Calls Tryz.prog 92 #[.agg (encS s),.int .u8 c] W fun e w'=>e=.returned (.bool true)/\Ext W w'):=fun W=>by have:=HH.out W;rwa[hb]at this
   have HV':=hid (show z= -1 from by have:=HV.out;simpa[hb]using this);clear hb HV;go_wp2_with (go_at_call 92;refine(H1.out _).mono ?_;rintro e w5 ⟨rfl,hx⟩;have UZ:=hid hx;clear hx);go_ret;exact⟨congrArg (fun z=>Ending.returned (.int .i64 z)) HV'.out.symm,HX5.out.trans UZ.out⟩
  ·have hb':s.getLsbD c=false:=by simpa using hb
   have H1:Hid (∀ W,Calls Tryz.prog 92 #[.agg (encS s),.int .u8 c] W fun e w'=>e=.returned (.bool false)/\Ext W w'):=fun W=>by have:=HH.out W;rwa[hb']at this
   have HV':=hid (show z=1 from by have:=HV.out;simpa[hb']using this);clear hb hb' HV;go_wp2_with (go_at_call 92;refine(H1.out _).mono ?_;rintro e w5 ⟨rfl,hx⟩;have UZ:=hid hx;clear hx);go_ret;exact⟨congrArg (fun z=>Ending.returned (.int .i64 z)) HV'.out.symm,HX5.out.trans UZ.out⟩
end
section
open Go Go.RowKit Go.Shelf
attribute [local go_sem] encS
end
section
open Go Go.RowKit Go.Shelf Go.Maps
attribute [local go_sem] encS Oper.semAt_some gO dC
theorem Tryz.Eh:(Tryz.prog.info? 5).map (fun i=>(i.zero,i.size,i.bytes))=some (some (.int .u8 0),1,1):=by kernel_rfl
def bu (c:Nat):Value:=.int .u8 c
theorem Ay {d:Bool} {gf:Nat} {lb:Array Value} {R:Nat->Prop} (xs:List Nat) (w:World) (hseq:Seq d Tryz.prog gf lb (fun c:Nat=> #[.int .u8 c]) R xs w) (eg:∀ args w,(callFunc gf args).run Tryz.prog w=.ok (.enter gf args) w) (hR:∀ k,R k->k<w.heap.size) (hn:xs.length<=1000000): Calls Tryz.prog 180 #[.slice none 0 0,.func (.func gf) #[] lb] w fun e w'=>∃ v,e=.returned v/\w'.ownsRow w.heap.size 5 1 v xs.length (xs.map bu)/\Below w.heap.size w w':=by
 obtain⟨i0,hi,hz0,hz1,hz2⟩:=info_parts Tryz.Eh;refine ck Tryz.func180 rfl ?_;simp only[Tryz.ntmps180,List.size_toArray,List.length_cons,List.length_nil,Nat.reduceAdd,Nat.reduceSub,Array.replicate_succ,Array.replicate_zero,List.push_toArray,List.append_toArray,List.nil_append,List.cons_append];go_wp2;refine aw ?_;intro W0 hW0;have h1:ah W0 w.heap.size #[.slice none 0 0] 23:=by rw[hW0];exact ah.new _ _ _
 have hx:Ext w W0:=by rw[hW0];exact(Ext.refl w).alloc _
 have hsz:W0.heap.size=w.heap.size+1:=by rw[hW0];simp
 refine im (w:=W0) (hseq.at hx.keeps) (by rfl) eg (by intro _;rfl) (by intro k hk;have:=hR k hk;omega)
  (fun xs T W=>∃ v,ah W w.heap.size #[v] 23/\W.ownsRow (w.heap.size+1) 5 1 v xs.length (xs.map bu)/\(∀ k,v.ownBlock=some k->¬T k)/\Below w.heap.size w W)
  (fun _ _ _ _=>False)
  ?_
  (fun c xs T T' W W' h=>h.elim)
  ⟨_,h1,World.ownsRow_nil _ _ _ _,fun _ _ h=>h,hx.below⟩
  (fun x=>⟨#[.slice none 0 0,.func (.func gf) #[] lb,.pointer (some ⟨w.heap.size,0,none⟩),undef,.slice none 0 0,.int .u8 x,.func (.func gf) #[] lb,.int .u8 x,undef,undef,undef,undef,undef],[]⟩) ?assign ?body ?done ?stop
 ·intro xs T T' W W' ⟨v,g1,g2,g3,g4⟩ hT Ra hs hn hk
  refine⟨v,g1.nA hT hk (by omega),aj g2 hk.1 (fun k e=>⟨(g2.lt k e).2,g3 k e⟩),fun k e ht=>?_,jh g4 hT hk (Nat.le_refl _) (by omega)⟩;rcases hn k ht with h | h
  ·exact g3 k e h
  ·have:=(g2.lt k e).2;omega
 case assign=>
  intro l x W K hK
  gi_wp2
  exact hK
 case body=>
  rintro l pre x T W bQ hT _ xR hl ⟨v,g1,g2,g3,g4⟩;have c1:W.cell? ⟨w.heap.size,0,none⟩=some v:=g1.cell 0;have f1:=g1.frozen 0;have hlen:pre.length<xs.length:=by obtain⟨r,hr⟩:=bQ;rw[<-hr];simp
  have G1:=hid g1;have G3:=hid g3;have G4:=hid g4;have nB:=hid hsz;have HT:=hid hT;clear g1 g3 g4 hsz hW0 hT hl xR
  gi_wp2_with (gi_at_builtin;refine wpListIn_append_own_at _ rfl _ _ 23 rfl (w.heap.size+1) 5 i0 (.int .u8 0) 1 1 Tryz.underlying23 hi hz0 hz1 hz2 rfl (by decide) _ _ _ rfl (g2.alloc _) ⟨W.heap.size,0,none⟩ 1 1 [bu x] rfl rfl (cell_one_new _ _ _) (by simp[Value.oneCell',bu]) (by unfold maxLen;omega) (by omega) (by have h1:=G4.out.size;have h2:=nB.out;have h3:=G1.out.lt;simp;omega) ?_;intro v' w1 hown' hgrow hh hat;obtain⟨g',cap',rfl⟩:=ownsRow_succ hown';have hb1:=(G1.out.alloc (.cells #[.int .u8 x] 5 (0,0))).grown hgrow (fun e=>by have:=(g2.lt _ e.symm).1;omega);have c2:=hb1.cell 0;have f2:=hb1.frozen 0;have HB:=hid hb1;have HO:=hid hown';have HG:=hid hgrow;have H2:=hid g2;have Mp:=hid hat;clear hown' hgrow hb1 g2 hh hat)
  have hgT:¬T g':=fun ht=>by
   rcases Mp.out with h | h
   ·exact G3.out g' h.symm ht
   ·have h1:=(HT.out g' ht).2;simp[Value.ownBlock]at h;omega
  have hkT:∀ k,(R k\/T k)->k<W.heap.size/\some k≠v.ownBlock:=fun k hk=>by
   refine⟨?_,fun e=>?_⟩
   ·rcases hk with hk | hk
    ·have h1:=hR k hk;have h2:=G4.out.size;omega
    ·exact(HT.out k hk).2
   ·rcases hk with hk | hk
    ·have h1:=hR k hk;have h2:=(H2.out.lt k e.symm).1;omega
    ·exact G3.out k e.symm hk
  have uO:aa (fun k=>R k\/T k) W w1:=(((aa.refl _ W).alloc (fun k hk=>(hkT k hk).1) _)).tr (aa.bG HG.out fun k hk=>⟨by have:=(hkT k hk).1;simp;omega,(hkT k hk).2⟩);have GN:∀ k,(R k\/T k)->k≠w.heap.size:=fun k hk=>by
   rcases hk with hk | hk
   ·have h1:=hR k hk;omega
   ·have h1:=(HT.out k hk).1;have h2:=nB.out;omega
  refine⟨uO.setCell (fun h=>GN _ h rfl) _,_,HB.out.set 0 _,?_,fun k e=>?_,?_⟩
  ·rw[List.length_append,List.map_append]
   exact aj HO.out ((aa.refl (fun k=>k≠w.heap.size) _).setCell (by simp) _) (fun k e=>by have:=(HO.out.lt k e).1;omega)
  ·simp[Value.ownBlock]at e;subst e;exact hgT
  ·exact((G4.out.alloc (by exact G4.out.size) _).grown HG.out (by have:=G4.out.size;simp;omega) (fun k e=>by have:=(H2.out.lt k e).1;omega)).setCell (Nat.le_refl _) _
 case done=>
  rintro D T W hD yf hT ⟨v,g1,g2,g3,g4⟩ nw;have c1:W.cell? ⟨w.heap.size,0,none⟩=some v:=g1.cell 0;have G2:=hid g2;have G4:=hid g4;have HD:=hid hD;have nB:=hid hsz;have xC:=hid nw;clear g1 g2 g3 g4 hsz hW0 hT yf nw hD;dsimp only;go_wp2;refine dz rfl xC.out (results_tmp rfl _ _ _) ⟨v,rfl,ownsRow_putObj (aA G2.out (by omega)) _ xC.out rfl,((aa.ag G4.out (fun _ h=>h)).putObj (by have:=HD.out;have:=nB.out;omega) _).below⟩
 case stop=>rintro D c pre T W _ _ _ _ h _;exact h.elim
theorem GQ {d:Bool} {gf:Nat} {lb:Array Value} {R:Nat->Prop} (xs:List Nat) (w:World) (hseq:Seq d Tryz.prog gf lb (fun c:Nat=> #[.int .u8 c]) R xs w) (eg:∀ args w,(callFunc gf args).run Tryz.prog w=.ok (.enter gf args) w) (hR:∀ k,R k->k<w.heap.size) (hn:xs.length<=1000000): Calls Tryz.prog 164 #[.func (.func gf) #[] lb] w fun e w'=>∃ v,e=.returned v/\w'.ownsRow w.heap.size 5 1 v xs.length (xs.map bu)/\Below w.heap.size w w':=by have H:=hid (Ay xs w hseq eg hR hn);clear hseq eg;go_enter Tryz.func164,Tryz.ntmps164;go_wp2_with (go_at_call 180;refine H.out.mono ?_;rintro e w1 ⟨v,rfl,h1,h2⟩;have H1:=hid h1;have H2:=hid h2;clear h1 h2);go_ret;exact⟨v,rfl,H1.out,H2.out⟩
theorem Nx (s:BS) (w:World): Calls Tryz.prog 145 #[.agg (encS s)] w fun e w'=>∃ v,e=.returned v/\w'.ownsRow w.heap.size 5 1 v (bF s 256).length ((bF s 256).map bu)/\Below w.heap.size w w':=by
 have eg:∀ args w,(callFunc 93 args).run Tryz.prog w=.ok (.enter 93 args) w:=enters_of Tryz.func93 (by kernel_rfl) rfl;have hlen:(bF s 256).length<=1000000:=by unfold bF;exact Nat.le_trans (List.length_filter_le _ _) (by simp)
 have H:Hid (∀ (W:World) (B:Nat),ah W B (encS s) 59->Calls Tryz.prog 164 #[.func (.func 93) #[] #[.pointer (some ⟨B,0,none⟩)]] W fun e w'=>∃ v,e=.returned v/\w'.ownsRow W.heap.size 5 1 v (bF s 256).length ((bF s 256).map bu)/\Below W.heap.size W w'):=
  fun W B hB=>GQ _ W (Ee s B W hB) eg (fun k hk=>by rw[show k=B from hk];exact hB.lt) hlen
 clear eg hlen;generalize bF s 256=xs at H ⊢;go_enter Tryz.func145,Tryz.ntmps145;go_wp2_with (first | (go_at_call 72;refine(ye s _).mono ?_;rintro e w1 ⟨rfl,rfl⟩) | (go_at_call 164;refine(H.out _ _ ((ah.new _ _ _).at (by simp))).mono ?_;rintro e w1 ⟨v,rfl,h1,h2⟩;have H1:=hid h1;have H2:=hid h2;clear h1 h2));go_ret;refine⟨v,rfl,aA H1.out (by simp;omega),?_⟩;exact(((Ext.refl w).alloc _).alloc _).below.trans (H2.out.mono (by simp;omega))
end
end Go.Proofs.YtalombmiochpmaaGreatDoor
