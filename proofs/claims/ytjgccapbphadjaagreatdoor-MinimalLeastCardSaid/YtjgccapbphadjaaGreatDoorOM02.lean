/- Walks: slices.AppendSeq, slices.Collect at bytes; sets.Bytes, sets.Size. -/
import Derived.Test.YtjgccapbphadjaaGreatDoorOM01
import Derived.WalkSpells
import Derived.WalkLawsBesides
import Derived.BigQuiet
import Derived.TacticsInMore
import Derived.LoopNIn
import Derived.LoopIn
import Derived.Shelf.AbstractIn
import Derived.Maps.OwnIn
set_option maxRecDepth 100000
set_option maxHeartbeats 16000000
open Go.Lib (hid)
namespace Go.Proofs.YtjgccapbphadjaaGreatDoor
section
open Go Go.RowKit
abbrev BS:=BitVec 256
def wd (s:BS) (i:Nat):BitVec 64:=s.extractLsb' (64*i) 64
def encS (s:BS):Array Value:= #[.int .u64 (wd s 0).toNat,.int .u64 (wd s 1).toNat,.int .u64 (wd s 2).toNat,.int .u64 (wd s 3).toNat]
theorem jD (s:BS):(encS s).size=4:=rfl
theorem gM (s:BS) {k:Nat} (hk:k<4):(encS s)[k]? =some (.int .u64 (wd s k).toNat):=by
 match k,hk with
 | 0,_=>rfl
 | 1,_=>rfl
 | 2,_=>rfl
 | 3,_=>rfl
theorem uZ (op:BinOp) (x y:BitVec 64):bits op .u64 x.toNat y.toNat=((match op with | .and=>x&&& y | .or=>x ||| y | .xor=>x ^^^ y | _=>x&&& ~~~y).toNat:Int):=by
 have hx:BitVec.ofInt (IntKind.u64).bits (x.toNat:Int)=x:=by apply BitVec.eq_of_toNat_eq;simp[IntKind.bits]
 have hy:BitVec.ofInt (IntKind.u64).bits (y.toNat:Int)=y:=by apply BitVec.eq_of_toNat_eq;simp[IntKind.bits]
 have hw:∀ z:BitVec 64,IntKind.u64.wrap (z.toNat:Int)=z.toNat:=fun z=>by
  have:=z.isLt;simp only[IntKind.wrap,IntKind.bits,IntKind.signed,Bool.false_and,Bool.false_eq_true,if_false];omega
 unfold bits;simp only[hx,hy];cases op<;>exact hw _
theorem A6 (x y:BitVec 64):bits .or .u64 x.toNat y.toNat=((x ||| y).toNat:Int):=uZ .or x y
theorem DX (x y:BitVec 64):bits .and .u64 x.toNat y.toNat=((x&&& y).toNat:Int):=uZ .and x y
theorem OS (x y:BitVec 64):bits .xor .u64 x.toNat y.toNat=((x ^^^ y).toNat:Int):=uZ .xor x y
theorem LG (x y:BitVec 64):bits .andNot .u64 x.toNat y.toNat=((x&&& ~~~y).toNat:Int):=uZ .andNot x y
theorem OT (x:BitVec 64):bits .xor .u64 IntKind.u64.max x.toNat=((~~~x).toNat:Int):=by
 have h:IntKind.u64.max=((BitVec.allOnes 64).toNat:Int):=by decide
 rw[h,OS,BitVec.allOnes_xor]
theorem DY (n:Nat) (h:n<2^64):bits .and .u64 (n:Int) 1=((n%2:Nat):Int):=by
 have e1:((BitVec.ofNat 64 n).toNat:Int)=n:=by rw[BitVec.toNat_ofNat,Nat.mod_eq_of_lt h]
 have e2:(((1:BitVec 64)).toNat:Int)=1:=rfl;rw[<-e1, <-e2,DX];congr 1;rw[BitVec.toNat_and,BitVec.toNat_ofNat,Nat.mod_eq_of_lt h];exact Nat.and_one_is_mod n
theorem abh (s t:BS) (i:Nat):wd (s ||| t) i=wd s i ||| wd t i:=by unfold wd;exact BitVec.extractLsb'_or ..
theorem OU (s t:BS) (i:Nat):wd (s&&& t) i=wd s i&&& wd t i:=by unfold wd;exact BitVec.extractLsb'_and ..
theorem OX (s:BS) {i:Nat} (hi:i<4):wd (~~~s) i= ~~~(wd s i):=by
 unfold wd;apply BitVec.eq_of_getLsbD_eq;intro k hk;simp only[BitVec.getLsbD_extractLsb',BitVec.getLsbD_not,hk,decide_true,Bool.true_and];have:64*i+k<256:=by omega
 simp[this]
theorem TP (i:Nat):wd 0 i=0:=by unfold wd;exact BitVec.extractLsb'_zero ..
theorem BS.Xm {s t:BS} (h:∀ i,i<4->wd s i=wd t i):s=t:=by apply BitVec.eq_of_getLsbD_eq;intro k hk;have h1:=congrArg (fun b:BitVec 64=>b.getLsbD (k%64)) (h (k/64) (by omega));simp only[wd,BitVec.getLsbD_extractLsb',show k%64<64 from by omega,decide_true,Bool.true_and]at h1;rwa[show 64*(k/64)+k%64=k from by omega]at h1
theorem Xn (s:BS) (c:Nat):(wd s (c/64)).toNat/2^ (c%64)%2=(s.getLsbD c).toNat:=by
 have h:(wd s (c/64)).getLsbD (c%64)=s.getLsbD c:=by simp only[wd,BitVec.getLsbD_extractLsb',show c%64<64 from by omega,decide_true,Bool.true_and];rw[show 64*(c/64)+c%64=c from by omega]
 rw[<-h,BitVec.getLsbD,Nat.testBit_eq_decide_div_mod_eq];have:=Nat.mod_lt ((wd s (c/64)).toNat/2^ (c%64)) (show 0<2 by decide);generalize (wd s (c/64)).toNat/2^ (c%64)%2=z at*;match z,this with
 | 0,_=>rfl
 | 1,_=>rfl
theorem OY (s:BS) (c:Nat):(bits .and .u64 (((wd s (c/64)).toNat:Int)/2^ (c%64)) 1==1)=s.getLsbD c:=by
 have h:(((wd s (c/64)).toNat:Int)/2^ (c%64))=((((wd s (c/64)).toNat/2^ (c%64):Nat)):Int):=by simp
 rw[h,DY _ (Nat.lt_of_le_of_lt (Nat.div_le_self _ _) (wd s (c/64)).isLt),Xn];cases s.getLsbD c<;>rfl
/-! '==' on arrays of whole numbers. -/
theorem qP {P:Program} {w:World} {e:TypeId} {cs:Array Value} {i:Nat} {v:Value} (ha:∀ w,(isAgg e).run P w=.ok false w) (h:cs[i]? =some v):(part e cs i).run P w=.ok v w:=by unfold part;simp[Sem.run_bind,ha,h]
theorem run_equalIn_array {P:Program} (w:World) (d:Nat) {t e:TypeId} {len:Nat} {k:IntKind} (xs ys:Array Value) (x y:Nat->Int) (ht:P.underlying t=some (.array len e)) (he:P.underlying e=some (.int k)) (ha:∀ w,(isAgg e).run P w=.ok false w) (hz:∀ w,(sizeOf e).run P w=.ok 1 w) (hx:∀ i,i<len->xs[i]? =some (.int k (x i))) (hy:∀ i,i<len->ys[i]? =some (.int k (y i))): (Op.equalIn (d+2) t (.agg xs) (.agg ys)).run P w=.ok ((List.range len).all fun i=>x i==y i) w:=by
 rw[show d+2=(d+1)+1 from rfl,Op.equalIn];simp only[Sem.run_bind,run_underlying ht,Result.andThen_ok,hz];simp only[Std.Legacy.Range.forIn_eq_forIn_range',Std.Legacy.Range.size,Nat.sub_zero,Nat.add_one_sub_one,Nat.div_one]
 have key:∀ (l:List Nat),(∀ i∈l,i<len)->(Sem.run P (forIn (m:=Sem) l ((none,()):Option Bool×Unit) fun i (_:Option Bool×Unit)=>do
   let a <-part e xs (i*1)
   let b <-part e ys (i*1)
   let r <-Op.equalIn (d+1) e a b
   if(!r)=true then pure (ForInStep.done (some false,()))else pure (ForInStep.yield (none,()))) w)=.ok (if(l.all fun i=>x i==y i)then none else some false,()) w:=by
  intro l;induction l with
  | nil=>intro _;simp
  | cons i l ih=>
   intro hl;have hi:=hl i (by simp);simp only[List.forIn_cons,Sem.run_bind,Nat.mul_one,qP ha (hx i hi),qP ha (hy i hi),Result.andThen_ok,run_equalIn_int w d e k k _ _ he];by_cases h:x i=y i
   ·have h':(x i==y i)=true:=by simpa using h
    have:=ih (fun j hj=>hl j (by simp[hj]));simp only[Nat.mul_one]at this;simp only[h',Bool.not_true,Bool.false_eq_true,if_false,Sem.run_pure,Result.andThen_ok,List.all_cons,Bool.true_and];exact this
   ·have h':(x i==y i)=false:=by simpa using h
    simp[h']
 rw[key (List.range' 0 len) (fun i hi=>by simpa[List.mem_range']using hi)];simp only[Result.andThen_ok];rw[List.range_eq_range'];split<;>simp_all
theorem Pb (s t:BS):((List.range 4).all fun i=>(((wd s i).toNat:Int)==((wd t i).toNat:Int)))=(s==t):=by
 rw[Bool.eq_iff_iff];simp only[List.all_eq_true,List.mem_range,beq_iff_eq];constructor
 ·intro h;exact BS.Xm fun i hi=>BitVec.eq_of_toNat_eq (by have:=h i hi;omega)
 ·intro h i _;rw[h]
theorem A7 {C:World->Prop} {S:Nat->Prop} {w:World} (hC:∀ W,C W↔ae S w W) {b:Nat} {s:BS} {t:TypeId} (hs:S b) (h:ar w b (encS s) t): (∀ W: {W//C W},W.1.cell? ⟨b,0,none⟩=some (.int .u64 (wd s 0).toNat))/\(∀ W: {W//C W},W.1.cell? ⟨b,1,none⟩=some (.int .u64 (wd s 1).toNat))/\ (∀ W: {W//C W},W.1.cell? ⟨b,2,none⟩=some (.int .u64 (wd s 2).toNat))/\(∀ W: {W//C W},W.1.cell? ⟨b,3,none⟩=some (.int .u64 (wd s 3).toNat)):=
 ⟨dm hC (p:=⟨b,0,none⟩) hs (h.cell 0),dm hC (p:=⟨b,1,none⟩) hs (h.cell 1),dm hC (p:=⟨b,2,none⟩) hs (h.cell 2),dm hC (p:=⟨b,3,none⟩) hs (h.cell 3)⟩
theorem ar.LH {w:World} {b:Nat} {s:BS} {t:TypeId} (h:ar w b (encS s) t): w.cell? ⟨b,0,none⟩=some (.int .u64 (wd s 0).toNat)/\w.cell? ⟨b,1,none⟩=some (.int .u64 (wd s 1).toNat)/\w.cell? ⟨b,2,none⟩=some (.int .u64 (wd s 2).toNat)/\w.cell? ⟨b,3,none⟩=some (.int .u64 (wd s 3).toNat):=
 ⟨h.cell 0,h.cell 1,h.cell 2,h.cell 3⟩
def mX (s:BS) (c:Nat):BS:=s ||| BitVec.twoPow 256 c
theorem kS (s:BS) {c d:Nat} (hc:c<256):(mX s c).getLsbD d=(s.getLsbD d || (d==c)):=by unfold mX;rw[BitVec.getLsbD_or,BitVec.getLsbD_twoPow];simp only[hc,decide_true,Bool.true_and];congr 1;rw[Bool.eq_iff_iff];simp;exact eq_comm
theorem Pc (s:BS) {c i:Nat} (hc:c<256) (hi:i<4):wd (mX s c) i=if i=c/64 then wd s i ||| BitVec.twoPow 64 (c%64)else wd s i:=by
 have hm:c%64<64:=Nat.mod_lt _ (by decide);split
 ·rename_i h
  subst h;apply BitVec.eq_of_getLsbD_eq;intro k hk;have h2:∀ d,(mX s c).getLsbD d=(s.getLsbD d || (d==c)):=fun d=>kS s hc
  simp only[wd,BitVec.getLsbD_extractLsb',hk,decide_true,Bool.true_and,h2,BitVec.getLsbD_or,BitVec.getLsbD_twoPow,hm];congr 1;rw[Bool.eq_iff_iff];simp;omega
 ·rename_i h
  apply BitVec.eq_of_getLsbD_eq;intro k hk;simp only[wd,BitVec.getLsbD_extractLsb',hk,decide_true,Bool.true_and,kS s hc];rw[show(64*i+k==c)=false from by simp;omega,Bool.or_false]
theorem Hj (x:BitVec 64) {m:Nat} (hm:m<64):bits .or .u64 x.toNat (IntKind.u64.wrap (2^m))=((x ||| BitVec.twoPow 64 m).toNat:Int):=by
 have h:IntKind.u64.wrap (2^m)=((BitVec.twoPow 64 m).toNat:Int):=by
  have h1:(2:Nat)^m<2^64:=Nat.pow_lt_pow_right (by decide) hm;have h2:((2:Int)^m)=((2^m:Nat):Int):=by simp
  rw[BitVec.toNat_twoPow,Nat.mod_eq_of_lt h1,h2];simp only[IntKind.wrap,IntKind.bits,IntKind.signed,Bool.false_and,Bool.false_eq_true,if_false];exact Int.emod_eq_of_lt (Int.natCast_nonneg _) (by exact_mod_cast h1)
 rw[h,A6]
theorem vG (s:BS) {c:Nat} (hc:c<256):(encS s).setIfInBounds (c/64) (.int .u64 (bits .or .u64 (wd s (c/64)).toNat (IntKind.u64.wrap (2^ (c%64)))))=encS (mX s c):=by
 rw[Hj _ (Nat.mod_lt _ (by decide))];apply Array.ext_getElem?;intro i;rw[Array.getElem?_setIfInBounds];by_cases hi:i<4
 ·rw[gM _ hi,gM _ hi,Pc s hc hi]
  split
  ·rename_i h;subst h;simp[jD,hi]
  ·rename_i h;rw[if_neg (fun e=>h e.symm)]
 ·have h1:(encS s)[i]? =none:=by simp[jD];omega
  have h2:(encS (mX s c))[i]? =none:=by simp[jD];omega
  rw[h1,h2];split
  ·rw[if_neg (by rw[jD];omega)]
  ·rfl
def pM (p:Nat->Bool):BS:=(List.range 256).foldl (fun s c=>if p c then mX s c else s) 0
theorem Pd (p:Nat->Bool):∀ n,n<=256->∀ d,((List.range n).foldl (fun s c=>if p c then mX s c else s) (0:BS)).getLsbD d=(decide (d<n)&&p d):=by
 intro n;induction n with
 | zero=>intro _ d;simp
 | succ n ih=>
  intro hn d;rw[List.range_succ,List.foldl_append,List.foldl_cons,List.foldl_nil];have h:=ih (by omega) d;by_cases hp:p n=true
  ·rw[if_pos hp,kS _ (by omega),h]
   by_cases hd:d=n
   ·subst hd;simp[hp]
   ·rw[Bool.eq_iff_iff];simp[hd];intro _;omega
  ·rw[if_neg hp,h]
   by_cases hd:d=n
   ·subst hd;simp[hp]
   ·rw[Bool.eq_iff_iff];simp;intro _;omega
theorem Pe (p:Nat->Bool) {d:Nat} (hd:d<256):(pM p).getLsbD d=p d:=by have:=Pd p 256 (aD _) d;rw[pM,this];simp[hd]
theorem BS.ext {s t:BS} (h:∀ c,c<256->s.getLsbD c=t.getLsbD c):s=t:=BitVec.eq_of_getLsbD_eq h
theorem BS.JZ {s:BS} {p:Nat->Bool} (h:∀ c,c<256->s.getLsbD c=p c):s=pM p:=BS.ext fun c hc=>by rw[h c hc,Pe p hc]
def bZ {α:Type} (enc:α->Value) (w:World) (v:Value) (l:List α):Prop:=
 (v=.slice none 0 0/\l=[])\/∃ b off cap,v=.slice (some ⟨b,off,none⟩) l.length cap/\b<w.heap.size/\l.length<=cap/\∀ i x,l[i]? =some x->w.cell? ⟨b,off+i,none⟩=some (enc x)
theorem qQ (s:BS) (c:Nat) (hc:c<256) (w:World): ah 77 #[.agg (encS s),.int .u8 c] w fun e w'=>e=.returned (.bool (s.getLsbD c))/\Ext w w':=by have hcell:=gM s (show c/64<4 by omega);go_enter Tryz.func77,Tryz.ntmps77;go_wp2;go_ret;exact⟨congrArg (fun b=>Ending.returned (.bool b)) (OY s c),(Ext.refl w).alloc _⟩
theorem TQ (x y:BitVec 64) (w:World):ah 136 #[.int .u64 x.toNat,.int .u64 y.toNat] w fun e w'=>e=.returned (.int .u64 (x ||| y).toNat)/\w'=w:=by have h:=A6 x y;go_enter Tryz.func136,Tryz.ntmps136;go_wp2;go_ret;exact⟨rfl,rfl⟩
theorem Pf (x y:BitVec 64) (w:World):ah 176 #[.int .u64 x.toNat,.int .u64 y.toNat] w fun e w'=>e=.returned (.int .u64 (x&&& y).toNat)/\w'=w:=by have h:=DX x y;go_enter Tryz.func176,Tryz.ntmps176;go_wp2;go_ret;exact⟨rfl,rfl⟩
theorem LI (x y:BitVec 64) (w:World):ah 73 #[.int .u64 x.toNat,.int .u64 y.toNat] w fun e w'=>e=.returned (.int .u64 (x&&& ~~~y).toNat)/\w'=w:=by
 go_enter Tryz.func73,Tryz.ntmps73
 go_wp2;go_ret;exact⟨congrArg (fun z=>Ending.returned (.int .u64 z)) (LG x y),rfl⟩
theorem Pg (x y:BitVec 64) (w:World):ah 217 #[.int .u64 x.toNat,.int .u64 y.toNat] w fun e w'=>e=.returned (.int .u64 (~~~x).toNat)/\w'=w:=by have hsg:IntKind.u64.signed=false:=rfl;go_enter Tryz.func217,Tryz.ntmps217;go_wp2;go_ret;exact⟨congrArg (fun z=>Ending.returned (.int .u64 z)) (OT x),rfl⟩
def A8 (u:BS) (k:Nat):Array Value:= #[.int .u64 (if 0<k then wd u 0 else 0).toNat,.int .u64 (if 1<k then wd u 1 else 0).toNat,.int .u64 (if 2<k then wd u 2 else 0).toNat,.int .u64 (if 3<k then wd u 3 else 0).toNat]
theorem Hk (u:BS) {k:Nat} (hk:k<4):(A8 u k).setIfInBounds k (.int .u64 (wd u k).toNat)=A8 u (k+1):=by
 match k,hk with
 | 0,_=>rfl
 | 1,_=>rfl
 | 2,_=>rfl
 | 3,_=>rfl
theorem Hl (u:BS) {k j:Nat} (hj:j<4):∃ z:Nat,(A8 u k)[j]? =some (.int .u64 z):=by
 match j,hj with
 | 0,_=>exact⟨_,rfl⟩
 | 1,_=>exact⟨_,rfl⟩
 | 2,_=>exact⟨_,rfl⟩
 | 3,_=>exact⟨_,rfl⟩
theorem qR (s t u:BS) (f:BitVec 64→BitVec 64→BitVec 64) (g:Nat) (w:World) (hu:∀ i,i<4→f (wd s i) (wd t i)=wd u i) (eg:∀ args w,(callFunc g args).run Tryz.prog w=.ok (.enter g args) w) (hg:∀ (x y:BitVec 64) W,ah g #[.int .u64 x.toNat,.int .u64 y.toNat] W fun e w'=>e=.returned (.int .u64 (f x y).toNat)∧w'=W): ah 72 #[.agg (encS s),.agg (encS t),.func (.func g) #[] #[]] w fun e w'=>e=.returned (.agg (encS u))∧Ext w w':=by
  have HG:=hid hg;have HU:=hid hu;clear hg hu;go_enter Tryz.func72,Tryz.ntmps72;go_wp2
  go_loopw [9,8] (fun i _ wr=>∃ k:Nat,k≤4∧i=.int .i64 k∧ar wr w.heap.size (encS s) 56∧ar wr (w.heap.size+1) (encS t) 56∧ar wr (w.heap.size+1+1+1) (A8 u k) 56∧
     ar wr (w.heap.size+1+1) #[.int .u64 0,.int .u64 0,.int .u64 0,.int .u64 0] 56∧Ext w wr)
     (fun i _ _=>4-(intOf i).toNat)
  case atStart=>
    refine⟨0,by omega,rfl,?_,?_,?_,?_,(((((Ext.refl w).alloc _).alloc _).alloc _).alloc _)⟩<;>(repeat (first | (refine(ar.new _ _ _).at ?_;simp;done) | refine ar.alloc ?_ _))
  case round=>
    obtain⟨k,hk,rfl,hA,hB,hO,hR,hx⟩:=hrel;by_cases hlt:k<4
    · have ca:=(hA.cell k).trans (gM s hlt)
      have cb:=(hB.cell k).trans (gM t hlt);obtain⟨z,hz⟩:=Hl u (k:=k) hlt;have HA:=hid hA;have HB:=hid hB;have HO:=hid hO;have HR:=hid hR;have HX:=hid hx;have HF:=hid (HU.out k hlt);clear hA hB hO hR hx;go_wp2;refine eQ (fun b=>b=w.heap.size∨b=w.heap.size+1) (by kernel_rfl) (fun i=>i==8 || i==10) (by kernel_rfl) ?_;intro C hC hne W0 zB hblk hsz hx0;have LJ:=hid hx0;clear hx0;have fa:=dm hC (.inl rfl) ca;have fb:=dm hC (.inr rfl) cb;have HO':=hid (HO.out.same (hblk _));have co:=(HO'.out.cell k).trans hz;have cf:=HO'.out.frozen k;have HC:=hid hC;have HBl:=hid hblk;have HK:=hid zB;have HZ:=hid hz;clear hC ca cb hblk zB hz
      repeat (refine bN (fun K hK=>?_);refine dw rfl ?_;unfold aB;go_simp;refine hK _ _ ?_;clear hK K)
      refine bN (fun K hK=>?_);refine eH rfl ?_;go_simp;refine eP ((HG.out _ _ _).mono ?_);rintro e w' ⟨rfl,rfl⟩;refine⟨_,rfl,(HC.out _).2 HK.out,hK _ _ ?_⟩;clear hK K
      repeat (refine bN (fun K hK=>?_);refine dw rfl ?_;unfold aB;go_simp;refine hK _ _ ?_;clear hK K)
      refine bN (fun K hK=>?_);refine eH rfl ?_;go_simp;refine⟨(HC.out _).2 (HK.out.setCell (by simp;omega) _),hK _ _ ?_⟩;clear hK K;refine nV ?_;go_wp2;go_roundw
      case rel=>
        refine⟨k+1,by omega,by go_num,?_,?_,?_,?_,?_⟩
        · exact(HA.out.same (HBl.out _)).other (by simp<;>omega) _
        · exact(HB.out.same (HBl.out _)).other (by simp<;>omega) _
        · rw[←Hk u hlt, ←HF.out];exact HO'.out.set k _
        · exact(HR.out.same (HBl.out _)).other (by simp<;>omega) _
        · exact Ext.setCell (HX.out.trans LJ.out) (by simp;omega) _
      case measure=>simp[intOf];omega
    · obtain rfl:k=4:=by omega
      have c0:wr.cell? ⟨w.heap.size+1+1+1,0,none⟩=some (.int .u64 (wd u 0).toNat):=hO.cell 0;have c1:wr.cell? ⟨w.heap.size+1+1+1,1,none⟩=some (.int .u64 (wd u 1).toNat):=hO.cell 1;have c2:wr.cell? ⟨w.heap.size+1+1+1,2,none⟩=some (.int .u64 (wd u 2).toNat):=hO.cell 2;have c3:wr.cell? ⟨w.heap.size+1+1+1,3,none⟩=some (.int .u64 (wd u 3).toNat):=hO.cell 3;have r0:wr.cell? ⟨w.heap.size+1+1,0,none⟩=some (.int .u64 0):=hR.cell 0;have r1:wr.cell? ⟨w.heap.size+1+1,1,none⟩=some (.int .u64 0):=hR.cell 1;have r2:wr.cell? ⟨w.heap.size+1+1,2,none⟩=some (.int .u64 0):=hR.cell 2;have r3:wr.cell? ⟨w.heap.size+1+1,3,none⟩=some (.int .u64 0):=hR.cell 3;have rf:=hR.frozen;clear hO hA hB hR;go_wp2;refine bodyPost_ret (v:=.agg (encS u)) ?_ rfl ⟨rfl,?_⟩
      · simp[results,Tryz.results72,go_sem,r0,r1,r2,r3,encS]
      · exact(((hx.setCell (by simp;omega) _).setCell (by simp;omega) _).setCell (by simp;omega) _).setCell (by simp;omega) _
end
section
open Go Go.RowKit Go.Shelf
attribute [local go_sem] encS
theorem Ph (s t:BS) (w:World):ah 76 #[.agg (encS s),.agg (encS t)] w fun e w'=>e=.returned (.agg (encS (s ||| t)))/\Ext w w':=by
 have eg:∀ args w,(callFunc 136 args).run Tryz.prog w=.ok (.enter 136 args) w:=enters_of Tryz.func136 (by kernel_rfl) rfl;have H:=hid fun W=>qR s t (s ||| t) (· ||| ·) 136 W (fun i _=>(abh s t i).symm) eg TQ
 clear eg;obtain⟨u,hu⟩:=ag (s ||| t);rw[<-hu]at H ⊢;clear hu;go_enter Tryz.func76,Tryz.ntmps76;go_wp2_with (go_at_call 72;refine(H.out _).mono ?_;rintro e w1 ⟨rfl,hx⟩;have HX:=hid hx;obtain⟨hc,hf⟩:=hx.cells;clear hx);refine bodyPost_ret (v:=.agg (encS u)) ?_ rfl ⟨rfl,?_⟩
 ·simp[results,Tryz.results76,go_sem,hc]
 ·exact(((((((Ext.refl w).alloc _).alloc _).alloc _).trans HX.out).setCell (by simp<;>omega) _ |>.setCell (by simp<;>omega) _).setCell (by simp<;>omega) _).setCell (by simp<;>omega) _
theorem TR (s t:BS) (w:World):ah 118 #[.agg (encS s),.agg (encS t)] w fun e w'=>e=.returned (.agg (encS (s&&& t)))/\Ext w w':=by
 have eg:∀ args w,(callFunc 176 args).run Tryz.prog w=.ok (.enter 176 args) w:=enters_of Tryz.func176 (by kernel_rfl) rfl;have H:=hid fun W=>qR s t (s&&& t) (· &&& ·) 176 W (fun i _=>(OU s t i).symm) eg Pf
 clear eg;obtain⟨u,hu⟩:=ag (s&&& t);rw[<-hu]at H ⊢;clear hu;go_enter Tryz.func118,Tryz.ntmps118;go_wp2_with (go_at_call 72;refine(H.out _).mono ?_;rintro e w1 ⟨rfl,hx⟩;have HX:=hid hx;obtain⟨hc,hf⟩:=hx.cells;clear hx);refine bodyPost_ret (v:=.agg (encS u)) ?_ rfl ⟨rfl,?_⟩
 ·simp[results,Tryz.results118,go_sem,hc]
 ·exact(((((((Ext.refl w).alloc _).alloc _).alloc _).trans HX.out).setCell (by simp<;>omega) _ |>.setCell (by simp<;>omega) _).setCell (by simp<;>omega) _).setCell (by simp<;>omega) _
theorem vH (s t:BS) (w:World):ah 26 #[.agg (encS s),.agg (encS t)] w fun e w'=>e=.returned (.agg (encS (s&&& ~~~t)))/\Ext w w':=by
 have eg:∀ args w,(callFunc 73 args).run Tryz.prog w=.ok (.enter 73 args) w:=enters_of Tryz.func73 (by kernel_rfl) rfl;have H:=hid fun W=>qR s t (s&&& ~~~t) (fun x y=>x&&& ~~~y) 73 W (fun i hi=>by rw[OU,OX t hi]) eg LI
 clear eg;obtain⟨u,hu⟩:=ag (s&&& ~~~t);rw[<-hu]at H ⊢;clear hu;go_enter Tryz.func26,Tryz.ntmps26;go_wp2_with (go_at_call 72;refine(H.out _).mono ?_;rintro e w1 ⟨rfl,hx⟩;have HX:=hid hx;obtain⟨hc,hf⟩:=hx.cells;clear hx);refine bodyPost_ret (v:=.agg (encS u)) ?_ rfl ⟨rfl,?_⟩
 ·simp[results,Tryz.results26,go_sem,hc]
 ·exact(((((((Ext.refl w).alloc _).alloc _).alloc _).trans HX.out).setCell (by simp<;>omega) _ |>.setCell (by simp<;>omega) _).setCell (by simp<;>omega) _).setCell (by simp<;>omega) _
theorem TS (s:BS) (w:World):ah 175 #[.agg (encS s)] w fun e w'=>e=.returned (.agg (encS (~~~s)))/\Ext w w':=by
 have eg:∀ args w,(callFunc 217 args).run Tryz.prog w=.ok (.enter 217 args) w:=enters_of Tryz.func217 (by kernel_rfl) rfl;have H:=hid fun W=>qR s s (~~~s) (fun x _=> ~~~x) 217 W (fun i hi=>by rw[OX s hi]) eg Pg
 clear eg;obtain⟨u,hu⟩:=ag (~~~s);rw[<-hu]at H ⊢;clear hu;go_enter Tryz.func175,Tryz.ntmps175;go_wp2_with (go_at_call 72;refine(H.out _).mono ?_;rintro e w1 ⟨rfl,hx⟩;have HX:=hid hx;obtain⟨hc,hf⟩:=hx.cells;clear hx);refine bodyPost_ret (v:=.agg (encS u)) ?_ rfl ⟨rfl,?_⟩
 ·simp[results,Tryz.results175,go_sem,hc]
 ·exact((((((Ext.refl w).alloc _).alloc _).trans HX.out).setCell (by simp<;>omega) _ |>.setCell (by simp<;>omega) _).setCell (by simp<;>omega) _).setCell (by simp<;>omega) _
theorem gi:encS 0= #[.int .u64 0,.int .u64 0,.int .u64 0,.int .u64 0]:=rfl
theorem iy (s t:BS) (w:World):(Op.equalIn 10000 56 (.agg (encS s)) (.agg (encS t))).run Tryz.prog w=.ok (s==t) w:=by rw[<-Pb];exact run_equalIn_array w 9998 (encS s) (encS t) (fun i=>(wd s i).toNat) (fun i=>(wd t i).toNat) Tryz.underlying56 Tryz.underlying54 Tryz.isAgg54 Tryz.sizeOf54 (fun i hi=>gM s hi) (fun i hi=>gM t hi)
theorem TU (w:World):ah 117 #[] w fun e w'=>e=.returned (.agg (encS (~~~(0:BS))))/\Ext w w':=by
 have H:=hid fun W=>TS 0 W
 obtain⟨u,hu⟩:=ag (~~~(0:BS));rw[<-hu]at H ⊢;clear hu;rw[gi]at H;go_enter Tryz.func117,Tryz.ntmps117;go_wp2_with (go_at_call 175;refine(H.out _).mono ?_;rintro e w1 ⟨rfl,hx⟩;have HX:=hid hx;obtain⟨hc,hf⟩:=hx.cells;clear hx);refine bodyPost_ret (v:=.agg (encS u)) ?_ rfl ⟨rfl,?_⟩
 ·simp[results,Tryz.results117,go_sem,hc]
 ·exact(((((Ext.refl w).alloc _).trans HX.out).setCell (by simp<;>omega) _ |>.setCell (by simp<;>omega) _).setCell (by simp<;>omega) _).setCell (by simp<;>omega) _
end
section
open Go Go.RowKit Go.Shelf
attribute [local go_sem] encS Oper.semAt_some gJ dB
def bL (s:BS) (k:Nat):List Nat:=(List.range k).filter fun c=>s.getLsbD c
theorem gN (s:BS) (k:Nat):bL s (k+1)=bL s k++if s.getLsbD k then [k]else []:=by unfold bL;rw[List.range_succ,List.filter_append];by_cases h:s.getLsbD k=true<;>simp[h]
theorem vI (s:BS) {k n:Nat} (h:k<=n):bL s k<+:bL s n:=by
 induction n with
 | zero=>rw[show k=0 from by omega];exact List.prefix_rfl
 | succ n ih=>
  by_cases hk:k=n+1
  ·subst hk;exact List.prefix_rfl
  ·exact(ih (by omega)).trans (by rw[gN];exact List.prefix_append _ _)
theorem J1 (s:BS) (B:Nat) (w:World) (hB:ar w B (encS s) 56):Seq true Tryz.prog 125 #[.pointer (some ⟨B,0,none⟩)] (fun c:Nat=> #[.int .u8 c]) (· =B) (bL s 256) w:=by
 intro l J Jx W hK hJ Xo hY h0;have HY:=hid hY;have HH:=hid (qQ s);clear hY;refine callsIn_wide (n:=0).1 ?_;refine callsIn_of_wp Tryz.func125 rfl trivial ?_ rfl;simp only[Tryz.ntmps125,List.size_toArray,List.length_cons,List.length_nil,Nat.reduceAdd,Nat.reduceSub,Array.replicate_succ,Array.replicate_zero,List.push_toArray,List.append_toArray,List.nil_append,List.cons_append]
 gi_wp2
 gi_loopw [4] (fun i wr=>∃ (k:Nat) (T:Nat->Prop),k<=256/\i=.int .i64 k/\ar wr B (encS s) 56/\J (bL s k) T wr/\(∀ k,T k->W.heap.size<=k/\k<wr.heap.size)/\ae (· =B) W wr)
  (fun i _=>256-(intOf i).toNat)
 case atStart=>
  exact⟨0,fun _=>False,by omega,rfl,hB.keeps hK hB.lt,h0,fun _ h=>h.elim,ae.refl _ _⟩
 case round=>
  obtain⟨k,T,hk,rfl,hb,hj,hT,hR⟩:=hrel;by_cases hlt:k<256
  ·have c0:wr.cell? ⟨B,0,none⟩=some (.int .u64 (wd s 0).toNat):=hb.cell 0
   have c1:wr.cell? ⟨B,1,none⟩=some (.int .u64 (wd s 1).toNat):=hb.cell 1;have c2:wr.cell? ⟨B,2,none⟩=some (.int .u64 (wd s 2).toNat):=hb.cell 2;have c3:wr.cell? ⟨B,3,none⟩=some (.int .u64 (wd s 3).toNat):=hb.cell 3;have HB:=hid hb;have HJ:=hid hj;have HT:=hid hT;have HR:=hid hR;clear hb hj hT hR;have bO:=gN s k;by_cases iU:s.getLsbD k=true
   ·rw[if_pos iU]at bO
    have HP:=hid bO;have Ob:bL s k++ [k]<+:bL s 256:=by rw[<-bO];exact vI s (by omega)
    have Pj:=hid Ob;have h1:∀ W,ah 77 #[.agg (encS s),.int .u8 k] W fun e w'=>e=.returned (.bool true)/\Ext W w':=fun W=>by have:=qQ s k hlt W;rwa[iU]at this
    have H1:=hid h1;clear bO Ob h1 iU HH
    gi_wp2_with (gi_at_call 77;refine(callsIn_wide.2 (H1.out _)).mono ?_;rintro e w1 ⟨rfl,hx⟩;obtain⟨fn,tm,DB,bd,hy,DZ⟩:=HY.out (bL s k) k T w1 Pj.out (fun j hj=>⟨(HT.out j hj).1,aA (HT.out j hj).2 hx.size⟩) (HR.out.tr (hx.mono fun j hj=>by rw[show j=B from hj];exact HB.out.lt)) (hJ.ext HJ.out HT.out hx);have HX:=hid hx;have Oc:=hid DZ;clear hx DZ)
    refine Oc.out.mono ?_;rintro e W2 (⟨rfl,kR,hk2⟩ | ⟨rfl,kR,hk2⟩)
    ·have vd:=hid kR
     have pN:=hid hk2;clear kR hk2 hy
     gi_wp2
     go_roundw
     case rel=>
      refine⟨k+1,T,by omega,by go_num,?_,?_,?_,?_⟩
      ·exact(HB.out.ext HX.out).keeps pN.out (.inl rfl)
      ·rw[HP.out];exact vd.out
      ·exact fun j hj=>⟨(HT.out j hj).1,aA (HT.out j hj).2 (Nat.le_trans HX.out.size pN.out.size)⟩
      ·exact(HR.out.tr (HX.out.mono fun j hj=>by rw[show j=B from hj];exact HB.out.lt)).tr (pN.out.mono fun j hj=>.inl hj)
     case measure=>simp[intOf];omega
    ·have vd:=hid kR
     have pN:=hid hk2;clear kR hk2 hy
     gi_wp2
     refine bodyPost_ret (results_none rfl _ _ _) rfl ?_;exact⟨⟨_,rfl⟩,T,fun j hj=>⟨(HT.out j hj).1,aA (HT.out j hj).2 (Nat.le_trans HX.out.size pN.out.size)⟩,.inr ⟨_,Pj.out,vd.out⟩⟩
   ·have tG:s.getLsbD k=false:=by simpa using iU
    rw[if_neg iU,List.append_nil]at bO;have HP:=hid bO;have h1:∀ W,ah 77 #[.agg (encS s),.int .u8 k] W fun e w'=>e=.returned (.bool false)/\Ext W w':=fun W=>by have:=qQ s k hlt W;rwa[tG]at this
    have H1:=hid h1;clear bO h1 iU tG HH
    gi_wp2_with (gi_at_call 77;refine(callsIn_wide.2 (H1.out _)).mono ?_;rintro e w1 ⟨rfl,hx⟩;have HX:=hid hx;clear hx)
    go_roundw
    case rel=>
     refine⟨k+1,T,by omega,by go_num,?_,?_,?_,?_⟩
     ·exact HB.out.ext HX.out
     ·rw[HP.out];exact hJ.ext HJ.out HT.out HX.out
     ·exact fun j hj=>⟨(HT.out j hj).1,aA (HT.out j hj).2 HX.out.size⟩
     ·exact HR.out.tr (HX.out.mono fun j hj=>by rw[show j=B from hj];exact HB.out.lt)
    case measure=>simp[intOf];omega
  ·obtain rfl:k=256:=by omega
   gi_wp2
   refine bodyPost_end (results_none rfl _ _ _) rfl ?_;exact⟨⟨_,rfl⟩,T,hT,.inl hj⟩
theorem D7 (s:BS) (w:World):ah 71 #[.agg (encS s)] w fun e w'=>e=.returned (.func (.func 125) #[] #[.pointer (some ⟨w.heap.size,0,none⟩)])/\w'=w.alloc (.cells (encS s) 56 (0,0)):=by
 go_enter Tryz.func71,Tryz.ntmps71
 go_wp2;go_ret;exact⟨rfl,rfl⟩
def aS (s:BS):Nat×Bool:=match bL s 256 with | []=>(0,false) | c::_=>(c,true)
theorem zC (s:BS) (w:World):ah 23 #[.agg (encS s)] w fun e w'=>e=.returned (.tuple #[.int .u8 (aS s).1,.bool (aS s).2])/\Ext w w':=by
 refine cq Tryz.func23 rfl ?_;simp only[Tryz.ntmps23,List.size_toArray,List.length_cons,List.length_nil,Nat.reduceAdd,Nat.reduceSub,Array.replicate_succ,Array.replicate_zero,List.push_toArray,List.append_toArray,List.nil_append,List.cons_append];go_wp2_with (go_at_call 71;refine(D7 s _).mono ?_;rintro e w1 ⟨rfl,rfl⟩);refine ax ?_;intro W0 hW0;have h1:ar W0 (w.heap.size+1) #[.int .u8 0] 5:=by rw[hW0];repeat (first | (refine(ar.new _ _ _).at ?_;simp;done) | refine ar.alloc ?_ _)
 have h2:ar W0 (w.heap.size+1+1) #[.bool false] 4:=by rw[hW0];repeat (first | (refine(ar.new _ _ _).at ?_;simp;done) | refine ar.alloc ?_ _)
 have h3:ar W0 (w.heap.size+1+1+1) (encS s) 56:=by rw[hW0];exact(ar.new _ _ _).at (by simp)
 have hx:Ext w W0:=by rw[hW0];exact((((Ext.refl w).alloc _).alloc _).alloc _).alloc _
 have hsz:W0.heap.size=w.heap.size+1+1+1+1:=by rw[hW0];simp
 have eg:∀ args w,(callFunc 125 args).run Tryz.prog w=.ok (.enter 125 args) w:=enters_of Tryz.func125 (by kernel_rfl) rfl;refine iw (w:=W0) (J1 s _ W0 h3) (by rfl) eg (by intro _;rfl) (by intro k hk;rw[show k=_ from hk,hsz];omega)
  (fun xs _ W=>xs=[]/\ar W (w.heap.size+1) #[.int .u8 0] 5/\ar W (w.heap.size+1+1) #[.bool false] 4/\Ext w W)
  (fun c xs _ W=>c=.ret/\∃ x,xs=[x]/\ar W (w.heap.size+1) #[.int .u8 x] 5/\ar W (w.heap.size+1+1) #[.bool true] 4/\Ext w W)
  (fun xs T T' W W' ⟨h0,h1,h2,h3⟩ hT _ _ _ hk=>⟨h0,h1.mS hT hk (by omega),h2.mS hT hk (by omega),h3.mS hT hk (by omega)⟩)
  (fun c xs T T' W W' ⟨h0,x,h1,h2,h3,h4⟩ hT _ _ _ hk=>⟨h0,x,h1,h2.mS hT hk (by omega),h3.mS hT hk (by omega),h4.mS hT hk (by omega)⟩)
  ⟨rfl,h1,h2,hx⟩
  (fun x=>⟨#[.agg (encS s),.pointer (some ⟨w.heap.size,0,none⟩),.pointer (some ⟨w.heap.size+1,0,none⟩),.pointer (some ⟨w.heap.size+1+1,0,none⟩),.int .u8 x,.agg (encS s),.func (.func 125) #[] #[.pointer (some ⟨w.heap.size+1+1+1,0,none⟩)],.int .u8 x,undef],[]⟩) ?assign ?body ?done ?stop
 case assign=>
  intro l x W K hK
  gi_wp2
  exact hK
 case body=>
  rintro l pre x T W bO hT hR yF hl ⟨rfl,h1,h2,hx⟩;have c1:W.cell? ⟨w.heap.size+1,0,none⟩=some (.int .u8 0):=h1.cell 0;have c2:W.cell? ⟨w.heap.size+1+1,0,none⟩=some (.bool false):=h2.cell 0;have f1:=h1.frozen 0;have f2:=h2.frozen 0;have H1:=hid h1;have H2:=hid h2;have HX:=hid hx;have HS:=hid hsz;have HT:=hid hT;clear h1 h2 hx hR hl yF hsz hW0 hT
  gi_wp2
  refine⟨((ae.refl _ _).setCell (fun h=>?_) _).setCell (fun h=>?_) _,rfl,x,rfl,(H1.out.set 0 _).other (by simp) _,(H2.out.other (by simp) _).set 0 _,(HX.out.setCell (by simp<;>omega) _).setCell (by simp<;>omega) _⟩
  ·have h1:=(HT.out _ h).1;have h2:=HS.out;dsimp only at h1;omega
  ·have h1:=(HT.out _ h).1;have h2:=HS.out;dsimp only at h1;omega
 case done=>
  rintro D T W hD yI hT ⟨h0,h1,h2,hx⟩ mI;have c1:W.cell? ⟨w.heap.size+1,0,none⟩=some (.int .u8 0):=h1.cell 0;have c2:W.cell? ⟨w.heap.size+1+1,0,none⟩=some (.bool false):=h2.cell 0;have f1:=h1.frozen 0;have f2:=h2.frozen 0;have H1:=hid h1;have H2:=hid h2;have HX:=hid hx;have HS:=hid hsz;have HD:=hid hD;have yx:=hid mI;have H0:=hid h0;clear h1 h2 hx yI hsz hW0 hT mI hD h0;dsimp only;go_wp2;have GJ:∀ b:Nat,b<w.heap.size+1+1+1->D≠b:=fun b hb=>by have h1:=HD.out;have h2:=HS.out;omega
  have abi:=((ae.refl (· =D) W).setCell (p:=⟨w.heap.size+1,0,none⟩) (fun h=>GJ (w.heap.size+1) (by omega) (h.symm)) (.int .u8 0)).setCell (p:=⟨w.heap.size+1+1,0,none⟩) (fun h=>GJ (w.heap.size+1+1) (by omega) (h.symm)) (.bool false) |>.keep D rfl;rw[yx.out]at abi;have q1:=(((H1.out.set 0 (.int .u8 0)).other (p:=⟨w.heap.size+1+1,0,none⟩) (by simp) (.bool false)).put (GJ _ (by omega)) (.deferred none)).cell 0;have q2:=(((H2.out.other (p:=⟨w.heap.size+1,0,none⟩) (by simp) (.int .u8 0)).set 0 (.bool false)).put (GJ _ (by omega)) (.deferred none)).cell 0;refine dn (v:=.tuple #[.int .u8 0,.bool false]) rfl abi ?_ ⟨?_,?_⟩
  ·simp[results,Tryz.results23,go_sem,q1,q2]
  ·simp[aS,H0.out]
  ·exact((HX.out.setCell (by simp<;>omega) _).setCell (by simp<;>omega) _).putObj (by have h1:=HD.out;have h2:=HS.out;omega) _
 case stop=>
  rintro D c pre T W hD yI hT bO ⟨rfl,x,h0,h1,h2,hx⟩ mI;have c1:W.cell? ⟨w.heap.size+1,0,none⟩=some (.int .u8 x):=h1.cell 0;have c2:W.cell? ⟨w.heap.size+1+1,0,none⟩=some (.bool true):=h2.cell 0;have H1:=hid h1;have H2:=hid h2;have HX:=hid hx;have HS:=hid hsz;have HD:=hid hD;have yx:=hid mI;have H0:=hid h0;clear h1 h2 hx yI hsz hW0 hT mI hD h0;dsimp only;go_wp2;have GJ:∀ b:Nat,b<w.heap.size+1+1+1->D≠b:=fun b hb=>by have h1:=HD.out;have h2:=HS.out;omega
  have q1:=(H1.out.put (GJ _ (by omega)) (.deferred none)).cell 0;have q2:=(H2.out.put (GJ _ (by omega)) (.deferred none)).cell 0;refine dn (v:=.tuple #[.int .u8 x,.bool true]) rfl yx.out ?_ ⟨?_,?_⟩
  ·simp[results,Tryz.results23,go_sem,q1,q2]
  ·obtain⟨r,hr⟩:=bO
   rw[H0.out]at hr;simp[aS, <-hr]
  ·exact HX.out.putObj (by have h1:=HD.out;have h2:=HS.out;omega) _
end
section
open Go Go.RowKit Go.Shelf
attribute [local go_sem] encS
def aT (s t:BS):Int:=if(aS ((s&&& ~~~t) ||| (t&&& ~~~s))).2 then(if s.getLsbD (aS ((s&&& ~~~t) ||| (t&&& ~~~s))).1 then-1 else 1)else 0
theorem Hm (s:BS):(aS s).1<256:=by
 unfold aS;split
 ·decide
 ·rename_i c l h
  have:c∈bL s 256:=by rw[h];simp
  simp[bL]at this;exact this.1
theorem D8 (s t:BS) (w:World):ah 30 #[.agg (encS s),.agg (encS t)] w fun e w'=>e=.returned (.int .i64 (aT s t))/\Ext w w':=by
 have HL1:=hid fun W=>vH s t W
 have VN:=hid fun W=>vH t s W
 have HO:=hid fun W=>Ph (s&&& ~~~t) (t&&& ~~~s) W
 have HF:=hid fun W=>zC ((s&&& ~~~t) ||| (t&&& ~~~s)) W
 have hv:aT s t=if(aS ((s&&& ~~~t) ||| (t&&& ~~~s))).2 then(if s.getLsbD (aS ((s&&& ~~~t) ||| (t&&& ~~~s))).1 then-1 else 1)else 0:=rfl
 have hlt:=Hm ((s&&& ~~~t) ||| (t&&& ~~~s));generalize aT s t=z at hv ⊢;generalize aS ((s&&& ~~~t) ||| (t&&& ~~~s))=fo at HF hv hlt;obtain⟨c,b⟩:=fo;dsimp only at hv hlt;generalize (s&&& ~~~t) ||| (t&&& ~~~s)=u3 at HO HF
 generalize (s&&& ~~~t)=u1 at HO HL1;generalize (t&&& ~~~s)=u2 at HO VN;have HV:=hid hv;have HH:=hid fun W=>qQ s c hlt W
 clear hv;go_enter Tryz.func30,Tryz.ntmps30;go_wp2;refine eQ (fun b=>b=w.heap.size\/b=w.heap.size+1) (by kernel_rfl) (fun i=>i==2 || i==5 || i==6 || i==7) (by kernel_rfl) ?_;intro C hC hne W0 zB hblk hsz hx0;have hA:ar ((w.alloc (.cells (encS s) 56 (0,0))).alloc (.cells (encS t) 56 (0,0))) w.heap.size (encS s) 56:=(ar.new w _ _).alloc _;have hB:ar ((w.alloc (.cells (encS s) 56 (0,0))).alloc (.cells (encS t) 56 (0,0))) (w.heap.size+1) (encS t) 56:=(ar.new _ _ _).at (by simp);obtain⟨a0,a1,a2,a3⟩:=A7 hC (.inl rfl) hA;obtain⟨b0,b1,b2,b3⟩:=A7 hC (.inr rfl) hB;have HC:=hid hC;have LK:=hid zB;have LJ:=hid ((((Ext.refl w).alloc _).alloc _).trans hx0);have HA:=hid (hA.same (hblk _));have HS:Hid (∀ k,(k=w.heap.size\/k=w.heap.size+1)->k<((w.alloc (.cells (encS s) 56 (0,0))).alloc (.cells (encS t) 56 (0,0))).heap.size):=fun k hk=>by simp;omega
 clear hC zB hblk hsz hA hB hx0
 repeat (refine bN (fun K hK=>?_);refine dw rfl ?_;unfold aB;go_simp;refine hK _ _ ?_;clear hK K)
 refine bN (fun K hK=>?_);refine eH rfl ?_;go_simp;refine eP ((HL1.out _).mono ?_);rintro e w1 ⟨rfl,hx⟩;have iK:=ae.step LK.out HS hx;refine⟨_,rfl,(HC.out _).2 iK,hK _ _ ?_⟩;have GK:=hid iK;have j7:=hid hx;clear hK K iK hx
 repeat (refine bN (fun K hK=>?_);refine dw rfl ?_;unfold aB;go_simp;refine hK _ _ ?_;clear hK K)
 refine bN (fun K hK=>?_);refine eH rfl ?_;go_simp;refine eP ((VN.out _).mono ?_);rintro e w2 ⟨rfl,hx⟩;have hk2:=ae.step GK.out HS hx;refine⟨_,rfl,(HC.out _).2 hk2,hK _ _ ?_⟩;have pN:=hid hk2;have fK:=hid hx;clear hK K hk2 hx;refine bN (fun K hK=>?_);refine eH rfl ?_;go_simp;refine eP ((HO.out _).mono ?_);rintro e w3 ⟨rfl,hx⟩;have hk3:=ae.step pN.out HS hx;refine⟨_,rfl,(HC.out _).2 hk3,hK _ _ ?_⟩;have VO:=hid hk3;have od:=hid hx;clear hK K hk3 hx;refine bN (fun K hK=>?_);refine eH rfl ?_;go_simp;refine eP ((HF.out _).mono ?_);rintro e w4 ⟨rfl,hx⟩;have hk4:=ae.step VO.out HS hx;refine⟨_,rfl,(HC.out _).2 hk4,hK _ _ ?_⟩;have HK4:=hid hk4;have D9:=hid hx;clear hK K hk4 hx
 repeat (refine bN (fun K hK=>?_);refine dw rfl ?_;unfold aB;go_simp;refine hK _ _ ?_;clear hK K)
 refine nV ?_;have Xp:=hid ((((LJ.out.trans j7.out).trans fK.out).trans od.out).trans D9.out);have HA4:=hid (HA.out.ext ((((j7.out.trans fK.out).trans od.out).trans D9.out)));clear a0 a1 a2 a3 b0 b1 b2 b3 LK GK pN VO HK4 HC HS LJ j7 fK od D9 HL1 VN HO HF HA;cases b with
 | false=>
  go_wp2;go_ret;exact⟨congrArg (fun z=>Ending.returned (.int .i64 z)) HV.out.symm,Xp.out⟩
 | true=>
  obtain⟨a0,a1,a2,a3⟩:=HA4.out.LH;by_cases hb:s.getLsbD c=true
  ·have H1:Hid (∀ W,ah 77 #[.agg (encS s),.int .u8 c] W fun e w'=>e=.returned (.bool true)/\Ext W w'):=fun W=>by have:=HH.out W;rwa[hb]at this
   have HV':=hid (show z= -1 from by have:=HV.out;simpa[hb]using this);clear hb HV;go_wp2_with (go_at_call 77;refine(H1.out _).mono ?_;rintro e w5 ⟨rfl,hx⟩;have VP:=hid hx;clear hx);go_ret;exact⟨congrArg (fun z=>Ending.returned (.int .i64 z)) HV'.out.symm,Xp.out.trans VP.out⟩
  ·have hb':s.getLsbD c=false:=by simpa using hb
   have H1:Hid (∀ W,ah 77 #[.agg (encS s),.int .u8 c] W fun e w'=>e=.returned (.bool false)/\Ext W w'):=fun W=>by have:=HH.out W;rwa[hb']at this
   have HV':=hid (show z=1 from by have:=HV.out;simpa[hb']using this);clear hb hb' HV;go_wp2_with (go_at_call 77;refine(H1.out _).mono ?_;rintro e w5 ⟨rfl,hx⟩;have VP:=hid hx;clear hx);go_ret;exact⟨congrArg (fun z=>Ending.returned (.int .i64 z)) HV'.out.symm,Xp.out.trans VP.out⟩
end
section
open Go Go.RowKit Go.Shelf
attribute [local go_sem] encS
end
section
open Go Go.RowKit Go.Shelf Go.Maps
attribute [local go_sem] encS Oper.semAt_some gJ dB
theorem Tryz.Hn:(Tryz.prog.info? 5).map (fun i=>(i.zero,i.size,i.bytes))=some (some (.int .u8 0),1,1):=by kernel_rfl
def et (c:Nat):Value:=.int .u8 c
theorem yJ {d:Bool} {gf:Nat} {lb:Array Value} {R:Nat->Prop} (xs:List Nat) (w:World) (hseq:Seq d Tryz.prog gf lb (fun c:Nat=> #[.int .u8 c]) R xs w) (eg:∀ args w,(callFunc gf args).run Tryz.prog w=.ok (.enter gf args) w) (hR:∀ k,R k->k<w.heap.size) (hn:xs.length<=1000000): ah 260 #[.slice none 0 0,.func (.func gf) #[] lb] w fun e w'=>∃ v,e=.returned v/\w'.ownsRow w.heap.size 5 1 v xs.length (xs.map et)/\aa w w':=by
 obtain⟨i0,hi,hz0,hz1,hz2⟩:=info_parts Tryz.Hn;refine cq Tryz.func260 rfl ?_;simp only[Tryz.ntmps260,List.size_toArray,List.length_cons,List.length_nil,Nat.reduceAdd,Nat.reduceSub,Array.replicate_succ,Array.replicate_zero,List.push_toArray,List.append_toArray,List.nil_append,List.cons_append];go_wp2;refine ax ?_;intro W0 hW0;have h1:ar W0 w.heap.size #[.slice none 0 0] 44:=by rw[hW0];exact ar.new _ _ _
 have hx:Ext w W0:=by rw[hW0];exact(Ext.refl w).alloc _
 have hsz:W0.heap.size=w.heap.size+1:=by rw[hW0];simp
 refine iw (w:=W0) (hseq.at hx.keeps) (by rfl) eg (by intro _;rfl) (by intro k hk;have:=hR k hk;omega)
  (fun xs T W=>∃ v,ar W w.heap.size #[v] 44/\W.ownsRow (w.heap.size+1) 5 1 v xs.length (xs.map et)/\(∀ k,v.ownBlock=some k->¬T k)/\aa w W)
  (fun _ _ _ _=>False)
  ?_
  (fun c xs T T' W W' h=>h.elim)
  ⟨_,h1,World.ownsRow_nil _ _ _ _,fun _ _ h=>h,hx.below⟩
  (fun x=>⟨#[.slice none 0 0,.func (.func gf) #[] lb,.pointer (some ⟨w.heap.size,0,none⟩),undef,.slice none 0 0,.int .u8 x,.func (.func gf) #[] lb,.int .u8 x,undef,undef,undef,undef,undef],[]⟩) ?assign ?body ?done ?stop
 ·intro xs T T' W W' ⟨v,g1,g2,g3,g4⟩ hT Pk hs hn hk
  refine⟨v,g1.mS hT hk (by omega),ai g2 hk.1 (fun k e=>⟨(g2.lt k e).2,g3 k e⟩),fun k e ht=>?_,iu g4 hT hk (aD _) (by omega)⟩;rcases hn k ht with h | h
  ·exact g3 k e h
  ·have:=(g2.lt k e).2;omega
 case assign=>
  intro l x W K hK
  gi_wp2
  exact hK
 case body=>
  rintro l pre x T W bO hT _ yF hl ⟨v,g1,g2,g3,g4⟩;have c1:W.cell? ⟨w.heap.size,0,none⟩=some v:=g1.cell 0;have f1:=g1.frozen 0;have hlen:pre.length<xs.length:=by obtain⟨r,hr⟩:=bO;rw[<-hr];simp
  have G1:=hid g1;have G3:=hid g3;have G4:=hid g4;have lI:=hid hsz;have HT:=hid hT;clear g1 g3 g4 hsz hW0 hT hl yF
  gi_wp2_with (gi_at_builtin;refine wpListIn_append_own_at _ rfl _ _ 44 rfl (w.heap.size+1) 5 i0 (.int .u8 0) 1 1 Tryz.underlying44 hi hz0 hz1 hz2 rfl (by decide) _ _ _ rfl (g2.alloc _) ⟨W.heap.size,0,none⟩ 1 1 [et x] rfl rfl (cell_one_new _ _ _) (by simp[Value.oneCell',et]) (by unfold maxLen;omega) (by omega) (by have h1:=G4.out.size;have h2:=lI.out;have h3:=G1.out.lt;simp;omega) ?_;intro v' w1 hown' hgrow hh hat;obtain⟨g',cap',rfl⟩:=ownsRow_succ hown';have hb1:=(G1.out.alloc (.cells #[.int .u8 x] 5 (0,0))).grown hgrow (fun e=>by have:=(g2.lt _ e.symm).1;omega);have c2:=hb1.cell 0;have f2:=hb1.frozen 0;have HB:=hid hb1;have HO:=hid hown';have HG:=hid hgrow;have H2:=hid g2;have LL:=hid hat;clear hown' hgrow hb1 g2 hh hat)
  have hgT:¬T g':=fun ht=>by
   rcases LL.out with h | h
   ·exact G3.out g' h.symm ht
   ·have h1:=(HT.out g' ht).2;simp[Value.ownBlock]at h;omega
  have Xq:∀ k,(R k\/T k)->k<W.heap.size/\some k≠v.ownBlock:=fun k hk=>by
   refine⟨?_,fun e=>?_⟩
   ·rcases hk with hk | hk
    ·have h1:=hR k hk;have h2:=G4.out.size;omega
    ·exact(HT.out k hk).2
   ·rcases hk with hk | hk
    ·have h1:=hR k hk;have h2:=(H2.out.lt k e.symm).1;omega
    ·exact G3.out k e.symm hk
  have iK:ae (fun k=>R k\/T k) W w1:=(((ae.refl _ W).alloc (fun k hk=>(Xq k hk).1) _)).tr (ae.bw HG.out fun k hk=>⟨by have:=(Xq k hk).1;simp;omega,(Xq k hk).2⟩);have zD:∀ k,(R k\/T k)->k≠w.heap.size:=fun k hk=>by
   rcases hk with hk | hk
   ·have h1:=hR k hk;omega
   ·have h1:=(HT.out k hk).1;have h2:=lI.out;omega
  refine⟨iK.setCell (fun h=>zD _ h rfl) _,_,HB.out.set 0 _,?_,fun k e=>?_,?_⟩
  ·rw[aG,List.map_append]
   exact ai HO.out ((ae.refl (fun k=>k≠w.heap.size) _).setCell (by simp) _) (fun k e=>by have:=(HO.out.lt k e).1;omega)
  ·simp[Value.ownBlock]at e;subst e;exact hgT
  ·exact((G4.out.alloc (by exact G4.out.size) _).grown HG.out (by have:=G4.out.size;simp;omega) (fun k e=>by have:=(H2.out.lt k e).1;omega)).setCell (aD _) _
 case done=>
  rintro D T W hD yI hT ⟨v,g1,g2,g3,g4⟩ mI;have c1:W.cell? ⟨w.heap.size,0,none⟩=some v:=g1.cell 0;have G2:=hid g2;have G4:=hid g4;have HD:=hid hD;have lI:=hid hsz;have yx:=hid mI;clear g1 g2 g3 g4 hsz hW0 hT yI mI hD;dsimp only;go_wp2;refine dn rfl yx.out (results_tmp rfl _ _ _) ⟨v,rfl,ownsRow_putObj (aF G2.out (by omega)) _ yx.out rfl,((ae.ak G4.out (fun _ h=>h)).putObj (by have:=HD.out;have:=lI.out;omega) _).below⟩
 case stop=>rintro D c pre T W _ _ _ _ h _;exact h.elim
theorem Ea {d:Bool} {gf:Nat} {lb:Array Value} {R:Nat->Prop} (xs:List Nat) (w:World) (hseq:Seq d Tryz.prog gf lb (fun c:Nat=> #[.int .u8 c]) R xs w) (eg:∀ args w,(callFunc gf args).run Tryz.prog w=.ok (.enter gf args) w) (hR:∀ k,R k->k<w.heap.size) (hn:xs.length<=1000000): ah 247 #[.func (.func gf) #[] lb] w fun e w'=>∃ v,e=.returned v/\w'.ownsRow w.heap.size 5 1 v xs.length (xs.map et)/\aa w w':=by have H:=hid (yJ xs w hseq eg hR hn);clear hseq eg;go_enter Tryz.func247,Tryz.ntmps247;go_wp2_with (go_at_call 260;refine H.out.mono ?_;rintro e w1 ⟨v,rfl,h1,h2⟩;have H1:=hid h1;have H2:=hid h2;clear h1 h2);go_ret;exact⟨v,rfl,H1.out,H2.out⟩
theorem LM (s:BS) (w:World): ah 236 #[.agg (encS s)] w fun e w'=>∃ v,e=.returned v/\w'.ownsRow w.heap.size 5 1 v (bL s 256).length ((bL s 256).map et)/\aa w w':=by
 have eg:∀ args w,(callFunc 125 args).run Tryz.prog w=.ok (.enter 125 args) w:=enters_of Tryz.func125 (by kernel_rfl) rfl;have hlen:(bL s 256).length<=1000000:=by unfold bL;exact Nat.le_trans (List.length_filter_le _ _) (by simp)
 have H:Hid (∀ (W:World) (B:Nat),ar W B (encS s) 56->ah 247 #[.func (.func 125) #[] #[.pointer (some ⟨B,0,none⟩)]] W fun e w'=>∃ v,e=.returned v/\w'.ownsRow W.heap.size 5 1 v (bL s 256).length ((bL s 256).map et)/\aa W w'):=
  fun W B hB=>Ea _ W (J1 s B W hB) eg (fun k hk=>by rw[show k=B from hk];exact hB.lt) hlen
 clear eg hlen;generalize bL s 256=xs at H ⊢;go_enter Tryz.func236,Tryz.ntmps236;go_wp2_with (first | (go_at_call 71;refine(D7 s _).mono ?_;rintro e w1 ⟨rfl,rfl⟩) | (go_at_call 247;refine(H.out _ _ ((ar.new _ _ _).at (by simp))).mono ?_;rintro e w1 ⟨v,rfl,h1,h2⟩;have H1:=hid h1;have H2:=hid h2;clear h1 h2));go_ret;refine⟨v,rfl,aF H1.out (by simp;omega),?_⟩;exact(((Ext.refl w).alloc _).alloc _).below.trans (H2.out.mono (by simp;omega))
end
end Go.Proofs.YtjgccapbphadjaaGreatDoor
