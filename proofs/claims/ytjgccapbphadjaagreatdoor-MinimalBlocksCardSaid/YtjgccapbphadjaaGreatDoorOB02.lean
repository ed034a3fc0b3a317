/- Walks of package alphabet: Join. -/
import Derived.Test.YtjgccapbphadjaaGreatDoorOB01
import Derived.WalkSpells
import Derived.WalkLawsBesides
import Derived.TacticsInMore
import Derived.LoopNIn
import Derived.LoopIn
import Derived.Shelf.AbstractIn
import Derived.Maps.OwnIn
import Derived.Shelf.SlSortCmp.NoneTotal
import Derived.Deep.WholeRow
set_option maxRecDepth 100000
set_option maxHeartbeats 16000000
open Go.Lib (hid)
namespace Go.Proofs.YtjgccapbphadjaaGreatDoor
section
open Go Go.RowKit
abbrev BS:=BitVec 256
def wd (s:BS) (i:Nat):BitVec 64:=s.extractLsb' (64*i) 64
def encS (s:BS):Array Value:= #[.int .u64 (wd s 0).toNat,.int .u64 (wd s 1).toNat,.int .u64 (wd s 2).toNat,.int .u64 (wd s 3).toNat]
theorem jA (s:BS):(encS s).size=4:=rfl
theorem gM (s:BS) {k:Nat} (hk:k<4):(encS s)[k]? =some (.int .u64 (wd s k).toNat):=by
 match k,hk with
 | 0,_=>rfl
 | 1,_=>rfl
 | 2,_=>rfl
 | 3,_=>rfl
theorem vh (op:BinOp) (x y:BitVec 64):bits op .u64 x.toNat y.toNat=((match op with | .and=>x&&& y | .or=>x ||| y | .xor=>x ^^^ y | _=>x&&& ~~~y).toNat:Int):=by
 have hx:BitVec.ofInt (IntKind.u64).bits (x.toNat:Int)=x:=by apply BitVec.eq_of_toNat_eq;simp[IntKind.bits]
 have hy:BitVec.ofInt (IntKind.u64).bits (y.toNat:Int)=y:=by apply BitVec.eq_of_toNat_eq;simp[IntKind.bits]
 have hw:∀ z:BitVec 64,IntKind.u64.wrap (z.toNat:Int)=z.toNat:=fun z=>by
  have:=z.isLt;simp only[IntKind.wrap,IntKind.bits,IntKind.signed,Bool.false_and,Bool.false_eq_true,if_false];omega
 unfold bits;simp only[hx,hy];cases op<;>exact hw _
theorem A6 (x y:BitVec 64):bits .or .u64 x.toNat y.toNat=((x ||| y).toNat:Int):=vh .or x y
theorem DV (x y:BitVec 64):bits .and .u64 x.toNat y.toNat=((x&&& y).toNat:Int):=vh .and x y
theorem Pr (x y:BitVec 64):bits .xor .u64 x.toNat y.toNat=((x ^^^ y).toNat:Int):=vh .xor x y
theorem LV (x y:BitVec 64):bits .andNot .u64 x.toNat y.toNat=((x&&& ~~~y).toNat:Int):=vh .andNot x y
theorem Pt (x:BitVec 64):bits .xor .u64 IntKind.u64.max x.toNat=((~~~x).toNat:Int):=by
 have h:IntKind.u64.max=((BitVec.allOnes 64).toNat:Int):=by decide
 rw[h,Pr,BitVec.allOnes_xor]
theorem DW (n:Nat) (h:n<2^64):bits .and .u64 (n:Int) 1=((n%2:Nat):Int):=by
 have e1:((BitVec.ofNat 64 n).toNat:Int)=n:=by rw[BitVec.toNat_ofNat,Nat.mod_eq_of_lt h]
 have e2:(((1:BitVec 64)).toNat:Int)=1:=rfl;rw[<-e1, <-e2,DV];congr 1;rw[BitVec.toNat_and,BitVec.toNat_ofNat,Nat.mod_eq_of_lt h];exact Nat.and_one_is_mod n
theorem abR (s t:BS) (i:Nat):wd (s ||| t) i=wd s i ||| wd t i:=by unfold wd;exact BitVec.extractLsb'_or ..
theorem Pu (s t:BS) (i:Nat):wd (s&&& t) i=wd s i&&& wd t i:=by unfold wd;exact BitVec.extractLsb'_and ..
theorem Pv (s:BS) {i:Nat} (hi:i<4):wd (~~~s) i= ~~~(wd s i):=by
 unfold wd;apply BitVec.eq_of_getLsbD_eq;intro k hk;simp only[BitVec.getLsbD_extractLsb',BitVec.getLsbD_not,hk,decide_true,Bool.true_and];have:64*i+k<256:=by omega
 simp[this]
theorem Us (i:Nat):wd 0 i=0:=by unfold wd;exact BitVec.extractLsb'_zero ..
theorem BS.Yd {s t:BS} (h:∀ i,i<4->wd s i=wd t i):s=t:=by apply BitVec.eq_of_getLsbD_eq;intro k hk;have h1:=congrArg (fun b:BitVec 64=>b.getLsbD (k%64)) (h (k/64) (by omega));simp only[wd,BitVec.getLsbD_extractLsb',show k%64<64 from by omega,decide_true,Bool.true_and]at h1;rwa[show 64*(k/64)+k%64=k from by omega]at h1
theorem Ye (s:BS) (c:Nat):(wd s (c/64)).toNat/2^ (c%64)%2=(s.getLsbD c).toNat:=by
 have h:(wd s (c/64)).getLsbD (c%64)=s.getLsbD c:=by simp only[wd,BitVec.getLsbD_extractLsb',show c%64<64 from by omega,decide_true,Bool.true_and];rw[show 64*(c/64)+c%64=c from by omega]
 rw[<-h,BitVec.getLsbD,Nat.testBit_eq_decide_div_mod_eq];have:=Nat.mod_lt ((wd s (c/64)).toNat/2^ (c%64)) (show 0<2 by decide);generalize (wd s (c/64)).toNat/2^ (c%64)%2=z at*;match z,this with
 | 0,_=>rfl
 | 1,_=>rfl
theorem Pw (s:BS) (c:Nat):(bits .and .u64 (((wd s (c/64)).toNat:Int)/2^ (c%64)) 1==1)=s.getLsbD c:=by
 have h:(((wd s (c/64)).toNat:Int)/2^ (c%64))=((((wd s (c/64)).toNat/2^ (c%64):Nat)):Int):=by simp
 rw[h,DW _ (Nat.lt_of_le_of_lt (Nat.div_le_self _ _) (wd s (c/64)).isLt),Ye];cases s.getLsbD c<;>rfl
/-! '==' on arrays of whole numbers. -/
theorem rj {P:Program} {w:World} {e:TypeId} {cs:Array Value} {i:Nat} {v:Value} (ha:∀ w,(isAgg e).run P w=.ok false w) (h:cs[i]? =some v):(part e cs i).run P w=.ok v w:=by unfold part;simp[Sem.run_bind,ha,h]
theorem run_equalIn_array {P:Program} (w:World) (d:Nat) {t e:TypeId} {len:Nat} {k:IntKind} (xs ys:Array Value) (x y:Nat->Int) (ht:P.underlying t=some (.array len e)) (he:P.underlying e=some (.int k)) (ha:∀ w,(isAgg e).run P w=.ok false w) (hz:∀ w,(sizeOf e).run P w=.ok 1 w) (hx:∀ i,i<len->xs[i]? =some (.int k (x i))) (hy:∀ i,i<len->ys[i]? =some (.int k (y i))): (Op.equalIn (d+2) t (.agg xs) (.agg ys)).run P w=.ok ((List.range len).all fun i=>x i==y i) w:=by
 rw[show d+2=(d+1)+1 from rfl,Op.equalIn];simp only[Sem.run_bind,run_underlying ht,Result.andThen_ok,hz];simp only[Std.Legacy.Range.forIn_eq_forIn_range',Std.Legacy.Range.size,Nat.sub_zero,Nat.add_one_sub_one,Nat.div_one]
 have key:∀ (l:List Nat),(∀ i∈l,i<len)->(Sem.run P (forIn (m:=Sem) l ((none,()):Option Bool×Unit) fun i (_:Option Bool×Unit)=>do
   let a <-part e xs (i*1)
   let b <-part e ys (i*1)
   let r <-Op.equalIn (d+1) e a b
   if(!r)=true then pure (ForInStep.done (some false,()))else pure (ForInStep.yield (none,()))) w)=.ok (if(l.all fun i=>x i==y i)then none else some false,()) w:=by
  intro l;induction l with
  | nil=>intro _;simp
  | cons i l ih=>
   intro hl;have hi:=hl i (by simp);simp only[List.forIn_cons,Sem.run_bind,Nat.mul_one,rj ha (hx i hi),rj ha (hy i hi),Result.andThen_ok,run_equalIn_int w d e k k _ _ he];by_cases h:x i=y i
   ·have h':(x i==y i)=true:=by simpa using h
    have:=ih (fun j hj=>hl j (by simp[hj]));simp only[Nat.mul_one]at this;simp only[h',Bool.not_true,Bool.false_eq_true,if_false,Sem.run_pure,Result.andThen_ok,List.all_cons,Bool.true_and];exact this
   ·have h':(x i==y i)=false:=by simpa using h
    simp[h']
 rw[key (List.range' 0 len) (fun i hi=>by simpa[List.mem_range']using hi)];simp only[Result.andThen_ok];rw[List.range_eq_range'];split<;>simp_all
theorem Px (s t:BS):((List.range 4).all fun i=>(((wd s i).toNat:Int)==((wd t i).toNat:Int)))=(s==t):=by
 rw[Bool.eq_iff_iff];simp only[List.all_eq_true,List.mem_range,beq_iff_eq];constructor
 ·intro h;exact BS.Yd fun i hi=>BitVec.eq_of_toNat_eq (by have:=h i hi;omega)
 ·intro h i _;rw[h]
theorem A7 {C:World->Prop} {S:Nat->Prop} {w:World} (hC:∀ W,C W↔ae S w W) {b:Nat} {s:BS} {t:TypeId} (hs:S b) (h:ar w b (encS s) t): (∀ W: {W//C W},W.1.cell? ⟨b,0,none⟩=some (.int .u64 (wd s 0).toNat))/\(∀ W: {W//C W},W.1.cell? ⟨b,1,none⟩=some (.int .u64 (wd s 1).toNat))/\ (∀ W: {W//C W},W.1.cell? ⟨b,2,none⟩=some (.int .u64 (wd s 2).toNat))/\(∀ W: {W//C W},W.1.cell? ⟨b,3,none⟩=some (.int .u64 (wd s 3).toNat)):=
 ⟨dy hC (p:=⟨b,0,none⟩) hs (h.cell 0),dy hC (p:=⟨b,1,none⟩) hs (h.cell 1),dy hC (p:=⟨b,2,none⟩) hs (h.cell 2),dy hC (p:=⟨b,3,none⟩) hs (h.cell 3)⟩
theorem ar.LX {w:World} {b:Nat} {s:BS} {t:TypeId} (h:ar w b (encS s) t): w.cell? ⟨b,0,none⟩=some (.int .u64 (wd s 0).toNat)/\w.cell? ⟨b,1,none⟩=some (.int .u64 (wd s 1).toNat)/\w.cell? ⟨b,2,none⟩=some (.int .u64 (wd s 2).toNat)/\w.cell? ⟨b,3,none⟩=some (.int .u64 (wd s 3).toNat):=
 ⟨h.cell 0,h.cell 1,h.cell 2,h.cell 3⟩
def np (s:BS) (c:Nat):BS:=s ||| BitVec.twoPow 256 c
theorem kY (s:BS) {c d:Nat} (hc:c<256):(np s c).getLsbD d=(s.getLsbD d || (d==c)):=by unfold np;rw[BitVec.getLsbD_or,BitVec.getLsbD_twoPow];simp only[hc,decide_true,Bool.true_and];congr 1;rw[Bool.eq_iff_iff];simp;exact eq_comm
theorem Py (s:BS) {c i:Nat} (hc:c<256) (hi:i<4):wd (np s c) i=if i=c/64 then wd s i ||| BitVec.twoPow 64 (c%64)else wd s i:=by
 have hm:c%64<64:=Nat.mod_lt _ (by decide);split
 ·rename_i h
  subst h;apply BitVec.eq_of_getLsbD_eq;intro k hk;have h2:∀ d,(np s c).getLsbD d=(s.getLsbD d || (d==c)):=fun d=>kY s hc
  simp only[wd,BitVec.getLsbD_extractLsb',hk,decide_true,Bool.true_and,h2,BitVec.getLsbD_or,BitVec.getLsbD_twoPow,hm];congr 1;rw[Bool.eq_iff_iff];simp;omega
 ·rename_i h
  apply BitVec.eq_of_getLsbD_eq;intro k hk;simp only[wd,BitVec.getLsbD_extractLsb',hk,decide_true,Bool.true_and,kY s hc];rw[show(64*i+k==c)=false from by simp;omega,Bool.or_false]
theorem Hn (x:BitVec 64) {m:Nat} (hm:m<64):bits .or .u64 x.toNat (IntKind.u64.wrap (2^m))=((x ||| BitVec.twoPow 64 m).toNat:Int):=by
 have h:IntKind.u64.wrap (2^m)=((BitVec.twoPow 64 m).toNat:Int):=by
  have h1:(2:Nat)^m<2^64:=Nat.pow_lt_pow_right (by decide) hm;have h2:((2:Int)^m)=((2^m:Nat):Int):=by simp
  rw[BitVec.toNat_twoPow,Nat.mod_eq_of_lt h1,h2];simp only[IntKind.wrap,IntKind.bits,IntKind.signed,Bool.false_and,Bool.false_eq_true,if_false];exact Int.emod_eq_of_lt (Int.natCast_nonneg _) (by exact_mod_cast h1)
 rw[h,A6]
theorem vM (s:BS) {c:Nat} (hc:c<256):(encS s).setIfInBounds (c/64) (.int .u64 (bits .or .u64 (wd s (c/64)).toNat (IntKind.u64.wrap (2^ (c%64)))))=encS (np s c):=by
 rw[Hn _ (Nat.mod_lt _ (by decide))];apply Array.ext_getElem?;intro i;rw[Array.getElem?_setIfInBounds];by_cases hi:i<4
 ·rw[gM _ hi,gM _ hi,Py s hc hi]
  split
  ·rename_i h;subst h;simp[jA,hi]
  ·rename_i h;rw[if_neg (fun e=>h e.symm)]
 ·have h1:(encS s)[i]? =none:=by simp[jA];omega
  have h2:(encS (np s c))[i]? =none:=by simp[jA];omega
  rw[h1,h2];split
  ·rw[if_neg (by rw[jA];omega)]
  ·rfl
def pX (p:Nat->Bool):BS:=(List.range 256).foldl (fun s c=>if p c then np s c else s) 0
theorem Pz (p:Nat->Bool):∀ n,n<=256->∀ d,((List.range n).foldl (fun s c=>if p c then np s c else s) (0:BS)).getLsbD d=(decide (d<n)&&p d):=by
 intro n;induction n with
 | zero=>intro _ d;simp
 | succ n ih=>
  intro hn d;rw[List.range_succ,List.foldl_append,List.foldl_cons,List.foldl_nil];have h:=ih (by omega) d;by_cases hp:p n=true
  ·rw[if_pos hp,kY _ (by omega),h]
   by_cases hd:d=n
   ·subst hd;simp[hp]
   ·rw[Bool.eq_iff_iff];simp[hd];intro _;omega
  ·rw[if_neg hp,h]
   by_cases hd:d=n
   ·subst hd;simp[hp]
   ·rw[Bool.eq_iff_iff];simp;intro _;omega
theorem PC (p:Nat->Bool) {d:Nat} (hd:d<256):(pX p).getLsbD d=p d:=by have:=Pz p 256 (aG _) d;rw[pX,this];simp[hd]
theorem BS.ext {s t:BS} (h:∀ c,c<256->s.getLsbD c=t.getLsbD c):s=t:=BitVec.eq_of_getLsbD_eq h
theorem BS.Kc {s:BS} {p:Nat->Bool} (h:∀ c,c<256->s.getLsbD c=p c):s=pX p:=BS.ext fun c hc=>by rw[h c hc,PC p hc]
def bQ {α:Type} (enc:α->Value) (w:World) (v:Value) (l:List α):Prop:=
 (v=.slice none 0 0/\l=[])\/∃ b off cap,v=.slice (some ⟨b,off,none⟩) l.length cap/\b<w.heap.size/\l.length<=cap/\∀ i x,l[i]? =some x->w.cell? ⟨b,off+i,none⟩=some (enc x)
theorem rq (s:BS) (c:Nat) (hc:c<256) (w:World): ah 77 #[.agg (encS s),.int .u8 c] w fun e w'=>e=.returned (.bool (s.getLsbD c))/\Ext w w':=by have hcell:=gM s (show c/64<4 by omega);go_enter Tryz.func77,Tryz.ntmps77;go_wp2;go_ret;exact⟨congrArg (fun b=>Ending.returned (.bool b)) (Pw s c),(Ext.refl w).alloc _⟩
theorem Ut (x y:BitVec 64) (w:World):ah 136 #[.int .u64 x.toNat,.int .u64 y.toNat] w fun e w'=>e=.returned (.int .u64 (x ||| y).toNat)/\w'=w:=by have h:=A6 x y;go_enter Tryz.func136,Tryz.ntmps136;go_wp2;go_ret;exact⟨rfl,rfl⟩
theorem PE (x y:BitVec 64) (w:World):ah 176 #[.int .u64 x.toNat,.int .u64 y.toNat] w fun e w'=>e=.returned (.int .u64 (x&&& y).toNat)/\w'=w:=by have h:=DV x y;go_enter Tryz.func176,Tryz.ntmps176;go_wp2;go_ret;exact⟨rfl,rfl⟩
theorem LY (x y:BitVec 64) (w:World):ah 73 #[.int .u64 x.toNat,.int .u64 y.toNat] w fun e w'=>e=.returned (.int .u64 (x&&& ~~~y).toNat)/\w'=w:=by
 go_enter Tryz.func73,Tryz.ntmps73
 go_wp2;go_ret;exact⟨congrArg (fun z=>Ending.returned (.int .u64 z)) (LV x y),rfl⟩
theorem PH (x y:BitVec 64) (w:World):ah 217 #[.int .u64 x.toNat,.int .u64 y.toNat] w fun e w'=>e=.returned (.int .u64 (~~~x).toNat)/\w'=w:=by have hsg:IntKind.u64.signed=false:=rfl;go_enter Tryz.func217,Tryz.ntmps217;go_wp2;go_ret;exact⟨congrArg (fun z=>Ending.returned (.int .u64 z)) (Pt x),rfl⟩
def A8 (u:BS) (k:Nat):Array Value:= #[.int .u64 (if 0<k then wd u 0 else 0).toNat,.int .u64 (if 1<k then wd u 1 else 0).toNat,.int .u64 (if 2<k then wd u 2 else 0).toNat,.int .u64 (if 3<k then wd u 3 else 0).toNat]
theorem Ho (u:BS) {k:Nat} (hk:k<4):(A8 u k).setIfInBounds k (.int .u64 (wd u k).toNat)=A8 u (k+1):=by
 match k,hk with
 | 0,_=>rfl
 | 1,_=>rfl
 | 2,_=>rfl
 | 3,_=>rfl
theorem Hp (u:BS) {k j:Nat} (hj:j<4):∃ z:Nat,(A8 u k)[j]? =some (.int .u64 z):=by
 match j,hj with
 | 0,_=>exact⟨_,rfl⟩
 | 1,_=>exact⟨_,rfl⟩
 | 2,_=>exact⟨_,rfl⟩
 | 3,_=>exact⟨_,rfl⟩
theorem rr (s t u:BS) (f:BitVec 64→BitVec 64→BitVec 64) (g:Nat) (w:World) (hu:∀ i,i<4→f (wd s i) (wd t i)=wd u i) (eg:∀ args w,(callFunc g args).run Tryz.prog w=.ok (.enter g args) w) (hg:∀ (x y:BitVec 64) W,ah g #[.int .u64 x.toNat,.int .u64 y.toNat] W fun e w'=>e=.returned (.int .u64 (f x y).toNat)∧w'=W): ah 72 #[.agg (encS s),.agg (encS t),.func (.func g) #[] #[]] w fun e w'=>e=.returned (.agg (encS u))∧Ext w w':=by
  have HG:=hid hg;have HU:=hid hu;clear hg hu;go_enter Tryz.func72,Tryz.ntmps72;go_wp2
  go_loopw [9,8] (fun i _ wr=>∃ k:Nat,k≤4∧i=.int .i64 k∧ar wr w.heap.size (encS s) 56∧ar wr (w.heap.size+1) (encS t) 56∧ar wr (w.heap.size+1+1+1) (A8 u k) 56∧
     ar wr (w.heap.size+1+1) #[.int .u64 0,.int .u64 0,.int .u64 0,.int .u64 0] 56∧Ext w wr)
     (fun i _ _=>4-(intOf i).toNat)
  case atStart=>
    refine⟨0,by omega,rfl,?_,?_,?_,?_,(((((Ext.refl w).alloc _).alloc _).alloc _).alloc _)⟩<;>(repeat (first | (refine(ar.new _ _ _).at ?_;simp;done) | refine ar.alloc ?_ _))
  case round=>
    obtain⟨k,hk,rfl,hA,hB,hO,hR,hx⟩:=hrel;by_cases hlt:k<4
    · have ca:=(hA.cell k).trans (gM s hlt)
      have cb:=(hB.cell k).trans (gM t hlt);obtain⟨z,hz⟩:=Hp u (k:=k) hlt;have HA:=hid hA;have HB:=hid hB;have HO:=hid hO;have HR:=hid hR;have HX:=hid hx;have HF:=hid (HU.out k hlt);clear hA hB hO hR hx;go_wp2;refine eO (fun b=>b=w.heap.size∨b=w.heap.size+1) (by kernel_rfl) (fun i=>i==8 || i==10) (by kernel_rfl) ?_;intro C hC hne W0 zB hblk hsz hx0;have LZ:=hid hx0;clear hx0;have fa:=dy hC (.inl rfl) ca;have fb:=dy hC (.inr rfl) cb;have HO':=hid (HO.same (hblk _));have co:=(HO'.cell k).trans hz;have cf:=HO'.frozen k;have HC:=hid hC;have HBl:=hid hblk;have HK:=hid zB;have HZ:=hid hz;clear hC ca cb hblk zB hz
      repeat (refine bR (fun K hK=>?_);refine dE rfl ?_;unfold aF;go_simp;refine hK _ _ ?_;clear hK K)
      refine bR (fun K hK=>?_);refine eH rfl ?_;go_simp;refine eN ((HG _ _ _).mono ?_);rintro e w' ⟨rfl,rfl⟩;refine⟨_,rfl,(HC _).2 HK,hK _ _ ?_⟩;clear hK K
      repeat (refine bR (fun K hK=>?_);refine dE rfl ?_;unfold aF;go_simp;refine hK _ _ ?_;clear hK K)
      refine bR (fun K hK=>?_);refine eH rfl ?_;go_simp;refine⟨(HC _).2 (HK.setCell (by simp;omega) _),hK _ _ ?_⟩;clear hK K;refine oq ?_;go_wp2;go_roundw
      case rel=>
        refine⟨k+1,by omega,by go_num,?_,?_,?_,?_,?_⟩
        · exact(HA.same (HBl _)).other (by simp<;>omega) _
        · exact(HB.same (HBl _)).other (by simp<;>omega) _
        · rw[←Ho u hlt, ←HF.out];exact HO'.set k _
        · exact(HR.same (HBl _)).other (by simp<;>omega) _
        · exact Ext.setCell (HX.trans LZ) (by simp;omega) _
      case measure=>simp[intOf];omega
    · obtain rfl:k=4:=by omega
      have c0:wr.cell? ⟨w.heap.size+1+1+1,0,none⟩=some (.int .u64 (wd u 0).toNat):=hO.cell 0;have c1:wr.cell? ⟨w.heap.size+1+1+1,1,none⟩=some (.int .u64 (wd u 1).toNat):=hO.cell 1;have c2:wr.cell? ⟨w.heap.size+1+1+1,2,none⟩=some (.int .u64 (wd u 2).toNat):=hO.cell 2;have c3:wr.cell? ⟨w.heap.size+1+1+1,3,none⟩=some (.int .u64 (wd u 3).toNat):=hO.cell 3;have r0:wr.cell? ⟨w.heap.size+1+1,0,none⟩=some (.int .u64 0):=hR.cell 0;have r1:wr.cell? ⟨w.heap.size+1+1,1,none⟩=some (.int .u64 0):=hR.cell 1;have r2:wr.cell? ⟨w.heap.size+1+1,2,none⟩=some (.int .u64 0):=hR.cell 2;have r3:wr.cell? ⟨w.heap.size+1+1,3,none⟩=some (.int .u64 0):=hR.cell 3;have rf:=hR.frozen;clear hO hA hB hR;go_wp2;refine bodyPost_ret (v:=.agg (encS u)) ?_ rfl ⟨rfl,?_⟩
      · simp[results,Tryz.results72,go_sem,r0,r1,r2,r3,encS]
      · exact(((hx.setCell (by simp;omega) _).setCell (by simp;omega) _).setCell (by simp;omega) _).setCell (by simp;omega) _
end
section
open Go Go.RowKit Go.Shelf
attribute [local go_sem] encS
theorem PK (s t:BS) (w:World):ah 76 #[.agg (encS s),.agg (encS t)] w fun e w'=>e=.returned (.agg (encS (s ||| t)))/\Ext w w':=by
 have eg:∀ args w,(callFunc 136 args).run Tryz.prog w=.ok (.enter 136 args) w:=enters_of Tryz.func136 (by kernel_rfl) rfl;have H:=hid fun W=>rr s t (s ||| t) (· ||| ·) 136 W (fun i _=>(abR s t i).symm) eg Ut
 clear eg;obtain⟨u,hu⟩:=ag (s ||| t);rw[<-hu]at H ⊢;clear hu;go_enter Tryz.func76,Tryz.ntmps76;go_wp2_with (go_at_call 72;refine(H _).mono ?_;rintro e w1 ⟨rfl,hx⟩;have HX:=hid hx;obtain⟨hc,hf⟩:=hx.cells;clear hx);refine bodyPost_ret (v:=.agg (encS u)) ?_ rfl ⟨rfl,?_⟩
 ·simp[results,Tryz.results76,go_sem,hc]
 ·exact(((((((Ext.refl w).alloc _).alloc _).alloc _).trans HX).setCell (by simp<;>omega) _ |>.setCell (by simp<;>omega) _).setCell (by simp<;>omega) _).setCell (by simp<;>omega) _
theorem Uu (s t:BS) (w:World):ah 118 #[.agg (encS s),.agg (encS t)] w fun e w'=>e=.returned (.agg (encS (s&&& t)))/\Ext w w':=by
 have eg:∀ args w,(callFunc 176 args).run Tryz.prog w=.ok (.enter 176 args) w:=enters_of Tryz.func176 (by kernel_rfl) rfl;have H:=hid fun W=>rr s t (s&&& t) (· &&& ·) 176 W (fun i _=>(Pu s t i).symm) eg PE
 clear eg;obtain⟨u,hu⟩:=ag (s&&& t);rw[<-hu]at H ⊢;clear hu;go_enter Tryz.func118,Tryz.ntmps118;go_wp2_with (go_at_call 72;refine(H _).mono ?_;rintro e w1 ⟨rfl,hx⟩;have HX:=hid hx;obtain⟨hc,hf⟩:=hx.cells;clear hx);refine bodyPost_ret (v:=.agg (encS u)) ?_ rfl ⟨rfl,?_⟩
 ·simp[results,Tryz.results118,go_sem,hc]
 ·exact(((((((Ext.refl w).alloc _).alloc _).alloc _).trans HX).setCell (by simp<;>omega) _ |>.setCell (by simp<;>omega) _).setCell (by simp<;>omega) _).setCell (by simp<;>omega) _
theorem vN (s t:BS) (w:World):ah 26 #[.agg (encS s),.agg (encS t)] w fun e w'=>e=.returned (.agg (encS (s&&& ~~~t)))/\Ext w w':=by
 have eg:∀ args w,(callFunc 73 args).run Tryz.prog w=.ok (.enter 73 args) w:=enters_of Tryz.func73 (by kernel_rfl) rfl;have H:=hid fun W=>rr s t (s&&& ~~~t) (fun x y=>x&&& ~~~y) 73 W (fun i hi=>by rw[Pu,Pv t hi]) eg LY
 clear eg;obtain⟨u,hu⟩:=ag (s&&& ~~~t);rw[<-hu]at H ⊢;clear hu;go_enter Tryz.func26,Tryz.ntmps26;go_wp2_with (go_at_call 72;refine(H _).mono ?_;rintro e w1 ⟨rfl,hx⟩;have HX:=hid hx;obtain⟨hc,hf⟩:=hx.cells;clear hx);refine bodyPost_ret (v:=.agg (encS u)) ?_ rfl ⟨rfl,?_⟩
 ·simp[results,Tryz.results26,go_sem,hc]
 ·exact(((((((Ext.refl w).alloc _).alloc _).alloc _).trans HX).setCell (by simp<;>omega) _ |>.setCell (by simp<;>omega) _).setCell (by simp<;>omega) _).setCell (by simp<;>omega) _
theorem Uv (s:BS) (w:World):ah 175 #[.agg (encS s)] w fun e w'=>e=.returned (.agg (encS (~~~s)))/\Ext w w':=by
 have eg:∀ args w,(callFunc 217 args).run Tryz.prog w=.ok (.enter 217 args) w:=enters_of Tryz.func217 (by kernel_rfl) rfl;have H:=hid fun W=>rr s s (~~~s) (fun x _=> ~~~x) 217 W (fun i hi=>by rw[Pv s hi]) eg PH
 clear eg;obtain⟨u,hu⟩:=ag (~~~s);rw[<-hu]at H ⊢;clear hu;go_enter Tryz.func175,Tryz.ntmps175;go_wp2_with (go_at_call 72;refine(H _).mono ?_;rintro e w1 ⟨rfl,hx⟩;have HX:=hid hx;obtain⟨hc,hf⟩:=hx.cells;clear hx);refine bodyPost_ret (v:=.agg (encS u)) ?_ rfl ⟨rfl,?_⟩
 ·simp[results,Tryz.results175,go_sem,hc]
 ·exact((((((Ext.refl w).alloc _).alloc _).trans HX).setCell (by simp<;>omega) _ |>.setCell (by simp<;>omega) _).setCell (by simp<;>omega) _).setCell (by simp<;>omega) _
theorem gh:encS 0= #[.int .u64 0,.int .u64 0,.int .u64 0,.int .u64 0]:=rfl
theorem iu (s t:BS) (w:World):(Op.equalIn 10000 56 (.agg (encS s)) (.agg (encS t))).run Tryz.prog w=.ok (s==t) w:=by rw[<-Px];exact run_equalIn_array w 9998 (encS s) (encS t) (fun i=>(wd s i).toNat) (fun i=>(wd t i).toNat) Tryz.underlying56 Tryz.underlying54 Tryz.isAgg54 Tryz.sizeOf54 (fun i hi=>gM s hi) (fun i hi=>gM t hi)
theorem Uw (w:World):ah 117 #[] w fun e w'=>e=.returned (.agg (encS (~~~(0:BS))))/\Ext w w':=by
 have H:=hid fun W=>Uv 0 W
 obtain⟨u,hu⟩:=ag (~~~(0:BS));rw[<-hu]at H ⊢;clear hu;rw[gh]at H;go_enter Tryz.func117,Tryz.ntmps117;go_wp2_with (go_at_call 175;refine(H _).mono ?_;rintro e w1 ⟨rfl,hx⟩;have HX:=hid hx;obtain⟨hc,hf⟩:=hx.cells;clear hx);refine bodyPost_ret (v:=.agg (encS u)) ?_ rfl ⟨rfl,?_⟩
 ·simp[results,Tryz.results117,go_sem,hc]
 ·exact(((((Ext.refl w).alloc _).trans HX).setCell (by simp<;>omega) _ |>.setCell (by simp<;>omega) _).setCell (by simp<;>omega) _).setCell (by simp<;>omega) _
end
section
open Go Go.RowKit Go.Shelf
attribute [local go_sem] encS Oper.semAt_some gK dI
def bP (s:BS) (k:Nat):List Nat:=(List.range k).filter fun c=>s.getLsbD c
theorem gN (s:BS) (k:Nat):bP s (k+1)=bP s k++if s.getLsbD k then [k]else []:=by unfold bP;rw[List.range_succ,List.filter_append];by_cases h:s.getLsbD k=true<;>simp[h]
theorem vO (s:BS) {k n:Nat} (h:k<=n):bP s k<+:bP s n:=by
 induction n with
 | zero=>rw[show k=0 from by omega];exact List.prefix_rfl
 | succ n ih=>
  by_cases hk:k=n+1
  ·subst hk;exact List.prefix_rfl
  ·exact(ih (by omega)).trans (by rw[gN];exact List.prefix_append _ _)
theorem Kd (s:BS) (B:Nat) (w:World) (hB:ar w B (encS s) 56):Seq true Tryz.prog 125 #[.pointer (some ⟨B,0,none⟩)] (fun c:Nat=> #[.int .u8 c]) (· =B) (bP s 256) w:=by
 intro l J Jx W hK hJ Yf hY h0;have HY:=hid hY;have HH:=hid (rq s);clear hY;refine callsIn_wide (n:=0).1 ?_;refine callsIn_of_wp Tryz.func125 rfl trivial ?_ rfl;simp only[Tryz.ntmps125,List.size_toArray,List.length_cons,List.length_nil,Nat.reduceAdd,Nat.reduceSub,Array.replicate_succ,Array.replicate_zero,List.push_toArray,List.append_toArray,List.nil_append,List.cons_append]
 gi_wp2
 gi_loopw [4] (fun i wr=>∃ (k:Nat) (T:Nat->Prop),k<=256/\i=.int .i64 k/\ar wr B (encS s) 56/\J (bP s k) T wr/\(∀ k,T k->W.heap.size<=k/\k<wr.heap.size)/\ae (· =B) W wr)
  (fun i _=>256-(intOf i).toNat)
 case atStart=>
  exact⟨0,fun _=>False,by omega,rfl,hB.keeps hK hB.lt,h0,fun _ h=>h.elim,ae.refl _ _⟩
 case round=>
  obtain⟨k,T,hk,rfl,hb,hj,hT,hR⟩:=hrel;by_cases hlt:k<256
  ·have c0:wr.cell? ⟨B,0,none⟩=some (.int .u64 (wd s 0).toNat):=hb.cell 0
   have c1:wr.cell? ⟨B,1,none⟩=some (.int .u64 (wd s 1).toNat):=hb.cell 1;have c2:wr.cell? ⟨B,2,none⟩=some (.int .u64 (wd s 2).toNat):=hb.cell 2;have c3:wr.cell? ⟨B,3,none⟩=some (.int .u64 (wd s 3).toNat):=hb.cell 3;have HB:=hid hb;have HJ:=hid hj;have HT:=hid hT;have HR:=hid hR;clear hb hj hT hR;have bS:=gN s k;by_cases iO:s.getLsbD k=true
   ·rw[if_pos iO]at bS
    have HP:=hid bS;have OB:bP s k++ [k]<+:bP s 256:=by rw[<-bS];exact vO s (by omega)
    have PM:=hid OB;have h1:∀ W,ah 77 #[.agg (encS s),.int .u8 k] W fun e w'=>e=.returned (.bool true)/\Ext W w':=fun W=>by have:=rq s k hlt W;rwa[iO]at this
    have H1:=hid h1;clear bS OB h1 iO HH
    gi_wp2_with (gi_at_call 77;refine(callsIn_wide.2 (H1 _)).mono ?_;rintro e w1 ⟨rfl,hx⟩;obtain⟨fn,tm,Dw,bd,hy,DX⟩:=HY.out (bP s k) k T w1 PM (fun j hj=>⟨(HT j hj).1,aD (HT j hj).2 hx.size⟩) (HR.tr (hx.mono fun j hj=>by rw[show j=B from hj];exact HB.lt)) (hJ.ext HJ HT hx);have HX:=hid hx;have OC:=hid DX;clear hx DX)
    refine OC.mono ?_;rintro e W2 (⟨rfl,kX,hk2⟩ | ⟨rfl,kX,hk2⟩)
    ·have vk:=hid kX
     have pY:=hid hk2;clear kX hk2 hy
     gi_wp2
     go_roundw
     case rel=>
      refine⟨k+1,T,by omega,by go_num,?_,?_,?_,?_⟩
      ·exact(HB.ext HX).keeps pY (.inl rfl)
      ·rw[HP.out];exact vk
      ·exact fun j hj=>⟨(HT j hj).1,aD (HT j hj).2 (Nat.le_trans HX.size pY.size)⟩
      ·exact(HR.tr (HX.mono fun j hj=>by rw[show j=B from hj];exact HB.lt)).tr (pY.mono fun j hj=>.inl hj)
     case measure=>simp[intOf];omega
    ·have vk:=hid kX
     have pY:=hid hk2;clear kX hk2 hy
     gi_wp2
     refine bodyPost_ret (results_none rfl _ _ _) rfl ?_;exact⟨⟨_,rfl⟩,T,fun j hj=>⟨(HT j hj).1,aD (HT j hj).2 (Nat.le_trans HX.size pY.size)⟩,.inr ⟨_,PM,vk⟩⟩
   ·have tN:s.getLsbD k=false:=by simpa using iO
    rw[if_neg iO,List.append_nil]at bS;have HP:=hid bS;have h1:∀ W,ah 77 #[.agg (encS s),.int .u8 k] W fun e w'=>e=.returned (.bool false)/\Ext W w':=fun W=>by have:=rq s k hlt W;rwa[tN]at this
    have H1:=hid h1;clear bS h1 iO tN HH
    gi_wp2_with (gi_at_call 77;refine(callsIn_wide.2 (H1 _)).mono ?_;rintro e w1 ⟨rfl,hx⟩;have HX:=hid hx;clear hx)
    go_roundw
    case rel=>
     refine⟨k+1,T,by omega,by go_num,?_,?_,?_,?_⟩
     ·exact HB.ext HX
     ·rw[HP.out];exact hJ.ext HJ HT HX
     ·exact fun j hj=>⟨(HT j hj).1,aD (HT j hj).2 HX.size⟩
     ·exact HR.tr (HX.mono fun j hj=>by rw[show j=B from hj];exact HB.lt)
    case measure=>simp[intOf];omega
  ·obtain rfl:k=256:=by omega
   gi_wp2
   refine bodyPost_end (results_none rfl _ _ _) rfl ?_;exact⟨⟨_,rfl⟩,T,hT,.inl hj⟩
theorem DY (s:BS) (w:World):ah 71 #[.agg (encS s)] w fun e w'=>e=.returned (.func (.func 125) #[] #[.pointer (some ⟨w.heap.size,0,none⟩)])/\w'=w.alloc (.cells (encS s) 56 (0,0)):=by
 go_enter Tryz.func71,Tryz.ntmps71
 go_wp2;go_ret;exact⟨rfl,rfl⟩
def aT (s:BS):Nat×Bool:=match bP s 256 with | []=>(0,false) | c::_=>(c,true)
theorem zC (s:BS) (w:World):ah 23 #[.agg (encS s)] w fun e w'=>e=.returned (.tuple #[.int .u8 (aT s).1,.bool (aT s).2])/\Ext w w':=by
 refine cC Tryz.func23 rfl ?_;simp only[Tryz.ntmps23,List.size_toArray,List.length_cons,List.length_nil,Nat.reduceAdd,Nat.reduceSub,Array.replicate_succ,Array.replicate_zero,List.push_toArray,List.append_toArray,List.nil_append,List.cons_append];go_wp2_with (go_at_call 71;refine(DY s _).mono ?_;rintro e w1 ⟨rfl,rfl⟩);refine aA ?_;intro W0 hW0;have h1:ar W0 (w.heap.size+1) #[.int .u8 0] 5:=by rw[hW0];repeat (first | (refine(ar.new _ _ _).at ?_;simp;done) | refine ar.alloc ?_ _)
 have h2:ar W0 (w.heap.size+1+1) #[.bool false] 4:=by rw[hW0];repeat (first | (refine(ar.new _ _ _).at ?_;simp;done) | refine ar.alloc ?_ _)
 have h3:ar W0 (w.heap.size+1+1+1) (encS s) 56:=by rw[hW0];exact(ar.new _ _ _).at (by simp)
 have hx:Ext w W0:=by rw[hW0];exact((((Ext.refl w).alloc _).alloc _).alloc _).alloc _
 have hsz:W0.heap.size=w.heap.size+1+1+1+1:=by rw[hW0];simp
 have eg:∀ args w,(callFunc 125 args).run Tryz.prog w=.ok (.enter 125 args) w:=enters_of Tryz.func125 (by kernel_rfl) rfl;refine ir (w:=W0) (Kd s _ W0 h3) (by rfl) eg (by intro _;rfl) (by intro k hk;rw[show k=_ from hk,hsz];omega)
  (fun xs _ W=>xs=[]/\ar W (w.heap.size+1) #[.int .u8 0] 5/\ar W (w.heap.size+1+1) #[.bool false] 4/\Ext w W)
  (fun c xs _ W=>c=.ret/\∃ x,xs=[x]/\ar W (w.heap.size+1) #[.int .u8 x] 5/\ar W (w.heap.size+1+1) #[.bool true] 4/\Ext w W)
  (fun xs T T' W W' ⟨h0,h1,h2,h3⟩ hT _ _ _ hk=>⟨h0,h1.mY hT hk (by omega),h2.mY hT hk (by omega),h3.mY hT hk (by omega)⟩)
  (fun c xs T T' W W' ⟨h0,x,h1,h2,h3,h4⟩ hT _ _ _ hk=>⟨h0,x,h1,h2.mY hT hk (by omega),h3.mY hT hk (by omega),h4.mY hT hk (by omega)⟩)
  ⟨rfl,h1,h2,hx⟩
  (fun x=>⟨#[.agg (encS s),.pointer (some ⟨w.heap.size,0,none⟩),.pointer (some ⟨w.heap.size+1,0,none⟩),.pointer (some ⟨w.heap.size+1+1,0,none⟩),.int .u8 x,.agg (encS s),.func (.func 125) #[] #[.pointer (some ⟨w.heap.size+1+1+1,0,none⟩)],.int .u8 x,undef],[]⟩) ?assign ?body ?done ?stop
 case assign=>
  intro l x W K hK
  gi_wp2
  exact hK
 case body=>
  rintro l pre x T W bS hT hR yG hl ⟨rfl,h1,h2,hx⟩;have c1:W.cell? ⟨w.heap.size+1,0,none⟩=some (.int .u8 0):=h1.cell 0;have c2:W.cell? ⟨w.heap.size+1+1,0,none⟩=some (.bool false):=h2.cell 0;have f1:=h1.frozen 0;have f2:=h2.frozen 0;have H1:=hid h1;have H2:=hid h2;have HX:=hid hx;have HS:=hid hsz;have HT:=hid hT;clear h1 h2 hx hR hl yG hsz hW0 hT
  gi_wp2
  refine⟨((ae.refl _ _).setCell (fun h=>?_) _).setCell (fun h=>?_) _,rfl,x,rfl,(H1.set 0 _).other (by simp) _,(H2.other (by simp) _).set 0 _,(HX.setCell (by simp<;>omega) _).setCell (by simp<;>omega) _⟩
  ·have h1:=(HT.out _ h).1;have h2:=HS.out;dsimp only at h1;omega
  ·have h1:=(HT.out _ h).1;have h2:=HS.out;dsimp only at h1;omega
 case done=>
  rintro D T W hD yJ hT ⟨h0,h1,h2,hx⟩ mO;have c1:W.cell? ⟨w.heap.size+1,0,none⟩=some (.int .u8 0):=h1.cell 0;have c2:W.cell? ⟨w.heap.size+1+1,0,none⟩=some (.bool false):=h2.cell 0;have f1:=h1.frozen 0;have f2:=h2.frozen 0;have H1:=hid h1;have H2:=hid h2;have HX:=hid hx;have HS:=hid hsz;have HD:=hid hD;have yx:=hid mO;have H0:=hid h0;clear h1 h2 hx yJ hsz hW0 hT mO hD h0;dsimp only;go_wp2;have GN:∀ b:Nat,b<w.heap.size+1+1+1->D≠b:=fun b hb=>by have h1:=HD.out;have h2:=HS.out;omega
  have abS:=((ae.refl (· =D) W).setCell (p:=⟨w.heap.size+1,0,none⟩) (fun h=>GN (w.heap.size+1) (by omega) (h.symm)) (.int .u8 0)).setCell (p:=⟨w.heap.size+1+1,0,none⟩) (fun h=>GN (w.heap.size+1+1) (by omega) (h.symm)) (.bool false) |>.keep D rfl;rw[yx.out]at abS;have q1:=(((H1.set 0 (.int .u8 0)).other (p:=⟨w.heap.size+1+1,0,none⟩) (by simp) (.bool false)).put (GN _ (by omega)) (.deferred none)).cell 0;have q2:=(((H2.other (p:=⟨w.heap.size+1,0,none⟩) (by simp) (.int .u8 0)).set 0 (.bool false)).put (GN _ (by omega)) (.deferred none)).cell 0;refine dz (v:=.tuple #[.int .u8 0,.bool false]) rfl abS ?_ ⟨?_,?_⟩
  ·simp[results,Tryz.results23,go_sem,q1,q2]
  ·simp[aT,H0.out]
  ·exact((HX.setCell (by simp<;>omega) _).setCell (by simp<;>omega) _).putObj (by have h1:=HD.out;have h2:=HS.out;omega) _
 case stop=>
  rintro D c pre T W hD yJ hT bS ⟨rfl,x,h0,h1,h2,hx⟩ mO;have c1:W.cell? ⟨w.heap.size+1,0,none⟩=some (.int .u8 x):=h1.cell 0;have c2:W.cell? ⟨w.heap.size+1+1,0,none⟩=some (.bool true):=h2.cell 0;have H1:=hid h1;have H2:=hid h2;have HX:=hid hx;have HS:=hid hsz;have HD:=hid hD;have yx:=hid mO;have H0:=hid h0;clear h1 h2 hx yJ hsz hW0 hT mO hD h0;dsimp only;go_wp2;have GN:∀ b:Nat,b<w.heap.size+1+1+1->D≠b:=fun b hb=>by have h1:=HD.out;have h2:=HS.out;omega
  have q1:=(H1.put (GN _ (by omega)) (.deferred none)).cell 0;have q2:=(H2.put (GN _ (by omega)) (.deferred none)).cell 0;refine dz (v:=.tuple #[.int .u8 x,.bool true]) rfl yx ?_ ⟨?_,?_⟩
  ·simp[results,Tryz.results23,go_sem,q1,q2]
  ·obtain⟨r,hr⟩:=bS
   rw[H0.out]at hr;simp[aT, <-hr]
  ·exact HX.putObj (by have h1:=HD.out;have h2:=HS.out;omega) _
end
section
open Go Go.RowKit Go.Shelf
attribute [local go_sem] encS
def aU (s t:BS):Int:=if(aT ((s&&& ~~~t) ||| (t&&& ~~~s))).2 then(if s.getLsbD (aT ((s&&& ~~~t) ||| (t&&& ~~~s))).1 then-1 else 1)else 0
theorem Hq (s:BS):(aT s).1<256:=by
 unfold aT;split
 ·decide
 ·rename_i c l h
  have:c∈bP s 256:=by rw[h];simp
  simp[bP]at this;exact this.1
theorem DZ (s t:BS) (w:World):ah 30 #[.agg (encS s),.agg (encS t)] w fun e w'=>e=.returned (.int .i64 (aU s t))/\Ext w w':=by
 have HL1:=hid fun W=>vN s t W
 have Wp:=hid fun W=>vN t s W
 have HO:=hid fun W=>PK (s&&& ~~~t) (t&&& ~~~s) W
 have HF:=hid fun W=>zC ((s&&& ~~~t) ||| (t&&& ~~~s)) W
 have hv:aU s t=if(aT ((s&&& ~~~t) ||| (t&&& ~~~s))).2 then(if s.getLsbD (aT ((s&&& ~~~t) ||| (t&&& ~~~s))).1 then-1 else 1)else 0:=rfl
 have hlt:=Hq ((s&&& ~~~t) ||| (t&&& ~~~s));generalize aU s t=z at hv ⊢;generalize aT ((s&&& ~~~t) ||| (t&&& ~~~s))=fo at HF hv hlt;obtain⟨c,b⟩:=fo;dsimp only at hv hlt;generalize (s&&& ~~~t) ||| (t&&& ~~~s)=u3 at HO HF
 generalize (s&&& ~~~t)=u1 at HO HL1;generalize (t&&& ~~~s)=u2 at HO Wp;have HV:=hid hv;have HH:=hid fun W=>rq s c hlt W
 clear hv;go_enter Tryz.func30,Tryz.ntmps30;go_wp2;refine eO (fun b=>b=w.heap.size\/b=w.heap.size+1) (by kernel_rfl) (fun i=>i==2 || i==5 || i==6 || i==7) (by kernel_rfl) ?_;intro C hC hne W0 zB hblk hsz hx0;have hA:ar ((w.alloc (.cells (encS s) 56 (0,0))).alloc (.cells (encS t) 56 (0,0))) w.heap.size (encS s) 56:=(ar.new w _ _).alloc _;have hB:ar ((w.alloc (.cells (encS s) 56 (0,0))).alloc (.cells (encS t) 56 (0,0))) (w.heap.size+1) (encS t) 56:=(ar.new _ _ _).at (by simp);obtain⟨a0,a1,a2,a3⟩:=A7 hC (.inl rfl) hA;obtain⟨b0,b1,b2,b3⟩:=A7 hC (.inr rfl) hB;have HC:=hid hC;have OD:=hid zB;have LZ:=hid ((((Ext.refl w).alloc _).alloc _).trans hx0);have HA:=hid (hA.same (hblk _));have HS:Hid (∀ k,(k=w.heap.size\/k=w.heap.size+1)->k<((w.alloc (.cells (encS s) 56 (0,0))).alloc (.cells (encS t) 56 (0,0))).heap.size):=fun k hk=>by simp;omega
 clear hC zB hblk hsz hA hB hx0
 repeat (refine bR (fun K hK=>?_);refine dE rfl ?_;unfold aF;go_simp;refine hK _ _ ?_;clear hK K)
 refine bR (fun K hK=>?_);refine eH rfl ?_;go_simp;refine eN ((HL1 _).mono ?_);rintro e w1 ⟨rfl,hx⟩;have lM:=ae.step OD HS hx;refine⟨_,rfl,(HC _).2 lM,hK _ _ ?_⟩;have L8:=hid lM;have kj:=hid hx;clear hK K lM hx
 repeat (refine bR (fun K hK=>?_);refine dE rfl ?_;unfold aF;go_simp;refine hK _ _ ?_;clear hK K)
 refine bR (fun K hK=>?_);refine eH rfl ?_;go_simp;refine eN ((Wp _).mono ?_);rintro e w2 ⟨rfl,hx⟩;have hk2:=ae.step L8 HS hx;refine⟨_,rfl,(HC _).2 hk2,hK _ _ ?_⟩;have pY:=hid hk2;have gF:=hid hx;clear hK K hk2 hx;refine bR (fun K hK=>?_);refine eH rfl ?_;go_simp;refine eN ((HO _).mono ?_);rintro e w3 ⟨rfl,hx⟩;have hk3:=ae.step pY HS hx;refine⟨_,rfl,(HC _).2 hk3,hK _ _ ?_⟩;have Wq:=hid hk3;have oy:=hid hx;clear hK K hk3 hx;refine bR (fun K hK=>?_);refine eH rfl ?_;go_simp;refine eN ((HF _).mono ?_);rintro e w4 ⟨rfl,hx⟩;have hk4:=ae.step Wq HS hx;refine⟨_,rfl,(HC _).2 hk4,hK _ _ ?_⟩;have HK4:=hid hk4;have D7:=hid hx;clear hK K hk4 hx
 repeat (refine bR (fun K hK=>?_);refine dE rfl ?_;unfold aF;go_simp;refine hK _ _ ?_;clear hK K)
 refine oq ?_;have Yg:=hid ((((LZ.trans kj).trans gF).trans oy).trans D7);have HA4:=hid (HA.ext ((((kj.trans gF).trans oy).trans D7)));clear a0 a1 a2 a3 b0 b1 b2 b3 OD L8 pY Wq HK4 HC HS LZ kj gF oy D7 HL1 Wp HO HF HA;cases b with
 | false=>
  go_wp2;go_ret;exact⟨congrArg (fun z=>Ending.returned (.int .i64 z)) HV.symm,Yg⟩
 | true=>
  obtain⟨a0,a1,a2,a3⟩:=HA4.LX;by_cases hb:s.getLsbD c=true
  ·have H1:Hid (∀ W,ah 77 #[.agg (encS s),.int .u8 c] W fun e w'=>e=.returned (.bool true)/\Ext W w'):=fun W=>by have:=HH.out W;rwa[hb]at this
   have HV':=hid (show z= -1 from by have:=HV.out;simpa[hb]using this);clear hb HV;go_wp2_with (go_at_call 77;refine(H1 _).mono ?_;rintro e w5 ⟨rfl,hx⟩;have Ws:=hid hx;clear hx);go_ret;exact⟨congrArg (fun z=>Ending.returned (.int .i64 z)) HV'.symm,Yg.trans Ws⟩
  ·have hb':s.getLsbD c=false:=by simpa using hb
   have H1:Hid (∀ W,ah 77 #[.agg (encS s),.int .u8 c] W fun e w'=>e=.returned (.bool false)/\Ext W w'):=fun W=>by have:=HH.out W;rwa[hb']at this
   have HV':=hid (show z=1 from by have:=HV.out;simpa[hb']using this);clear hb hb' HV;go_wp2_with (go_at_call 77;refine(H1 _).mono ?_;rintro e w5 ⟨rfl,hx⟩;have Ws:=hid hx;clear hx);go_ret;exact⟨congrArg (fun z=>Ending.returned (.int .i64 z)) HV'.symm,Yg.trans Ws⟩
end
section
open Go Go.RowKit Go.Shelf
attribute [local go_sem] encS
end
section
open Go Go.RowKit Go.Shelf Go.Maps
attribute [local go_sem] encS Oper.semAt_some gK dI
theorem Tryz.Hr:(Tryz.prog.info? 5).map (fun i=>(i.zero,i.size,i.bytes))=some (some (.int .u8 0),1,1):=by kernel_rfl
def cU (c:Nat):Value:=.int .u8 c
theorem yK {d:Bool} {gf:Nat} {lb:Array Value} {R:Nat->Prop} (xs:List Nat) (w:World) (hseq:Seq d Tryz.prog gf lb (fun c:Nat=> #[.int .u8 c]) R xs w) (eg:∀ args w,(callFunc gf args).run Tryz.prog w=.ok (.enter gf args) w) (hR:∀ k,R k->k<w.heap.size) (hn:xs.length<=1000000): ah 260 #[.slice none 0 0,.func (.func gf) #[] lb] w fun e w'=>∃ v,e=.returned v/\w'.ownsRow w.heap.size 5 1 v xs.length (xs.map cU)/\aa w w':=by
 obtain⟨i0,hi,hz0,hz1,hz2⟩:=info_parts Tryz.Hr;refine cC Tryz.func260 rfl ?_;simp only[Tryz.ntmps260,List.size_toArray,List.length_cons,List.length_nil,Nat.reduceAdd,Nat.reduceSub,Array.replicate_succ,Array.replicate_zero,List.push_toArray,List.append_toArray,List.nil_append,List.cons_append];go_wp2;refine aA ?_;intro W0 hW0;have h1:ar W0 w.heap.size #[.slice none 0 0] 44:=by rw[hW0];exact ar.new _ _ _
 have hx:Ext w W0:=by rw[hW0];exact(Ext.refl w).alloc _
 have hsz:W0.heap.size=w.heap.size+1:=by rw[hW0];simp
 refine ir (w:=W0) (hseq.at hx.keeps) (by rfl) eg (by intro _;rfl) (by intro k hk;have:=hR k hk;omega)
  (fun xs T W=>∃ v,ar W w.heap.size #[v] 44/\W.ownsRow (w.heap.size+1) 5 1 v xs.length (xs.map cU)/\(∀ k,v.ownBlock=some k->¬T k)/\aa w W)
  (fun _ _ _ _=>False)
  ?_
  (fun c xs T T' W W' h=>h.elim)
  ⟨_,h1,World.ownsRow_nil _ _ _ _,fun _ _ h=>h,hx.below⟩
  (fun x=>⟨#[.slice none 0 0,.func (.func gf) #[] lb,.pointer (some ⟨w.heap.size,0,none⟩),undef,.slice none 0 0,.int .u8 x,.func (.func gf) #[] lb,.int .u8 x,undef,undef,undef,undef,undef],[]⟩) ?assign ?body ?done ?stop
 ·intro xs T T' W W' ⟨v,g1,g2,g3,g4⟩ hT PN hs hn hk
  refine⟨v,g1.mY hT hk (by omega),aj g2 hk.1 (fun k e=>⟨(g2.lt k e).2,g3 k e⟩),fun k e ht=>?_,iq g4 hT hk (aG _) (by omega)⟩;rcases hn k ht with h | h
  ·exact g3 k e h
  ·have:=(g2.lt k e).2;omega
 case assign=>
  intro l x W K hK
  gi_wp2
  exact hK
 case body=>
  rintro l pre x T W bS hT _ yG hl ⟨v,g1,g2,g3,g4⟩;have c1:W.cell? ⟨w.heap.size,0,none⟩=some v:=g1.cell 0;have f1:=g1.frozen 0;have hlen:pre.length<xs.length:=by obtain⟨r,hr⟩:=bS;rw[<-hr];simp
  have G1:=hid g1;have G3:=hid g3;have G4:=hid g4;have lN:=hid hsz;have HT:=hid hT;clear g1 g3 g4 hsz hW0 hT hl yG
  gi_wp2_with (gi_at_builtin;refine wpListIn_append_own_at _ rfl _ _ 44 rfl (w.heap.size+1) 5 i0 (.int .u8 0) 1 1 Tryz.underlying44 hi hz0 hz1 hz2 rfl (by decide) _ _ _ rfl (g2.alloc _) ⟨W.heap.size,0,none⟩ 1 1 [cU x] rfl rfl (cell_one_new _ _ _) (by simp[Value.oneCell',cU]) (by unfold maxLen;omega) (by omega) (by have h1:=G4.size;have h2:=lN.out;have h3:=G1.lt;simp;omega) ?_;intro v' w1 hown' hgrow hh hat;obtain⟨g',cap',rfl⟩:=ownsRow_succ hown';have hb1:=(G1.alloc (.cells #[.int .u8 x] 5 (0,0))).grown hgrow (fun e=>by have:=(g2.lt _ e.symm).1;omega);have c2:=hb1.cell 0;have f2:=hb1.frozen 0;have HB:=hid hb1;have HO:=hid hown';have HG:=hid hgrow;have H2:=hid g2;have L9:=hid hat;clear hown' hgrow hb1 g2 hh hat)
  have hgT:¬T g':=fun ht=>by
   rcases L9.out with h | h
   ·exact G3 g' h.symm ht
   ·have h1:=(HT.out g' ht).2;simp[Value.ownBlock]at h;omega
  have Yh:∀ k,(R k\/T k)->k<W.heap.size/\some k≠v.ownBlock:=fun k hk=>by
   refine⟨?_,fun e=>?_⟩
   ·rcases hk with hk | hk
    ·have h1:=hR k hk;have h2:=G4.size;omega
    ·exact(HT k hk).2
   ·rcases hk with hk | hk
    ·have h1:=hR k hk;have h2:=(H2.lt k e.symm).1;omega
    ·exact G3 k e.symm hk
  have lM:ae (fun k=>R k\/T k) W w1:=(((ae.refl _ W).alloc (fun k hk=>(Yh k hk).1) _)).tr (ae.bB HG fun k hk=>⟨by have:=(Yh k hk).1;simp;omega,(Yh k hk).2⟩);have zD:∀ k,(R k\/T k)->k≠w.heap.size:=fun k hk=>by
   rcases hk with hk | hk
   ·have h1:=hR k hk;omega
   ·have h1:=(HT.out k hk).1;have h2:=lN.out;omega
  refine⟨lM.setCell (fun h=>zD _ h rfl) _,_,HB.set 0 _,?_,fun k e=>?_,?_⟩
  ·rw[aJ,List.map_append]
   exact aj HO ((ae.refl (fun k=>k≠w.heap.size) _).setCell (by simp) _) (fun k e=>by have:=(HO.lt k e).1;omega)
  ·simp[Value.ownBlock]at e;subst e;exact hgT
  ·exact((G4.alloc (by exact G4.size) _).grown HG (by have:=G4.size;simp;omega) (fun k e=>by have:=(H2.lt k e).1;omega)).setCell (aG _) _
 case done=>
  rintro D T W hD yJ hT ⟨v,g1,g2,g3,g4⟩ mO;have c1:W.cell? ⟨w.heap.size,0,none⟩=some v:=g1.cell 0;have G2:=hid g2;have G4:=hid g4;have HD:=hid hD;have lN:=hid hsz;have yx:=hid mO;clear g1 g2 g3 g4 hsz hW0 hT yJ mO hD;dsimp only;go_wp2;refine dz rfl yx (results_tmp rfl _ _ _) ⟨v,rfl,ownsRow_putObj (aH G2 (by omega)) _ yx rfl,((ae.ai G4 (fun _ h=>h)).putObj (by have:=HD.out;have:=lN.out;omega) _).below⟩
 case stop=>rintro D c pre T W _ _ _ _ h _;exact h.elim
theorem D8 {d:Bool} {gf:Nat} {lb:Array Value} {R:Nat->Prop} (xs:List Nat) (w:World) (hseq:Seq d Tryz.prog gf lb (fun c:Nat=> #[.int .u8 c]) R xs w) (eg:∀ args w,(callFunc gf args).run Tryz.prog w=.ok (.enter gf args) w) (hR:∀ k,R k->k<w.heap.size) (hn:xs.length<=1000000): ah 247 #[.func (.func gf) #[] lb] w fun e w'=>∃ v,e=.returned v/\w'.ownsRow w.heap.size 5 1 v xs.length (xs.map cU)/\aa w w':=by have H:=hid (yK xs w hseq eg hR hn);clear hseq eg;go_enter Tryz.func247,Tryz.ntmps247;go_wp2_with (go_at_call 260;refine H.mono ?_;rintro e w1 ⟨v,rfl,h1,h2⟩;have H1:=hid h1;have H2:=hid h2;clear h1 h2);go_ret;exact⟨v,rfl,H1,H2⟩
theorem Ma (s:BS) (w:World): ah 236 #[.agg (encS s)] w fun e w'=>∃ v,e=.returned v/\w'.ownsRow w.heap.size 5 1 v (bP s 256).length ((bP s 256).map cU)/\aa w w':=by
 have eg:∀ args w,(callFunc 125 args).run Tryz.prog w=.ok (.enter 125 args) w:=enters_of Tryz.func125 (by kernel_rfl) rfl;have hlen:(bP s 256).length<=1000000:=by unfold bP;exact Nat.le_trans (List.length_filter_le _ _) (by simp)
 have H:Hid (∀ (W:World) (B:Nat),ar W B (encS s) 56->ah 247 #[.func (.func 125) #[] #[.pointer (some ⟨B,0,none⟩)]] W fun e w'=>∃ v,e=.returned v/\w'.ownsRow W.heap.size 5 1 v (bP s 256).length ((bP s 256).map cU)/\aa W w'):=
  fun W B hB=>D8 _ W (Kd s B W hB) eg (fun k hk=>by rw[show k=B from hk];exact hB.lt) hlen
 clear eg hlen;generalize bP s 256=xs at H ⊢;go_enter Tryz.func236,Tryz.ntmps236;go_wp2_with (first | (go_at_call 71;refine(DY s _).mono ?_;rintro e w1 ⟨rfl,rfl⟩) | (go_at_call 247;refine(H _ _ ((ar.new _ _ _).at (by simp))).mono ?_;rintro e w1 ⟨v,rfl,h1,h2⟩;have H1:=hid h1;have H2:=hid h2;clear h1 h2));go_ret;refine⟨v,rfl,aH H1 (by simp;omega),?_⟩;exact(((Ext.refl w).alloc _).alloc _).below.trans (H2.mono (by simp;omega))
end
section
open Go Go.RowKit Go.Shelf
def dA (s:BS):Nat:=(List.range 256).countP fun c=>s.getLsbD c
theorem A9 (p q:Nat->Bool) (l:List Nat):l.countP p=l.countP (fun c=>p c&&q c)+l.countP (fun c=>p c&& !q c):=by
 induction l with
 | nil=>rfl
 | cons a l ih=>
  simp only[List.countP_cons,ih];cases p a<;>cases q a<;>simp<;>omega
theorem yL (p s:BS):dA p=dA (p&&& s)+dA (p&&& ~~~s):=by
 unfold dA;rw[A9 _ (fun c=>s.getLsbD c)];congr 1
 ·apply List.countP_congr;intro c _;simp[BitVec.getLsbD_and]
 ·apply List.countP_congr;intro c hc
  have:c<256:=by simpa using hc
  simp[this]
theorem Ba:dA 0#256=0:=by unfold dA;rw[List.countP_eq_zero];intro c _;simp
theorem D9 {s:BS} (h:s≠0):1<=dA s:=by
 rcases Nat.eq_zero_or_pos (dA s)with h0 | h0
 ·exfalso
  apply h;apply BitVec.eq_of_getLsbD_eq;intro c hc;unfold dA at h0;rw[List.countP_eq_zero]at h0;have:=h0 c (by simpa using hc);simpa using this
 ·exact h0
def cut (s p:BS):List BS:=[p&&& s,p&&& ~~~s].filter fun x=> !(x==0)
def aV (s:BS) (parts:List BS):List BS:=parts.flatMap (cut s)
def bh (l:List BS):List BS:=l.foldl (fun p s=>aV s p) [~~~0]
theorem Ux (s p:BS):((cut s p).map dA).sum=dA p:=by unfold cut;rw[yL p s];generalize p&&& s=a;generalize p&&& ~~~s=b;by_cases h1:a=0#256<;>by_cases h2:b=0#256<;>simp[h1,h2,Ba]
theorem yM (s:BS) (l:List BS):((aV s l).map dA).sum=(l.map dA).sum:=by
 induction l with
 | nil=>rfl
 | cons p l ih=>
  unfold aV at*;rw[List.flatMap_cons,List.map_append,List.sum_append,ih,Ux];rfl
theorem Uy (s p:BS):(cut s p).length<=2:=by unfold cut;exact List.length_filter_le _ _
theorem yN (s:BS) (l:List BS):(aV s l).length<=2*l.length:=by
 induction l with
 | nil=>exact aG _
 | cons p l ih=>
  have:=Uy s p;unfold aV at*;rw[List.flatMap_cons,aJ,List.length_cons];omega
theorem Yi (s p:BS):∀ x∈cut s p,x≠0:=by intro x hx;unfold cut at hx;simp only[List.mem_filter,Bool.not_eq_true',beq_eq_false_iff_ne]at hx;exact hx.2
theorem Ea:dA (~~~0)=256:=by
 unfold dA;have:(List.range 256).countP (fun c=>(~~~(0:BS)).getLsbD c)=(List.range 256).length:=by
  rw[List.countP_eq_length];intro c hc;have:c<256:=by simpa using hc
  rw[BitVec.getLsbD_not];have h0:BitVec.getLsbD (0:BS) c=false:=BitVec.getLsbD_zero;simp only[this,h0,decide_true,Bool.not_false,Bool.true_and]
 rw[this,List.length_range]
theorem yO (l:List BS) (h0:∀ x∈l,x≠0):l.length<=(l.map dA).sum:=by
 induction l with
 | nil=>simp
 | cons p l ih=>
  have h1:=D9 (h0 p (by simp));have h2:=ih (fun x hx=>h0 x (by simp[hx]));simp only[List.length_cons,List.map_cons,List.sum_cons];omega
theorem tO (l:List BS) (p:List BS) (hp:∀ x∈p,x≠0):(∀ x∈l.foldl (fun p s=>aV s p) p,x≠0)/\((l.foldl (fun p s=>aV s p) p).map dA).sum=(p.map dA).sum:=by
 induction l generalizing p with
 | nil=>exact⟨hp,rfl⟩
 | cons s l ih=>
  have h:=ih (aV s p) (by
   intro x hx;unfold aV at hx;rw[List.mem_flatMap]at hx;obtain⟨q,_,hq⟩:=hx
   exact Yi s q x hq)
  rw[List.foldl_cons];exact⟨h.1,h.2.trans (yM s p)⟩
theorem tP (l:List BS):∀ x∈bh l,x≠0:=(tO l _ (by simp)).1
theorem rv (l:List BS):((bh l).map dA).sum=256:=by unfold bh;rw[(tO l _ (by simp)).2];simp only[List.map_cons,List.map_nil,List.sum_cons,List.sum_nil,Ea,Nat.add_zero]
theorem ey (l:List BS):(bh l).length<=256:=by have:=yO _ (tP l);rwa[rv]at this
theorem iG (l:List BS) (s:BS):bh (l++ [s])=aV s (bh l):=by unfold bh;rw[List.foldl_append];rfl
/-! The order of sets. -/
theorem ry (s:BS):((aT s).2=false/\s=0)\/((aT s).2=true/\(aT s).1<256/\s.getLsbD (aT s).1=true/\∀ d,d<(aT s).1->s.getLsbD d=false):=by
 have key:∀ n,n<=256->(bP s n=[]/\∀ d,d<n->s.getLsbD d=false)\/(∃ c r,bP s n=c::r/\c<n/\s.getLsbD c=true/\∀ d,d<c->s.getLsbD d=false):=by
  intro n;induction n with
  | zero=>intro _;exact .inl ⟨rfl,fun d hd=>by omega⟩
  | succ n ih=>
   intro hn;rcases ih (by omega)with⟨h1,h2⟩ | ⟨c,r,h1,h2,h3,h4⟩
   ·by_cases hb:s.getLsbD n=true
    ·refine .inr ⟨n,[],?_,by omega,hb,h2⟩
     rw[gN,h1,if_pos hb];rfl
    ·refine .inl ⟨?_,fun d hd=>?_⟩
     ·rw[gN,h1,if_neg hb];rfl
     ·by_cases hdn:d=n
      ·subst hdn;simpa using hb
      ·exact h2 d (by omega)
   ·exact .inr ⟨c,r++(if s.getLsbD n then [n]else []),by rw[gN,h1];rfl,by omega,h3,h4⟩
 unfold aT;rcases key 256 (aG _)with⟨h1,h2⟩ | ⟨c,r,h1,h2,h3,h4⟩
 ·left
  rw[h1];exact⟨rfl,BS.ext fun d hd=>by rw[h2 d hd];simp⟩
 ·right
  rw[h1];exact⟨rfl,h2,h3,h4⟩
def TJ (s t:BS):Prop:=∃ c,c<256/\(∀ d,d<c->s.getLsbD d=t.getLsbD d)/\s.getLsbD c=true/\t.getLsbD c=false
theorem vP (s t:BS) {c:Nat} (hc:c<256):((s&&& ~~~t) ||| (t&&& ~~~s)).getLsbD c=(s.getLsbD c != t.getLsbD c):=by simp only[BitVec.getLsbD_or,BitVec.getLsbD_and,BitVec.getLsbD_not,hc,decide_true,Bool.true_and];cases s.getLsbD c<;>cases t.getLsbD c<;>rfl
theorem nr (s t:BS):(aU s t=0/\s=t)\/(aU s t= -1/\TJ s t)\/(aU s t=1/\TJ t s):=by
 unfold aU;rcases ry ((s&&& ~~~t) ||| (t&&& ~~~s))with⟨h1,h2⟩ | ⟨h1,h2,h3,h4⟩
 ·left
  rw[h1];refine⟨rfl,BS.ext fun c hc=>?_⟩;have:=vP s t hc;rw[h2]at this;simp at this;exact this
 ·right
  rw[h1];generalize (aT ((s&&& ~~~t) ||| (t&&& ~~~s))).1=c at*;rw[vP s t h2]at h3;have h5:∀ d,d<c->s.getLsbD d=t.getLsbD d:=fun d hd=>by
   have:=h4 d hd;rw[vP s t (by omega)]at this;simpa using this
  cases hs:s.getLsbD c with
  | true=>
   have ht:t.getLsbD c=false:=by rw[hs]at h3;simpa using h3
   exact .inl ⟨by simp,c,h2,h5,hs,ht⟩
  | false=>
   have ht:t.getLsbD c=true:=by rw[hs]at h3;simpa using h3
   exact .inr ⟨by simp,c,h2,fun d hd=>(h5 d hd).symm,ht,hs⟩
theorem jG (s:BS):¬TJ s s:=by rintro⟨c,_,_,h1,h2⟩;rw[h1]at h2;cases h2
theorem iw {s t u:BS} (h:TJ s t) (k:TJ t u):TJ s u:=by
 obtain⟨c,hc,h1,h2,h3⟩:=h;obtain⟨d,hd,k1,k2,k3⟩:=k;rcases Nat.lt_trichotomy c d with Uj | Uj | Uj
 ·exact⟨c,hc,fun e he=>(h1 e he).trans (k1 e (by omega)),h2,by rw[<-k1 c Uj];exact h3⟩
 ·subst Uj;rw[h3]at k2;cases k2
 ·exact⟨d,hd,fun e he=>(h1 e (by omega)).trans (k1 e he),by rw[h1 d Uj];exact k2,k3⟩
theorem eR (s t:BS):ltOf aU s t=true↔TJ s t:=by
 unfold ltOf;rcases nr s t with⟨h1,h2⟩ | ⟨h1,h2⟩ | ⟨h1,h2⟩
 ·rw[h1];subst h2;simp[jG]
 ·rw[h1];simp[h2]
 ·rw[h1];simp;exact fun k=>jG _ (iw h2 k)
theorem oz (s t:BS):s=t\/TJ s t\/TJ t s:=by
 rcases nr s t with⟨_,h2⟩ | ⟨_,h2⟩ | ⟨_,h2⟩
 ·exact .inl h2
 ·exact .inr (.inl h2)
 ·exact .inr (.inr h2)
theorem agc:Sort.SWO (ltOf aU) where
 irrefl x:=by
  rw[<-Bool.not_eq_true,eR];exact jG x
 trans x y z h k:=by rw[eR]at*;exact iw h k
 ntrans x y z h k:=by
  rw[<-Bool.not_eq_true,eR]at*;intro hz;rcases oz x y with e | e | e
  ·subst e;exact k hz
  ·exact h e
  ·exact k (iw e hz)
theorem abT (x y:BS) (h:ltOf aU x y=false) (k:ltOf aU y x=false):x=y:=by
 rw[<-Bool.not_eq_true,eR]at*;rcases oz x y with e | e | e
 ·exact e
 ·exact absurd e h
 ·exact absurd e k
def partsOf (l:List BS):List BS:=(bh l).mergeSort fun x y=> !ltOf aU y x
end
section
open Go Go.RowKit Go.Shelf Go.Sort
def aP (l:List BS):List Value:=l.flatMap fun s=>(encS s).toList
theorem cP (l:List BS):(aP l).length=l.length*4:=by
 induction l with
 | nil=>rfl
 | cons s l ih=>simp only[aP,List.flatMap_cons,aJ]at*;rw[ih];simp[jA];omega
theorem gO (l m:List BS):aP (l++m)=aP l++aP m:=by simp[aP]
theorem Mb (s:BS):aP [s]=(encS s).toList:=by simp[aP]
theorem iy (l:List BS) {i:Nat} {s:BS} (h:l[i]? =some s) {j:Nat} (hj:j<4):(aP l)[i*4+j]? =(encS s)[j]? :=by
 induction l generalizing i with
 | nil=>simp at h
 | cons t l ih=>
  have hs:(encS t).toList.length=4:=rfl;simp only[aP,List.flatMap_cons];cases i with
  | zero=>
   simp at h;subst h;rw[Nat.zero_mul,Nat.zero_add,bK (by omega)];simp
  | succ i=>
   rw[cM (by omega),hs,show(i+1)*4+j-4=i*4+j by omega];exact ih (by simpa using h)
def rz (s:BS):List Value:=(encS s).toList
theorem Eb (l:List BS):flatK rz 4 l.toArray=(aP l).toArray:=by
 apply Array.ext_getElem?;intro t;by_cases ht:t<l.length*4
 ·have hi:t/4<l.length:=by omega
  have h1:=iy l (az hi) (show t%4<4 by omega);rw[show t/4*4+t%4=t by omega]at h1;have h2:(flatK rz 4 l.toArray)[t]? =some ((rz (l[t/4]))[t%4]!):=by unfold flatK;simp[ht,hi]
  rw[h2,List.getElem?_toArray,h1];have h3:t%4<(rz (l[t/4])).length:=by simp[rz,jA];omega
  rw[getElem!_pos (rz (l[t/4])) (t%4) h3];simp[rz]
 ·rw[Array.getElem?_eq_none (by simp;omega),List.getElem?_toArray,aS (by rw[cP];omega)]
theorem Hs {w:World} {g q:Nat} {os:Array Obj} {cur:Array Value} {e:TypeId} {fr:Nat×Nat} (l:List BS) (hb:w.heap[g]? =some (.cells cur e fr)): (sortWorldK rz 4 w g 0 q l.toArray os).heap[g]? =some (.cells (putCells id 0 (aP l).toArray cur) e fr):=by have hg:g<w.heap.size:=(Array.getElem?_eq_some_iff.1 hb).1;unfold sortWorldK;rw[heap_grow_old _ _ (by simpa[putRowK,putRow,mapBlock,Sort.ahead]using hg)];simp[putRowK,putRow,mapBlock,Sort.ahead,Array.getElem?_modify,hb,onCells,Eb]
theorem yP {w:World} {g q:Nat} {os:Array Obj} (d:Array BS):w.grownBy (sortWorldK rz 4 w g 0 q d os) (some g):=by
 unfold sortWorldK;refine⟨rfl,rfl,rfl,by simp[putRowK,putRow,mapBlock,Sort.ahead],fun k hk hne=>?_⟩;rw[heap_grow_old _ _ (by simpa[putRowK,putRow,mapBlock,Sort.ahead]using hk)];have:g≠k:=fun e=>hne (by rw[e])
 simp[putRowK,putRow,mapBlock,Sort.ahead,Array.getElem?_modify,this]
theorem Mc (cur:Array Value) (ts:List Value) (h:ts.length<=cur.size):(putCells id 0 ts.toArray cur).toList.take ts.length=ts:=by
 apply List.ext_getElem?;intro j;by_cases hj:j<ts.length
 ·rw[List.getElem?_take_of_lt hj,Array.getElem?_toList]
  simp[putCells,hj,show j<cur.size by omega]
 ·rw[List.getElem?_take_eq_none (by omega),aS (by omega)]
theorem yQ {w:World} {base g cap n q:Nat} {e:TypeId} {os:Array Obj} {cur:Array Value} {ts:List BS} (hl:ts.length=n) (hbase:base<=g) (hb:w.heap[g]? =some (.cells cur e (0,0))) (h1:n<=cap) (h2:cap<=maxLen) (h3:cur.size=cap*4): (sortWorldK rz 4 w g 0 q ts.toArray os).ownsRow base e 4 (.slice (some ⟨g,0,none⟩) n cap) n (aP ts):=
 ⟨by rw[cP,hl],.inr ⟨g,cap,_,rfl,hbase,Hs _ hb,h1,h2,by simp[putCells,h3],by
  rw[<-hl, <-cP];exact Mc cur (aP ts) (by rw[cP,hl,h3];exact Nat.mul_le_mul_right 4 h1)⟩⟩
theorem Ht {w:World} {g:Nat} {e:TypeId} {cur:Array Value} {ts:List BS} (hb:w.heap[g]? =some (.cells cur e (0,0))) (ht:cur.toList.take (ts.length*4)=aP ts):HoldsK rz 4 w g 0 ts.toArray:=by
 unfold HoldsK;rw[Eb];intro j hj;have hj':j<(aP ts).length:=by simpa using hj
 refine⟨?_,by simp[World.frozen?,hb]⟩;have hc:w.cell? ⟨g,0+j,none⟩=cur[j]? :=by simp[World.cell?,hb]
 rw[hc];have h1:(aP ts)[j]? =cur[j]? :=by rw[<-ht,List.getElem?_take,if_pos (by rw[<-cP];exact hj')];simp
 rw[<-h1,az hj',getElem!_pos (aP ts).toArray j (by simpa using hj')];simp
end
end Go.Proofs.YtjgccapbphadjaaGreatDoor
namespace Go.Proofs
open Go.Shelf
def Tryz.Bb:Go.Shelf.Ren:=⟨fun | 6=>119 | 15=>75 | 14=>177 | 28=>134 | 29=>135 | 20=>218 | 21=>219 | 22=>220 | 23=>221 | 24=>222 | 25=>223 | 26=>224 | 27=>225 | 46=>243 | 47=>179 | 48=>180 | 49=>244 | 50=>245 | 57=>259 | n=>n,fun | 22=>26 | 24=>56 | 25=>62 | 3=>3 | 39=>122 | 0=>0 | 53=>221 | 55=>54 | 4=>4 | 46=>214 | 45=>213 | 50=>218 | 5=>5 | 9=>9 | 66=>272 | 70=>276 | 76=>302 | 77=>303 | n=>n,fun | n=>n⟩
theorem Tryz.PQ:Go.Proofs.SlLaysF0.n6 Tryz.prog Tryz.Bb:= {
 mixed:=by kernel_rfl
 f6:=⟨Tryz.f119.name,by decide,Tryz.func119.trans (congrArg some (by kernel_rfl))⟩
 f14:=⟨Tryz.f177.name,by decide,Tryz.func177.trans (congrArg some (by kernel_rfl))⟩
 f15:=Tryz.func75.trans (congrArg some (by kernel_rfl))
 f20:=⟨Tryz.f218.name,by decide,Tryz.func218.trans (congrArg some (by kernel_rfl))⟩
 f21:=⟨Tryz.f219.name,by decide,Tryz.func219.trans (congrArg some (by kernel_rfl))⟩
 f22:=⟨Tryz.f220.name,by decide,Tryz.func220.trans (congrArg some (by kernel_rfl))⟩
 f23:=⟨Tryz.f221.name,by decide,Tryz.func221.trans (congrArg some (by kernel_rfl))⟩
 f24:=⟨Tryz.f222.name,by decide,Tryz.func222.trans (congrArg some (by kernel_rfl))⟩
 f25:=⟨Tryz.f223.name,by decide,Tryz.func223.trans (congrArg some (by kernel_rfl))⟩
 f26:=⟨Tryz.f224.name,by decide,Tryz.func224.trans (congrArg some (by kernel_rfl))⟩
 f27:=⟨Tryz.f225.name,by decide,Tryz.func225.trans (congrArg some (by kernel_rfl))⟩
 f28:=Tryz.func134.trans (congrArg some (by kernel_rfl))
 f29:=Tryz.func135.trans (congrArg some (by kernel_rfl))
 f46:=⟨Tryz.f243.name,by decide,Tryz.func243.trans (congrArg some (by kernel_rfl))⟩
 f47:=Tryz.func179.trans (congrArg some (by kernel_rfl))
 f48:=Tryz.func180.trans (congrArg some (by kernel_rfl))
 f49:=⟨Tryz.f244.name,by decide,Tryz.func244.trans (congrArg some (by kernel_rfl))⟩
 f50:=⟨Tryz.f245.name,by decide,Tryz.func245.trans (congrArg some (by kernel_rfl))⟩
 f57:=⟨Tryz.f259.name,by decide,Tryz.func259.trans (congrArg some (by kernel_rfl))⟩
 t0:=Tryz.underlying0
 a0:=Tryz.isAgg0
 z0:=Tryz.sizeOf0
 v0:=Tryz.zeroValue0
 t3:=Tryz.underlying3
 a3:=Tryz.isAgg3
 z3:=Tryz.sizeOf3
 v3:=Tryz.zeroValue3
 t4:=Tryz.underlying4
 a4:=Tryz.isAgg4
 z4:=Tryz.sizeOf4
 v4:=Tryz.zeroValue4
 t5:=Tryz.underlying5
 a5:=Tryz.isAgg5
 z5:=Tryz.sizeOf5
 v5:=Tryz.zeroValue5
 t9:=Tryz.underlying9
 a9:=Tryz.isAgg9
 z9:=Tryz.sizeOf9
 v9:=Tryz.zeroValue9
 t22:=Tryz.underlying26
 a22:=Tryz.isAgg26
 z22:=Tryz.sizeOf26
 v22:=Tryz.zeroValue26
 t25:=Tryz.underlying62
 a25:=Tryz.isAgg62
 z25:=Tryz.sizeOf62
 v25:=Tryz.zeroValue62
 t39:=Tryz.underlying122
 a39:=Tryz.isAgg122
 z39:=Tryz.sizeOf122
 v39:=Tryz.zeroValue122
 t45:=Tryz.underlying213
 a45:=Tryz.isAgg213
 z45:=Tryz.sizeOf213
 v45:=Tryz.zeroValue213
 t46:=Tryz.underlying214
 a46:=Tryz.isAgg214
 z46:=Tryz.sizeOf214
 v46:=Tryz.zeroValue214
 t50:=Tryz.underlying218
 a50:=Tryz.isAgg218
 z50:=Tryz.sizeOf218
 v50:=Tryz.zeroValue218
 t53:=Tryz.underlying221
 a53:=Tryz.isAgg221
 z53:=Tryz.sizeOf221
 v53:=Tryz.zeroValue221
 t55:=Tryz.underlying54
 a55:=Tryz.isAgg54
 z55:=Tryz.sizeOf54
 v55:=Tryz.zeroValue54
 t66:=Tryz.underlying272
 a66:=Tryz.isAgg272
 z66:=Tryz.sizeOf272
 v66:=Tryz.zeroValue272
 t70:=Tryz.underlying276
 a70:=Tryz.isAgg276
 z70:=Tryz.sizeOf276
 v70:=Tryz.zeroValue276
 t76:=Tryz.underlying302
 a76:=Tryz.isAgg302
 z76:=Tryz.sizeOf302
 v76:=Tryz.zeroValue302
 t77:=Tryz.underlying303
 a77:=Tryz.isAgg303
 z77:=Tryz.sizeOf303
 v77:=Tryz.zeroValue303}
end Go.Proofs
namespace Go.Proofs.YtjgccapbphadjaaGreatDoor
section
open Go Go.RowKit Go.Shelf Go.Maps
attribute [local go_sem] encS
def cY (w:World) (v:Value) (l:List BS):Prop:=
 (v=.slice none 0 0/\l=[])\/∃ b off cap,v=.slice (some ⟨b,off,none⟩) l.length cap/\b<w.heap.size/\∀ i s,l[i]? =some s->∀ j,j<4->w.cell? ⟨b,off+i*4+j,none⟩=(encS s)[j]?
theorem cY.keeps {w w':World} {v:Value} {l:List BS} (h:cY w v l) {R:Nat->Prop} (hk:ae R w w') (hr:∀ k,k<w.heap.size->R k):cY w' v l:=by
 rcases h with h | ⟨b,off,cap,hv,hb,h⟩
 ·exact .inl h
 ·exact .inr ⟨b,off,cap,hv,aD hb hk.size,fun i s hi j hj=>(hk.cell (p:=⟨b,off+i*4+j,none⟩) (hr b hb)).trans (h i s hi j hj)⟩
theorem cY.below {w w':World} {v:Value} {l:List BS} (h:cY w v l) (hk:aa w w'):cY w' v l:=h.keeps (ae.ai hk fun _ h=>h) (fun _ h=>h)
theorem jn {w:World} {base:Nat} {v:Value} {l:List BS} (h:w.ownsRow base 56 4 v l.length (aP l)):cY w v l:=by
 rcases h.2 with⟨h1,h2⟩ | ⟨g,cap,cur,hv,_,hg,hn,_,hs,ht⟩
 ·exact .inl ⟨h1,List.eq_nil_of_length_eq_zero h2⟩
 ·refine .inr ⟨g,0,cap,hv,(Array.getElem?_eq_some_iff.1 hg).1,fun i s hi j hj=>?_⟩
  have hc:w.cell? ⟨g,0+i*4+j,none⟩=cur[0+i*4+j]? :=by simp[World.cell?,hg]
  rw[hc,Nat.zero_add, <-iy l hi hj, <-ht];have hlt:i<l.length:=(List.getElem?_eq_some_iff.1 hi).1;rw[List.getElem?_take,if_pos (by omega)];simp
theorem jo {w:World} {base n:Nat} {v:Value} {l:List BS} (h:w.ownsRow base 56 4 v n (aP l)) (hn:n=l.length) {i:Nat} {s:BS} (hi:l[i]? =some s): ∃ g cap,v=.slice (some ⟨g,0,none⟩) n cap/\base<=g/\g<w.heap.size/\∀ j,j<4->w.cell? ⟨g,i*4+j,none⟩=(encS s)[j]? :=by
 have hlt:i<l.length:=(List.getElem?_eq_some_iff.1 hi).1;rcases h.2 with⟨h1,h2⟩ | ⟨g,cap,cur,hv,hb,hg,_,_,hs,ht⟩
 ·omega
 ·refine⟨g,cap,hv,hb,(Array.getElem?_eq_some_iff.1 hg).1,fun j hj=>?_⟩
  have hc:w.cell? ⟨g,i*4+j,none⟩=cur[i*4+j]? :=by simp[World.cell?,hg]
  rw[hc, <-iy l hi hj, <-ht];rw[List.getElem?_take,if_pos (by omega)];simp
theorem Tryz.zE:(Tryz.prog.info? 56).map (fun i=>(i.zero,i.size,i.bytes))=some (some (.agg #[.int .u64 0,.int .u64 0,.int .u64 0,.int .u64 0]),4,32):=by kernel_rfl
theorem zF (l:List BS) (v0:Value) (w:World) (hl:cY w v0 l) (hlen:l.length<=9223372036854775807): ah 64 #[v0] w fun e w'=>∃ v,e=.returned v/\w'.ownsRow w.heap.size 56 4 v (partsOf l).length (aP (partsOf l))/\aa w w':=by
 obtain⟨i0,hi,hz0,hz1,hz2⟩:=info_parts Tryz.zE;have HA:=hid fun W=>Uw W
 obtain⟨ua,hua⟩:=ag (~~~0:BS);rw[<-hua]at HA;have HUA:=hid hua;clear hua;obtain⟨n,hn⟩:=ag l.length;obtain⟨ad,cap,hv0⟩:∃ ad cap,v0=.slice ad n cap:=by
  rcases hl with⟨h1,h2⟩ | ⟨b,off,cap,h1,_⟩
  ·exact⟨none,0,by rw[h1,hn,h2];rfl⟩
  ·exact⟨_,cap,by rw[h1,hn]⟩
 subst hv0;have HL:=hid hl;have HN:=hid hn;have hn':n<=9223372036854775807:=by omega
 clear hl hn hlen;go_enter Tryz.func64,Tryz.ntmps64;go_wp2_with (go_at_call 117;refine(HA _).mono ?_;rintro e w1 ⟨rfl,hx⟩;have kj:=hid hx;clear hx);refine aA ?_;intro W0 hW0;have hx0:aa w W0:=by rw[hW0];exact(kj.alloc _).below
 have ho0:W0.ownsRow w.heap.size 56 4 (.slice (some ⟨w1.heap.size,0,none⟩) 1 1) (bh []).length (aP (bh [])):=by rw[hW0,show bh []=[ua] from by rw[HUA.out];rfl];exact⟨rfl,.inr ⟨w1.heap.size,1,encS ua,rfl,kj.size,World.alloc_heap_new _ _,aG _,by decide,rfl,rfl⟩⟩
 have LZ:=hid hx0;have HO0:=hid ho0;clear hx0 ho0 hW0;go_loopw [15,3] (fun i v wr=>∃ k:Nat,k<=n/\i=.int .i64 k/\wr.ownsRow w.heap.size 56 4 v (bh (l.take k)).length (aP (bh (l.take k)))/\aa w wr) (fun i _ _=>n-(intOf i).toNat);case atStart=>exact⟨0,by omega,rfl,HO0,LZ⟩
 case round=>
  obtain⟨wo,rfl⟩:=ag (wr:World);obtain⟨k,hk,rfl,ho,hb⟩:=hrel;obtain⟨a3,Md,rfl⟩:=ownsRow_form ho;have HO:=hid ho;have HB:=hid hb;clear ho hb HO0 LZ;by_cases hlt:k<n
  ·obtain⟨b,off,age,OE,s,hs,hcs⟩:∃ b off,ad=some ⟨b,off,none⟩/\b<w.heap.size/\∃ s,l[k]? =some s/\∀ j,j<4->w.cell? ⟨b,off+k*4+j,none⟩=(encS s)[j]? :=by
    have AZ:k<l.length:=by rw[<-HN.out];exact hlt
    rcases HL.out with⟨h1,h2⟩ | ⟨b,off,cap',h1,h2,h3⟩
    ·rw[h2]at AZ;simp at AZ
    ·cases h1
     exact⟨b,off,rfl,h2,l[k],az AZ,h3 k _ (az AZ)⟩
   subst age;have c0:wo.cell? ⟨b,off+k*4,none⟩=some (.int .u64 (wd s 0).toNat):=(HB.cell (p:=⟨b,off+k*4,none⟩) OE).trans (hcs 0 (by decide));have c1:wo.cell? ⟨b,off+k*4+1,none⟩=some (.int .u64 (wd s 1).toNat):=(HB.cell (p:=⟨b,off+k*4+1,none⟩) OE).trans (hcs 1 (by decide));have c2:wo.cell? ⟨b,off+k*4+2,none⟩=some (.int .u64 (wd s 2).toNat):=(HB.cell (p:=⟨b,off+k*4+2,none⟩) OE).trans (hcs 2 (by decide));have c3:wo.cell? ⟨b,off+k*4+3,none⟩=some (.int .u64 (wd s 3).toNat):=(HB.cell (p:=⟨b,off+k*4+3,none⟩) OE).trans (hcs 3 (by decide));have HS:=hid hs;have hP:bh (l.take (k+1))=aV s (bh (l.take k)):=by rw[List.take_add_one,hs];exact iG _ _
   have HP:=hid hP;have HM:=hid (ey (l.take k));clear hs hcs hP;generalize bh (l.take k)=pk at HO HP HM;obtain⟨m,hm⟩:=ag pk.length;have aju:m<=256:=by rw[hm];exact HM
   rw[<-hm]at HO ⊢;have HMM:=hid hm;clear hm HM;go_wp2;refine aA ?_;intro W1 hW1;have kJ:ar W1 wo.heap.size (encS s) 56:=by rw[hW1];exact ar.new _ _ _
   have hb1:aa wo W1:=by rw[hW1];exact((Ext.refl wo).alloc _).below
   have hz1:W1.heap.size=wo.heap.size+1:=by rw[hW1];simp
   have Ke:=hid (HO.alloc (.cells (encS s) 56 (0,0)));have agf:Hid (W1.ownsRow w.heap.size 56 4 (.slice a3 m Md) m (aP pk)):=by rw[hW1];exact Ke
   have HSB:=hid kJ;have sN:=hid hb1;have HZ1:=hid hz1;clear kJ hb1 hz1 hW1 Ke c0 c1 c2 c3;go_loopw [21,6] (fun i v w2=>∃ j:Nat,j<=m/\i=.int .i64 j/\w2.ownsRow W1.heap.size 56 4 v (aV s (pk.take j)).length (aP (aV s (pk.take j)))/\aa W1 w2) (fun i _ _=>m-(intOf i).toNat);case atStart=>exact⟨0,by omega,rfl,World.ownsRow_nil _ _ _ _,Below.refl _ _⟩
   case round=>
    obtain⟨j,hj,rfl,GQ,hb2⟩:=hrel;obtain⟨a6,Yj,rfl⟩:=ownsRow_form GQ;obtain⟨w2,rfl⟩:=ag (wr:World);have jH:=hid GQ;have iQ:=hid hb2;clear GQ hb2;by_cases GK:j<m
    ·obtain⟨g3,ha3,hg3,p,hp,Me⟩:∃ g3,a3=some ⟨g3,0,none⟩/\g3<W1.heap.size/\∃ p,pk[j]? =some p/\∀ i,i<4->W1.cell? ⟨g3,j*4+i,none⟩=(encS p)[i]? :=by
      have hjp:j<pk.length:=by rw[<-HMM.out];exact GK
      obtain⟨g,cap',h1,_,h2,h3⟩:=jo agf HMM (az hjp);cases h1;exact⟨_,rfl,h2,pk[j],az hjp,h3⟩
     subst ha3;have d0:w2.cell? ⟨g3,j*4,none⟩=some (.int .u64 (wd p 0).toNat):=(iQ.cell (p:=⟨g3,j*4,none⟩) hg3).trans (Me 0 (by decide));have d1:w2.cell? ⟨g3,j*4+1,none⟩=some (.int .u64 (wd p 1).toNat):=(iQ.cell (p:=⟨g3,j*4+1,none⟩) hg3).trans (Me 1 (by decide));have d2:w2.cell? ⟨g3,j*4+2,none⟩=some (.int .u64 (wd p 2).toNat):=(iQ.cell (p:=⟨g3,j*4+2,none⟩) hg3).trans (Me 2 (by decide));have d3:w2.cell? ⟨g3,j*4+3,none⟩=some (.int .u64 (wd p 3).toNat):=(iQ.cell (p:=⟨g3,j*4+3,none⟩) hg3).trans (Me 3 (by decide));have hQ:aV s (pk.take (j+1))=aV s (pk.take j)++cut s p:=by rw[List.take_add_one,hp];simp[aV]
     have HQ:=hid hQ;have HPj:=hid hp;have HAnd:=hid fun W=>Uu p s W
     have PU:=hid fun W=>vN p s W
     have Uz:Hid (cut s p=[p&&& s,p&&& ~~~s].filter fun x=> !(x==0)):=rfl;clear hQ hp Me;generalize cut s p=cs at HQ Uz;generalize p&&& s=xa at HAnd Uz;generalize p&&& ~~~s=xb at PU Uz;go_wp2;refine aA ?_;intro W2 hW2;have oA:ar W2 w2.heap.size (encS p) 56:=by rw[hW2];exact ar.new _ _ _
     have hx2:aa w2 W2:=by rw[hW2];exact((Ext.refl w2).alloc _).below
     have kJ:ar W2 wo.heap.size (encS s) 56:=(HSB.below iQ (by have:=HZ1.out;omega)).below hx2 (by have:=HZ1.out;have:=iQ.size;omega);have GQ:W2.ownsRow W1.heap.size 56 4 (.slice a6 (aV s (pk.take j)).length Yj) (aV s (pk.take j)).length (aP (aV s (pk.take j))):=by rw[hW2];exact jH.alloc _
     have hz2:W2.heap.size=w2.heap.size+1:=by rw[hW2];simp
     have gF:=hid hx2;have Yk:=hid GQ;have HZ2:=hid hz2;clear hx2 GQ hz2 hW2 d0 d1 d2 d3 jH;have agh:wo.heap.size<W2.heap.size:=kJ.lt;refine eO (fun b=>b=w2.heap.size\/b=wo.heap.size) (by kernel_rfl) (fun i=>i==2 || i==5 || i==6) (by kernel_rfl) ?_;intro C hC hne W3 hK3 hblk hsz hx3;obtain⟨a0,a1,a2,a3⟩:=A7 hC (.inl rfl) oA;obtain⟨b0,b1,b2,b3⟩:=A7 hC (.inr rfl) kJ;have HC:=hid hC;have Wq:=hid hK3;have oy:=hid hx3;have Dp:=hid oA;have agi:=hid kJ;have HS:Hid (∀ b,(b=w2.heap.size\/b=wo.heap.size)->b<W2.heap.size):=fun b hb=>by have h1:=Dp.lt;have h2:=agi.lt;omega
     clear hC hK3 hx3 oA kJ hblk hsz agh
     repeat (refine bR (fun K hK=>?_);refine dE rfl ?_;unfold aF;go_simp;refine hK _ _ ?_;clear hK K)
     refine bR (fun K hK=>?_);refine eH rfl ?_;go_simp;refine eN ((HAnd _).mono ?_);rintro e w4 ⟨rfl,hx⟩;have hk4:=ae.step Wq HS hx;refine⟨_,rfl,(HC _).2 hk4,hK _ _ ?_⟩;have HK4:=hid hk4;have D7:=hid hx;clear hK K hk4 hx
     repeat (refine bR (fun K hK=>?_);refine dE rfl ?_;unfold aF;go_simp;refine hK _ _ ?_;clear hK K)
     refine bR (fun K hK=>?_);refine eH rfl ?_;go_simp;refine eN ((PU _).mono ?_);rintro e w5 ⟨rfl,hx⟩;have hk5:=ae.step HK4 HS hx;refine⟨_,rfl,(HC _).2 hk5,hK _ _ ?_⟩;have HK5:=hid hk5;have Yg:=hid hx;clear hK K hk5 hx;refine bR (fun K hK=>?_);refine eH rfl ?_;go_simp;refine⟨(HC _).2 (HK5.alloc (fun b hb=>aD (HS b hb) HK5.size) _),hK _ _ ?_⟩;clear hK K
     repeat (refine bR (fun K hK=>?_);refine dE rfl ?_;unfold aF;go_simp;refine hK _ _ ?_;clear hK K)
     refine oq ?_;go_wp2;refine aA ?_;intro W6 uM;have hx6:aa W2 W6:=by rw[uM];exact(((oy.trans D7).trans Yg).alloc _).below
     have h31:ar W6 w5.heap.size (aP [xa,xb]).toArray 56:=by rw[uM];exact ar.new _ _ _
     have hz6:W6.heap.size=w5.heap.size+1:=by rw[uM];simp
     have ho6:W6.ownsRow W1.heap.size 56 4 (.slice a6 (aV s (pk.take j)).length Yj) (aV s (pk.take j)).length (aP (aV s (pk.take j))):=aj Yk (ae.ai hx6 fun _ h=>h) (fun k e=>(Yk.lt k e).2);have h6b:∀ c,(Value.slice a6 (aV s (pk.take j)).length Yj).ownBlock=some c->c≠w5.heap.size:=fun c e=>by
      have h1:=(Yk.lt c e).2;have h2:=oy.size;have h3:=D7.size;have h4:=Yg.size;omega
     have Ws:=hid hx6;have H31:=hid h31;have HZ6:=hid hz6;have HO6:=hid ho6;have H6b:=hid h6b;clear a0 a1 a2 a3 b0 b1 b2 b3 Wq HK4 HK5 HC HS oy D7 Yg hx6 h31 hz6 ho6 h6b uM hne C HAnd PU
     go_loopw [33,6] (fun i v w7=>∃ q:Nat,q<=2/\i=.int .i64 q/\w7.ownsRow W1.heap.size 56 4 v (aV s (pk.take j)++([xa,xb].take q).filter fun x=> !(x==0)).length (aP (aV s (pk.take j)++([xa,xb].take q).filter fun x=> !(x==0)))/\
       (∀ c,v.ownBlock=some c->c≠w5.heap.size)/\ar w7 w5.heap.size (aP [xa,xb]).toArray 56/\Below W1.heap.size W6 w7) (fun i _ _=>2-(intOf i).toNat)
     case atStart=>
      refine⟨0,by omega,rfl,?_,H6b,H31,Below.refl _ _⟩;rw[show([xa,xb].take 0).filter (fun x=> !(x==0))=[] from rfl,List.append_nil];exact HO6
     case round=>
      obtain⟨w7,rfl⟩:=ag (wr:World);obtain⟨q,hq,rfl,ho7,pZ,h31,hb7⟩:=hrel;obtain⟨a7,agm,rfl⟩:=ownsRow_form ho7;have Yl:=hid ho7;have GR:=hid pZ;have Ym:=hid h31;have Yn:=hid hb7;clear ho7 pZ h31 hb7;by_cases Wt:q<2
      ·obtain⟨x,hx⟩:∃ x,[xa,xb][q]? =some x:=⟨[xa,xb][q],az Wt⟩
       have ht:[xa,xb].take (q+1)=[xa,xb].take q++ [x]:=by rw[List.take_add_one,hx];rfl
       have PX:∀ i,i<4->w7.cell? ⟨w5.heap.size,q*4+i,none⟩=(encS x)[i]? :=fun i hi=>by
        rw[Ym.cell];have:=iy [xa,xb] hx hi;simpa using this
       have e0:w7.cell? ⟨w5.heap.size,q*4,none⟩=some (.int .u64 (wd x 0).toNat):=PX 0 (by decide);have e1:w7.cell? ⟨w5.heap.size,q*4+1,none⟩=some (.int .u64 (wd x 1).toNat):=PX 1 (by decide);have e2:w7.cell? ⟨w5.heap.size,q*4+2,none⟩=some (.int .u64 (wd x 2).toNat):=PX 2 (by decide);have e3:w7.cell? ⟨w5.heap.size,q*4+3,none⟩=some (.int .u64 (wd x 3).toNat):=PX 3 (by decide);have HT:=hid ht;have Dq:=hid (yN s (pk.take j));clear hx ht PX;generalize aV s (pk.take j)=nj at Yl HQ Dq GR ⊢;by_cases hz:x=0#256
       ·have he:∀ W,(Op.equalIn 10000 56 (.agg #[.int .u64 (wd x 0).toNat,.int .u64 (wd x 1).toNat,.int .u64 (wd x 2).toNat,.int .u64 (wd x 3).toNat]) (.agg #[.int .u64 0,.int .u64 0,.int .u64 0,.int .u64 0])).run Tryz.prog W=.ok true W:=fun W=>by
         have h1:=iu x 0 W;rw[gh,hz]at h1;rw[hz];exact h1
        have hf:([x].filter fun x=> !(x==0))=[]:=by rw[hz];rfl
        have HF:=hid hf;clear hz hf;go_wp2;go_roundw;case rel=>
         refine⟨q+1,by omega,by go_num,?_,GR,Ym.alloc _,Yn.alloc (by have:=Yn.size;have:=HZ6.out;have:=Ws.size;have:=gF.size;have:=iQ.size;omega) _⟩;rw[HT.out,List.filter_append,HF.out,List.append_nil];exact Yl.alloc _
        case measure=>simp[intOf];omega
       ·have he:∀ W,(Op.equalIn 10000 56 (.agg #[.int .u64 (wd x 0).toNat,.int .u64 (wd x 1).toNat,.int .u64 (wd x 2).toNat,.int .u64 (wd x 3).toNat]) (.agg #[.int .u64 0,.int .u64 0,.int .u64 0,.int .u64 0])).run Tryz.prog W=.ok false W:=fun W=>by
         have h1:=iu x 0 W;rw[gh,show(x==0)=false from by simpa using hz]at h1;exact h1
        have hf:([x].filter fun x=> !(x==0))=[x]:=by simp[hz]
        have HF:=hid hf;have hlq:([xa,xb].take q).length<=2:=by simp;omega
        have hlf:=Nat.le_trans (List.length_filter_le (fun x=> !(x==0)) ([xa,xb].take q)) hlq;have hlj:(pk.take j).length<=256:=by simp;omega
        have HLQ:Hid ((nj++([xa,xb].take q).filter fun x=> !(x==0)).length<=514):=by have h1:=Dq.out;show List.length _<=514;rw[aJ];omega
        clear hz hf hlq hlf hlj;obtain⟨nq,hnq⟩:=ag (nj++([xa,xb].take q).filter fun x=> !(x==0));rw[<-hnq]at Yl HLQ GR ⊢;have HNQ:=hid hnq;clear hnq;go_wp2_with (at_builtin;refine wpList_append_own_at _ rfl _ _ 26 rfl W1.heap.size 56 i0 (.agg #[.int .u64 0,.int .u64 0,.int .u64 0,.int .u64 0]) 4 32 Tryz.underlying26 hi hz0 hz1 hz2 rfl (by decide) _ _ _ rfl ((Yl.alloc _).alloc _) ⟨w7.heap.size+1,0,none⟩ 1 1 (encS x).toList rfl rfl (cO ((ar.new _ (encS x) 56).at (by simp))) (by intro u hu;simp[encS]at hu;rcases hu with rfl | rfl | rfl | rfl<;>rfl) (by have:=HLQ.out;unfold maxLen;omega) (by have:=HLQ.out;omega) (by have:=Yn.size;have:=Ws.size;have:=gF.size;have:=iQ.size;simp;omega) ?_;intro v' w8 hown' hgrow hh hat;have HO8:=hid hown';have HG:=hid hgrow;have L9:=hid hat;clear hown' hgrow hh hat);have agp:w5.heap.size<w7.heap.size:=by have:=Yn.size;have:=HZ6.out;omega
        have agq:W1.heap.size<=w7.heap.size:=by have:=Yn.size;have:=Ws.size;have:=gF.size;have:=iQ.size;omega
        go_roundw
        case rel=>
         refine⟨q+1,by omega,by go_num,?_,fun c e=>?_,?_,?_⟩
         ·rw[HT.out,List.filter_append,HF.out, <-List.append_assoc, <-HNQ.out,aJ,gO,Mb]
          exact HO8
         ·have hat':v'.ownBlock=(Value.slice a7 nq.length agm).ownBlock\/_:=L9.out
          rcases hat' with h | h
          ·exact GR c (by rw[<-h];exact e)
          ·rw[h]at e;simp at e;omega
         ·exact((Ym.alloc _).alloc _).grown HG (fun e=>GR _ e.symm rfl)
         ·exact((Yn.alloc agq _).alloc (by simp;omega) _).grown HG (by simp;omega) (fun c e=>(Yl.lt c e).1)
        case measure=>simp[intOf];omega
      ·obtain rfl:q=2:=by omega
       have hcs:aV s (pk.take j)++([xa,xb].take 2).filter (fun x=> !(x==0))=aV s (pk.take (j+1)):=by rw[HQ.out,Uz.out];rfl
       rw[hcs]at Yl ⊢;clear hcs;go_wp2;go_roundw;case rel=>
        refine⟨j+1,by omega,by go_num,Yl,?_⟩;exact((iQ.trans (gF.mono (by have:=iQ.size;omega))).trans (Ws.mono (by have:=gF.size;have:=iQ.size;omega))).trans Yn
       case measure=>simp[intOf];omega
    ·obtain rfl:j=m:=by omega
     have UA:pk.take j=pk:=by rw[HMM.out];exact List.take_length
     rw[UA, <-HP.out]at jH ⊢;clear UA;go_wp2;go_roundw;case rel=>
      refine⟨k+1,by omega,by go_num,aH jH (by have:=HZ1.out;have:=HB.size;omega),?_⟩;exact(HB.trans (sN.mono HB.size)).trans (iQ.mono (by have:=HZ1.out;have:=HB.size;omega))
     case measure=>simp[intOf];omega
  ·obtain rfl:k=n:=by omega
   have eT:l.take k=l:=by rw[HN.out];exact List.take_length
   rw[eT]at HO ⊢;clear eT;have hne:bh l≠[]:=fun e=>by have:=rv l;rw[e]at this;simp at this
   obtain⟨g,cur,hg,Wm,Bc,hcc,hcm,hcs,eT⟩:∃ g cur,a3=some ⟨g,0,none⟩/\w.heap.size<=g/\wo.heap[g]? =some (.cells cur 56 (0,0))/\(bh l).length<=Md/\Md<=maxLen/\cur.size=Md*4/\cur.toList.take ((bh l).length*4)=aP (bh l):=by
    rcases HO.2 with⟨_,h2⟩ | ⟨g,cap',cur,h1,h2,h3,h4,h5,h6,h7⟩
    ·exact absurd (List.eq_nil_of_length_eq_zero h2) hne
    ·cases h1
     exact⟨g,cur,rfl,h2,h3,h4,h5,h6,h7⟩
   subst hg;have eg:∀ args w,(callFunc 30 args).run Tryz.prog w=.ok (.enter 30 args) w:=enters_of Tryz.func30 (by kernel_rfl) rfl;have hcon:=AnyQ.slices_SortFunc_total Tryz.PQ 4 Tryz.isAgg56 Tryz.sizeOf56 rz (fun _=>rfl) (fun x v hv=>by simp[rz,encS]at hv;rcases hv with rfl | rfl | rfl | rfl<;>rfl) aU agc 30 #[] g 0 Md (bh l).toArray wo eg
    (fun m os dk _ x y=>(DZ x y _).mono fun e w' ⟨he,hx⟩=>⟨he,hx.grow⟩) (Ht Bc eT) (Array.getElem?_eq_some_iff.1 Bc).1 (by have:=ey l;simp;omega) abT
   have Wu:Hid (ah 119 #[.slice (some ⟨g,0,none⟩) (bh l).length Md,.func (.func 30) #[] #[]] wo fun e w'=>
    e=.returned (.tuple #[])/\∃ n os,w'=sortWorldK rz 4 wo g 0 n (partsOf l).toArray os):=hcon
   clear hcon hne;have hpl:(partsOf l).length=(bh l).length:=by unfold partsOf;exact List.length_mergeSort _
   have HPL:=hid hpl;clear hpl;obtain⟨po,hpo⟩:=ag (partsOf l);rw[<-hpo]at Wu HPL;have HPO:=hid hpo;clear hpo;go_wp2_with (go_at_call 119;refine Wu.mono ?_;rintro e ws ⟨rfl,nd,os,Bd⟩;have HWS:=hid Bd;clear Bd);go_ret;refine⟨_,rfl,?_,?_⟩
   ·rw[HWS.out, <-HPO.out,HPL.out]
    exact yQ HPL Wm Bc hcc hcm hcs
   ·rw[HWS.out]
    exact HB.grown (yP _) HB.size (fun c e=>by cases e;exact Wm)
end
section
open Go Go.RowKit Go.Shelf Go.Maps
def cG (p:List BS):List (Nat×Nat):=p.zipIdx.flatMap fun x=>(bP x.1 256).map fun c=>(x.2,c)
theorem Ec:cG []=[]:=rfl
theorem Be (p:List BS) (s:BS):cG (p++ [s])=cG p++(bP s 256).map fun c=>(p.length,c):=by unfold cG;rw[List.zipIdx_append];simp
theorem rA {p:List BS} {k:Nat} {s:BS} (h:p[k]? =some s):cG (p.take (k+1))=cG (p.take k)++(bP s 256).map fun c=>(k,c):=by have hk:k<p.length:=(List.getElem?_eq_some_iff.1 h).1;rw[List.take_add_one,h];show cG (p.take k++ [s])=_;rw[Be,List.length_take,Nat.min_eq_left (by omega)]
theorem vQ {p:List BS} {k:Nat} {s:BS} (h:p[k]? =some s) (j:Nat):cG (p.take k)++((bP s 256).take j).map (fun c=>(k,c))<+:cG p:=by
 have h1:cG (p.take (k+1))<+:cG p:=by
  have:p=p.take (k+1)++p.drop (k+1):=(List.take_append_drop _ _).symm;have h2:∀ (a b:List BS),cG a<+:cG (a++b):=by intro a b;unfold cG;rw[List.zipIdx_append,List.flatMap_append];exact List.prefix_append _ _
  conv=>rhs;rw[this]
  exact h2 _ _
 refine List.IsPrefix.trans ?_ h1;rw[rA h];exact(List.prefix_append_right_inj _).2 (List.IsPrefix.map _ (List.take_prefix _ _))
theorem Hu {s:BS} {n c:Nat} (h:c∈bP s n):c<n:=by unfold bP at h;simp at h;exact h.1
theorem nt {p:List BS} {x:Nat×Nat} :x∈cG p↔ ∃ s,p[x.1]? =some s/\x.2<256/\s.getLsbD x.2=true:=by
 unfold cG;simp only[List.mem_flatMap,List.mem_map,Prod.exists,List.mem_zipIdx_iff_getElem?,bP];constructor
 ·rintro⟨s,k,h1,c,h2,rfl⟩
  simp at h2;exact⟨s,h1,h2⟩
 ·rintro⟨s,h1,h2,h3⟩
  exact⟨s,x.1,h1,x.2,by simp[h2,h3],rfl⟩
def dS (l:List (Nat×Nat)):List Nat:=l.foldl (fun t x=>t.set x.2 x.1) (List.replicate 256 0)
theorem sO (l:List (Nat×Nat)):∀ (t:List Nat),(l.foldl (fun t x=>t.set x.2 x.1) t).length=t.length:=by
 induction l with
 | nil=>intro t;rfl
 | cons x l ih=>intro t;simp[ih]
theorem eU (l:List (Nat×Nat)):(dS l).length=256:=by unfold dS;rw[sO,List.length_replicate]
theorem tQ:dS []=List.replicate 256 0:=rfl
theorem rB (l:List (Nat×Nat)) (x:Nat×Nat):dS (l++ [x])=(dS l).set x.2 x.1:=by unfold dS;rw[List.foldl_append];rfl
def nu (p:List BS):List Nat:=dS (cG p)
theorem gP (p:List BS):(nu p).length=256:=eU _
theorem Ed (l:List (Nat×Nat)) (c:Nat) (hc:c<256):(∃ x∈l,x.2=c/\(dS l)[c]? =some x.1)\/((∀ x∈l,x.2≠c)/\(dS l)[c]? =some 0):=by
 suffices ∀ r:List (Nat×Nat),(∃ x∈r.reverse,x.2=c/\(dS r.reverse)[c]? =some x.1)\/((∀ x∈r.reverse,x.2≠c)/\(dS r.reverse)[c]? =some 0) by
  have:=this l.reverse;rwa[List.reverse_reverse]at this
 intro r;induction r with
 | nil=>right;rw[List.reverse_nil,tQ,List.getElem?_replicate,if_pos hc];exact⟨fun x hx=>absurd hx (List.not_mem_nil),rfl⟩
 | cons x r ih=>
  rw[List.reverse_cons,rB];by_cases hx:x.2=c
  ·left
   refine⟨x,by simp,hx,?_⟩;rw[List.getElem?_set,if_pos hx,if_pos (by rw[eU,hx];exact hc)]
  ·rw[List.getElem?_set,if_neg hx]
   rcases ih with⟨y,h1,h2,h3⟩ | ⟨h1,h2⟩
   ·exact .inl ⟨y,by simp only[List.mem_append];exact .inl h1,h2,h3⟩
   ·refine .inr ⟨fun y hy=>?_,h2⟩
    simp only[List.mem_append,List.mem_singleton]at hy;rcases hy with hy | rfl
    ·exact h1 y hy
    ·exact hx
theorem sP (p:List BS) (c:Nat) (hc:c<256):(∃ k s,p[k]? =some s/\s.getLsbD c=true/\(nu p)[c]? =some k)\/((∀ s∈p,s.getLsbD c=false)/\(nu p)[c]? =some 0):=by
 rcases Ed (cG p) c hc with⟨x,h1,h2,h3⟩ | ⟨h1,h2⟩
 ·obtain⟨s,h4,h5,h6⟩:=nt.1 h1
  exact .inl ⟨x.1,s,h4,by rw[<-h2];exact h6,h3⟩
 ·refine .inr ⟨fun s hs=>?_,h2⟩
  obtain⟨k,hk⟩:=List.getElem?_of_mem hs;cases hb:s.getLsbD c with
  | false=>rfl
  | true=>exact absurd rfl (h1 (k,c) (nt.2 ⟨s,hk,hc,hb⟩))
theorem PY (p:List BS) (c:Nat) (hc:c<256) (hp:p.length<=256):∃ k,(nu p)[c]? =some k/\k<256/\(k<p.length\/k=0):=by
 rcases sP p c hc with⟨k,s,h1,_,h3⟩ | ⟨_,h2⟩
 ·have:=(List.getElem?_eq_some_iff.1 h1).1
  exact⟨k,h3,by omega,.inl this⟩
 ·exact⟨0,h2,by omega,.inr rfl⟩
def fP (t:List Nat) (v:Value):Array Value:=((t.map fun (n:Nat)=>Value.int .u8 n)++ [v]).toArray
theorem tR {t:List Nat} {v:Value} {c k:Nat} (h:t[c]? =some k):(fP t v)[c]? =some (.int .u8 k):=by have hc:=(List.getElem?_eq_some_iff.1 h).1;unfold fP;simp only[List.getElem?_toArray];rw[bK (by simpa using hc),aO,h];rfl
theorem lO {t:List Nat} {v:Value} (h:t.length=256):(fP t v)[256]? =some v:=by unfold fP;simp only[List.getElem?_toArray];rw[cM (by simp[h])];simp[h]
theorem Ee {t:List Nat} {v:Value} {c k:Nat} (h:c<t.length):(fP t v).setIfInBounds c (.int .u8 k)=fP (t.set c k) v:=by unfold fP;simp[h,List.map_set]
def cQ (w:World) (base:Nat) (v:Value) (p:List BS):Prop:=
 (v=.pointer none/\p=[])\/∃ b sl,v=.pointer (some ⟨b,0,none⟩)/\base<=b/\ar w b (fP (nu p) sl) 263/\w.ownsRow base 56 4 sl p.length (aP p)/\p.length<=256
theorem cQ.keeps {w w':World} {base:Nat} {v:Value} {p:List BS} (h:cQ w base v p) {R:Nat->Prop} (hk:ae R w w') (hr:∀ k,base<=k->k<w.heap.size->R k):cQ w' base v p:=by
 rcases h with h | ⟨b,sl,h1,h2,h3,h4,h5⟩
 ·exact .inl h
 ·exact .inr ⟨b,sl,h1,h2,h3.keeps hk (hr b h2 h3.lt),aj h4 hk fun k e=>hr k (h4.lt k e).1 (h4.lt k e).2,h5⟩
theorem cQ.below {w w':World} {base:Nat} {v:Value} {p:List BS} (h:cQ w base v p) (hk:aa w w'):cQ w' base v p:=h.keeps (ae.ai hk fun _ h=>h) (fun _ _ h=>h)
theorem cQ.base {w:World} {base base':Nat} {v:Value} {p:List BS} (h:cQ w base v p) (hb:base'<=base):cQ w base' v p:=by
 rcases h with h | ⟨b,sl,h1,h2,h3,h4,h5⟩
 ·exact .inl h
 ·exact .inr ⟨b,sl,h1,Nat.le_trans hb h2,h3,aH h4 hb,h5⟩
theorem cQ.le {w:World} {base:Nat} {v:Value} {p:List BS} (h:cQ w base v p):p.length<=256:=by
 rcases h with⟨_,rfl⟩ | ⟨b,sl,h1,h2,h3,h4,h5⟩
 ·simp
 ·exact h5
attribute [local go_sem] encS
theorem cQ.form {w:World} {base:Nat} {v:Value} {p:List BS} (h:cQ w base v p):(v=.pointer none/\p=[])\/∃ b sa cap,v=.pointer (some ⟨b,0,none⟩)/\w.cell? ⟨b,256,none⟩=some (.slice sa p.length cap)/\ (∀ c k:Nat,(nu p)[c]? =some k->w.cell? ⟨b,c,none⟩=some (.int .u8 k))/\base<=b/\b<w.heap.size/\ ∀ i s,p[i]? =some s->∃ g,sa=some ⟨g,0,none⟩/\base<=g/\g<w.heap.size/\∀ j,j<4->w.cell? ⟨g,i*4+j,none⟩=(encS s)[j]? :=by
 rcases h with h | ⟨b,sl,h1,h2,h3,h4,h5⟩
 ·exact .inl h
 ·obtain⟨sa,cap,rfl⟩:=ownsRow_form h4
  refine .inr ⟨b,sa,cap,h1,?_,fun c k hk=>?_,h2,h3.lt,fun i s hi=>?_⟩
  ·have hn:(Value.slice sa p.length cap)=.slice sa p.length cap:=rfl
   have:=h3.cell 256;rw[lO (gP p)]at this;exact this
  ·rw[h3.cell c,tR hk]
  ·obtain⟨g,cap',h6,h7,h8,h9⟩:=jo h4 rfl hi
   cases h6
   exact⟨g,rfl,h7,h8,h9⟩
theorem jI (v:Value) (base:Nat) (p:List BS) (w:World) (h:cQ w base v p): ah 168 #[v] w fun e w'=>e=.returned (.bool p.isEmpty)/\w'=w:=by
 rcases h.form with⟨rfl,rfl⟩ | ⟨b,sa,cap,rfl,c0,_⟩
 ·clear h
  go_enter Tryz.func168,Tryz.ntmps168
  go_wp2;go_ret;exact⟨rfl,rfl⟩
 ·clear h
  cases p with
  | nil=>
   go_enter Tryz.func168,Tryz.ntmps168
   go_wp2;go_ret;exact⟨rfl,rfl⟩
  | cons s p=>
   go_enter Tryz.func168,Tryz.ntmps168
   go_wp2;go_ret;exact⟨rfl,rfl⟩
theorem Kf (v:Value) (base:Nat) (p:List BS) (w:World) (h:cQ w base v p): ah 111 #[v] w fun e w'=>e=.returned (.int .i64 p.length)/\w'=w:=by
 have hn:=jI v base p w h;rcases h.form with⟨rfl,rfl⟩ | ⟨b,sa,cap,rfl,c0,_⟩
 ·have HN:=hid hn
  clear h hn;go_enter Tryz.func111,Tryz.ntmps111;go_wp2_with (go_at_call 168;refine HN.mono ?_;rintro e w1 ⟨rfl,rfl⟩);go_ret;exact⟨rfl,rfl⟩
 ·cases p with
  | nil=>
   have HN:=hid hn;clear h hn;go_enter Tryz.func111,Tryz.ntmps111;go_wp2_with (go_at_call 168;refine HN.mono ?_;rintro e w1 ⟨rfl,rfl⟩);go_ret;exact⟨rfl,rfl⟩
  | cons s p=>
   have HN:=hid hn;clear h hn;go_enter Tryz.func111,Tryz.ntmps111;go_wp2_with (go_at_call 168;refine HN.mono ?_;rintro e w1 ⟨rfl,rfl⟩);go_ret;exact⟨rfl,rfl⟩
def cls (p:List BS) (c:Nat):Nat:=(nu p)[c]?.getD 0
theorem rC (p:List BS) {c:Nat} (hc:c<256):(nu p)[c]? =some (cls p c):=by unfold cls;rw[az (by rw[gP];exact hc)];rfl
theorem Kg (c:Nat):cls [] c=0:=by unfold cls nu;rw[Ec,tQ,List.getElem?_replicate];split<;>rfl
theorem dB (p:List BS) (c:Nat) (hp:p.length<=256):cls p c<256:=by
 by_cases hc:c<256
 ·obtain⟨k,h1,h2,_⟩:=PY p c hc hp
  unfold cls;rw[h1];exact h2
 ·unfold cls;rw[aS (by rw[gP];omega)];decide
theorem zG (v:Value) (base:Nat) (p:List BS) (c:Nat) (hc:c<256) (w:World) (h:cQ w base v p): ah 123 #[v,.int .u8 c] w fun e w'=>e=.returned (.int .i64 (cls p c))/\w'=w:=by
 have hn:=jI v base p w h;have hlt:=dB p c h.le;rcases h.form with⟨rfl,rfl⟩ | ⟨b,sa,cap,rfl,c0,ht,_⟩
 ·have HN:=hid hn
  clear h hn hlt;go_enter Tryz.func123,Tryz.ntmps123;go_wp2_with (go_at_call 168;refine HN.mono ?_;rintro e w1 ⟨rfl,rfl⟩);go_ret;exact⟨by rw[Kg];rfl,rfl⟩
 ·have c1:=ht c _ (rC p hc)
  cases p with
  | nil=>
   have HN:=hid hn;clear h hn ht;go_enter Tryz.func123,Tryz.ntmps123;go_wp2_with (go_at_call 168;refine HN.mono ?_;rintro e w1 ⟨rfl,rfl⟩);go_ret;exact⟨by rw[Kg];rfl,rfl⟩
  | cons s p=>
   have HN:=hid hn;clear h hn ht;generalize cls (s::p) c=z at c1 hlt ⊢;go_enter Tryz.func123,Tryz.ntmps123;go_wp2_with (go_at_call 168;refine HN.mono ?_;rintro e w1 ⟨rfl,rfl⟩);go_ret;exact⟨rfl,rfl⟩
theorem cQ.some {w:World} {base:Nat} {v:Value} {s:BS} {p:List BS} (h:cQ w base v (s::p)):∃ b sa cap,v=.pointer (some ⟨b,0,none⟩)/\w.cell? ⟨b,256,none⟩=some (.slice sa (s::p).length cap)/\ (∀ c k:Nat,(nu (s::p))[c]? =some k->w.cell? ⟨b,c,none⟩=some (.int .u8 k))/\base<=b/\b<w.heap.size/\ ∀ i s',(s::p)[i]? =some s'->∃ g,sa=some ⟨g,0,none⟩/\base<=g/\g<w.heap.size/\∀ j,j<4->w.cell? ⟨g,i*4+j,none⟩=(encS s')[j]? :=by
 rcases h.form with⟨_,h⟩ | h
 ·cases h
 ·exact h
def setOf (p:List BS) (k:Int):Option BS:=if 0<=k then p[k.toNat]? else none
theorem Mf (k:Int):setOf [] k=none:=by unfold setOf;split<;>simp
theorem Mg (p:List BS) {k:Int} (h:k<0):setOf p k=none:=by unfold setOf;rw[if_neg (by omega)]
theorem Hv (p:List BS) {k:Int} (h:(p.length:Int)<=k):setOf p k=none:=by unfold setOf;rw[if_pos (by omega),aS (by omega)]
theorem sQ (p:List BS) (k:Nat):setOf p k=p[k]? :=by unfold setOf;rw[if_pos (by omega),Int.toNat_natCast]
theorem Ef (p:List BS) (k:Int):(setOf p k=none/\(k<0\/(p.length:Int)<=k))\/∃ (n:Nat) (s:BS),k=n/\n<p.length/\p[n]? =some s/\setOf p k=some s:=by
 by_cases h1:k<0
 ·exact .inl ⟨Mg p h1,.inl h1⟩
 ·by_cases h2:(p.length:Int)<=k
  ·exact .inl ⟨Hv p h2,.inr h2⟩
  ·obtain⟨n,rfl⟩:∃ n:Nat,k=n:=⟨k.toNat,by omega⟩
   have h3:n<p.length:=by omega
   exact .inr ⟨n,p[n],rfl,h3,az h3,by rw[sQ];exact az h3⟩
theorem Hw (v:Value) (base:Nat) (p:List BS) (k:Int) (w:World) (h:cQ w base v p): ah 169 #[v,.int .i64 k] w fun e w'=>e=.returned (.bool (setOf p k).isSome)/\w'=w:=by
 have hn:=jI v base p w h;cases p with
 | nil=>
  have HN:=hid hn;clear h hn;go_enter Tryz.func169,Tryz.ntmps169;go_wp2_with (go_at_call 168;refine HN.mono ?_;rintro e w1 ⟨rfl,rfl⟩);go_ret;exact⟨by rw[Mf];rfl,rfl⟩
 | cons s p=>
  obtain⟨b,sa,cap,rfl,c0,_⟩:=h.some;have hp:=Ef (s::p) k;have hle:=h.le;generalize (s::p).length=m at c0 hp hle;generalize setOf (s::p) k=r at hp ⊢;have HN:=hid hn;clear h hn;rcases hp with⟨rfl,h1 | h1⟩ | ⟨n,t,rfl,h1,_,rfl⟩
  ·go_enter Tryz.func169,Tryz.ntmps169
   go_wp2_with (go_at_call 168;refine HN.mono ?_;rintro e w1 ⟨rfl,rfl⟩)
   go_ret;exact⟨rfl,rfl⟩
  ·go_enter Tryz.func169,Tryz.ntmps169
   go_wp2_with (go_at_call 168;refine HN.mono ?_;rintro e w1 ⟨rfl,rfl⟩)
   go_ret;exact⟨by rw[show(decide (k<(m:Int)))=false from decide_eq_false (by omega)];rfl,rfl⟩
  ·go_enter Tryz.func169,Tryz.ntmps169
   go_wp2_with (go_at_call 168;refine HN.mono ?_;rintro e w1 ⟨rfl,rfl⟩)
   go_ret;exact⟨rfl,rfl⟩
theorem Kh (v:Value) (base:Nat) (p:List BS) (k:Int) (w:World) (h:cQ w base v p): ah 112 #[v,.int .i64 k] w fun e w'=>e=.returned (.tuple #[.agg (encS ((setOf p k).getD 0)),.bool (setOf p k).isSome])/\Ext w w':=by
 have hn:=Hw v base p k w h;have hz:=gh;rcases Ef p k with⟨h1,_⟩ | ⟨n,t,rfl,h1,h2,h3⟩
 ·rw[h1]at hn ⊢
  have HI:=hid (fun o=>(show ah 169 #[v,.int .i64 k] (w.alloc o) _ from Hw v base p k (w.alloc o) (h.below ((Ext.refl w).alloc o).below)));rw[h1]at HI;clear h hn h1;go_enter Tryz.func112,Tryz.ntmps112;go_wp2_with (go_at_call 169;refine(HI _).mono ?_;rintro e w1 ⟨rfl,rfl⟩);refine bodyPost_ret (v:=.tuple #[.agg (encS 0),.bool false]) ?_ rfl ⟨rfl,(Ext.refl w).alloc _⟩;rw[hz];simp[results,Tryz.results112,go_sem]
 ·cases p with
  | nil=>simp at h1
  | cons s p=>
  obtain⟨b,sa,cap,rfl,c0,_,_,hb,hr⟩:=h.some;obtain⟨g,rfl,_,hg,hc⟩:=hr n t h2;have hle:=h.le;have d0:w.cell? ⟨g,n*4,none⟩=some (.int .u64 (wd t 0).toNat):=hc 0 (by decide);have d1:w.cell? ⟨g,n*4+1,none⟩=some (.int .u64 (wd t 1).toNat):=hc 1 (by decide);have d2:w.cell? ⟨g,n*4+2,none⟩=some (.int .u64 (wd t 2).toNat):=hc 2 (by decide);have d3:w.cell? ⟨g,n*4+3,none⟩=some (.int .u64 (wd t 3).toNat):=hc 3 (by decide);have HI:=hid (fun o=>(show ah 169 #[_,.int .i64 n] (w.alloc o) _ from Hw _ base _ n (w.alloc o) (h.below ((Ext.refl w).alloc o).below)));rw[h3]at HI ⊢;generalize (s::p).length=m at c0 hle h1;clear h hn hc hr h2 h3;go_enter Tryz.func112,Tryz.ntmps112;go_wp2_with (go_at_call 169;refine(HI _).mono ?_;rintro e w1 ⟨rfl,rfl⟩);refine bodyPost_ret (v:=.tuple #[.agg (encS t),.bool true]) ?_ rfl ⟨rfl,(Ext.refl w).alloc _⟩;simp[results,Tryz.results112,go_sem]
def leastOf (p:List BS) (k:Int):Nat×Bool:=match setOf p k with | none=>(0,false) | some s=>aT s
theorem zH (v:Value) (base:Nat) (p:List BS) (k:Int) (w:World) (h:cQ w base v p): ah 113 #[v,.int .i64 k] w fun e w'=>e=.returned (.tuple #[.int .u8 (leastOf p k).1,.bool (leastOf p k).2])/\Ext w w':=by
 have HS:=hid (Kh v base p k w h);clear h;unfold leastOf;generalize setOf p k=r at HS ⊢;cases r with
 | none=>
  go_enter Tryz.func113,Tryz.ntmps113
  go_wp2_with (go_at_call 112;refine HS.mono ?_;rintro e w1 ⟨rfl,hx⟩;have HX:=hid hx;clear hx)
  refine bodyPost_ret (v:=.tuple #[.int .u8 (0:Nat),.bool false]) ?_ rfl ⟨rfl,HX.alloc _⟩;simp[results,Tryz.results113,go_sem]
 | some s=>
  have HF:=hid (zC s);dsimp only at HS ⊢;generalize aT s=z at HF ⊢;have hs:(some s).getD 0=s:=rfl;go_enter Tryz.func113,Tryz.ntmps113;go_wp2_with (first | (go_at_call 112;refine HS.mono ?_;rintro e w1 ⟨rfl,hx⟩;have HX:=hid hx;clear hx) | (go_at_call 23;refine(HF _).mono ?_;rintro e w2 ⟨rfl,hx⟩;have gF:=hid hx;clear hx));refine bodyPost_ret (v:=.tuple #[.int .u8 z.1,.bool z.2]) ?_ rfl ⟨rfl,(HX.alloc _).trans gF⟩;simp[results,Tryz.results113,go_sem]
end
section
open Go Go.RowKit Go.Shelf Go.Maps
attribute [local go_sem] encS Oper.semAt_some gK dI
theorem Bf (ad:Option Addr) (w:World):ah 211 #[.pointer ad] w fun e w'=>e=.returned (.func (.func 235) #[] #[.pointer (some ⟨w.heap.size,0,none⟩)])/\w'=w.alloc (.cells #[.pointer ad] 190 (0,0)):=by
 go_enter Tryz.func211,Tryz.ntmps211
 go_wp2;go_ret;exact⟨rfl,rfl⟩
def vR (w:World) (g:Nat) (sa:Option Addr) (p:List BS):Prop:=g<w.heap.size/\∀ i s,p[i]? =some s->sa=some ⟨g,0,none⟩/\∀ j,j<4->w.cell? ⟨g,i*4+j,none⟩=(encS s)[j]?
theorem vR.keeps {w w':World} {g:Nat} {sa:Option Addr} {p:List BS} (h:vR w g sa p) {R:Nat->Prop} (hk:ae R w w') (hr:R g):vR w' g sa p:=
 ⟨aD h.1 hk.size,fun i s hi=>⟨(h.2 i s hi).1,fun j hj=>(hk.cell (p:=⟨g,i*4+j,none⟩) hr).trans ((h.2 i s hi).2 j hj)⟩⟩
theorem yR {w:World} {base n:Nat} {v:Value} {l:List Nat} (h:w.ownsRow base 5 1 v n (l.map cU)) (hn:n=l.length):∃ g a cap,v=.slice a n cap/\(n=0\/a=some ⟨g,0,none⟩/\base<=g/\g<w.heap.size/\∀ i c:Nat,l[i]? =some c->w.cell? ⟨g,i,none⟩=some (.int .u8 c)):=by
 rcases h.2 with⟨h1,h2⟩ | ⟨g,cap,cur,hv,hb,hg,_,_,hs,ht⟩
 ·exact⟨0,none,0,by rw[h1,h2],.inl h2⟩
 ·refine⟨g,_,cap,hv,.inr ⟨rfl,hb,(Array.getElem?_eq_some_iff.1 hg).1,fun i c hi=>?_⟩⟩
  have hlt:i<l.length:=(List.getElem?_eq_some_iff.1 hi).1;have hc:w.cell? ⟨g,i,none⟩=cur[i]? :=by simp[World.cell?,hg]
  have h3:cur[i]? =(l.map cU)[i]? :=by rw[<-ht,List.getElem?_take,if_pos (by omega)];simp
  rw[hc,h3,aO,hi];rfl
theorem Eg (p:List BS) (bx ab g n cap:Nat) (sa:Option Addr) (w:World) (hp:n=p.length) (hn:p.length<=256) (zD:w.cell? ⟨bx,0,none⟩=some (.pointer (some ⟨ab,0,none⟩))) (OE:bx<w.heap.size) (hab:w.cell? ⟨ab,256,none⟩=some (.slice sa n cap)) (has:ab<w.heap.size) (hr:vR w g sa p): Seq false Tryz.prog 235 #[.pointer (some ⟨bx,0,none⟩)] (fun x:Nat×Nat=> #[.int .i64 x.1,.int .u8 x.2]) (· =g) (cG p) w:=by
 intro l J Jx W hK hJ Yf hY h0;have c0:W.cell? ⟨bx,0,none⟩=_:=(hK.cell (p:=⟨bx,0,none⟩) OE).trans zD;have c1:W.cell? ⟨ab,256,none⟩=_:=(hK.cell (p:=⟨ab,256,none⟩) has).trans hab;have hr1:vR W g sa p:=hr.keeps hK hr.1;have HY:=hid hY;have HB:=hid fun s W=>Ma s W
 have Yo:=hid hr1;have HJ:=hid hJ;have HP:=hid hp;have hn':n<=256:=by omega
 clear hY zD hab OE has hr hr1 Yf hK hJ hp hn;refine callsIn_wide (n:=0).1 ?_;refine callsIn_of_wp Tryz.func235 rfl trivial ?_ rfl;simp only[Tryz.ntmps235,List.size_toArray,List.length_cons,List.length_nil,Nat.reduceAdd,Nat.reduceSub,Array.replicate_succ,Array.replicate_zero,List.push_toArray,List.append_toArray,List.nil_append,List.cons_append]
 gi_wp2
 gi_loopw [12] (fun i wr=>∃ (k:Nat) (T:Nat->Prop),k<=n/\i=.int .i64 k/\J (cG (p.take k)) T wr/\(∀ k,T k->W.heap.size<=k/\k<wr.heap.size)/\ae (· =g) W wr)
  (fun i _=>n-(intOf i).toNat)
 case atStart=>
  exact⟨0,fun _=>False,by omega,rfl,h0,fun _ h=>h.elim,ae.refl _ _⟩
 case round=>
  clear c0 c1 h0;obtain⟨wo,rfl⟩:=ag (wr:World);obtain⟨k,T,hk,rfl,hj,hT,hR⟩:=hrel;have HJo:=hid hj;have HT:=hid hT;have HR:=hid hR;clear hj hT hR;by_cases hlt:k<n
  ·obtain⟨s,hs⟩:∃ s,p[k]? =some s:=⟨_,az (by have:=HP.out;omega)⟩
   obtain⟨Ki,hcs⟩:=(Yo.keeps HR rfl).2 k s hs;subst Ki;have d0:wo.cell? ⟨g,k*4,none⟩=some (.int .u64 (wd s 0).toNat):=hcs 0 (by decide);have d1:wo.cell? ⟨g,k*4+1,none⟩=some (.int .u64 (wd s 1).toNat):=hcs 1 (by decide);have d2:wo.cell? ⟨g,k*4+2,none⟩=some (.int .u64 (wd s 2).toNat):=hcs 2 (by decide);have d3:wo.cell? ⟨g,k*4+3,none⟩=some (.int .u64 (wd s 3).toNat):=hcs 3 (by decide);have HPT:=hid (rA hs);have PM:=hid (vQ hs);have HBL:Hid (∀ c∈bP s 256,c<256):=fun c h=>Hu h
   have HBs:=hid (HB.out s);have hlen:(bP s 256).length<=256:=by unfold bP;exact Nat.le_trans (List.length_filter_le _ _) (by simp)
   clear hcs hs;generalize bP s 256=bs at HPT PM HBL HBs hlen;obtain⟨m,hm⟩:=ag bs.length;rw[<-hm]at HBs hlen;have HM:=hid hm;clear hm
   gi_wp2_with (gi_at_call 236;refine(callsIn_wide.2 (HBs _)).mono ?_;rintro e w1 ⟨v,rfl,h1,h2⟩;obtain⟨gb,ba,amL,rfl,h3⟩:=yR h1 HM;have H2:=hid h2;have H3:=hid h3;clear h1 h2 h3)
   obtain⟨T',PN⟩:=ag (fun x=>T x\/(0<m/\x=gb):Nat->Prop);have hx1:aa wo w1:=((Ext.refl wo).alloc _).below.trans (H2.mono (by simp));have hsz:wo.heap.size<=w1.heap.size:=hx1.size;have hTb:∀ x,T' x->W.heap.size<=x/\x<w1.heap.size:=fun x hx=>by
    rw[PN]at hx;rcases hx with hx | ⟨h0,rfl⟩
    ·have:=HT.out x hx;omega
    ·rcases H3.out with h | ⟨_,h1,h2,_⟩
     ·omega
     ·have:=HR.size;simp at h1;omega
   have hj1:J (cG (p.take k)) T' w1:=HJ.out _ T T' wo w1 HJo HT hTb (fun x hx=>by rw[PN];exact .inl hx) (fun x hx=>by
    rw[PN]at hx;rcases hx with hx | ⟨h0,rfl⟩
    ·exact .inl hx
    ·rcases H3.out with h | ⟨_,h1,h2,_⟩
     ·omega
     ·simp at h1;exact .inr (by omega)) ⟨ae.ai hx1 fun _ h=>h.1,fun h=>(by cases h)⟩
   have lM:ae (· =g) W w1:=HR.tr (ae.ai hx1 fun x h=>by have h1:=(Yo.keeps HR rfl).1;rw[show x=g from h];exact h1);have H3':Hid (m=0\/ba=some ⟨gb,0,none⟩/\T' gb/\∀ i c:Nat,bs[i]? =some c->w1.cell? ⟨gb,i,none⟩=some (.int .u8 c)):=by
    by_cases vn:m=0
    ·exact .inl vn
    ·rcases H3.out with h | ⟨h1,_,_,h4⟩
     ·exact absurd h vn
     ·exact .inr ⟨h1,by rw[PN];exact .inr ⟨by omega,rfl⟩,h4⟩
   have HJ1:=hid hj1;have L8:=hid lM;have HTb:=hid hTb;clear PN hx1 hsz hTb hj1 lM H3 H2 HJo HT HR d0 d1 d2 d3 HBs
   gi_loopw [20] (fun i w2=>∃ j:Nat,j<=m/\i=.int .i64 j/\J (cG (p.take k)++(bs.take j).map fun c=>(k,c)) T' w2/\ae (fun x=>x=g\/T' x) w1 w2) (fun i _=>m-(intOf i).toNat)
   case atStart=>
    refine⟨0,by omega,rfl,?_,ae.refl _ _⟩;rw[List.take_zero,List.map_nil,List.append_nil];exact HJ1
   case round=>
    obtain⟨w2,rfl⟩:=ag (wr:World);obtain⟨j,hj,rfl,Yp,hkk⟩:=hrel;have HJJ:=hid Yp;have GU:=hid hkk;clear Yp hkk HJ1;by_cases GK:j<m
    ·obtain⟨Yq,hg,hcb⟩:=H3'.resolve_left (by omega)
     subst Yq;obtain⟨c,hc⟩:∃ c,bs[j]? =some c:=⟨_,az (by have:=HM.out;omega)⟩;have jf:c<256:=HBL.out c (aw hc);have e0:w2.cell? ⟨gb,j,none⟩=some (.int .u8 c):=(GU.cell (p:=⟨gb,j,none⟩) (.inr hg)).trans (hcb j c hc);have eT:(bs.take (j+1)).map (fun c=>(k,c))=(bs.take j).map (fun c=>(k,c))++ [(k,c)]:=by rw[List.take_add_one,hc];simp
     have OB:(cG (p.take k)++(bs.take j).map fun c=>(k,c))++ [(k,c)]<+:cG p:=by have:=PM.out (j+1);rw[eT, <-List.append_assoc]at this;exact this
     obtain⟨fn,tm,Dw,bd,hy,DX⟩:=HY.out _ (k,c) T' w2 OB (fun x hx=>⟨(HTb x hx).1,aD (HTb x hx).2 GU.size⟩) (L8.tr (GU.mono fun x hx=>.inl hx)) HJJ;have OC:=hid DX;have p8:=hid eT;have HPJ:=hid OB;clear DX hg hcb hc eT OB;dsimp only at hy
     gi_wp2
     refine OC.mono ?_;rintro e W2 (⟨rfl,kX,hk2⟩ | ⟨rfl,kX,hk2⟩)
     ·have vk:=hid kX
      have pY:=hid hk2;clear kX hk2 hy
      gi_wp2
      go_roundw
      case rel=>
       refine⟨j+1,by omega,by go_num,?_,GU.tr (pY)⟩;rw[p8.out, <-List.append_assoc];exact vk
      case measure=>simp[intOf];omega
     ·have vk:=hid kX
      have pY:=hid hk2;clear kX hk2 hy
      gi_wp2
      refine bodyPost_ret (results_none rfl _ _ _) rfl ?_;exact⟨⟨_,rfl⟩,T',fun x hx=>⟨(HTb x hx).1,aD (HTb x hx).2 (Nat.le_trans GU.size pY.size)⟩,.inr ⟨_,HPJ,vk⟩⟩
    ·obtain rfl:j=m:=by omega
     gi_wp2
     go_roundw
     case rel=>
      refine⟨k+1,T',by omega,by go_num,?_,fun x hx=>⟨(HTb x hx).1,aD (HTb x hx).2 GU.size⟩,L8.tr (GU.mono fun x hx=>.inl hx)⟩;rw[HPT.out];have:=HJJ.out;rwa[HM.out,List.take_length]at this
     case measure=>simp[intOf];omega
  ·obtain rfl:k=n:=by omega
   gi_wp2
   refine bodyPost_end (results_none rfl _ _ _) rfl ?_;refine⟨⟨_,rfl⟩,T,HT,.inl ?_⟩;have:=HJo.out;rwa[HP.out,List.take_length]at this
theorem yS {w:World} {base n:Nat} {v:Value} {p:List BS} (h:w.ownsRow base 56 4 v n (aP p)) (hn:n=p.length):∃ sa cap,v=.slice sa n cap/\((p=[]/\n=0)\/∃ g,vR w g sa p):=by
 rcases h.2 with⟨h1,h2⟩ | ⟨g,cap,cur,hv,hb,hg,_⟩
 ·exact⟨none,0,by rw[h1,h2],.inl ⟨List.eq_nil_of_length_eq_zero (by omega),h2⟩⟩
 ·refine⟨_,cap,hv,.inr ⟨g,(Array.getElem?_eq_some_iff.1 hg).1,fun i s hi=>?_⟩⟩
  obtain⟨g',cap',h6,h7,h8,h9⟩:=jo h hn hi;rw[hv]at h6;cases h6;exact⟨rfl,h9⟩
theorem Bg (v:Value):Tryz.zeroCells263.setIfInBounds 256 v=fP (dS []) v:=by kernel_rfl
theorem PZ (p:List BS) (v:Value) (base:Nat) (w:World) (h:w.ownsRow base 56 4 v p.length (aP p)) (hb:base<=w.heap.size) (hp:p.length<=256): ah 167 #[v] w fun e w'=>∃ b,e=.returned (.pointer (some ⟨b,0,none⟩))/\cQ w' base (.pointer (some ⟨b,0,none⟩)) p/\aa w w':=by
 have eg:∀ args w,(callFunc 235 args).run Tryz.prog w=.ok (.enter 235 args) w:=enters_of Tryz.func235 (by kernel_rfl) rfl;obtain⟨n,hn⟩:=ag p.length;rw[<-hn]at h;obtain⟨sa,cap,rfl,hrow⟩:=yS h hn;have H:=hid h;have HR:=hid hrow;have HN:=hid hn;have HP:=hid hp;have HB:=hid hb;clear h hrow hn hp hb;refine cC Tryz.func167 rfl ?_;simp only[Tryz.ntmps167,List.size_toArray,List.length_cons,List.length_nil,Nat.reduceAdd,Nat.reduceSub,Array.replicate_succ,Array.replicate_zero,List.push_toArray,List.append_toArray,List.nil_append,List.cons_append];go_wp2_with (go_at_call 211;refine(Bf _ _).mono ?_;rintro e w1 ⟨rfl,rfl⟩);rw[Bg];refine aA ?_;intro W0 hW0;have hab:ar W0 w.heap.size (fP (dS []) (.slice sa n cap)) 263:=by rw[hW0];exact((ar.new _ _ _).alloc _).alloc _
 have zD:ar W0 (w.heap.size+1) #[.pointer (some ⟨w.heap.size,0,none⟩)] 190:=by rw[hW0];exact((ar.new _ _ _).at (by simp)).alloc _
 have mG:ar W0 (w.heap.size+1+1) #[.pointer (some ⟨w.heap.size,0,none⟩)] 190:=by rw[hW0];exact(ar.new _ _ _).at (by simp)
 have hx0:Ext w W0:=by rw[hW0];exact(((Ext.refl w).alloc _).alloc _).alloc _
 have hsz:W0.heap.size=w.heap.size+1+1+1:=by rw[hW0];simp
 clear hW0;obtain⟨g,hg,hr⟩:∃ g,(g≠w.heap.size/\g≠w.heap.size+1/\g<W0.heap.size)/\vR W0 g sa p:=by
  rcases HR.out with⟨h1,_⟩ | ⟨g,h1⟩
  ·exact⟨w.heap.size+1+1,⟨by omega,by omega,by omega⟩,by omega,fun i s hi=>by rw[h1]at hi;simp at hi⟩
  ·exact⟨g,⟨by have:=h1.1;omega,by have:=h1.1;omega,by have:=h1.1;omega⟩,h1.keeps hx0.keeps h1.1⟩
 have hseq:=Eg p (w.heap.size+1+1) w.heap.size g n cap sa W0 HN HP (mG.cell 0) mG.lt (by rw[hab.cell 256,lO (eU _)]) hab.lt hr;clear hr mG;refine ir hseq (by rfl) eg (by intro _;rfl) (by intro k hk;rw[show k=g from hk];exact hg.2.2)
  (fun xs _ W=>ar W w.heap.size (fP (dS xs) (.slice sa n cap)) 263/\ar W (w.heap.size+1) #[.pointer (some ⟨w.heap.size,0,none⟩)] 190/\aa w W)
  (fun _ _ _ _=>False)
  (fun xs T T' W W' ⟨h1,h2,h3⟩ hT _ _ _ hk=>⟨h1.mY hT hk (by omega),h2.mY hT hk (by omega),iq h3 hT hk (aG _) (by omega)⟩)
  (fun c xs T T' W W' h=>h.elim)
  ⟨hab,zD,hx0.below⟩
  (fun x=>⟨#[.slice sa n cap,undef,.pointer none,.pointer (some ⟨w.heap.size+1,0,none⟩),.int .i64 x.1,.int .u8 x.2,.slice sa n cap,.agg (fP (dS []) (.slice sa n cap)),.pointer (some ⟨w.heap.size,0,none⟩),.pointer (some ⟨w.heap.size,0,none⟩),
   .func (.func 235) #[] #[.pointer (some ⟨w.heap.size+1+1,0,none⟩)],.int .i64 x.1,.int .u8 x.2,undef,undef,undef,undef,undef,undef,undef,undef],[]⟩) ?assign ?body ?done ?stop
 case assign=>
  intro l x W K hK
  gi_wp2
  exact hK
 case body=>
  rintro l pre ⟨k,c⟩ T W bS hT _ yG hl ⟨g1,g2,g3⟩;have qd:(k,c)∈cG p:=bS.subset (by simp);obtain⟨s,h1,jf,_⟩:=nt.1 qd;have ajE:k<256:=by have:=(List.getElem?_eq_some_iff.1 h1).1;have:=HP.out;dsimp only at*;omega
  dsimp only at jf;obtain⟨y,hy⟩:∃ y,(dS pre)[c]? =some y:=⟨_,az (by rw[eU];exact jf)⟩;have c0:W.cell? ⟨w.heap.size+1,0,none⟩=some (.pointer (some ⟨w.heap.size,0,none⟩)):=g2.cell 0;have c1:W.cell? ⟨w.heap.size,c,none⟩=some (.int .u8 y):=(g1.cell c).trans (tR hy);have f1:=g1.frozen c;have pq:=g1.set c (.int .u8 k);rw[Ee (by rw[eU];exact jf)]at pq;have Mh:=rB pre (k,c);rw[<-Mh]at pq;have Hy:=hid pq;have HG2:=hid (g2.other (p:=⟨w.heap.size,c,none⟩) (by simp) (.int .u8 k));have HG3:=hid (g3.setCell (p:=⟨w.heap.size,c,none⟩) (aG _) (.int .u8 k));have HT:=hid hT;have HG:=hid hg;have lN:=hid hsz;clear pq Mh g1 g2 g3 hT hy h1 qd yG hl hg hsz hab zD hx0 bS hseq
  gi_wp2
  refine⟨(ae.refl _ _).setCell (fun h=>?_) _,Hy,HG2,HG3⟩;have hgg:=HG.out;have hss:=lN.out;rcases h with h | h
  ·exact hgg.1 h.symm
  ·have:=(HT.out _ h).1;dsimp only at this;omega
 case done=>
  rintro D T W hD yJ hT ⟨g1,g2,g3⟩ mO;have c0:W.cell? ⟨w.heap.size+1,0,none⟩=some (.pointer (some ⟨w.heap.size,0,none⟩)):=g2.cell 0;have G1:=hid g1;have G3:=hid g3;have HD:=hid hD;have lN:=hid hsz;have yx:=hid mO;clear g1 g2 g3 hsz hT yJ mO hD hg hab zD hx0 hseq;dsimp only;go_wp2;refine dz rfl yx (results_tmp rfl _ _ _) ⟨_,rfl,.inr ⟨_,_,rfl,HB,G1.put (by have:=HD.out;have:=lN.out;omega) _,?_,HP⟩,((ae.ai G3 (fun _ h=>h)).putObj (by have:=HD.out;have:=lN.out;omega) _).below⟩;have h1:=aj H (ae.ai G3 fun _ h=>h) (fun k e=>(H.lt k e).2);rw[HN.out]at h1;rw[<-HN.out,HN.out];exact ownsRow_putObj h1 _ yx rfl
 case stop=>rintro D c pre T W _ _ _ _ h _;exact h.elim
end
section
open Go Go.RowKit Go.Shelf Go.Maps
attribute [local go_sem] encS
theorem bQ.below {α:Type} {enc:α->Value} {w w':World} {v:Value} {l:List α} (h:bQ enc w v l) (hk:aa w w'):bQ enc w' v l:=by
 rcases h with h | ⟨b,off,cap,hv,hb,hc,h⟩
 ·exact .inl h
 ·exact .inr ⟨b,off,cap,hv,aD hb hk.size,hc,fun i x hi=>(hk.cell (p:=⟨b,off+i,none⟩) hb).trans (h i x hi)⟩
theorem bQ.form {α:Type} {enc:α->Value} {w:World} {v:Value} {l:List α} (h:bQ enc w v l):∃ a cap,v=.slice a l.length cap:=by
 rcases h with⟨h,rfl⟩ | ⟨b,off,cap,hv,_⟩
 ·exact⟨_,_,h⟩
 ·exact⟨_,_,hv⟩
theorem bQ.elem {α:Type} {enc:α->Value} {w:World} {a:Option Addr} {n cap:Nat} {l:List α} (h:bQ enc w (.slice a n cap) l) {i:Nat} {x:α} (hi:l[i]? =some x):∃ b off,a=some ⟨b,off,none⟩/\b<w.heap.size/\w.cell? ⟨b,off+i,none⟩=some (enc x):=by
 rcases h with⟨_,rfl⟩ | ⟨b,off,cap,hv,hb,hc,h⟩
 ·simp at hi
 ·cases hv;exact⟨b,off,rfl,hb,h i x hi⟩
theorem cZ {α:Type} {enc:α->Value} {w:World} {base n:Nat} {v:Value} {e:TypeId} {l:List α} (h:w.ownsRow base e 1 v n (l.map enc)) (hn:n=l.length):bQ enc w v l:=by
 rcases h.2 with⟨h1,h2⟩ | ⟨g,cap,cur,hv,hb,hg,hc,_,hs,ht⟩
 ·exact .inl ⟨h1,List.eq_nil_of_length_eq_zero (by omega)⟩
 ·refine .inr ⟨g,0,cap,by rw[hv,hn],(Array.getElem?_eq_some_iff.1 hg).1,by omega,fun i x hi=>?_⟩
  have hlt:i<l.length:=(List.getElem?_eq_some_iff.1 hi).1;have hc:w.cell? ⟨g,0+i,none⟩=cur[i]? :=by simp[World.cell?,hg]
  have h3:cur[i]? =(l.map enc)[i]? :=by rw[<-ht,List.getElem?_take,if_pos (by omega)];simp
  rw[hc,h3,aO,hi];rfl
theorem Tryz.mH:(Tryz.prog.info? 3).map (fun i=>(i.zero,i.size,i.bytes))=some (some (.int .i64 0),1,8):=by kernel_rfl
def cV (n:Nat):Value:=.int .i64 n
def aM (k:Int):Value:=.int .i64 k
theorem Eh (l:List BS):(partsOf l).length<=256:=by unfold partsOf;rw[List.length_mergeSort];exact ey l
theorem jJ (l:List BS) (v0:Value) (w:World) (hl:cY w v0 l) (hlen:l.length<=9223372036854775807): ah 110 #[v0] w fun e w'=>∃ b,e=.returned (.pointer (some ⟨b,0,none⟩))/\cQ w' w.heap.size (.pointer (some ⟨b,0,none⟩)) (partsOf l)/\aa w w':=by have HP:=hid (zF l v0 w hl hlen);have HL:=hid (Eh l);clear hl;generalize partsOf l=p at HP HL ⊢;go_enter Tryz.func110,Tryz.ntmps110;go_wp2_with (first | (go_at_call 64;refine HP.mono ?_;rintro e w1 ⟨v1,rfl,h1,h2⟩;have H1:=hid h1;have H2:=hid h2;clear h1 h2) | (go_at_call 167;refine(PZ p _ w.heap.size _ H1 H2.size HL).mono ?_;rintro e w2 ⟨b,rfl,h1,h2⟩;have H3:=hid h1;have H4:=hid h2;clear h1 h2));go_ret;exact⟨b,rfl,H3,H2.trans (H4.mono H2.size)⟩
end
section
open Go Go.RowKit Go.Shelf Go.Maps
attribute [local go_sem] encS
end
section
open Go Go.RowKit Go.Shelf Go.Maps
attribute [local go_sem] encS
end
section
open Go Go.RowKit Go.Shelf Go.Maps
attribute [local go_sem] encS
end
section
open Go Go.RowKit Go.Shelf Go.Maps
def dc (p:List BS):Array Value:=((nu p).map fun (n:Nat)=>Value.int .u8 n).toArray
theorem bO (p:List BS):(dc p).size=256:=by unfold dc;simp[gP]
theorem vS (p:List BS) {c:Nat} (hc:c<256):(dc p)[c]? =some (.int .u8 (cls p c)):=by unfold dc;rw[List.getElem?_toArray,aO,rC p hc];rfl
theorem lQ:Tryz.zeroCells149=dc []:=by kernel_rfl
theorem jK:(Tryz.prog.info? 149).map (·.size)=some 256:=by kernel_rfl
theorem lR (p:List BS):(dc p).all (·.oneCell')=true:=by unfold dc;simp[Value.oneCell']
theorem Mi (v:Value) (base:Nat) (p:List BS) (w:World) (h:cQ w base v p): ah 143 #[v] w fun e w'=>e=.returned (.agg (dc p))/\Ext w w':=by
 have hsz:=jK;cases p with
 | nil=>
  have HN:=hid fun W h=>jI v base [] W h
  have H:=hid h;have hz:=lQ;have hst:=run_storeCells_new (P:=Tryz.prog) w 149 (dc []) (dc []) (by rw[bO];exact hsz) rfl (lR _);have hs0:=bO [];clear h hsz;go_enter Tryz.func143,Tryz.ntmps143;go_wp2_with fail
  refine(HN _ (H.below ((Ext.refl _).alloc _).below)).mono ?_;rintro e w' ⟨rfl,hw⟩;replace hw:=hw.symm;subst hw;go_wp2;refine bodyPost_ret (results_cell_row rfl _ _ w.heap.size 149 (dc []) (0,0) _ rfl (World.alloc_heap_new _ _) Tryz.underlying149 rfl (by rw[bO];exact jK)) rfl ⟨rfl,(Ext.refl _).alloc _⟩
 | cons s p=>
  obtain⟨b,sa,cap,rfl,_,ht,_,hb,_⟩:=h.some;have hr:w.rangeAt b 0 (dc (s::p)).toList:=fun j u hj=>by
   have Wv:j<256:=by have:=(List.getElem?_eq_some_iff.1 hj).1;simpa[bO]using this
   rw[Array.getElem?_toList,vS _ Wv]at hj;cases hj;rw[Nat.zero_add];exact ht j _ (rC _ Wv)
  have HR:Hid (∀ c:Array Value,(w.alloc (.cells c 149)).rangeAt b 0 (dc (s::p)).toList):=fun c j u hj=>(((Ext.refl w).alloc _).cell (p:=⟨b,0+j,none⟩) hb).trans (hr j u hj)
  have HN:=hid fun W (h:cQ W base (.pointer (some ⟨b,0,none⟩)) (s::p))=>jI _ base (s::p) W h
  have H:=hid h;have hz:=lQ;have hst:=run_storeCells_new (P:=Tryz.prog) w 149 (dc []) (dc (s::p)) (by rw[bO];exact hsz) (by rw[bO,bO]) (lR _);clear h hsz ht hr;generalize hq:s::p=q at*;have HQ:=hid (show q.isEmpty=false by rw[<-hq];rfl);clear hq;have hs0:=bO q;go_enter Tryz.func143,Tryz.ntmps143;go_wp2_with fail
  refine(HN _ (H.below ((Ext.refl _).alloc _).below)).mono ?_;rintro e w' ⟨rfl,hw⟩;replace hw:=hw.symm;subst hw;rw[HQ.out];go_wp2_with (refine wpList_load_mid rfl 149 (.tmp 8) rfl b 0 rfl (dc q).toList _ (HR _) Tryz.underlying149 rfl (by rw[Array.length_toList,bO];exact jK) ?_);refine bodyPost_ret (results_cell_row rfl _ _ w.heap.size 149 (dc q) (0,0) _ rfl (World.alloc_heap_new _ _) Tryz.underlying149 rfl (by rw[bO];exact jK)) rfl ⟨rfl,(Ext.refl _).alloc _⟩
theorem gQ (l:List BS):∀ u∈aP l,u.oneCell'=true:=by intro u hu;unfold aP at hu;obtain⟨s,_,hs⟩:=List.mem_flatMap.1 hu;simp[encS]at hs;rcases hs with rfl | rfl | rfl | rfl<;>rfl
theorem cQ.row {w:World} {base:Nat} {v:Value} {s:BS} {p:List BS} (h:cQ w base v (s::p)): ∃ b g cap,v=.pointer (Option.some ⟨b,0,none⟩)/\b<w.heap.size/\g<w.heap.size/\w.cell? ⟨b,256,none⟩=Option.some (.slice (Option.some ⟨g,0,none⟩) (s::p).length cap)/\ ∀ j u,(aP (s::p))[j]? =Option.some u->w.cell? ((⟨g,0,none⟩:Addr).add j)=Option.some u:=by
 rcases h with⟨_,h⟩ | ⟨b,sl,h1,h2,h3,h4,h5⟩
 ·cases h
 ·obtain⟨g,cap,e,_,hg,_⟩:=jo (i:=0) (s:=s) h4 rfl rfl
  subst e;refine⟨b,g,cap,h1,h3.lt,hg,?_,h4.cells rfl⟩;have:=h3.cell 256;rw[lO (gP _)]at this;exact this
def Bh (p q:List BS) (w:World) (e:Ending) (w':World):Prop:=
 if p.isEmpty || q.isEmpty then e=.returned (.pointer none)/\aa w w' else ∃ b,e=.returned (.pointer (some ⟨b,0,none⟩))/\cQ w' w.heap.size (.pointer (some ⟨b,0,none⟩)) (partsOf (p++q))/\aa w w'
theorem P8 (v v2:Value) (base Ww:Nat) (p q:List BS) (w:World) (h:cQ w base v p) (h2:cQ w Ww v2 q): ah 121 #[v,v2] w (Bh p q w):=by
 have sH:=hid (jI v base p w h);have uN:=hid (jI v2 Ww q w h2);cases p with
 | nil=>
  rw[show([]:List BS).isEmpty=true from rfl]at sH;clear h h2;go_enter Tryz.func121,Tryz.ntmps121;go_wp2_with fail
  refine(sH).mono ?_;rintro e w' ⟨rfl,hw⟩;replace hw:=hw.symm;subst hw;go_wp2;go_ret;exact⟨rfl,Below.refl _ _⟩
 | cons s p=>
  rw[show(s::p).isEmpty=false from rfl]at sH;cases q with
  | nil=>
   rw[show([]:List BS).isEmpty=true from rfl]at uN;clear h h2;go_enter Tryz.func121,Tryz.ntmps121;go_wp2_with fail
   refine(sH).mono ?_;rintro e w' ⟨rfl,hw⟩;replace hw:=hw.symm;subst hw;go_wp2_with fail
   refine(uN).mono ?_;rintro e w' ⟨rfl,hw⟩;replace hw:=hw.symm;subst hw;go_wp2;go_ret;exact⟨rfl,Below.refl _ _⟩
  | cons t q=>
   rw[show(t::q).isEmpty=false from rfl]at uN;have hj:∀ e w',(∃ b,e=.returned (.pointer (some ⟨b,0,none⟩))/\cQ w' w.heap.size (.pointer (some ⟨b,0,none⟩)) (partsOf ((s::p)++(t::q)))/\aa w w')->Bh (s::p) (t::q) w e w':=fun e w' h=>h
   obtain⟨i0,hi,hz0,hz1,hz2⟩:=info_parts Tryz.zE;obtain⟨b,g,cap,rfl,hb,hg,hc,hr⟩:=h.row;obtain⟨b2,g2,agv,rfl,hb2,hg2,hc2,hr2⟩:=h2.row;have hle:=h.le;have agw:=h2.le;generalize Bh (s::p) (t::q) w=J at*;generalize s::p=p at*;generalize t::q=q at*;obtain⟨n,hn⟩:=ag p.length;obtain⟨m,hm⟩:=ag q.length;rw[<-hn]at hc hle;rw[<-hm]at hc2 agw;have HNn:=hid hn;have HMm:=hid hm;have HR:=hid hr;have HR2:=hid hr2;have HJ:=hid hj;clear h h2 hr hr2 hn hm hj;go_enter Tryz.func121,Tryz.ntmps121;go_wp2_with fail
   refine(sH).mono ?_;rintro e w' ⟨rfl,hw⟩;replace hw:=hw.symm;subst hw;go_wp2_with fail
   refine(uN).mono ?_;rintro e w' ⟨rfl,hw⟩;replace hw:=hw.symm;subst hw;go_wp2;refine eO (fun x=>x<w.heap.size) (by kernel_rfl) (fun i=>i==0 || i==5 || i==10 || i==11) (by kernel_rfl) ?_;intro C hC hne W0 zB hblk hsz hx0;have HC:=hid hC;have OD:=hid zB;have LZ:=hid hx0;refine er.out ?_;have f1:=dy hC (p:=⟨b,256,none⟩) hb hc;have f2:=dy hC (p:=⟨b2,256,none⟩) hb2 hc2;have HSz:=hid hsz;clear hC zB hblk hsz hx0 hc hc2;refine ft (fun K hK=>?_);refine Pf rfl rfl ?_;go_simp;have k1:=OD.alloc (fun x hx=>aD hx OD.size) (.cells #[] 56 (0,0));refine⟨(HC _).2 k1,hK _ _ ?_⟩;clear hK K;have L8:=hid k1;clear k1;have o1:(W0.alloc (.cells #[] 56 (0,0))).ownsRow W0.heap.size 56 4 (.slice (some ⟨W0.heap.size,0,none⟩) 0 0) 0 []:=⟨rfl,.inr ⟨W0.heap.size,0, #[],rfl,aG _,World.alloc_heap_new _ _,aG _,by simp,rfl,rfl⟩⟩;have Ke:=hid o1;clear o1
   repeat (refine ft (fun K hK=>?_);first | (refine lexN rfl ?_;try go_simp;refine hK _ _ ?_;clear hK K) | (refine Uk rfl rfl ?_;unfold aF;go_simp;refine hK _ _ ?_;clear hK K))
   refine ft (fun K hK=>?_);refine Pf rfl rfl (rh (.tmp 11) (.tmp 15) 26 rfl (W0.heap.size) 56 i0 (.agg #[.int .u64 0,.int .u64 0,.int .u64 0,.int .u64 0]) 4 32 Tryz.underlying26 hi hz0 hz1 hz2 rfl (by decide) _ (0) _ rfl (Ke) (⟨g,0,none⟩) (n) (cap) (aP p) rfl (by rw[cP,HNn.out]) (fun j u hj=>(L8.cell (p:=(⟨g,0,none⟩:Addr).add j) (by rw[Addr.add_mid];exact hg)).trans (HR j u hj)) (gQ p) (by unfold maxLen;omega) (by omega) (by simp) ?_);intro v2 w2 ho hgr hat;obtain⟨a2,c2,rfl⟩:=ownsRow_form ho;go_simp;have k2:ae (fun x=>x<w.heap.size) w w2:=L8.tr (ae.bB hgr (fun x hx=>⟨aD hx L8.size,fun e=>by have:=Ke.lt x e.symm;have:=OD.size;omega⟩));refine⟨(HC _).2 k2,hK _ _ ?_⟩;rw[Nat.zero_add,List.nil_append]at ho;have jH:=hid ho;have pY:=hid k2;have S2:=hid (Nat.le_trans (Nat.le_trans (aG _) (by simp:W0.heap.size<=(W0.alloc (.cells #[] 56 (0,0))).heap.size)) hgr.size);clear hK K ho k2 hgr hat
   repeat (refine ft (fun K hK=>?_);first | (refine lexN rfl ?_;try go_simp;refine hK _ _ ?_;clear hK K) | (refine Uk rfl rfl ?_;unfold aF;go_simp;refine hK _ _ ?_;clear hK K))
   refine ft (fun K hK=>?_);refine Pf rfl rfl (rh (.tmp 16) (.tmp 20) 26 rfl (W0.heap.size) 56 i0 (.agg #[.int .u64 0,.int .u64 0,.int .u64 0,.int .u64 0]) 4 32 Tryz.underlying26 hi hz0 hz1 hz2 rfl (by decide) _ (n) _ rfl (jH) (⟨g2,0,none⟩) (m) (agv) (aP q) rfl (by rw[cP,HMm.out]) (fun j u hj=>(pY.cell (p:=(⟨g2,0,none⟩:Addr).add j) (by rw[Addr.add_mid];exact hg2)).trans (HR2 j u hj)) (gQ q) (by unfold maxLen;omega) (by omega) (S2) ?_);intro v3 w3 ho hgr hat;obtain⟨a3,c3,rfl⟩:=ownsRow_form ho;go_simp;have k3:ae (fun x=>x<w.heap.size) w w3:=pY.tr (ae.bB hgr (fun x hx=>⟨aD hx pY.size,fun e=>by have:=jH.lt x e.symm;have:=OD.size;omega⟩));refine⟨(HC _).2 k3,hK _ _ ?_⟩;have o3:w3.ownsRow W0.heap.size 56 4 (.slice a3 (n+m) c3) (p++q).length (aP (p++q)):=by
    rw[aJ, <-HNn.out, <-HMm.out,gO];exact ho
   have HI3:=hid (jn o3);have Wq:=hid k3;clear hK K ho k3 hgr hat o3;have HS:=hid (fun x (hx:x<w.heap.size)=>hx);refine ft (fun K hK=>?_);refine Pf rfl rfl ?_;go_simp;refine eN ((jJ (p++q) _ _ HI3 (by rw[aJ, <-HNn.out, <-HMm.out];omega)).mono ?_);rintro e w4 ⟨bo,rfl,h1,hx⟩;have hk4:=ae.Wk Wq HS hx;refine⟨_,rfl,(HC _).2 hk4,hK _ _ ?_⟩;have HK4:=hid hk4;clear hK K hk4
   repeat (refine ft (fun K hK=>?_);first | (refine lexN rfl ?_;try go_simp;refine hK _ _ ?_;clear hK K) | (refine Uk rfl rfl ?_;unfold aF;go_simp;refine hK _ _ ?_;clear hK K))
   refine DI ?_;go_wp2;exact HJ _ _ ⟨bo,rfl,h1.base Wq.size,HK4.below⟩
end
end Go.Proofs.YtjgccapbphadjaaGreatDoor
