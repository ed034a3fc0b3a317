/- Walks of package alphabet: Join. -/
import Derived.Test.YtpcmhjbehdgdbaaGreatDoorOI01
import Derived.WalkSpells
import Derived.WalkLawsBesides
import Derived.TacticsInMore
import Derived.LoopNIn
import Derived.LoopIn
import Derived.Shelf.AbstractIn
import Derived.Maps.OwnIn
import Derived.Shelf.SlSortCmp.NoneTotal
import Derived.Deep.WholeRow
set_option maxRecDepth 100000
set_option maxHeartbeats 16000000
open Go.Lib (hid)
namespace Go.Proofs.YtpcmhjbehdgdbaaGreatDoor
section
open Go Go.RowKit
abbrev BS:=BitVec 256
def wd (s:BS) (i:Nat):BitVec 64:=s.extractLsb' (64*i) 64
def encS (s:BS):Array Value:= #[.int .u64 (wd s 0).toNat,.int .u64 (wd s 1).toNat,.int .u64 (wd s 2).toNat,.int .u64 (wd s 3).toNat]
theorem je (s:BS):(encS s).size=4:=rfl
theorem gK (s:BS) {k:Nat} (hk:k<4):(encS s)[k]? =some (.int .u64 (wd s k).toNat):=by
 match k,hk with
 | 0,_=>rfl
 | 1,_=>rfl
 | 2,_=>rfl
 | 3,_=>rfl
theorem ur (op:BinOp) (x y:BitVec 64):bits op .u64 x.toNat y.toNat=((match op with | .and=>x&&& y | .or=>x ||| y | .xor=>x ^^^ y | _=>x&&& ~~~y).toNat:Int):=by
 have hx:BitVec.ofInt (IntKind.u64).bits (x.toNat:Int)=x:=by apply BitVec.eq_of_toNat_eq;simp[IntKind.bits]
 have hy:BitVec.ofInt (IntKind.u64).bits (y.toNat:Int)=y:=by apply BitVec.eq_of_toNat_eq;simp[IntKind.bits]
 have hw:∀ z:BitVec 64,IntKind.u64.wrap (z.toNat:Int)=z.toNat:=fun z=>by
  have:=z.isLt;simp only[IntKind.wrap,IntKind.bits,IntKind.signed,Bool.false_and,Bool.false_eq_true,if_false];omega
 unfold bits;simp only[hx,hy];cases op<;>exact hw _
theorem zJ (x y:BitVec 64):bits .or .u64 x.toNat y.toNat=((x ||| y).toNat:Int):=ur .or x y
theorem Cv (x y:BitVec 64):bits .and .u64 x.toNat y.toNat=((x&&& y).toNat:Int):=ur .and x y
theorem Nq (x y:BitVec 64):bits .xor .u64 x.toNat y.toNat=((x ^^^ y).toNat:Int):=ur .xor x y
theorem JM (x y:BitVec 64):bits .andNot .u64 x.toNat y.toNat=((x&&& ~~~y).toNat:Int):=ur .andNot x y
theorem Nr (x:BitVec 64):bits .xor .u64 IntKind.u64.max x.toNat=((~~~x).toNat:Int):=by
 have h:IntKind.u64.max=((BitVec.allOnes 64).toNat:Int):=by decide
 rw[h,Nq,BitVec.allOnes_xor]
theorem Cw (n:Nat) (h:n<2^64):bits .and .u64 (n:Int) 1=((n%2:Nat):Int):=by
 have e1:((BitVec.ofNat 64 n).toNat:Int)=n:=by rw[BitVec.toNat_ofNat,Nat.mod_eq_of_lt h]
 have e2:(((1:BitVec 64)).toNat:Int)=1:=rfl;rw[<-e1, <-e2,Cv];congr 1;rw[BitVec.toNat_and,BitVec.toNat_ofNat,Nat.mod_eq_of_lt h];exact Nat.and_one_is_mod n
theorem ZW (s t:BS) (i:Nat):wd (s ||| t) i=wd s i ||| wd t i:=by unfold wd;exact BitVec.extractLsb'_or ..
theorem Ns (s t:BS) (i:Nat):wd (s&&& t) i=wd s i&&& wd t i:=by unfold wd;exact BitVec.extractLsb'_and ..
theorem Nu (s:BS) {i:Nat} (hi:i<4):wd (~~~s) i= ~~~(wd s i):=by
 unfold wd;apply BitVec.eq_of_getLsbD_eq;intro k hk;simp only[BitVec.getLsbD_extractLsb',BitVec.getLsbD_not,hk,decide_true,Bool.true_and];have:64*i+k<256:=by omega
 simp[this]
theorem RQ (i:Nat):wd 0 i=0:=by unfold wd;exact BitVec.extractLsb'_zero ..
theorem BS.VD {s t:BS} (h:∀ i,i<4->wd s i=wd t i):s=t:=by apply BitVec.eq_of_getLsbD_eq;intro k hk;have h1:=congrArg (fun b:BitVec 64=>b.getLsbD (k%64)) (h (k/64) (by omega));simp only[wd,BitVec.getLsbD_extractLsb',show k%64<64 from by omega,decide_true,Bool.true_and]at h1;rwa[show 64*(k/64)+k%64=k from by omega]at h1
theorem VE (s:BS) (c:Nat):(wd s (c/64)).toNat/2^ (c%64)%2=(s.getLsbD c).toNat:=by
 have h:(wd s (c/64)).getLsbD (c%64)=s.getLsbD c:=by simp only[wd,BitVec.getLsbD_extractLsb',show c%64<64 from by omega,decide_true,Bool.true_and];rw[show 64*(c/64)+c%64=c from by omega]
 rw[<-h,BitVec.getLsbD,Nat.testBit_eq_decide_div_mod_eq];have:=Nat.mod_lt ((wd s (c/64)).toNat/2^ (c%64)) (show 0<2 by decide);generalize (wd s (c/64)).toNat/2^ (c%64)%2=z at*;match z,this with
 | 0,_=>rfl
 | 1,_=>rfl
theorem Nv (s:BS) (c:Nat):(bits .and .u64 (((wd s (c/64)).toNat:Int)/2^ (c%64)) 1==1)=s.getLsbD c:=by
 have h:(((wd s (c/64)).toNat:Int)/2^ (c%64))=((((wd s (c/64)).toNat/2^ (c%64):Nat)):Int):=by simp
 rw[h,Cw _ (Nat.lt_of_le_of_lt (Nat.div_le_self _ _) (wd s (c/64)).isLt),VE];cases s.getLsbD c<;>rfl
/-! '==' on arrays of whole numbers. -/
theorem qp {P:Program} {w:World} {e:TypeId} {cs:Array Value} {i:Nat} {v:Value} (ha:∀ w,(isAgg e).run P w=.ok false w) (h:cs[i]? =some v):(part e cs i).run P w=.ok v w:=by unfold part;simp[Sem.run_bind,ha,h]
theorem run_equalIn_array {P:Program} (w:World) (d:Nat) {t e:TypeId} {len:Nat} {k:IntKind} (xs ys:Array Value) (x y:Nat->Int) (ht:P.underlying t=some (.array len e)) (he:P.underlying e=some (.int k)) (ha:∀ w,(isAgg e).run P w=.ok false w) (hz:∀ w,(sizeOf e).run P w=.ok 1 w) (hx:∀ i,i<len->xs[i]? =some (.int k (x i))) (hy:∀ i,i<len->ys[i]? =some (.int k (y i))): (Op.equalIn (d+2) t (.agg xs) (.agg ys)).run P w=.ok ((List.range len).all fun i=>x i==y i) w:=by
 rw[show d+2=(d+1)+1 from rfl,Op.equalIn];simp only[Sem.run_bind,run_underlying ht,Result.andThen_ok,hz];simp only[Std.Legacy.Range.forIn_eq_forIn_range',Std.Legacy.Range.size,Nat.sub_zero,Nat.add_one_sub_one,Nat.div_one]
 have key:∀ (l:List Nat),(∀ i∈l,i<len)->(Sem.run P (forIn (m:=Sem) l ((none,()):Option Bool×Unit) fun i (_:Option Bool×Unit)=>do
   let a <-part e xs (i*1)
   let b <-part e ys (i*1)
   let r <-Op.equalIn (d+1) e a b
   if(!r)=true then pure (ForInStep.done (some false,()))else pure (ForInStep.yield (none,()))) w)=.ok (if(l.all fun i=>x i==y i)then none else some false,()) w:=by
  intro l;induction l with
  | nil=>intro _;simp
  | cons i l ih=>
   intro hl;have hi:=hl i (by simp);simp only[List.forIn_cons,Sem.run_bind,Nat.mul_one,qp ha (hx i hi),qp ha (hy i hi),Result.andThen_ok,run_equalIn_int w d e k k _ _ he];by_cases h:x i=y i
   ·have h':(x i==y i)=true:=by simpa using h
    have:=ih (fun j hj=>hl j (by simp[hj]));simp only[Nat.mul_one]at this;simp only[h',Bool.not_true,Bool.false_eq_true,if_false,Sem.run_pure,Result.andThen_ok,List.all_cons,Bool.true_and];exact this
   ·have h':(x i==y i)=false:=by simpa using h
    simp[h']
 rw[key (List.range' 0 len) (fun i hi=>by simpa[List.mem_range']using hi)];simp only[Result.andThen_ok];rw[List.range_eq_range'];split<;>simp_all
theorem Nw (s t:BS):((List.range 4).all fun i=>(((wd s i).toNat:Int)==((wd t i).toNat:Int)))=(s==t):=by
 rw[Bool.eq_iff_iff];simp only[List.all_eq_true,List.mem_range,beq_iff_eq];constructor
 ·intro h;exact BS.VD fun i hi=>BitVec.eq_of_toNat_eq (by have:=h i hi;omega)
 ·intro h i _;rw[h]
theorem zK {C:World->Prop} {S:Nat->Prop} {w:World} (hC:∀ W,C W↔ae S w W) {b:Nat} {s:BS} {t:TypeId} (hs:S b) (h:aq w b (encS s) t): (∀ W: {W//C W},W.1.cell? ⟨b,0,none⟩=some (.int .u64 (wd s 0).toNat))/\(∀ W: {W//C W},W.1.cell? ⟨b,1,none⟩=some (.int .u64 (wd s 1).toNat))/\ (∀ W: {W//C W},W.1.cell? ⟨b,2,none⟩=some (.int .u64 (wd s 2).toNat))/\(∀ W: {W//C W},W.1.cell? ⟨b,3,none⟩=some (.int .u64 (wd s 3).toNat)):=
 ⟨dJ hC (p:=⟨b,0,none⟩) hs (h.cell 0),dJ hC (p:=⟨b,1,none⟩) hs (h.cell 1),dJ hC (p:=⟨b,2,none⟩) hs (h.cell 2),dJ hC (p:=⟨b,3,none⟩) hs (h.cell 3)⟩
theorem aq.xD {w:World} {b:Nat} {s:BS} {t:TypeId} (h:aq w b (encS s) t): w.cell? ⟨b,0,none⟩=some (.int .u64 (wd s 0).toNat)/\w.cell? ⟨b,1,none⟩=some (.int .u64 (wd s 1).toNat)/\w.cell? ⟨b,2,none⟩=some (.int .u64 (wd s 2).toNat)/\w.cell? ⟨b,3,none⟩=some (.int .u64 (wd s 3).toNat):=
 ⟨h.cell 0,h.cell 1,h.cell 2,h.cell 3⟩
def mJ (s:BS) (c:Nat):BS:=s ||| BitVec.twoPow 256 c
theorem kD (s:BS) {c d:Nat} (hc:c<256):(mJ s c).getLsbD d=(s.getLsbD d || (d==c)):=by unfold mJ;rw[BitVec.getLsbD_or,BitVec.getLsbD_twoPow];simp only[hc,decide_true,Bool.true_and];congr 1;rw[Bool.eq_iff_iff];simp;exact eq_comm
theorem Nx (s:BS) {c i:Nat} (hc:c<256) (hi:i<4):wd (mJ s c) i=if i=c/64 then wd s i ||| BitVec.twoPow 64 (c%64)else wd s i:=by
 have hm:c%64<64:=Nat.mod_lt _ (by decide);split
 ·rename_i h
  subst h;apply BitVec.eq_of_getLsbD_eq;intro k hk;have h2:∀ d,(mJ s c).getLsbD d=(s.getLsbD d || (d==c)):=fun d=>kD s hc
  simp only[wd,BitVec.getLsbD_extractLsb',hk,decide_true,Bool.true_and,h2,BitVec.getLsbD_or,BitVec.getLsbD_twoPow,hm];congr 1;rw[Bool.eq_iff_iff];simp;omega
 ·rename_i h
  apply BitVec.eq_of_getLsbD_eq;intro k hk;simp only[wd,BitVec.getLsbD_extractLsb',hk,decide_true,Bool.true_and,kD s hc];rw[show(64*i+k==c)=false from by simp;omega,Bool.or_false]
theorem FU (x:BitVec 64) {m:Nat} (hm:m<64):bits .or .u64 x.toNat (IntKind.u64.wrap (2^m))=((x ||| BitVec.twoPow 64 m).toNat:Int):=by
 have h:IntKind.u64.wrap (2^m)=((BitVec.twoPow 64 m).toNat:Int):=by
  have h1:(2:Nat)^m<2^64:=Nat.pow_lt_pow_right (by decide) hm;have h2:((2:Int)^m)=((2^m:Nat):Int):=by simp
  rw[BitVec.toNat_twoPow,Nat.mod_eq_of_lt h1,h2];simp only[IntKind.wrap,IntKind.bits,IntKind.signed,Bool.false_and,Bool.false_eq_true,if_false];exact Int.emod_eq_of_lt (Int.natCast_nonneg _) (by exact_mod_cast h1)
 rw[h,zJ]
theorem uR (s:BS) {c:Nat} (hc:c<256):(encS s).setIfInBounds (c/64) (.int .u64 (bits .or .u64 (wd s (c/64)).toNat (IntKind.u64.wrap (2^ (c%64)))))=encS (mJ s c):=by
 rw[FU _ (Nat.mod_lt _ (by decide))];apply Array.ext_getElem?;intro i;rw[Array.getElem?_setIfInBounds];by_cases hi:i<4
 ·rw[gK _ hi,gK _ hi,Nx s hc hi]
  split
  ·rename_i h;subst h;simp[je,hi]
  ·rename_i h;rw[if_neg (fun e=>h e.symm)]
 ·have h1:(encS s)[i]? =none:=by simp[je];omega
  have h2:(encS (mJ s c))[i]? =none:=by simp[je];omega
  rw[h1,h2];split
  ·rw[if_neg (by rw[je];omega)]
  ·rfl
def oo (p:Nat->Bool):BS:=(List.range 256).foldl (fun s c=>if p c then mJ s c else s) 0
theorem Ny (p:Nat->Bool):∀ n,n<=256->∀ d,((List.range n).foldl (fun s c=>if p c then mJ s c else s) (0:BS)).getLsbD d=(decide (d<n)&&p d):=by
 intro n;induction n with
 | zero=>intro _ d;simp
 | succ n ih=>
  intro hn d;rw[List.range_succ,List.foldl_append,List.foldl_cons,List.foldl_nil];have h:=ih (by omega) d;by_cases hp:p n=true
  ·rw[if_pos hp,kD _ (by omega),h]
   by_cases hd:d=n
   ·subst hd;simp[hp]
   ·rw[Bool.eq_iff_iff];simp[hd];intro _;omega
  ·rw[if_neg hp,h]
   by_cases hd:d=n
   ·subst hd;simp[hp]
   ·rw[Bool.eq_iff_iff];simp;intro _;omega
theorem Nz (p:Nat->Bool) {d:Nat} (hd:d<256):(oo p).getLsbD d=p d:=by have:=Ny p 256 (aD _) d;rw[oo,this];simp[hd]
theorem BS.ext {s t:BS} (h:∀ c,c<256->s.getLsbD c=t.getLsbD c):s=t:=BitVec.eq_of_getLsbD_eq h
theorem BS.Ir {s:BS} {p:Nat->Bool} (h:∀ c,c<256->s.getLsbD c=p c):s=oo p:=BS.ext fun c hc=>by rw[h c hc,Nz p hc]
def cR {α:Type} (enc:α->Value) (w:World) (v:Value) (l:List α):Prop:=
 (v=.slice none 0 0/\l=[])\/∃ b off cap,v=.slice (some ⟨b,off,none⟩) l.length cap/\b<w.heap.size/\l.length<=cap/\∀ i x,l[i]? =some x->w.cell? ⟨b,off+i,none⟩=some (enc x)
theorem qq (s:BS) (c:Nat) (hc:c<256) (w:World): ag 145 #[.agg (encS s),.int .u8 c] w fun e w'=>e=.returned (.bool (s.getLsbD c))/\Ext w w':=by have hcell:=gK s (show c/64<4 by omega);go_enter Tryz.func145,Tryz.ntmps145;go_wp2;go_ret;exact⟨congrArg (fun b=>Ending.returned (.bool b)) (Nv s c),(Ext.refl w).alloc _⟩
theorem RS (x y:BitVec 64) (w:World):ag 169 #[.int .u64 x.toNat,.int .u64 y.toNat] w fun e w'=>e=.returned (.int .u64 (x ||| y).toNat)/\w'=w:=by have h:=zJ x y;go_enter Tryz.func169,Tryz.ntmps169;go_wp2;go_ret;exact⟨rfl,rfl⟩
theorem NA (x y:BitVec 64) (w:World):ag 140 #[.int .u64 x.toNat,.int .u64 y.toNat] w fun e w'=>e=.returned (.int .u64 (x&&& y).toNat)/\w'=w:=by have h:=Cv x y;go_enter Tryz.func140,Tryz.ntmps140;go_wp2;go_ret;exact⟨rfl,rfl⟩
theorem JN (x y:BitVec 64) (w:World):ag 141 #[.int .u64 x.toNat,.int .u64 y.toNat] w fun e w'=>e=.returned (.int .u64 (x&&& ~~~y).toNat)/\w'=w:=by
 go_enter Tryz.func141,Tryz.ntmps141
 go_wp2;go_ret;exact⟨congrArg (fun z=>Ending.returned (.int .u64 z)) (JM x y),rfl⟩
theorem NB (x y:BitVec 64) (w:World):ag 158 #[.int .u64 x.toNat,.int .u64 y.toNat] w fun e w'=>e=.returned (.int .u64 (~~~x).toNat)/\w'=w:=by have hsg:IntKind.u64.signed=false:=rfl;go_enter Tryz.func158,Tryz.ntmps158;go_wp2;go_ret;exact⟨congrArg (fun z=>Ending.returned (.int .u64 z)) (Nr x),rfl⟩
def zL (u:BS) (k:Nat):Array Value:= #[.int .u64 (if 0<k then wd u 0 else 0).toNat,.int .u64 (if 1<k then wd u 1 else 0).toNat,.int .u64 (if 2<k then wd u 2 else 0).toNat,.int .u64 (if 3<k then wd u 3 else 0).toNat]
theorem FV (u:BS) {k:Nat} (hk:k<4):(zL u k).setIfInBounds k (.int .u64 (wd u k).toNat)=zL u (k+1):=by
 match k,hk with
 | 0,_=>rfl
 | 1,_=>rfl
 | 2,_=>rfl
 | 3,_=>rfl
theorem FX (u:BS) {k j:Nat} (hj:j<4):∃ z:Nat,(zL u k)[j]? =some (.int .u64 z):=by
 match j,hj with
 | 0,_=>exact⟨_,rfl⟩
 | 1,_=>exact⟨_,rfl⟩
 | 2,_=>exact⟨_,rfl⟩
 | 3,_=>exact⟨_,rfl⟩
theorem qs (s t u:BS) (f:BitVec 64→BitVec 64→BitVec 64) (g:Nat) (w:World) (hu:∀ i,i<4→f (wd s i) (wd t i)=wd u i) (eg:∀ args w,(callFunc g args).run Tryz.prog w=.ok (.enter g args) w) (hg:∀ (x y:BitVec 64) W,ag g #[.int .u64 x.toNat,.int .u64 y.toNat] W fun e w'=>e=.returned (.int .u64 (f x y).toNat)∧w'=W): ag 139 #[.agg (encS s),.agg (encS t),.func (.func g) #[] #[]] w fun e w'=>e=.returned (.agg (encS u))∧Ext w w':=by
  have HG:=hid hg;have HU:=hid hu;clear hg hu;go_enter Tryz.func139,Tryz.ntmps139;go_wp2
  go_loopw [9,8] (fun i _ wr=>∃ k:Nat,k≤4∧i=.int .i64 k∧aq wr w.heap.size (encS s) 37∧aq wr (w.heap.size+1) (encS t) 37∧aq wr (w.heap.size+1+1+1) (zL u k) 37∧
     aq wr (w.heap.size+1+1) #[.int .u64 0,.int .u64 0,.int .u64 0,.int .u64 0] 37∧Ext w wr)
     (fun i _ _=>4-(intOf i).toNat)
  case atStart=>
    refine⟨0,by omega,rfl,?_,?_,?_,?_,(((((Ext.refl w).alloc _).alloc _).alloc _).alloc _)⟩<;>(repeat (first | (refine(aq.new _ _ _).at ?_;simp;done) | refine aq.alloc ?_ _))
  case round=>
    obtain⟨k,hk,rfl,hA,hB,hO,hR,hx⟩:=hrel;by_cases hlt:k<4
    · have ca:=(hA.cell k).trans (gK s hlt)
      have cb:=(hB.cell k).trans (gK t hlt);obtain⟨z,hz⟩:=FX u (k:=k) hlt;have HA:=hid hA;have HB:=hid hB;have HO:=hid hO;have HR:=hid hR;have HX:=hid hx;have HF:=hid (HU.out k hlt);clear hA hB hO hR hx;go_wp2;refine gI (fun b=>b=w.heap.size∨b=w.heap.size+1) (by kernel_rfl) (fun i=>i==8 || i==10) (by kernel_rfl) ?_;intro C hC hne W0 Iu hblk hsz hx0;have Mq:=hid hx0;clear hx0;have fa:=dJ hC (.inl rfl) ca;have fb:=dJ hC (.inr rfl) cb;have HO':=hid (HO.same (hblk _));have co:=(HO'.cell k).trans hz;have cf:=HO'.frozen k;have HC:=hid hC;have HBl:=hid hblk;have HK:=hid Iu;have HZ:=hid hz;clear hC ca cb hblk Iu hz
      repeat (refine bR (fun K hK=>?_);refine dI rfl ?_;unfold aB;go_simp;refine hK _ _ ?_;clear hK K)
      refine bR (fun K hK=>?_);refine eM rfl ?_;go_simp;refine fe ((HG _ _ _).mono ?_);rintro e w' ⟨rfl,rfl⟩;refine⟨_,rfl,(HC _).2 HK,hK _ _ ?_⟩;clear hK K
      repeat (refine bR (fun K hK=>?_);refine dI rfl ?_;unfold aB;go_simp;refine hK _ _ ?_;clear hK K)
      refine bR (fun K hK=>?_);refine eM rfl ?_;go_simp;refine⟨(HC _).2 (HK.setCell (by simp;omega) _),hK _ _ ?_⟩;clear hK K;refine rC ?_;go_wp2;go_roundw
      case rel=>
        refine⟨k+1,by omega,by go_num,?_,?_,?_,?_,?_⟩
        · exact(HA.same (HBl _)).other (by simp<;>omega) _
        · exact(HB.same (HBl _)).other (by simp<;>omega) _
        · rw[←FV u hlt, ←HF.out];exact HO'.set k _
        · exact(HR.same (HBl _)).other (by simp<;>omega) _
        · exact Ext.setCell (HX.trans Mq) (by simp;omega) _
      case measure=>simp[intOf];omega
    · obtain rfl:k=4:=by omega
      have c0:wr.cell? ⟨w.heap.size+1+1+1,0,none⟩=some (.int .u64 (wd u 0).toNat):=hO.cell 0;have c1:wr.cell? ⟨w.heap.size+1+1+1,1,none⟩=some (.int .u64 (wd u 1).toNat):=hO.cell 1;have c2:wr.cell? ⟨w.heap.size+1+1+1,2,none⟩=some (.int .u64 (wd u 2).toNat):=hO.cell 2;have c3:wr.cell? ⟨w.heap.size+1+1+1,3,none⟩=some (.int .u64 (wd u 3).toNat):=hO.cell 3;have r0:wr.cell? ⟨w.heap.size+1+1,0,none⟩=some (.int .u64 0):=hR.cell 0;have r1:wr.cell? ⟨w.heap.size+1+1,1,none⟩=some (.int .u64 0):=hR.cell 1;have r2:wr.cell? ⟨w.heap.size+1+1,2,none⟩=some (.int .u64 0):=hR.cell 2;have r3:wr.cell? ⟨w.heap.size+1+1,3,none⟩=some (.int .u64 0):=hR.cell 3;have rf:=hR.frozen;clear hO hA hB hR;go_wp2;refine bodyPost_ret (v:=.agg (encS u)) ?_ rfl ⟨rfl,?_⟩
      · simp[results,Tryz.results139,go_sem,r0,r1,r2,r3,encS]
      · exact(((hx.setCell (by simp;omega) _).setCell (by simp;omega) _).setCell (by simp;omega) _).setCell (by simp;omega) _
end
section
open Go Go.RowKit Go.Shelf
attribute [local go_sem] encS
theorem VF (s t:BS) (w:World):ag 144 #[.agg (encS s),.agg (encS t)] w fun e w'=>e=.returned (.agg (encS (s ||| t)))/\Ext w w':=by
 have eg:∀ args w,(callFunc 169 args).run Tryz.prog w=.ok (.enter 169 args) w:=enters_of Tryz.func169 (by kernel_rfl) rfl;have H:=hid fun W=>qs s t (s ||| t) (· ||| ·) 169 W (fun i _=>(ZW s t i).symm) eg RS
 clear eg;obtain⟨u,hu⟩:=ah (s ||| t);rw[<-hu]at H ⊢;clear hu;go_enter Tryz.func144,Tryz.ntmps144;go_wp2_with (go_at_call 139;refine(H _).mono ?_;rintro e w1 ⟨rfl,hx⟩;have HX:=hid hx;obtain⟨hc,hf⟩:=hx.cells;clear hx);refine bodyPost_ret (v:=.agg (encS u)) ?_ rfl ⟨rfl,?_⟩
 ·simp[results,Tryz.results144,go_sem,hc]
 ·exact(((((((Ext.refl w).alloc _).alloc _).alloc _).trans HX).setCell (by simp<;>omega) _ |>.setCell (by simp<;>omega) _).setCell (by simp<;>omega) _).setCell (by simp<;>omega) _
theorem RU (s t:BS) (w:World):ag 105 #[.agg (encS s),.agg (encS t)] w fun e w'=>e=.returned (.agg (encS (s&&& t)))/\Ext w w':=by
 have eg:∀ args w,(callFunc 140 args).run Tryz.prog w=.ok (.enter 140 args) w:=enters_of Tryz.func140 (by kernel_rfl) rfl;have H:=hid fun W=>qs s t (s&&& t) (· &&& ·) 140 W (fun i _=>(Ns s t i).symm) eg NA
 clear eg;obtain⟨u,hu⟩:=ah (s&&& t);rw[<-hu]at H ⊢;clear hu;go_enter Tryz.func105,Tryz.ntmps105;go_wp2_with (go_at_call 139;refine(H _).mono ?_;rintro e w1 ⟨rfl,hx⟩;have HX:=hid hx;obtain⟨hc,hf⟩:=hx.cells;clear hx);refine bodyPost_ret (v:=.agg (encS u)) ?_ rfl ⟨rfl,?_⟩
 ·simp[results,Tryz.results105,go_sem,hc]
 ·exact(((((((Ext.refl w).alloc _).alloc _).alloc _).trans HX).setCell (by simp<;>omega) _ |>.setCell (by simp<;>omega) _).setCell (by simp<;>omega) _).setCell (by simp<;>omega) _
theorem uS (s t:BS) (w:World):ag 106 #[.agg (encS s),.agg (encS t)] w fun e w'=>e=.returned (.agg (encS (s&&& ~~~t)))/\Ext w w':=by
 have eg:∀ args w,(callFunc 141 args).run Tryz.prog w=.ok (.enter 141 args) w:=enters_of Tryz.func141 (by kernel_rfl) rfl;have H:=hid fun W=>qs s t (s&&& ~~~t) (fun x y=>x&&& ~~~y) 141 W (fun i hi=>by rw[Ns,Nu t hi]) eg JN
 clear eg;obtain⟨u,hu⟩:=ah (s&&& ~~~t);rw[<-hu]at H ⊢;clear hu;go_enter Tryz.func106,Tryz.ntmps106;go_wp2_with (go_at_call 139;refine(H _).mono ?_;rintro e w1 ⟨rfl,hx⟩;have HX:=hid hx;obtain⟨hc,hf⟩:=hx.cells;clear hx);refine bodyPost_ret (v:=.agg (encS u)) ?_ rfl ⟨rfl,?_⟩
 ·simp[results,Tryz.results106,go_sem,hc]
 ·exact(((((((Ext.refl w).alloc _).alloc _).alloc _).trans HX).setCell (by simp<;>omega) _ |>.setCell (by simp<;>omega) _).setCell (by simp<;>omega) _).setCell (by simp<;>omega) _
theorem RV (s:BS) (w:World):ag 138 #[.agg (encS s)] w fun e w'=>e=.returned (.agg (encS (~~~s)))/\Ext w w':=by
 have eg:∀ args w,(callFunc 158 args).run Tryz.prog w=.ok (.enter 158 args) w:=enters_of Tryz.func158 (by kernel_rfl) rfl;have H:=hid fun W=>qs s s (~~~s) (fun x _=> ~~~x) 158 W (fun i hi=>by rw[Nu s hi]) eg NB
 clear eg;obtain⟨u,hu⟩:=ah (~~~s);rw[<-hu]at H ⊢;clear hu;go_enter Tryz.func138,Tryz.ntmps138;go_wp2_with (go_at_call 139;refine(H _).mono ?_;rintro e w1 ⟨rfl,hx⟩;have HX:=hid hx;obtain⟨hc,hf⟩:=hx.cells;clear hx);refine bodyPost_ret (v:=.agg (encS u)) ?_ rfl ⟨rfl,?_⟩
 ·simp[results,Tryz.results138,go_sem,hc]
 ·exact((((((Ext.refl w).alloc _).alloc _).trans HX).setCell (by simp<;>omega) _ |>.setCell (by simp<;>omega) _).setCell (by simp<;>omega) _).setCell (by simp<;>omega) _
theorem gi:encS 0= #[.int .u64 0,.int .u64 0,.int .u64 0,.int .u64 0]:=rfl
theorem jf (s t:BS) (w:World):(Op.equalIn 10000 37 (.agg (encS s)) (.agg (encS t))).run Tryz.prog w=.ok (s==t) w:=by rw[<-Nw];exact run_equalIn_array w 9998 (encS s) (encS t) (fun i=>(wd s i).toNat) (fun i=>(wd t i).toNat) Tryz.underlying37 Tryz.underlying35 Tryz.isAgg35 Tryz.sizeOf35 (fun i hi=>gK s hi) (fun i hi=>gK t hi)
theorem RY (w:World):ag 104 #[] w fun e w'=>e=.returned (.agg (encS (~~~(0:BS))))/\Ext w w':=by
 have H:=hid fun W=>RV 0 W
 obtain⟨u,hu⟩:=ah (~~~(0:BS));rw[<-hu]at H ⊢;clear hu;rw[gi]at H;go_enter Tryz.func104,Tryz.ntmps104;go_wp2_with (go_at_call 138;refine(H _).mono ?_;rintro e w1 ⟨rfl,hx⟩;have HX:=hid hx;obtain⟨hc,hf⟩:=hx.cells;clear hx);refine bodyPost_ret (v:=.agg (encS u)) ?_ rfl ⟨rfl,?_⟩
 ·simp[results,Tryz.results104,go_sem,hc]
 ·exact(((((Ext.refl w).alloc _).trans HX).setCell (by simp<;>omega) _ |>.setCell (by simp<;>omega) _).setCell (by simp<;>omega) _).setCell (by simp<;>omega) _
end
section
open Go Go.RowKit Go.Shelf
attribute [local go_sem] encS Oper.semAt_some eU cJ
def bK (s:BS) (k:Nat):List Nat:=(List.range k).filter fun c=>s.getLsbD c
theorem gL (s:BS) (k:Nat):bK s (k+1)=bK s k++if s.getLsbD k then [k]else []:=by unfold bK;rw[List.range_succ,List.filter_append];by_cases h:s.getLsbD k=true<;>simp[h]
theorem uT (s:BS) {k n:Nat} (h:k<=n):bK s k<+:bK s n:=by
 induction n with
 | zero=>rw[show k=0 from by omega];exact List.prefix_rfl
 | succ n ih=>
  by_cases hk:k=n+1
  ·subst hk;exact List.prefix_rfl
  ·exact(ih (by omega)).trans (by rw[gL];exact List.prefix_append _ _)
theorem Iw (s:BS) (B:Nat) (w:World) (hB:aq w B (encS s) 37):Seq true Tryz.prog 148 #[.pointer (some ⟨B,0,none⟩)] (fun c:Nat=> #[.int .u8 c]) (· =B) (bK s 256) w:=by
 intro l J Jx W hK hJ NC hY h0;have HY:=hid hY;have HH:=hid (qq s);clear hY;refine callsIn_wide (n:=0).1 ?_;refine callsIn_of_wp Tryz.func148 rfl trivial ?_ rfl;simp only[Tryz.ntmps148,List.size_toArray,List.length_cons,List.length_nil,Nat.reduceAdd,Nat.reduceSub,Array.replicate_succ,Array.replicate_zero,List.push_toArray,List.append_toArray,List.nil_append,List.cons_append]
 gi_wp2
 gi_loopw [4] (fun i wr=>∃ (k:Nat) (T:Nat->Prop),k<=256/\i=.int .i64 k/\aq wr B (encS s) 37/\J (bK s k) T wr/\(∀ k,T k->W.heap.size<=k/\k<wr.heap.size)/\ae (· =B) W wr)
  (fun i _=>256-(intOf i).toNat)
 case atStart=>
  exact⟨0,fun _=>False,by omega,rfl,hB.keeps hK hB.lt,h0,fun _ h=>h.elim,ae.refl _ _⟩
 case round=>
  obtain⟨k,T,hk,rfl,hb,hj,hT,hR⟩:=hrel;by_cases hlt:k<256
  ·have c0:wr.cell? ⟨B,0,none⟩=some (.int .u64 (wd s 0).toNat):=hb.cell 0
   have c1:wr.cell? ⟨B,1,none⟩=some (.int .u64 (wd s 1).toNat):=hb.cell 1;have c2:wr.cell? ⟨B,2,none⟩=some (.int .u64 (wd s 2).toNat):=hb.cell 2;have c3:wr.cell? ⟨B,3,none⟩=some (.int .u64 (wd s 3).toNat):=hb.cell 3;have HB:=hid hb;have HJ:=hid hj;have HT:=hid hT;have HR:=hid hR;clear hb hj hT hR;have bF:=gL s k;by_cases kE:s.getLsbD k=true
   ·rw[if_pos kE]at bF
    have HP:=hid bF;have Mr:bK s k++ [k]<+:bK s 256:=by rw[<-bF];exact uT s (by omega)
    have yw:=hid Mr;have h1:∀ W,ag 145 #[.agg (encS s),.int .u8 k] W fun e w'=>e=.returned (.bool true)/\Ext W w':=fun W=>by have:=qq s k hlt W;rwa[kE]at this
    have H1:=hid h1;clear bF Mr h1 kE HH
    gi_wp2_with (gi_at_call 145;refine(callsIn_wide.2 (H1 _)).mono ?_;rintro e w1 ⟨rfl,hx⟩;obtain⟨fn,tm,ym,bd,hy,sN⟩:=HY.out (bK s k) k T w1 yw (fun j hj=>⟨(HT j hj).1,aw (HT j hj).2 hx.size⟩) (HR.tr (hx.mono fun j hj=>by rw[show j=B from hj];exact HB.lt)) (hJ.ext HJ HT hx);have HX:=hid hx;have BQ:=hid sN;clear hx sN)
    refine BQ.mono ?_;rintro e W2 (⟨rfl,fC,hk2⟩ | ⟨rfl,fC,hk2⟩)
    ·have mD:=hid fC
     have jO:=hid hk2;clear fC hk2 hy
     gi_wp2
     go_roundw
     case rel=>
      refine⟨k+1,T,by omega,by go_num,?_,?_,?_,?_⟩
      ·exact(HB.ext HX).keeps jO (.inl rfl)
      ·rw[HP.out];exact mD
      ·exact fun j hj=>⟨(HT j hj).1,aw (HT j hj).2 (Nat.le_trans HX.size jO.size)⟩
      ·exact(HR.tr (HX.mono fun j hj=>by rw[show j=B from hj];exact HB.lt)).tr (jO.mono fun j hj=>.inl hj)
     case measure=>simp[intOf];omega
    ·have mD:=hid fC
     have jO:=hid hk2;clear fC hk2 hy
     gi_wp2
     refine bodyPost_ret (results_none rfl _ _ _) rfl ?_;exact⟨⟨_,rfl⟩,T,fun j hj=>⟨(HT j hj).1,aw (HT j hj).2 (Nat.le_trans HX.size jO.size)⟩,.inr ⟨_,yw,mD⟩⟩
   ·have sO:s.getLsbD k=false:=by simpa using kE
    rw[if_neg kE,List.append_nil]at bF;have HP:=hid bF;have h1:∀ W,ag 145 #[.agg (encS s),.int .u8 k] W fun e w'=>e=.returned (.bool false)/\Ext W w':=fun W=>by have:=qq s k hlt W;rwa[sO]at this
    have H1:=hid h1;clear bF h1 kE sO HH
    gi_wp2_with (gi_at_call 145;refine(callsIn_wide.2 (H1 _)).mono ?_;rintro e w1 ⟨rfl,hx⟩;have HX:=hid hx;clear hx)
    go_roundw
    case rel=>
     refine⟨k+1,T,by omega,by go_num,?_,?_,?_,?_⟩
     ·exact HB.ext HX
     ·rw[HP.out];exact hJ.ext HJ HT HX
     ·exact fun j hj=>⟨(HT j hj).1,aw (HT j hj).2 HX.size⟩
     ·exact HR.tr (HX.mono fun j hj=>by rw[show j=B from hj];exact HB.lt)
    case measure=>simp[intOf];omega
  ·obtain rfl:k=256:=by omega
   gi_wp2
   refine bodyPost_end (results_none rfl _ _ _) rfl ?_;exact⟨⟨_,rfl⟩,T,hT,.inl hj⟩
theorem Cx (s:BS) (w:World):ag 118 #[.agg (encS s)] w fun e w'=>e=.returned (.func (.func 148) #[] #[.pointer (some ⟨w.heap.size,0,none⟩)])/\w'=w.alloc (.cells (encS s) 37 (0,0)):=by
 go_enter Tryz.func118,Tryz.ntmps118
 go_wp2;go_ret;exact⟨rfl,rfl⟩
def aZ (s:BS):Nat×Bool:=match bK s 256 with | []=>(0,false) | c::_=>(c,true)
theorem rI (s:BS) (w:World):ag 90 #[.agg (encS s)] w fun e w'=>e=.returned (.tuple #[.int .u8 (aZ s).1,.bool (aZ s).2])/\Ext w w':=by
 refine bG Tryz.func90 rfl ?_;simp only[Tryz.ntmps90,List.size_toArray,List.length_cons,List.length_nil,Nat.reduceAdd,Nat.reduceSub,Array.replicate_succ,Array.replicate_zero,List.push_toArray,List.append_toArray,List.nil_append,List.cons_append];go_wp2_with (go_at_call 118;refine(Cx s _).mono ?_;rintro e w1 ⟨rfl,rfl⟩);refine ax ?_;intro W0 hW0;have h1:aq W0 (w.heap.size+1) #[.int .u8 0] 5:=by rw[hW0];repeat (first | (refine(aq.new _ _ _).at ?_;simp;done) | refine aq.alloc ?_ _)
 have h2:aq W0 (w.heap.size+1+1) #[.bool false] 4:=by rw[hW0];repeat (first | (refine(aq.new _ _ _).at ?_;simp;done) | refine aq.alloc ?_ _)
 have h3:aq W0 (w.heap.size+1+1+1) (encS s) 37:=by rw[hW0];exact(aq.new _ _ _).at (by simp)
 have hx:Ext w W0:=by rw[hW0];exact((((Ext.refl w).alloc _).alloc _).alloc _).alloc _
 have hsz:W0.heap.size=w.heap.size+1+1+1+1:=by rw[hW0];simp
 have eg:∀ args w,(callFunc 148 args).run Tryz.prog w=.ok (.enter 148 args) w:=enters_of Tryz.func148 (by kernel_rfl) rfl;refine ig (w:=W0) (Iw s _ W0 h3) (by rfl) eg (by intro _;rfl) (by intro k hk;rw[show k=_ from hk,hsz];omega)
  (fun xs _ W=>xs=[]/\aq W (w.heap.size+1) #[.int .u8 0] 5/\aq W (w.heap.size+1+1) #[.bool false] 4/\Ext w W)
  (fun c xs _ W=>c=.ret/\∃ x,xs=[x]/\aq W (w.heap.size+1) #[.int .u8 x] 5/\aq W (w.heap.size+1+1) #[.bool true] 4/\Ext w W)
  (fun xs T T' W W' ⟨h0,h1,h2,h3⟩ hT _ _ _ hk=>⟨h0,h1.gT hT hk (by omega),h2.gT hT hk (by omega),h3.gT hT hk (by omega)⟩)
  (fun c xs T T' W W' ⟨h0,x,h1,h2,h3,h4⟩ hT _ _ _ hk=>⟨h0,x,h1,h2.gT hT hk (by omega),h3.gT hT hk (by omega),h4.gT hT hk (by omega)⟩)
  ⟨rfl,h1,h2,hx⟩
  (fun x=>⟨#[.agg (encS s),.pointer (some ⟨w.heap.size,0,none⟩),.pointer (some ⟨w.heap.size+1,0,none⟩),.pointer (some ⟨w.heap.size+1+1,0,none⟩),.int .u8 x,.agg (encS s),.func (.func 148) #[] #[.pointer (some ⟨w.heap.size+1+1+1,0,none⟩)],.int .u8 x,undef],[]⟩) ?assign ?body ?done ?stop
 case assign=>
  intro l x W K hK
  gi_wp2
  exact hK
 case body=>
  rintro l pre x T W bF hT hR rE hl ⟨rfl,h1,h2,hx⟩;have c1:W.cell? ⟨w.heap.size+1,0,none⟩=some (.int .u8 0):=h1.cell 0;have c2:W.cell? ⟨w.heap.size+1+1,0,none⟩=some (.bool false):=h2.cell 0;have f1:=h1.frozen 0;have f2:=h2.frozen 0;have H1:=hid h1;have H2:=hid h2;have HX:=hid hx;have HS:=hid hsz;have HT:=hid hT;clear h1 h2 hx hR hl rE hsz hW0 hT
  gi_wp2
  refine⟨((ae.refl _ _).setCell (fun h=>?_) _).setCell (fun h=>?_) _,rfl,x,rfl,(H1.set 0 _).other (by simp) _,(H2.other (by simp) _).set 0 _,(HX.setCell (by simp<;>omega) _).setCell (by simp<;>omega) _⟩
  ·have h1:=(HT.out _ h).1;have h2:=HS.out;dsimp only at h1;omega
  ·have h1:=(HT.out _ h).1;have h2:=HS.out;dsimp only at h1;omega
 case done=>
  rintro D T W hD rJ hT ⟨h0,h1,h2,hx⟩ jN;have c1:W.cell? ⟨w.heap.size+1,0,none⟩=some (.int .u8 0):=h1.cell 0;have c2:W.cell? ⟨w.heap.size+1+1,0,none⟩=some (.bool false):=h2.cell 0;have f1:=h1.frozen 0;have f2:=h2.frozen 0;have H1:=hid h1;have H2:=hid h2;have HX:=hid hx;have HS:=hid hsz;have HD:=hid hD;have oD:=hid jN;have H0:=hid h0;clear h1 h2 hx rJ hsz hW0 hT jN hD h0;dsimp only;go_wp2;have Fl:∀ b:Nat,b<w.heap.size+1+1+1->D≠b:=fun b hb=>by have h1:=HD.out;have h2:=HS.out;omega
  have ZX:=((ae.refl (· =D) W).setCell (p:=⟨w.heap.size+1,0,none⟩) (fun h=>Fl (w.heap.size+1) (by omega) (h.symm)) (.int .u8 0)).setCell (p:=⟨w.heap.size+1+1,0,none⟩) (fun h=>Fl (w.heap.size+1+1) (by omega) (h.symm)) (.bool false) |>.keep D rfl;rw[oD.out]at ZX;have q1:=(((H1.set 0 (.int .u8 0)).other (p:=⟨w.heap.size+1+1,0,none⟩) (by simp) (.bool false)).put (Fl _ (by omega)) (.deferred none)).cell 0;have q2:=(((H2.other (p:=⟨w.heap.size+1,0,none⟩) (by simp) (.int .u8 0)).set 0 (.bool false)).put (Fl _ (by omega)) (.deferred none)).cell 0;refine cB (v:=.tuple #[.int .u8 0,.bool false]) rfl ZX ?_ ⟨?_,?_⟩
  ·simp[results,Tryz.results90,go_sem,q1,q2]
  ·simp[aZ,H0.out]
  ·exact((HX.setCell (by simp<;>omega) _).setCell (by simp<;>omega) _).putObj (by have h1:=HD.out;have h2:=HS.out;omega) _
 case stop=>
  rintro D c pre T W hD rJ hT bF ⟨rfl,x,h0,h1,h2,hx⟩ jN;have c1:W.cell? ⟨w.heap.size+1,0,none⟩=some (.int .u8 x):=h1.cell 0;have c2:W.cell? ⟨w.heap.size+1+1,0,none⟩=some (.bool true):=h2.cell 0;have H1:=hid h1;have H2:=hid h2;have HX:=hid hx;have HS:=hid hsz;have HD:=hid hD;have oD:=hid jN;have H0:=hid h0;clear h1 h2 hx rJ hsz hW0 hT jN hD h0;dsimp only;go_wp2;have Fl:∀ b:Nat,b<w.heap.size+1+1+1->D≠b:=fun b hb=>by have h1:=HD.out;have h2:=HS.out;omega
  have q1:=(H1.put (Fl _ (by omega)) (.deferred none)).cell 0;have q2:=(H2.put (Fl _ (by omega)) (.deferred none)).cell 0;refine cB (v:=.tuple #[.int .u8 x,.bool true]) rfl oD ?_ ⟨?_,?_⟩
  ·simp[results,Tryz.results90,go_sem,q1,q2]
  ·obtain⟨r,hr⟩:=bF
   rw[H0.out]at hr;simp[aZ, <-hr]
  ·exact HX.putObj (by have h1:=HD.out;have h2:=HS.out;omega) _
end
section
open Go Go.RowKit Go.Shelf
attribute [local go_sem] encS
def aW (s t:BS):Int:=if(aZ ((s&&& ~~~t) ||| (t&&& ~~~s))).2 then(if s.getLsbD (aZ ((s&&& ~~~t) ||| (t&&& ~~~s))).1 then-1 else 1)else 0
theorem FY (s:BS):(aZ s).1<256:=by
 unfold aZ;split
 ·decide
 ·rename_i c l h
  have:c∈bK s 256:=by rw[h];simp
  simp[bK]at this;exact this.1
theorem Cy (s t:BS) (w:World):ag 108 #[.agg (encS s),.agg (encS t)] w fun e w'=>e=.returned (.int .i64 (aW s t))/\Ext w w':=by
 have HL1:=hid fun W=>uS s t W
 have ZY:=hid fun W=>uS t s W
 have HO:=hid fun W=>VF (s&&& ~~~t) (t&&& ~~~s) W
 have HF:=hid fun W=>rI ((s&&& ~~~t) ||| (t&&& ~~~s)) W
 have hv:aW s t=if(aZ ((s&&& ~~~t) ||| (t&&& ~~~s))).2 then(if s.getLsbD (aZ ((s&&& ~~~t) ||| (t&&& ~~~s))).1 then-1 else 1)else 0:=rfl
 have hlt:=FY ((s&&& ~~~t) ||| (t&&& ~~~s));generalize aW s t=z at hv ⊢;generalize aZ ((s&&& ~~~t) ||| (t&&& ~~~s))=fo at HF hv hlt;obtain⟨c,b⟩:=fo;dsimp only at hv hlt;generalize (s&&& ~~~t) ||| (t&&& ~~~s)=u3 at HO HF
 generalize (s&&& ~~~t)=u1 at HO HL1;generalize (t&&& ~~~s)=u2 at HO ZY;have HV:=hid hv;have HH:=hid fun W=>qq s c hlt W
 clear hv;go_enter Tryz.func108,Tryz.ntmps108;go_wp2;refine gI (fun b=>b=w.heap.size\/b=w.heap.size+1) (by kernel_rfl) (fun i=>i==2 || i==5 || i==6 || i==7) (by kernel_rfl) ?_;intro C hC hne W0 Iu hblk hsz hx0;have hA:aq ((w.alloc (.cells (encS s) 37 (0,0))).alloc (.cells (encS t) 37 (0,0))) w.heap.size (encS s) 37:=(aq.new w _ _).alloc _;have hB:aq ((w.alloc (.cells (encS s) 37 (0,0))).alloc (.cells (encS t) 37 (0,0))) (w.heap.size+1) (encS t) 37:=(aq.new _ _ _).at (by simp);obtain⟨a0,a1,a2,a3⟩:=zK hC (.inl rfl) hA;obtain⟨b0,b1,b2,b3⟩:=zK hC (.inr rfl) hB;have HC:=hid hC;have zM:=hid Iu;have Mq:=hid ((((Ext.refl w).alloc _).alloc _).trans hx0);have HA:=hid (hA.same (hblk _));have HS:Hid (∀ k,(k=w.heap.size\/k=w.heap.size+1)->k<((w.alloc (.cells (encS s) 37 (0,0))).alloc (.cells (encS t) 37 (0,0))).heap.size):=fun k hk=>by simp;omega
 clear hC Iu hblk hsz hA hB hx0
 repeat (refine bR (fun K hK=>?_);refine dI rfl ?_;unfold aB;go_simp;refine hK _ _ ?_;clear hK K)
 refine bR (fun K hK=>?_);refine eM rfl ?_;go_simp;refine fe ((HL1 _).mono ?_);rintro e w1 ⟨rfl,hx⟩;have sP:=ae.step zM HS hx;refine⟨_,rfl,(HC _).2 sP,hK _ _ ?_⟩;have ND:=hid sP;have jU:=hid hx;clear hK K sP hx
 repeat (refine bR (fun K hK=>?_);refine dI rfl ?_;unfold aB;go_simp;refine hK _ _ ?_;clear hK K)
 refine bR (fun K hK=>?_);refine eM rfl ?_;go_simp;refine fe ((ZY _).mono ?_);rintro e w2 ⟨rfl,hx⟩;have hk2:=ae.step ND HS hx;refine⟨_,rfl,(HC _).2 hk2,hK _ _ ?_⟩;have jO:=hid hk2;have eW:=hid hx;clear hK K hk2 hx;refine bR (fun K hK=>?_);refine eM rfl ?_;go_simp;refine fe ((HO _).mono ?_);rintro e w3 ⟨rfl,hx⟩;have hk3:=ae.step jO HS hx;refine⟨_,rfl,(HC _).2 hk3,hK _ _ ?_⟩;have Up:=hid hk3;have oZ:=hid hx;clear hK K hk3 hx;refine bR (fun K hK=>?_);refine eM rfl ?_;go_simp;refine fe ((HF _).mono ?_);rintro e w4 ⟨rfl,hx⟩;have hk4:=ae.step Up HS hx;refine⟨_,rfl,(HC _).2 hk4,hK _ _ ?_⟩;have YC:=hid hk4;have Cz:=hid hx;clear hK K hk4 hx
 repeat (refine bR (fun K hK=>?_);refine dI rfl ?_;unfold aB;go_simp;refine hK _ _ ?_;clear hK K)
 refine rC ?_;have VG:=hid ((((Mq.trans jU).trans eW).trans oZ).trans Cz);have HA4:=hid (HA.ext ((((jU.trans eW).trans oZ).trans Cz)));clear a0 a1 a2 a3 b0 b1 b2 b3 zM ND jO Up YC HC HS Mq jU eW oZ Cz HL1 ZY HO HF HA;cases b with
 | false=>
  go_wp2;go_ret;exact⟨congrArg (fun z=>Ending.returned (.int .i64 z)) HV.symm,VG⟩
 | true=>
  obtain⟨a0,a1,a2,a3⟩:=HA4.xD;by_cases hb:s.getLsbD c=true
  ·have H1:Hid (∀ W,ag 145 #[.agg (encS s),.int .u8 c] W fun e w'=>e=.returned (.bool true)/\Ext W w'):=fun W=>by have:=HH.out W;rwa[hb]at this
   have HV':=hid (show z= -1 from by have:=HV.out;simpa[hb]using this);clear hb HV;go_wp2_with (go_at_call 145;refine(H1 _).mono ?_;rintro e w5 ⟨rfl,hx⟩;have Rg:=hid hx;clear hx);go_ret;exact⟨congrArg (fun z=>Ending.returned (.int .i64 z)) HV'.symm,VG.trans Rg⟩
  ·have hb':s.getLsbD c=false:=by simpa using hb
   have H1:Hid (∀ W,ag 145 #[.agg (encS s),.int .u8 c] W fun e w'=>e=.returned (.bool false)/\Ext W w'):=fun W=>by have:=HH.out W;rwa[hb']at this
   have HV':=hid (show z=1 from by have:=HV.out;simpa[hb']using this);clear hb hb' HV;go_wp2_with (go_at_call 145;refine(H1 _).mono ?_;rintro e w5 ⟨rfl,hx⟩;have Rg:=hid hx;clear hx);go_ret;exact⟨congrArg (fun z=>Ending.returned (.int .i64 z)) HV'.symm,VG.trans Rg⟩
end
section
open Go Go.RowKit Go.Shelf
attribute [local go_sem] encS
end
section
open Go Go.RowKit Go.Shelf Go.Maps
attribute [local go_sem] encS Oper.semAt_some eU cJ
theorem Tryz.FZ:(Tryz.prog.info? 5).map (fun i=>(i.zero,i.size,i.bytes))=some (some (.int .u8 0),1,1):=by kernel_rfl
def eN (c:Nat):Value:=.int .u8 c
theorem xE {d:Bool} {gf:Nat} {lb:Array Value} {R:Nat->Prop} (xs:List Nat) (w:World) (hseq:Seq d Tryz.prog gf lb (fun c:Nat=> #[.int .u8 c]) R xs w) (eg:∀ args w,(callFunc gf args).run Tryz.prog w=.ok (.enter gf args) w) (hR:∀ k,R k->k<w.heap.size) (hn:xs.length<=1000000): ag 188 #[.slice none 0 0,.func (.func gf) #[] lb] w fun e w'=>∃ v,e=.returned v/\w'.ownsRow w.heap.size 5 1 v xs.length (xs.map eN)/\aa w w':=by
 obtain⟨i0,hi,hz0,hz1,hz2⟩:=info_parts Tryz.FZ;refine bG Tryz.func188 rfl ?_;simp only[Tryz.ntmps188,List.size_toArray,List.length_cons,List.length_nil,Nat.reduceAdd,Nat.reduceSub,Array.replicate_succ,Array.replicate_zero,List.push_toArray,List.append_toArray,List.nil_append,List.cons_append];go_wp2;refine ax ?_;intro W0 hW0;have h1:aq W0 w.heap.size #[.slice none 0 0] 55:=by rw[hW0];exact aq.new _ _ _
 have hx:Ext w W0:=by rw[hW0];exact(Ext.refl w).alloc _
 have hsz:W0.heap.size=w.heap.size+1:=by rw[hW0];simp
 refine ig (w:=W0) (hseq.at hx.keeps) (by rfl) eg (by intro _;rfl) (by intro k hk;have:=hR k hk;omega)
  (fun xs T W=>∃ v,aq W w.heap.size #[v] 55/\W.ownsRow (w.heap.size+1) 5 1 v xs.length (xs.map eN)/\(∀ k,v.ownBlock=some k->¬T k)/\aa w W)
  (fun _ _ _ _=>False)
  ?_
  (fun c xs T T' W W' h=>h.elim)
  ⟨_,h1,World.ownsRow_nil _ _ _ _,fun _ _ h=>h,hx.below⟩
  (fun x=>⟨#[.slice none 0 0,.func (.func gf) #[] lb,.pointer (some ⟨w.heap.size,0,none⟩),undef,.slice none 0 0,.int .u8 x,.func (.func gf) #[] lb,.int .u8 x,undef,undef,undef,undef,undef],[]⟩) ?assign ?body ?done ?stop
 ·intro xs T T' W W' ⟨v,g1,g2,g3,g4⟩ hT Iy hs hn hk
  refine⟨v,g1.gT hT hk (by omega),au g2 hk.1 (fun k e=>⟨(g2.lt k e).2,g3 k e⟩),fun k e ht=>?_,dc g4 hT hk (aD _) (by omega)⟩;rcases hn k ht with h | h
  ·exact g3 k e h
  ·have:=(g2.lt k e).2;omega
 case assign=>
  intro l x W K hK
  gi_wp2
  exact hK
 case body=>
  rintro l pre x T W bF hT _ rE hl ⟨v,g1,g2,g3,g4⟩;have c1:W.cell? ⟨w.heap.size,0,none⟩=some v:=g1.cell 0;have f1:=g1.frozen 0;have hlen:pre.length<xs.length:=by obtain⟨r,hr⟩:=bF;rw[<-hr];simp
  have G1:=hid g1;have G3:=hid g3;have G4:=hid g4;have jV:=hid hsz;have HT:=hid hT;clear g1 g3 g4 hsz hW0 hT hl rE
  gi_wp2_with (gi_at_builtin;refine wpListIn_append_own_at _ rfl _ _ 55 rfl (w.heap.size+1) 5 i0 (.int .u8 0) 1 1 Tryz.underlying55 hi hz0 hz1 hz2 rfl (by decide) _ _ _ rfl (g2.alloc _) ⟨W.heap.size,0,none⟩ 1 1 [eN x] rfl rfl (cell_one_new _ _ _) (by simp[Value.oneCell',eN]) (by unfold maxLen;omega) (by omega) (by have h1:=G4.size;have h2:=jV.out;have h3:=G1.lt;simp;omega) ?_;intro v' w1 hown' hgrow hh hat;obtain⟨g',cap',rfl⟩:=ownsRow_succ hown';have hb1:=(G1.alloc (.cells #[.int .u8 x] 5 (0,0))).grown hgrow (fun e=>by have:=(g2.lt _ e.symm).1;omega);have c2:=hb1.cell 0;have f2:=hb1.frozen 0;have HB:=hid hb1;have HO:=hid hown';have HG:=hid hgrow;have H2:=hid g2;have zN:=hid hat;clear hown' hgrow hb1 g2 hh hat)
  have hgT:¬T g':=fun ht=>by
   rcases zN.out with h | h
   ·exact G3 g' h.symm ht
   ·have h1:=(HT.out g' ht).2;simp[Value.ownBlock]at h;omega
  have VH:∀ k,(R k\/T k)->k<W.heap.size/\some k≠v.ownBlock:=fun k hk=>by
   refine⟨?_,fun e=>?_⟩
   ·rcases hk with hk | hk
    ·have h1:=hR k hk;have h2:=G4.size;omega
    ·exact(HT k hk).2
   ·rcases hk with hk | hk
    ·have h1:=hR k hk;have h2:=(H2.lt k e.symm).1;omega
    ·exact G3 k e.symm hk
  have sP:ae (fun k=>R k\/T k) W w1:=(((ae.refl _ W).alloc (fun k hk=>(VH k hk).1) _)).tr (ae.bA HG fun k hk=>⟨by have:=(VH k hk).1;simp;omega,(VH k hk).2⟩);have xF:∀ k,(R k\/T k)->k≠w.heap.size:=fun k hk=>by
   rcases hk with hk | hk
   ·have h1:=hR k hk;omega
   ·have h1:=(HT.out k hk).1;have h2:=jV.out;omega
  refine⟨sP.setCell (fun h=>xF _ h rfl) _,_,HB.set 0 _,?_,fun k e=>?_,?_⟩
  ·rw[aQ,List.map_append]
   exact au HO ((ae.refl (fun k=>k≠w.heap.size) _).setCell (by simp) _) (fun k e=>by have:=(HO.lt k e).1;omega)
  ·simp[Value.ownBlock]at e;subst e;exact hgT
  ·exact((G4.alloc (by exact G4.size) _).grown HG (by have:=G4.size;simp;omega) (fun k e=>by have:=(H2.lt k e).1;omega)).setCell (aD _) _
 case done=>
  rintro D T W hD rJ hT ⟨v,g1,g2,g3,g4⟩ jN;have c1:W.cell? ⟨w.heap.size,0,none⟩=some v:=g1.cell 0;have G2:=hid g2;have G4:=hid g4;have HD:=hid hD;have jV:=hid hsz;have oD:=hid jN;clear g1 g2 g3 g4 hsz hW0 hT rJ jN hD;dsimp only;go_wp2;refine cB rfl oD (results_tmp rfl _ _ _) ⟨v,rfl,ownsRow_putObj (aG G2 (by omega)) _ oD rfl,((ae.ai G4 (fun _ h=>h)).putObj (by have:=HD.out;have:=jV.out;omega) _).below⟩
 case stop=>rintro D c pre T W _ _ _ _ h _;exact h.elim
theorem CD {d:Bool} {gf:Nat} {lb:Array Value} {R:Nat->Prop} (xs:List Nat) (w:World) (hseq:Seq d Tryz.prog gf lb (fun c:Nat=> #[.int .u8 c]) R xs w) (eg:∀ args w,(callFunc gf args).run Tryz.prog w=.ok (.enter gf args) w) (hR:∀ k,R k->k<w.heap.size) (hn:xs.length<=1000000): ag 171 #[.func (.func gf) #[] lb] w fun e w'=>∃ v,e=.returned v/\w'.ownsRow w.heap.size 5 1 v xs.length (xs.map eN)/\aa w w':=by have H:=hid (xE xs w hseq eg hR hn);clear hseq eg;go_enter Tryz.func171,Tryz.ntmps171;go_wp2_with (go_at_call 188;refine H.mono ?_;rintro e w1 ⟨v,rfl,h1,h2⟩;have H1:=hid h1;have H2:=hid h2;clear h1 h2);go_ret;exact⟨v,rfl,H1,H2⟩
theorem JO (s:BS) (w:World): ag 151 #[.agg (encS s)] w fun e w'=>∃ v,e=.returned v/\w'.ownsRow w.heap.size 5 1 v (bK s 256).length ((bK s 256).map eN)/\aa w w':=by
 have eg:∀ args w,(callFunc 148 args).run Tryz.prog w=.ok (.enter 148 args) w:=enters_of Tryz.func148 (by kernel_rfl) rfl;have hlen:(bK s 256).length<=1000000:=by unfold bK;exact Nat.le_trans (List.length_filter_le _ _) (by simp)
 have H:Hid (∀ (W:World) (B:Nat),aq W B (encS s) 37->ag 171 #[.func (.func 148) #[] #[.pointer (some ⟨B,0,none⟩)]] W fun e w'=>∃ v,e=.returned v/\w'.ownsRow W.heap.size 5 1 v (bK s 256).length ((bK s 256).map eN)/\aa W w'):=
  fun W B hB=>CD _ W (Iw s B W hB) eg (fun k hk=>by rw[show k=B from hk];exact hB.lt) hlen
 clear eg hlen;generalize bK s 256=xs at H ⊢;go_enter Tryz.func151,Tryz.ntmps151;go_wp2_with (first | (go_at_call 118;refine(Cx s _).mono ?_;rintro e w1 ⟨rfl,rfl⟩) | (go_at_call 171;refine(H _ _ ((aq.new _ _ _).at (by simp))).mono ?_;rintro e w1 ⟨v,rfl,h1,h2⟩;have H1:=hid h1;have H2:=hid h2;clear h1 h2));go_ret;refine⟨v,rfl,aG H1 (by simp;omega),?_⟩;exact(((Ext.refl w).alloc _).alloc _).below.trans (H2.mono (by simp;omega))
end
section
open Go Go.RowKit Go.Shelf
def dt (s:BS):Nat:=(List.range 256).countP fun c=>s.getLsbD c
theorem zO (p q:Nat->Bool) (l:List Nat):l.countP p=l.countP (fun c=>p c&&q c)+l.countP (fun c=>p c&& !q c):=by
 induction l with
 | nil=>rfl
 | cons a l ih=>
  simp only[List.countP_cons,ih];cases p a<;>cases q a<;>simp<;>omega
theorem xG (p s:BS):dt p=dt (p&&& s)+dt (p&&& ~~~s):=by
 unfold dt;rw[zO _ (fun c=>s.getLsbD c)];congr 1
 ·apply List.countP_congr;intro c _;simp[BitVec.getLsbD_and]
 ·apply List.countP_congr;intro c hc
  have:c<256:=by simpa using hc
  simp[this]
theorem zP:dt 0#256=0:=by unfold dt;rw[List.countP_eq_zero];intro c _;simp
theorem CQ {s:BS} (h:s≠0):1<=dt s:=by
 rcases Nat.eq_zero_or_pos (dt s)with h0 | h0
 ·exfalso
  apply h;apply BitVec.eq_of_getLsbD_eq;intro c hc;unfold dt at h0;rw[List.countP_eq_zero]at h0;have:=h0 c (by simpa using hc);simpa using this
 ·exact h0
def cut (s p:BS):List BS:=[p&&& s,p&&& ~~~s].filter fun x=> !(x==0)
def aX (s:BS) (parts:List BS):List BS:=parts.flatMap (cut s)
def bh (l:List BS):List BS:=l.foldl (fun p s=>aX s p) [~~~0]
theorem Sa (s p:BS):((cut s p).map dt).sum=dt p:=by unfold cut;rw[xG p s];generalize p&&& s=a;generalize p&&& ~~~s=b;by_cases h1:a=0#256<;>by_cases h2:b=0#256<;>simp[h1,h2,zP]
theorem xH (s:BS) (l:List BS):((aX s l).map dt).sum=(l.map dt).sum:=by
 induction l with
 | nil=>rfl
 | cons p l ih=>
  unfold aX at*;rw[List.flatMap_cons,List.map_append,List.sum_append,ih,Sa];rfl
theorem Sb (s p:BS):(cut s p).length<=2:=by unfold cut;exact List.length_filter_le _ _
theorem xI (s:BS) (l:List BS):(aX s l).length<=2*l.length:=by
 induction l with
 | nil=>exact aD _
 | cons p l ih=>
  have:=Sb s p;unfold aX at*;rw[List.flatMap_cons,aQ,List.length_cons];omega
theorem VI (s p:BS):∀ x∈cut s p,x≠0:=by intro x hx;unfold cut at hx;simp only[List.mem_filter,Bool.not_eq_true',beq_eq_false_iff_ne]at hx;exact hx.2
theorem CV:dt (~~~0)=256:=by
 unfold dt;have:(List.range 256).countP (fun c=>(~~~(0:BS)).getLsbD c)=(List.range 256).length:=by
  rw[List.countP_eq_length];intro c hc;have:c<256:=by simpa using hc
  rw[BitVec.getLsbD_not];have h0:BitVec.getLsbD (0:BS) c=false:=BitVec.getLsbD_zero;simp only[this,h0,decide_true,Bool.not_false,Bool.true_and]
 rw[this,List.length_range]
theorem xJ (l:List BS) (h0:∀ x∈l,x≠0):l.length<=(l.map dt).sum:=by
 induction l with
 | nil=>simp
 | cons p l ih=>
  have h1:=CQ (h0 p (by simp));have h2:=ih (fun x hx=>h0 x (by simp[hx]));simp only[List.length_cons,List.map_cons,List.sum_cons];omega
theorem sQ (l:List BS) (p:List BS) (hp:∀ x∈p,x≠0):(∀ x∈l.foldl (fun p s=>aX s p) p,x≠0)/\((l.foldl (fun p s=>aX s p) p).map dt).sum=(p.map dt).sum:=by
 induction l generalizing p with
 | nil=>exact⟨hp,rfl⟩
 | cons s l ih=>
  have h:=ih (aX s p) (by
   intro x hx;unfold aX at hx;rw[List.mem_flatMap]at hx;obtain⟨q,_,hq⟩:=hx
   exact VI s q x hq)
  rw[List.foldl_cons];exact⟨h.1,h.2.trans (xH s p)⟩
theorem sR (l:List BS):∀ x∈bh l,x≠0:=(sQ l _ (by simp)).1
theorem qu (l:List BS):((bh l).map dt).sum=256:=by unfold bh;rw[(sQ l _ (by simp)).2];simp only[List.map_cons,List.map_nil,List.sum_cons,List.sum_nil,CV,Nat.add_zero]
theorem dK (l:List BS):(bh l).length<=256:=by have:=xJ _ (sR l);rwa[qu]at this
theorem iz (l:List BS) (s:BS):bh (l++ [s])=aX s (bh l):=by unfold bh;rw[List.foldl_append];rfl
/-! The order of sets. -/
theorem qw (s:BS):((aZ s).2=false/\s=0)\/((aZ s).2=true/\(aZ s).1<256/\s.getLsbD (aZ s).1=true/\∀ d,d<(aZ s).1->s.getLsbD d=false):=by
 have key:∀ n,n<=256->(bK s n=[]/\∀ d,d<n->s.getLsbD d=false)\/(∃ c r,bK s n=c::r/\c<n/\s.getLsbD c=true/\∀ d,d<c->s.getLsbD d=false):=by
  intro n;induction n with
  | zero=>intro _;exact .inl ⟨rfl,fun d hd=>by omega⟩
  | succ n ih=>
   intro hn;rcases ih (by omega)with⟨h1,h2⟩ | ⟨c,r,h1,h2,h3,h4⟩
   ·by_cases hb:s.getLsbD n=true
    ·refine .inr ⟨n,[],?_,by omega,hb,h2⟩
     rw[gL,h1,if_pos hb];rfl
    ·refine .inl ⟨?_,fun d hd=>?_⟩
     ·rw[gL,h1,if_neg hb];rfl
     ·by_cases hdn:d=n
      ·subst hdn;simpa using hb
      ·exact h2 d (by omega)
   ·exact .inr ⟨c,r++(if s.getLsbD n then [n]else []),by rw[gL,h1];rfl,by omega,h3,h4⟩
 unfold aZ;rcases key 256 (aD _)with⟨h1,h2⟩ | ⟨c,r,h1,h2,h3,h4⟩
 ·left
  rw[h1];exact⟨rfl,BS.ext fun d hd=>by rw[h2 d hd];simp⟩
 ·right
  rw[h1];exact⟨rfl,h2,h3,h4⟩
def Rh (s t:BS):Prop:=∃ c,c<256/\(∀ d,d<c->s.getLsbD d=t.getLsbD d)/\s.getLsbD c=true/\t.getLsbD c=false
theorem uU (s t:BS) {c:Nat} (hc:c<256):((s&&& ~~~t) ||| (t&&& ~~~s)).getLsbD c=(s.getLsbD c != t.getLsbD c):=by simp only[BitVec.getLsbD_or,BitVec.getLsbD_and,BitVec.getLsbD_not,hc,decide_true,Bool.true_and];cases s.getLsbD c<;>cases t.getLsbD c<;>rfl
theorem mK (s t:BS):(aW s t=0/\s=t)\/(aW s t= -1/\Rh s t)\/(aW s t=1/\Rh t s):=by
 unfold aW;rcases qw ((s&&& ~~~t) ||| (t&&& ~~~s))with⟨h1,h2⟩ | ⟨h1,h2,h3,h4⟩
 ·left
  rw[h1];refine⟨rfl,BS.ext fun c hc=>?_⟩;have:=uU s t hc;rw[h2]at this;simp at this;exact this
 ·right
  rw[h1];generalize (aZ ((s&&& ~~~t) ||| (t&&& ~~~s))).1=c at*;rw[uU s t h2]at h3;have h5:∀ d,d<c->s.getLsbD d=t.getLsbD d:=fun d hd=>by
   have:=h4 d hd;rw[uU s t (by omega)]at this;simpa using this
  cases hs:s.getLsbD c with
  | true=>
   have ht:t.getLsbD c=false:=by rw[hs]at h3;simpa using h3
   exact .inl ⟨by simp,c,h2,h5,hs,ht⟩
  | false=>
   have ht:t.getLsbD c=true:=by rw[hs]at h3;simpa using h3
   exact .inr ⟨by simp,c,h2,fun d hd=>(h5 d hd).symm,ht,hs⟩
theorem jr (s:BS):¬Rh s s:=by rintro⟨c,_,_,h1,h2⟩;rw[h1]at h2;cases h2
theorem ij {s t u:BS} (h:Rh s t) (k:Rh t u):Rh s u:=by
 obtain⟨c,hc,h1,h2,h3⟩:=h;obtain⟨d,hd,k1,k2,k3⟩:=k;rcases Nat.lt_trichotomy c d with RD | RD | RD
 ·exact⟨c,hc,fun e he=>(h1 e he).trans (k1 e (by omega)),h2,by rw[<-k1 c RD];exact h3⟩
 ·subst RD;rw[h3]at k2;cases k2
 ·exact⟨d,hd,fun e he=>(h1 e (by omega)).trans (k1 e he),by rw[h1 d RD];exact k2,k3⟩
theorem fh (s t:BS):ltOf aW s t=true↔Rh s t:=by
 unfold ltOf;rcases mK s t with⟨h1,h2⟩ | ⟨h1,h2⟩ | ⟨h1,h2⟩
 ·rw[h1];subst h2;simp[jr]
 ·rw[h1];simp[h2]
 ·rw[h1];simp;exact fun k=>jr _ (ij h2 k)
theorem nI (s t:BS):s=t\/Rh s t\/Rh t s:=by
 rcases mK s t with⟨_,h2⟩ | ⟨_,h2⟩ | ⟨_,h2⟩
 ·exact .inl h2
 ·exact .inr (.inl h2)
 ·exact .inr (.inr h2)
theorem aey:Sort.SWO (ltOf aW) where
 irrefl x:=by
  rw[<-Bool.not_eq_true,fh];exact jr x
 trans x y z h k:=by rw[fh]at*;exact ij h k
 ntrans x y z h k:=by
  rw[<-Bool.not_eq_true,fh]at*;intro hz;rcases nI x y with e | e | e
  ·subst e;exact k hz
  ·exact h e
  ·exact k (ij e hz)
theorem ZZ (x y:BS) (h:ltOf aW x y=false) (k:ltOf aW y x=false):x=y:=by
 rw[<-Bool.not_eq_true,fh]at*;rcases nI x y with e | e | e
 ·exact e
 ·exact absurd e h
 ·exact absurd e k
def partsOf (l:List BS):List BS:=(bh l).mergeSort fun x y=> !ltOf aW y x
end
section
open Go Go.RowKit Go.Shelf Go.Sort
def aN (l:List BS):List Value:=l.flatMap fun s=>(encS s).toList
theorem dw (l:List BS):(aN l).length=l.length*4:=by
 induction l with
 | nil=>rfl
 | cons s l ih=>simp only[aN,List.flatMap_cons,aQ]at*;rw[ih];simp[je];omega
theorem fy (l m:List BS):aN (l++m)=aN l++aN m:=by simp[aN]
theorem JP (s:BS):aN [s]=(encS s).toList:=by simp[aN]
theorem kG (l:List BS) {i:Nat} {s:BS} (h:l[i]? =some s) {j:Nat} (hj:j<4):(aN l)[i*4+j]? =(encS s)[j]? :=by
 induction l generalizing i with
 | nil=>simp at h
 | cons t l ih=>
  have hs:(encS t).toList.length=4:=rfl;simp only[aN,List.flatMap_cons];cases i with
  | zero=>
   simp at h;subst h;rw[Nat.zero_mul,Nat.zero_add,bJ (by omega)];simp
  | succ i=>
   rw[cZ (by omega),hs,show(i+1)*4+j-4=i*4+j by omega];exact ih (by simpa using h)
def qx (s:BS):List Value:=(encS s).toList
theorem CY (l:List BS):flatK qx 4 l.toArray=(aN l).toArray:=by
 apply Array.ext_getElem?;intro t;by_cases ht:t<l.length*4
 ·have hi:t/4<l.length:=by omega
  have h1:=kG l (aC hi) (show t%4<4 by omega);rw[show t/4*4+t%4=t by omega]at h1;have h2:(flatK qx 4 l.toArray)[t]? =some ((qx (l[t/4]))[t%4]!):=by unfold flatK;simp[ht,hi]
  rw[h2,List.getElem?_toArray,h1];have h3:t%4<(qx (l[t/4])).length:=by simp[qx,je];omega
  rw[getElem!_pos (qx (l[t/4])) (t%4) h3];simp[qx]
 ·rw[Array.getElem?_eq_none (by simp;omega),List.getElem?_toArray,dD (by rw[dw];omega)]
theorem F7 {w:World} {g q:Nat} {os:Array Obj} {cur:Array Value} {e:TypeId} {fr:Nat×Nat} (l:List BS) (hb:w.heap[g]? =some (.cells cur e fr)): (sortWorldK qx 4 w g 0 q l.toArray os).heap[g]? =some (.cells (putCells id 0 (aN l).toArray cur) e fr):=by have hg:g<w.heap.size:=(Array.getElem?_eq_some_iff.1 hb).1;unfold sortWorldK;rw[heap_grow_old _ _ (by simpa[putRowK,putRow,mapBlock,Sort.ahead]using hg)];simp[putRowK,putRow,mapBlock,Sort.ahead,Array.getElem?_modify,hb,onCells,CY]
theorem xK {w:World} {g q:Nat} {os:Array Obj} (d:Array BS):w.grownBy (sortWorldK qx 4 w g 0 q d os) (some g):=by
 unfold sortWorldK;refine⟨rfl,rfl,rfl,by simp[putRowK,putRow,mapBlock,Sort.ahead],fun k hk hne=>?_⟩;rw[heap_grow_old _ _ (by simpa[putRowK,putRow,mapBlock,Sort.ahead]using hk)];have:g≠k:=fun e=>hne (by rw[e])
 simp[putRowK,putRow,mapBlock,Sort.ahead,Array.getElem?_modify,this]
theorem JQ (cur:Array Value) (ts:List Value) (h:ts.length<=cur.size):(putCells id 0 ts.toArray cur).toList.take ts.length=ts:=by
 apply List.ext_getElem?;intro j;by_cases hj:j<ts.length
 ·rw[List.getElem?_take_of_lt hj,Array.getElem?_toList]
  simp[putCells,hj,show j<cur.size by omega]
 ·rw[List.getElem?_take_eq_none (by omega),dD (by omega)]
theorem xL {w:World} {base g cap n q:Nat} {e:TypeId} {os:Array Obj} {cur:Array Value} {ts:List BS} (hl:ts.length=n) (hbase:base<=g) (hb:w.heap[g]? =some (.cells cur e (0,0))) (h1:n<=cap) (h2:cap<=maxLen) (h3:cur.size=cap*4): (sortWorldK qx 4 w g 0 q ts.toArray os).ownsRow base e 4 (.slice (some ⟨g,0,none⟩) n cap) n (aN ts):=
 ⟨by rw[dw,hl],.inr ⟨g,cap,_,rfl,hbase,F7 _ hb,h1,h2,by simp[putCells,h3],by
  rw[<-hl, <-dw];exact JQ cur (aN ts) (by rw[dw,hl,h3];exact Nat.mul_le_mul_right 4 h1)⟩⟩
theorem F8 {w:World} {g:Nat} {e:TypeId} {cur:Array Value} {ts:List BS} (hb:w.heap[g]? =some (.cells cur e (0,0))) (ht:cur.toList.take (ts.length*4)=aN ts):HoldsK qx 4 w g 0 ts.toArray:=by
 unfold HoldsK;rw[CY];intro j hj;have hj':j<(aN ts).length:=by simpa using hj
 refine⟨?_,by simp[World.frozen?,hb]⟩;have hc:w.cell? ⟨g,0+j,none⟩=cur[j]? :=by simp[World.cell?,hb]
 rw[hc];have h1:(aN ts)[j]? =cur[j]? :=by rw[<-ht,List.getElem?_take,if_pos (by rw[<-dw];exact hj')];simp
 rw[<-h1,aC hj',getElem!_pos (aN ts).toArray j (by simpa using hj')];simp
end
end Go.Proofs.YtpcmhjbehdgdbaaGreatDoor
namespace Go.Proofs
open Go.Shelf
def Tryz.zQ:Go.Shelf.Ren:=⟨fun | 6=>107 | 15=>143 | 14=>142 | 28=>167 | 29=>168 | 20=>159 | 21=>160 | 22=>161 | 23=>162 | 24=>163 | 25=>164 | 26=>165 | 27=>166 | 46=>183 | 47=>184 | 48=>185 | 49=>186 | 50=>187 | 57=>195 | n=>n,fun | 22=>70 | 24=>37 | 25=>193 | 3=>3 | 39=>82 | 0=>0 | 53=>120 | 55=>35 | 4=>4 | 46=>240 | 45=>239 | 50=>118 | 5=>5 | 9=>9 | 66=>254 | 70=>258 | 76=>266 | 77=>267 | n=>n,fun | n=>n⟩
theorem Tryz.NG:Go.Proofs.SlLaysF0.n6 Tryz.prog Tryz.zQ:= {
 mixed:=by kernel_rfl
 f6:=⟨Tryz.f107.name,by decide,Tryz.func107.trans (congrArg some (by kernel_rfl))⟩
 f14:=⟨Tryz.f142.name,by decide,Tryz.func142.trans (congrArg some (by kernel_rfl))⟩
 f15:=Tryz.func143.trans (congrArg some (by kernel_rfl))
 f20:=⟨Tryz.f159.name,by decide,Tryz.func159.trans (congrArg some (by kernel_rfl))⟩
 f21:=⟨Tryz.f160.name,by decide,Tryz.func160.trans (congrArg some (by kernel_rfl))⟩
 f22:=⟨Tryz.f161.name,by decide,Tryz.func161.trans (congrArg some (by kernel_rfl))⟩
 f23:=⟨Tryz.f162.name,by decide,Tryz.func162.trans (congrArg some (by kernel_rfl))⟩
 f24:=⟨Tryz.f163.name,by decide,Tryz.func163.trans (congrArg some (by kernel_rfl))⟩
 f25:=⟨Tryz.f164.name,by decide,Tryz.func164.trans (congrArg some (by kernel_rfl))⟩
 f26:=⟨Tryz.f165.name,by decide,Tryz.func165.trans (congrArg some (by kernel_rfl))⟩
 f27:=⟨Tryz.f166.name,by decide,Tryz.func166.trans (congrArg some (by kernel_rfl))⟩
 f28:=Tryz.func167.trans (congrArg some (by kernel_rfl))
 f29:=Tryz.func168.trans (congrArg some (by kernel_rfl))
 f46:=⟨Tryz.f183.name,by decide,Tryz.func183.trans (congrArg some (by kernel_rfl))⟩
 f47:=Tryz.func184.trans (congrArg some (by kernel_rfl))
 f48:=Tryz.func185.trans (congrArg some (by kernel_rfl))
 f49:=⟨Tryz.f186.name,by decide,Tryz.func186.trans (congrArg some (by kernel_rfl))⟩
 f50:=⟨Tryz.f187.name,by decide,Tryz.func187.trans (congrArg some (by kernel_rfl))⟩
 f57:=⟨Tryz.f195.name,by decide,Tryz.func195.trans (congrArg some (by kernel_rfl))⟩
 t0:=Tryz.underlying0
 a0:=Tryz.isAgg0
 z0:=Tryz.sizeOf0
 v0:=Tryz.zeroValue0
 t3:=Tryz.underlying3
 a3:=Tryz.isAgg3
 z3:=Tryz.sizeOf3
 v3:=Tryz.zeroValue3
 t4:=Tryz.underlying4
 a4:=Tryz.isAgg4
 z4:=Tryz.sizeOf4
 v4:=Tryz.zeroValue4
 t5:=Tryz.underlying5
 a5:=Tryz.isAgg5
 z5:=Tryz.sizeOf5
 v5:=Tryz.zeroValue5
 t9:=Tryz.underlying9
 a9:=Tryz.isAgg9
 z9:=Tryz.sizeOf9
 v9:=Tryz.zeroValue9
 t22:=Tryz.underlying70
 a22:=Tryz.isAgg70
 z22:=Tryz.sizeOf70
 v22:=Tryz.zeroValue70
 t25:=Tryz.underlying193
 a25:=Tryz.isAgg193
 z25:=Tryz.sizeOf193
 v25:=Tryz.zeroValue193
 t39:=Tryz.underlying82
 a39:=Tryz.isAgg82
 z39:=Tryz.sizeOf82
 v39:=Tryz.zeroValue82
 t45:=Tryz.underlying239
 a45:=Tryz.isAgg239
 z45:=Tryz.sizeOf239
 v45:=Tryz.zeroValue239
 t46:=Tryz.underlying240
 a46:=Tryz.isAgg240
 z46:=Tryz.sizeOf240
 v46:=Tryz.zeroValue240
 t50:=Tryz.underlying118
 a50:=Tryz.isAgg118
 z50:=Tryz.sizeOf118
 v50:=Tryz.zeroValue118
 t53:=Tryz.underlying120
 a53:=Tryz.isAgg120
 z53:=Tryz.sizeOf120
 v53:=Tryz.zeroValue120
 t55:=Tryz.underlying35
 a55:=Tryz.isAgg35
 z55:=Tryz.sizeOf35
 v55:=Tryz.zeroValue35
 t66:=Tryz.underlying254
 a66:=Tryz.isAgg254
 z66:=Tryz.sizeOf254
 v66:=Tryz.zeroValue254
 t70:=Tryz.underlying258
 a70:=Tryz.isAgg258
 z70:=Tryz.sizeOf258
 v70:=Tryz.zeroValue258
 t76:=Tryz.underlying266
 a76:=Tryz.isAgg266
 z76:=Tryz.sizeOf266
 v76:=Tryz.zeroValue266
 t77:=Tryz.underlying267
 a77:=Tryz.isAgg267
 z77:=Tryz.sizeOf267
 v77:=Tryz.zeroValue267}
end Go.Proofs
namespace Go.Proofs.YtpcmhjbehdgdbaaGreatDoor
section
open Go Go.RowKit Go.Shelf Go.Maps
attribute [local go_sem] encS
def dn (w:World) (v:Value) (l:List BS):Prop:=
 (v=.slice none 0 0/\l=[])\/∃ b off cap,v=.slice (some ⟨b,off,none⟩) l.length cap/\b<w.heap.size/\∀ i s,l[i]? =some s->∀ j,j<4->w.cell? ⟨b,off+i*4+j,none⟩=(encS s)[j]?
theorem dn.keeps {w w':World} {v:Value} {l:List BS} (h:dn w v l) {R:Nat->Prop} (hk:ae R w w') (hr:∀ k,k<w.heap.size->R k):dn w' v l:=by
 rcases h with h | ⟨b,off,cap,hv,hb,h⟩
 ·exact .inl h
 ·exact .inr ⟨b,off,cap,hv,aw hb hk.size,fun i s hi j hj=>(hk.cell (p:=⟨b,off+i*4+j,none⟩) (hr b hb)).trans (h i s hi j hj)⟩
theorem dn.below {w w':World} {v:Value} {l:List BS} (h:dn w v l) (hk:aa w w'):dn w' v l:=h.keeps (ae.ai hk fun _ h=>h) (fun _ h=>h)
theorem iV {w:World} {base:Nat} {v:Value} {l:List BS} (h:w.ownsRow base 37 4 v l.length (aN l)):dn w v l:=by
 rcases h.2 with⟨h1,h2⟩ | ⟨g,cap,cur,hv,_,hg,hn,_,hs,ht⟩
 ·exact .inl ⟨h1,List.eq_nil_of_length_eq_zero h2⟩
 ·refine .inr ⟨g,0,cap,hv,(Array.getElem?_eq_some_iff.1 hg).1,fun i s hi j hj=>?_⟩
  have hc:w.cell? ⟨g,0+i*4+j,none⟩=cur[0+i*4+j]? :=by simp[World.cell?,hg]
  rw[hc,Nat.zero_add, <-kG l hi hj, <-ht];have hlt:i<l.length:=(List.getElem?_eq_some_iff.1 hi).1;rw[List.getElem?_take,if_pos (by omega)];simp
theorem iW {w:World} {base n:Nat} {v:Value} {l:List BS} (h:w.ownsRow base 37 4 v n (aN l)) (hn:n=l.length) {i:Nat} {s:BS} (hi:l[i]? =some s): ∃ g cap,v=.slice (some ⟨g,0,none⟩) n cap/\base<=g/\g<w.heap.size/\∀ j,j<4->w.cell? ⟨g,i*4+j,none⟩=(encS s)[j]? :=by
 have hlt:i<l.length:=(List.getElem?_eq_some_iff.1 hi).1;rcases h.2 with⟨h1,h2⟩ | ⟨g,cap,cur,hv,hb,hg,_,_,hs,ht⟩
 ·omega
 ·refine⟨g,cap,hv,hb,(Array.getElem?_eq_some_iff.1 hg).1,fun j hj=>?_⟩
  have hc:w.cell? ⟨g,i*4+j,none⟩=cur[i*4+j]? :=by simp[World.cell?,hg]
  rw[hc, <-kG l hi hj, <-ht];rw[List.getElem?_take,if_pos (by omega)];simp
theorem Tryz.CZ:(Tryz.prog.info? 37).map (fun i=>(i.zero,i.size,i.bytes))=some (some (.agg #[.int .u64 0,.int .u64 0,.int .u64 0,.int .u64 0]),4,32):=by kernel_rfl
theorem yx (l:List BS) (v0:Value) (w:World) (hl:dn w v0 l) (hlen:l.length<=9223372036854775807): ag 76 #[v0] w fun e w'=>∃ v,e=.returned v/\w'.ownsRow w.heap.size 37 4 v (partsOf l).length (aN (partsOf l))/\aa w w':=by
 obtain⟨i0,hi,hz0,hz1,hz2⟩:=info_parts Tryz.CZ;have HA:=hid fun W=>RY W
 obtain⟨ua,hua⟩:=ah (~~~0:BS);rw[<-hua]at HA;have HUA:=hid hua;clear hua;obtain⟨n,hn⟩:=ah l.length;obtain⟨ad,cap,hv0⟩:∃ ad cap,v0=.slice ad n cap:=by
  rcases hl with⟨h1,h2⟩ | ⟨b,off,cap,h1,_⟩
  ·exact⟨none,0,by rw[h1,hn,h2];rfl⟩
  ·exact⟨_,cap,by rw[h1,hn]⟩
 subst hv0;have HL:=hid hl;have HN:=hid hn;have hn':n<=9223372036854775807:=by omega
 clear hl hn hlen;go_enter Tryz.func76,Tryz.ntmps76;go_wp2_with (go_at_call 104;refine(HA _).mono ?_;rintro e w1 ⟨rfl,hx⟩;have jU:=hid hx;clear hx);refine ax ?_;intro W0 hW0;have hx0:aa w W0:=by rw[hW0];exact(jU.alloc _).below
 have ho0:W0.ownsRow w.heap.size 37 4 (.slice (some ⟨w1.heap.size,0,none⟩) 1 1) (bh []).length (aN (bh [])):=by rw[hW0,show bh []=[ua] from by rw[HUA.out];rfl];exact⟨rfl,.inr ⟨w1.heap.size,1,encS ua,rfl,jU.size,World.alloc_heap_new _ _,aD _,by decide,rfl,rfl⟩⟩
 have Mq:=hid hx0;have HO0:=hid ho0;clear hx0 ho0 hW0;go_loopw [15,3] (fun i v wr=>∃ k:Nat,k<=n/\i=.int .i64 k/\wr.ownsRow w.heap.size 37 4 v (bh (l.take k)).length (aN (bh (l.take k)))/\aa w wr) (fun i _ _=>n-(intOf i).toNat);case atStart=>exact⟨0,by omega,rfl,HO0,Mq⟩
 case round=>
  obtain⟨wo,rfl⟩:=ah (wr:World);obtain⟨k,hk,rfl,ho,hb⟩:=hrel;obtain⟨a3,JR,rfl⟩:=ownsRow_form ho;have HO:=hid ho;have HB:=hid hb;clear ho hb HO0 Mq;by_cases hlt:k<n
  ·obtain⟨b,off,aeA,Ms,s,hs,hcs⟩:∃ b off,ad=some ⟨b,off,none⟩/\b<w.heap.size/\∃ s,l[k]? =some s/\∀ j,j<4->w.cell? ⟨b,off+k*4+j,none⟩=(encS s)[j]? :=by
    have Ct:k<l.length:=by rw[<-HN.out];exact hlt
    rcases HL.out with⟨h1,h2⟩ | ⟨b,off,cap',h1,h2,h3⟩
    ·rw[h2]at Ct;simp at Ct
    ·cases h1
     exact⟨b,off,rfl,h2,l[k],aC Ct,h3 k _ (aC Ct)⟩
   subst aeA;have c0:wo.cell? ⟨b,off+k*4,none⟩=some (.int .u64 (wd s 0).toNat):=(HB.cell (p:=⟨b,off+k*4,none⟩) Ms).trans (hcs 0 (by decide));have c1:wo.cell? ⟨b,off+k*4+1,none⟩=some (.int .u64 (wd s 1).toNat):=(HB.cell (p:=⟨b,off+k*4+1,none⟩) Ms).trans (hcs 1 (by decide));have c2:wo.cell? ⟨b,off+k*4+2,none⟩=some (.int .u64 (wd s 2).toNat):=(HB.cell (p:=⟨b,off+k*4+2,none⟩) Ms).trans (hcs 2 (by decide));have c3:wo.cell? ⟨b,off+k*4+3,none⟩=some (.int .u64 (wd s 3).toNat):=(HB.cell (p:=⟨b,off+k*4+3,none⟩) Ms).trans (hcs 3 (by decide));have HS:=hid hs;have hP:bh (l.take (k+1))=aX s (bh (l.take k)):=by rw[List.take_add_one,hs];exact iz _ _
   have HP:=hid hP;have HM:=hid (dK (l.take k));clear hs hcs hP;generalize bh (l.take k)=pk at HO HP HM;obtain⟨m,hm⟩:=ah pk.length;have ahQ:m<=256:=by rw[hm];exact HM
   rw[<-hm]at HO ⊢;have HMM:=hid hm;clear hm HM;go_wp2;refine ax ?_;intro W1 hW1;have ql:aq W1 wo.heap.size (encS s) 37:=by rw[hW1];exact aq.new _ _ _
   have hb1:aa wo W1:=by rw[hW1];exact((Ext.refl wo).alloc _).below
   have hz1:W1.heap.size=wo.heap.size+1:=by rw[hW1];simp
   have Z4:=hid (HO.alloc (.cells (encS s) 37 (0,0)));have aeC:Hid (W1.ownsRow w.heap.size 37 4 (.slice a3 m JR) m (aN pk)):=by rw[hW1];exact Z4
   have HSB:=hid ql;have pV:=hid hb1;have HZ1:=hid hz1;clear ql hb1 hz1 hW1 Z4 c0 c1 c2 c3;go_loopw [21,6] (fun i v w2=>∃ j:Nat,j<=m/\i=.int .i64 j/\w2.ownsRow W1.heap.size 37 4 v (aX s (pk.take j)).length (aN (aX s (pk.take j)))/\aa W1 w2) (fun i _ _=>m-(intOf i).toNat);case atStart=>exact⟨0,by omega,rfl,World.ownsRow_nil _ _ _ _,Below.refl _ _⟩
   case round=>
    obtain⟨j,hj,rfl,Sc,hb2⟩:=hrel;obtain⟨a6,VJ,rfl⟩:=ownsRow_form Sc;obtain⟨w2,rfl⟩:=ah (wr:World);have kA:=hid Sc;have fJ:=hid hb2;clear Sc hb2;by_cases Fk:j<m
    ·obtain⟨g3,ha3,hg3,p,hp,Ri⟩:∃ g3,a3=some ⟨g3,0,none⟩/\g3<W1.heap.size/\∃ p,pk[j]? =some p/\∀ i,i<4->W1.cell? ⟨g3,j*4+i,none⟩=(encS p)[i]? :=by
      have YD:j<pk.length:=by rw[<-HMM.out];exact Fk
      obtain⟨g,cap',h1,_,h2,h3⟩:=iW aeC HMM (aC YD);cases h1;exact⟨_,rfl,h2,pk[j],aC YD,h3⟩
     subst ha3;have d0:w2.cell? ⟨g3,j*4,none⟩=some (.int .u64 (wd p 0).toNat):=(fJ.cell (p:=⟨g3,j*4,none⟩) hg3).trans (Ri 0 (by decide));have d1:w2.cell? ⟨g3,j*4+1,none⟩=some (.int .u64 (wd p 1).toNat):=(fJ.cell (p:=⟨g3,j*4+1,none⟩) hg3).trans (Ri 1 (by decide));have d2:w2.cell? ⟨g3,j*4+2,none⟩=some (.int .u64 (wd p 2).toNat):=(fJ.cell (p:=⟨g3,j*4+2,none⟩) hg3).trans (Ri 2 (by decide));have d3:w2.cell? ⟨g3,j*4+3,none⟩=some (.int .u64 (wd p 3).toNat):=(fJ.cell (p:=⟨g3,j*4+3,none⟩) hg3).trans (Ri 3 (by decide));have hQ:aX s (pk.take (j+1))=aX s (pk.take j)++cut s p:=by rw[List.take_add_one,hp];simp[aX]
     have HQ:=hid hQ;have HPj:=hid hp;have HAnd:=hid fun W=>RU p s W
     have NH:=hid fun W=>uS p s W
     have Sd:Hid (cut s p=[p&&& s,p&&& ~~~s].filter fun x=> !(x==0)):=rfl;clear hQ hp Ri;generalize cut s p=cs at HQ Sd;generalize p&&& s=xa at HAnd Sd;generalize p&&& ~~~s=xb at NH Sd;go_wp2;refine ax ?_;intro W2 hW2;have zR:aq W2 w2.heap.size (encS p) 37:=by rw[hW2];exact aq.new _ _ _
     have hx2:aa w2 W2:=by rw[hW2];exact((Ext.refl w2).alloc _).below
     have ql:aq W2 wo.heap.size (encS s) 37:=(HSB.below fJ (by have:=HZ1.out;omega)).below hx2 (by have:=HZ1.out;have:=fJ.size;omega);have Sc:W2.ownsRow W1.heap.size 37 4 (.slice a6 (aX s (pk.take j)).length VJ) (aX s (pk.take j)).length (aN (aX s (pk.take j))):=by rw[hW2];exact kA.alloc _
     have hz2:W2.heap.size=w2.heap.size+1:=by rw[hW2];simp
     have eW:=hid hx2;have VK:=hid Sc;have HZ2:=hid hz2;clear hx2 Sc hz2 hW2 d0 d1 d2 d3 kA;have aeD:wo.heap.size<W2.heap.size:=ql.lt;refine gI (fun b=>b=w2.heap.size\/b=wo.heap.size) (by kernel_rfl) (fun i=>i==2 || i==5 || i==6) (by kernel_rfl) ?_;intro C hC hne W3 hK3 hblk hsz hx3;obtain⟨a0,a1,a2,a3⟩:=zK hC (.inl rfl) zR;obtain⟨b0,b1,b2,b3⟩:=zK hC (.inr rfl) ql;have HC:=hid hC;have Up:=hid hK3;have oZ:=hid hx3;have BR:=hid zR;have aeE:=hid ql;have HS:Hid (∀ b,(b=w2.heap.size\/b=wo.heap.size)->b<W2.heap.size):=fun b hb=>by have h1:=BR.lt;have h2:=aeE.lt;omega
     clear hC hK3 hx3 zR ql hblk hsz aeD
     repeat (refine bR (fun K hK=>?_);refine dI rfl ?_;unfold aB;go_simp;refine hK _ _ ?_;clear hK K)
     refine bR (fun K hK=>?_);refine eM rfl ?_;go_simp;refine fe ((HAnd _).mono ?_);rintro e w4 ⟨rfl,hx⟩;have hk4:=ae.step Up HS hx;refine⟨_,rfl,(HC _).2 hk4,hK _ _ ?_⟩;have YC:=hid hk4;have Cz:=hid hx;clear hK K hk4 hx
     repeat (refine bR (fun K hK=>?_);refine dI rfl ?_;unfold aB;go_simp;refine hK _ _ ?_;clear hK K)
     refine bR (fun K hK=>?_);refine eM rfl ?_;go_simp;refine fe ((NH _).mono ?_);rintro e w5 ⟨rfl,hx⟩;have hk5:=ae.step YC HS hx;refine⟨_,rfl,(HC _).2 hk5,hK _ _ ?_⟩;have HK5:=hid hk5;have VG:=hid hx;clear hK K hk5 hx;refine bR (fun K hK=>?_);refine eM rfl ?_;go_simp;refine⟨(HC _).2 (HK5.alloc (fun b hb=>aw (HS b hb) HK5.size) _),hK _ _ ?_⟩;clear hK K
     repeat (refine bR (fun K hK=>?_);refine dI rfl ?_;unfold aB;go_simp;refine hK _ _ ?_;clear hK K)
     refine rC ?_;go_wp2;refine ax ?_;intro W6 uu;have hx6:aa W2 W6:=by rw[uu];exact(((oZ.trans Cz).trans VG).alloc _).below
     have Z5:aq W6 w5.heap.size (aN [xa,xb]).toArray 37:=by rw[uu];exact aq.new _ _ _
     have hz6:W6.heap.size=w5.heap.size+1:=by rw[uu];simp
     have ho6:W6.ownsRow W1.heap.size 37 4 (.slice a6 (aX s (pk.take j)).length VJ) (aX s (pk.take j)).length (aN (aX s (pk.take j))):=au VK (ae.ai hx6 fun _ h=>h) (fun k e=>(VK.lt k e).2);have h6b:∀ c,(Value.slice a6 (aX s (pk.take j)).length VJ).ownBlock=some c->c≠w5.heap.size:=fun c e=>by
      have h1:=(VK.lt c e).2;have h2:=oZ.size;have h3:=Cz.size;have h4:=VG.size;omega
     have Rg:=hid hx6;have H31:=hid Z5;have HZ6:=hid hz6;have HO6:=hid ho6;have H6b:=hid h6b;clear a0 a1 a2 a3 b0 b1 b2 b3 Up YC HK5 HC HS oZ Cz VG hx6 Z5 hz6 ho6 h6b uu hne C HAnd NH
     go_loopw [33,6] (fun i v w7=>∃ q:Nat,q<=2/\i=.int .i64 q/\w7.ownsRow W1.heap.size 37 4 v (aX s (pk.take j)++([xa,xb].take q).filter fun x=> !(x==0)).length (aN (aX s (pk.take j)++([xa,xb].take q).filter fun x=> !(x==0)))/\
       (∀ c,v.ownBlock=some c->c≠w5.heap.size)/\aq w7 w5.heap.size (aN [xa,xb]).toArray 37/\Below W1.heap.size W6 w7) (fun i _ _=>2-(intOf i).toNat)
     case atStart=>
      refine⟨0,by omega,rfl,?_,H6b,H31,Below.refl _ _⟩;rw[show([xa,xb].take 0).filter (fun x=> !(x==0))=[] from rfl,List.append_nil];exact HO6
     case round=>
      obtain⟨w7,rfl⟩:=ah (wr:World);obtain⟨q,hq,rfl,ho7,rz,Z5,Z7⟩:=hrel;obtain⟨a7,aeI,rfl⟩:=ownsRow_form ho7;have VL:=hid ho7;have VM:=hid rz;have VN:=hid Z5;have VO:=hid Z7;clear ho7 rz Z5 Z7;by_cases VP:q<2
      ·obtain⟨x,hx⟩:∃ x,[xa,xb][q]? =some x:=⟨[xa,xb][q],aC VP⟩
       have ht:[xa,xb].take (q+1)=[xa,xb].take q++ [x]:=by rw[List.take_add_one,hx];rfl
       have uw:∀ i,i<4->w7.cell? ⟨w5.heap.size,q*4+i,none⟩=(encS x)[i]? :=fun i hi=>by
        rw[VN.cell];have:=kG [xa,xb] hx hi;simpa using this
       have e0:w7.cell? ⟨w5.heap.size,q*4,none⟩=some (.int .u64 (wd x 0).toNat):=uw 0 (by decide);have e1:w7.cell? ⟨w5.heap.size,q*4+1,none⟩=some (.int .u64 (wd x 1).toNat):=uw 1 (by decide);have e2:w7.cell? ⟨w5.heap.size,q*4+2,none⟩=some (.int .u64 (wd x 2).toNat):=uw 2 (by decide);have e3:w7.cell? ⟨w5.heap.size,q*4+3,none⟩=some (.int .u64 (wd x 3).toNat):=uw 3 (by decide);have HT:=hid ht;have BU:=hid (xI s (pk.take j));clear hx ht uw;generalize aX s (pk.take j)=nj at VL HQ BU VM ⊢;by_cases hz:x=0#256
       ·have he:∀ W,(Op.equalIn 10000 37 (.agg #[.int .u64 (wd x 0).toNat,.int .u64 (wd x 1).toNat,.int .u64 (wd x 2).toNat,.int .u64 (wd x 3).toNat]) (.agg #[.int .u64 0,.int .u64 0,.int .u64 0,.int .u64 0])).run Tryz.prog W=.ok true W:=fun W=>by
         have h1:=jf x 0 W;rw[gi,hz]at h1;rw[hz];exact h1
        have hf:([x].filter fun x=> !(x==0))=[]:=by rw[hz];rfl
        have HF:=hid hf;clear hz hf;go_wp2;go_roundw;case rel=>
         refine⟨q+1,by omega,by go_num,?_,VM,VN.alloc _,VO.alloc (by have:=VO.size;have:=HZ6.out;have:=Rg.size;have:=eW.size;have:=fJ.size;omega) _⟩;rw[HT.out,List.filter_append,HF.out,List.append_nil];exact VL.alloc _
        case measure=>simp[intOf];omega
       ·have he:∀ W,(Op.equalIn 10000 37 (.agg #[.int .u64 (wd x 0).toNat,.int .u64 (wd x 1).toNat,.int .u64 (wd x 2).toNat,.int .u64 (wd x 3).toNat]) (.agg #[.int .u64 0,.int .u64 0,.int .u64 0,.int .u64 0])).run Tryz.prog W=.ok false W:=fun W=>by
         have h1:=jf x 0 W;rw[gi,show(x==0)=false from by simpa using hz]at h1;exact h1
        have hf:([x].filter fun x=> !(x==0))=[x]:=by simp[hz]
        have HF:=hid hf;have Uq:([xa,xb].take q).length<=2:=by simp;omega
        have hlf:=Nat.le_trans (List.length_filter_le (fun x=> !(x==0)) ([xa,xb].take q)) Uq;have hlj:(pk.take j).length<=256:=by simp;omega
        have HLQ:Hid ((nj++([xa,xb].take q).filter fun x=> !(x==0)).length<=514):=by have h1:=BU.out;show List.length _<=514;rw[aQ];omega
        clear hz hf Uq hlf hlj;obtain⟨nq,hnq⟩:=ah (nj++([xa,xb].take q).filter fun x=> !(x==0));rw[<-hnq]at VL HLQ VM ⊢;have HNQ:=hid hnq;clear hnq;go_wp2_with (at_builtin;refine wpList_append_own_at _ rfl _ _ 70 rfl W1.heap.size 37 i0 (.agg #[.int .u64 0,.int .u64 0,.int .u64 0,.int .u64 0]) 4 32 Tryz.underlying70 hi hz0 hz1 hz2 rfl (by decide) _ _ _ rfl ((VL.alloc _).alloc _) ⟨w7.heap.size+1,0,none⟩ 1 1 (encS x).toList rfl rfl (bQ ((aq.new _ (encS x) 37).at (by simp))) (by intro u hu;simp[encS]at hu;rcases hu with rfl | rfl | rfl | rfl<;>rfl) (by have:=HLQ.out;unfold maxLen;omega) (by have:=HLQ.out;omega) (by have:=VO.size;have:=Rg.size;have:=eW.size;have:=fJ.size;simp;omega) ?_;intro v' w8 hown' hgrow hh hat;have HO8:=hid hown';have HG:=hid hgrow;have zN:=hid hat;clear hown' hgrow hh hat);have NJ:w5.heap.size<w7.heap.size:=by have:=VO.size;have:=HZ6.out;omega
        have aeL:W1.heap.size<=w7.heap.size:=by have:=VO.size;have:=Rg.size;have:=eW.size;have:=fJ.size;omega
        go_roundw
        case rel=>
         refine⟨q+1,by omega,by go_num,?_,fun c e=>?_,?_,?_⟩
         ·rw[HT.out,List.filter_append,HF.out, <-List.append_assoc, <-HNQ.out,aQ,fy,JP]
          exact HO8
         ·have hat':v'.ownBlock=(Value.slice a7 nq.length aeI).ownBlock\/_:=zN.out
          rcases hat' with h | h
          ·exact VM c (by rw[<-h];exact e)
          ·rw[h]at e;simp at e;omega
         ·exact((VN.alloc _).alloc _).grown HG (fun e=>VM _ e.symm rfl)
         ·exact((VO.alloc aeL _).alloc (by simp;omega) _).grown HG (by simp;omega) (fun c e=>(VL.lt c e).1)
        case measure=>simp[intOf];omega
      ·obtain rfl:q=2:=by omega
       have hcs:aX s (pk.take j)++([xa,xb].take 2).filter (fun x=> !(x==0))=aX s (pk.take (j+1)):=by rw[HQ.out,Sd.out];rfl
       rw[hcs]at VL ⊢;clear hcs;go_wp2;go_roundw;case rel=>
        refine⟨j+1,by omega,by go_num,VL,?_⟩;exact((fJ.trans (eW.mono (by have:=fJ.size;omega))).trans (Rg.mono (by have:=eW.size;have:=fJ.size;omega))).trans VO
       case measure=>simp[intOf];omega
    ·obtain rfl:j=m:=by omega
     have hpk:pk.take j=pk:=by rw[HMM.out];exact List.take_length
     rw[hpk, <-HP.out]at kA ⊢;clear hpk;go_wp2;go_roundw;case rel=>
      refine⟨k+1,by omega,by go_num,aG kA (by have:=HZ1.out;have:=HB.size;omega),?_⟩;exact(HB.trans (pV.mono HB.size)).trans (fJ.mono (by have:=HZ1.out;have:=HB.size;omega))
     case measure=>simp[intOf];omega
  ·obtain rfl:k=n:=by omega
   have dT:l.take k=l:=by rw[HN.out];exact List.take_length
   rw[dT]at HO ⊢;clear dT;have hne:bh l≠[]:=fun e=>by have:=qu l;rw[e]at this;simp at this
   obtain⟨g,cur,hg,Um,zS,hcc,hcm,hcs,dT⟩:∃ g cur,a3=some ⟨g,0,none⟩/\w.heap.size<=g/\wo.heap[g]? =some (.cells cur 37 (0,0))/\(bh l).length<=JR/\JR<=maxLen/\cur.size=JR*4/\cur.toList.take ((bh l).length*4)=aN (bh l):=by
    rcases HO.2 with⟨_,h2⟩ | ⟨g,cap',cur,h1,h2,h3,h4,h5,h6,h7⟩
    ·exact absurd (List.eq_nil_of_length_eq_zero h2) hne
    ·cases h1
     exact⟨g,cur,rfl,h2,h3,h4,h5,h6,h7⟩
   subst hg;have eg:∀ args w,(callFunc 108 args).run Tryz.prog w=.ok (.enter 108 args) w:=enters_of Tryz.func108 (by kernel_rfl) rfl;have hcon:=AnyQ.slices_SortFunc_total Tryz.NG 4 Tryz.isAgg37 Tryz.sizeOf37 qx (fun _=>rfl) (fun x v hv=>by simp[qx,encS]at hv;rcases hv with rfl | rfl | rfl | rfl<;>rfl) aW aey 108 #[] g 0 JR (bh l).toArray wo eg
    (fun m os dk _ x y=>(Cy x y _).mono fun e w' ⟨he,hx⟩=>⟨he,hx.grow⟩) (F8 zS dT) (Array.getElem?_eq_some_iff.1 zS).1 (by have:=dK l;simp;omega) ZZ
   have Ur:Hid (ag 107 #[.slice (some ⟨g,0,none⟩) (bh l).length JR,.func (.func 108) #[] #[]] wo fun e w'=>
    e=.returned (.tuple #[])/\∃ n os,w'=sortWorldK qx 4 wo g 0 n (partsOf l).toArray os):=hcon
   clear hcon hne;have hpl:(partsOf l).length=(bh l).length:=by unfold partsOf;exact List.length_mergeSort _
   have HPL:=hid hpl;clear hpl;obtain⟨po,hpo⟩:=ah (partsOf l);rw[<-hpo]at Ur HPL;have HPO:=hid hpo;clear hpo;go_wp2_with (go_at_call 107;refine Ur.mono ?_;rintro e ws ⟨rfl,nd,os,YE⟩;have HWS:=hid YE;clear YE);go_ret;refine⟨_,rfl,?_,?_⟩
   ·rw[HWS.out, <-HPO.out,HPL.out]
    exact xL HPL Um zS hcc hcm hcs
   ·rw[HWS.out]
    exact HB.grown (xK _) HB.size (fun c e=>by cases e;exact Um)
end
section
open Go Go.RowKit Go.Shelf Go.Maps
def cC (p:List BS):List (Nat×Nat):=p.zipIdx.flatMap fun x=>(bK x.1 256).map fun c=>(x.2,c)
theorem C7:cC []=[]:=rfl
theorem zT (p:List BS) (s:BS):cC (p++ [s])=cC p++(bK s 256).map fun c=>(p.length,c):=by unfold cC;rw[List.zipIdx_append];simp
theorem qy {p:List BS} {k:Nat} {s:BS} (h:p[k]? =some s):cC (p.take (k+1))=cC (p.take k)++(bK s 256).map fun c=>(k,c):=by have hk:k<p.length:=(List.getElem?_eq_some_iff.1 h).1;rw[List.take_add_one,h];show cC (p.take k++ [s])=_;rw[zT,List.length_take,Nat.min_eq_left (by omega)]
theorem uV {p:List BS} {k:Nat} {s:BS} (h:p[k]? =some s) (j:Nat):cC (p.take k)++((bK s 256).take j).map (fun c=>(k,c))<+:cC p:=by
 have h1:cC (p.take (k+1))<+:cC p:=by
  have:p=p.take (k+1)++p.drop (k+1):=(List.take_append_drop _ _).symm;have h2:∀ (a b:List BS),cC a<+:cC (a++b):=by intro a b;unfold cC;rw[List.zipIdx_append,List.flatMap_append];exact List.prefix_append _ _
  conv=>rhs;rw[this]
  exact h2 _ _
 refine List.IsPrefix.trans ?_ h1;rw[qy h];exact(List.prefix_append_right_inj _).2 (List.IsPrefix.map _ (List.take_prefix _ _))
theorem Ga {s:BS} {n c:Nat} (h:c∈bK s n):c<n:=by unfold bK at h;simp at h;exact h.1
theorem mL {p:List BS} {x:Nat×Nat} :x∈cC p↔ ∃ s,p[x.1]? =some s/\x.2<256/\s.getLsbD x.2=true:=by
 unfold cC;simp only[List.mem_flatMap,List.mem_map,Prod.exists,List.mem_zipIdx_iff_getElem?,bK];constructor
 ·rintro⟨s,k,h1,c,h2,rfl⟩
  simp at h2;exact⟨s,h1,h2⟩
 ·rintro⟨s,h1,h2,h3⟩
  exact⟨s,x.1,h1,x.2,by simp[h2,h3],rfl⟩
def dU (l:List (Nat×Nat)):List Nat:=l.foldl (fun t x=>t.set x.2 x.1) (List.replicate 256 0)
theorem rK (l:List (Nat×Nat)):∀ (t:List Nat),(l.foldl (fun t x=>t.set x.2 x.1) t).length=t.length:=by
 induction l with
 | nil=>intro t;rfl
 | cons x l ih=>intro t;simp[ih]
theorem fj (l:List (Nat×Nat)):(dU l).length=256:=by unfold dU;rw[rK,List.length_replicate]
theorem sS:dU []=List.replicate 256 0:=rfl
theorem qA (l:List (Nat×Nat)) (x:Nat×Nat):dU (l++ [x])=(dU l).set x.2 x.1:=by unfold dU;rw[List.foldl_append];rfl
def oF (p:List BS):List Nat:=dU (cC p)
theorem iX (p:List BS):(oF p).length=256:=fj _
theorem C9 (l:List (Nat×Nat)) (c:Nat) (hc:c<256):(∃ x∈l,x.2=c/\(dU l)[c]? =some x.1)\/((∀ x∈l,x.2≠c)/\(dU l)[c]? =some 0):=by
 suffices ∀ r:List (Nat×Nat),(∃ x∈r.reverse,x.2=c/\(dU r.reverse)[c]? =some x.1)\/((∀ x∈r.reverse,x.2≠c)/\(dU r.reverse)[c]? =some 0) by
  have:=this l.reverse;rwa[List.reverse_reverse]at this
 intro r;induction r with
 | nil=>right;rw[List.reverse_nil,sS,List.getElem?_replicate,if_pos hc];exact⟨fun x hx=>absurd hx (List.not_mem_nil),rfl⟩
 | cons x r ih=>
  rw[List.reverse_cons,qA];by_cases hx:x.2=c
  ·left
   refine⟨x,by simp,hx,?_⟩;rw[List.getElem?_set,if_pos hx,if_pos (by rw[fj,hx];exact hc)]
  ·rw[List.getElem?_set,if_neg hx]
   rcases ih with⟨y,h1,h2,h3⟩ | ⟨h1,h2⟩
   ·exact .inl ⟨y,by simp only[List.mem_append];exact .inl h1,h2,h3⟩
   ·refine .inr ⟨fun y hy=>?_,h2⟩
    simp only[List.mem_append,List.mem_singleton]at hy;rcases hy with hy | rfl
    ·exact h1 y hy
    ·exact hx
theorem rL (p:List BS) (c:Nat) (hc:c<256):(∃ k s,p[k]? =some s/\s.getLsbD c=true/\(oF p)[c]? =some k)\/((∀ s∈p,s.getLsbD c=false)/\(oF p)[c]? =some 0):=by
 rcases C9 (cC p) c hc with⟨x,h1,h2,h3⟩ | ⟨h1,h2⟩
 ·obtain⟨s,h4,h5,h6⟩:=mL.1 h1
  exact .inl ⟨x.1,s,h4,by rw[<-h2];exact h6,h3⟩
 ·refine .inr ⟨fun s hs=>?_,h2⟩
  obtain⟨k,hk⟩:=List.getElem?_of_mem hs;cases hb:s.getLsbD c with
  | false=>rfl
  | true=>exact absurd rfl (h1 (k,c) (mL.2 ⟨s,hk,hc,hb⟩))
theorem NK (p:List BS) (c:Nat) (hc:c<256) (hp:p.length<=256):∃ k,(oF p)[c]? =some k/\k<256/\(k<p.length\/k=0):=by
 rcases rL p c hc with⟨k,s,h1,_,h3⟩ | ⟨_,h2⟩
 ·have:=(List.getElem?_eq_some_iff.1 h1).1
  exact⟨k,h3,by omega,.inl this⟩
 ·exact⟨0,h2,by omega,.inr rfl⟩
def fR (t:List Nat) (v:Value):Array Value:=((t.map fun (n:Nat)=>Value.int .u8 n)++ [v]).toArray
theorem sT {t:List Nat} {v:Value} {c k:Nat} (h:t[c]? =some k):(fR t v)[c]? =some (.int .u8 k):=by have hc:=(List.getElem?_eq_some_iff.1 h).1;unfold fR;simp only[List.getElem?_toArray];rw[bJ (by simpa using hc),bH,h];rfl
theorem lu {t:List Nat} {v:Value} (h:t.length=256):(fR t v)[256]? =some v:=by unfold fR;simp only[List.getElem?_toArray];rw[cZ (by simp[h])];simp[h]
theorem Da {t:List Nat} {v:Value} {c k:Nat} (h:c<t.length):(fR t v).setIfInBounds c (.int .u8 k)=fR (t.set c k) v:=by unfold fR;simp[h,List.map_set]
def cU (w:World) (base:Nat) (v:Value) (p:List BS):Prop:=
 (v=.pointer none/\p=[])\/∃ b sl,v=.pointer (some ⟨b,0,none⟩)/\base<=b/\aq w b (fR (oF p) sl) 183/\w.ownsRow base 37 4 sl p.length (aN p)/\p.length<=256
theorem cU.keeps {w w':World} {base:Nat} {v:Value} {p:List BS} (h:cU w base v p) {R:Nat->Prop} (hk:ae R w w') (hr:∀ k,base<=k->k<w.heap.size->R k):cU w' base v p:=by
 rcases h with h | ⟨b,sl,h1,h2,h3,h4,h5⟩
 ·exact .inl h
 ·exact .inr ⟨b,sl,h1,h2,h3.keeps hk (hr b h2 h3.lt),au h4 hk fun k e=>hr k (h4.lt k e).1 (h4.lt k e).2,h5⟩
theorem cU.below {w w':World} {base:Nat} {v:Value} {p:List BS} (h:cU w base v p) (hk:aa w w'):cU w' base v p:=h.keeps (ae.ai hk fun _ h=>h) (fun _ _ h=>h)
theorem cU.base {w:World} {base base':Nat} {v:Value} {p:List BS} (h:cU w base v p) (hb:base'<=base):cU w base' v p:=by
 rcases h with h | ⟨b,sl,h1,h2,h3,h4,h5⟩
 ·exact .inl h
 ·exact .inr ⟨b,sl,h1,Nat.le_trans hb h2,h3,aG h4 hb,h5⟩
theorem cU.le {w:World} {base:Nat} {v:Value} {p:List BS} (h:cU w base v p):p.length<=256:=by
 rcases h with⟨_,rfl⟩ | ⟨b,sl,h1,h2,h3,h4,h5⟩
 ·simp
 ·exact h5
attribute [local go_sem] encS
theorem cU.form {w:World} {base:Nat} {v:Value} {p:List BS} (h:cU w base v p):(v=.pointer none/\p=[])\/∃ b sa cap,v=.pointer (some ⟨b,0,none⟩)/\w.cell? ⟨b,256,none⟩=some (.slice sa p.length cap)/\ (∀ c k:Nat,(oF p)[c]? =some k->w.cell? ⟨b,c,none⟩=some (.int .u8 k))/\base<=b/\b<w.heap.size/\ ∀ i s,p[i]? =some s->∃ g,sa=some ⟨g,0,none⟩/\base<=g/\g<w.heap.size/\∀ j,j<4->w.cell? ⟨g,i*4+j,none⟩=(encS s)[j]? :=by
 rcases h with h | ⟨b,sl,h1,h2,h3,h4,h5⟩
 ·exact .inl h
 ·obtain⟨sa,cap,rfl⟩:=ownsRow_form h4
  refine .inr ⟨b,sa,cap,h1,?_,fun c k hk=>?_,h2,h3.lt,fun i s hi=>?_⟩
  ·have hn:(Value.slice sa p.length cap)=.slice sa p.length cap:=rfl
   have:=h3.cell 256;rw[lu (iX p)]at this;exact this
  ·rw[h3.cell c,sT hk]
  ·obtain⟨g,cap',h6,h7,h8,h9⟩:=iW h4 rfl hi
   cases h6
   exact⟨g,rfl,h7,h8,h9⟩
theorem mM (v:Value) (base:Nat) (p:List BS) (w:World) (h:cU w base v p): ag 98 #[v] w fun e w'=>e=.returned (.bool p.isEmpty)/\w'=w:=by
 rcases h.form with⟨rfl,rfl⟩ | ⟨b,sa,cap,rfl,c0,_⟩
 ·clear h
  go_enter Tryz.func98,Tryz.ntmps98
  go_wp2;go_ret;exact⟨rfl,rfl⟩
 ·clear h
  cases p with
  | nil=>
   go_enter Tryz.func98,Tryz.ntmps98
   go_wp2;go_ret;exact⟨rfl,rfl⟩
  | cons s p=>
   go_enter Tryz.func98,Tryz.ntmps98
   go_wp2;go_ret;exact⟨rfl,rfl⟩
theorem Iz (v:Value) (base:Nat) (p:List BS) (w:World) (h:cU w base v p): ag 67 #[v] w fun e w'=>e=.returned (.int .i64 p.length)/\w'=w:=by
 have hn:=mM v base p w h;rcases h.form with⟨rfl,rfl⟩ | ⟨b,sa,cap,rfl,c0,_⟩
 ·have HN:=hid hn
  clear h hn;go_enter Tryz.func67,Tryz.ntmps67;go_wp2_with (go_at_call 98;refine HN.mono ?_;rintro e w1 ⟨rfl,rfl⟩);go_ret;exact⟨rfl,rfl⟩
 ·cases p with
  | nil=>
   have HN:=hid hn;clear h hn;go_enter Tryz.func67,Tryz.ntmps67;go_wp2_with (go_at_call 98;refine HN.mono ?_;rintro e w1 ⟨rfl,rfl⟩);go_ret;exact⟨rfl,rfl⟩
  | cons s p=>
   have HN:=hid hn;clear h hn;go_enter Tryz.func67,Tryz.ntmps67;go_wp2_with (go_at_call 98;refine HN.mono ?_;rintro e w1 ⟨rfl,rfl⟩);go_ret;exact⟨rfl,rfl⟩
def cls (p:List BS) (c:Nat):Nat:=(oF p)[c]?.getD 0
theorem zU (p:List BS) {c:Nat} (hc:c<256):(oF p)[c]? =some (cls p c):=by unfold cls;rw[aC (by rw[iX];exact hc)];rfl
theorem IC (c:Nat):cls [] c=0:=by unfold cls oF;rw[C7,sS,List.getElem?_replicate];split<;>rfl
theorem kj (p:List BS) (c:Nat) (hp:p.length<=256):cls p c<256:=by
 by_cases hc:c<256
 ·obtain⟨k,h1,h2,_⟩:=NK p c hc hp
  unfold cls;rw[h1];exact h2
 ·unfold cls;rw[dD (by rw[iX];omega)];decide
theorem yy (v:Value) (base:Nat) (p:List BS) (c:Nat) (hc:c<256) (w:World) (h:cU w base v p): ag 80 #[v,.int .u8 c] w fun e w'=>e=.returned (.int .i64 (cls p c))/\w'=w:=by
 have hn:=mM v base p w h;have hlt:=kj p c h.le;rcases h.form with⟨rfl,rfl⟩ | ⟨b,sa,cap,rfl,c0,ht,_⟩
 ·have HN:=hid hn
  clear h hn hlt;go_enter Tryz.func80,Tryz.ntmps80;go_wp2_with (go_at_call 98;refine HN.mono ?_;rintro e w1 ⟨rfl,rfl⟩);go_ret;exact⟨by rw[IC];rfl,rfl⟩
 ·have c1:=ht c _ (zU p hc)
  cases p with
  | nil=>
   have HN:=hid hn;clear h hn ht;go_enter Tryz.func80,Tryz.ntmps80;go_wp2_with (go_at_call 98;refine HN.mono ?_;rintro e w1 ⟨rfl,rfl⟩);go_ret;exact⟨by rw[IC];rfl,rfl⟩
  | cons s p=>
   have HN:=hid hn;clear h hn ht;generalize cls (s::p) c=z at c1 hlt ⊢;go_enter Tryz.func80,Tryz.ntmps80;go_wp2_with (go_at_call 98;refine HN.mono ?_;rintro e w1 ⟨rfl,rfl⟩);go_ret;exact⟨rfl,rfl⟩
theorem cU.some {w:World} {base:Nat} {v:Value} {s:BS} {p:List BS} (h:cU w base v (s::p)):∃ b sa cap,v=.pointer (some ⟨b,0,none⟩)/\w.cell? ⟨b,256,none⟩=some (.slice sa (s::p).length cap)/\ (∀ c k:Nat,(oF (s::p))[c]? =some k->w.cell? ⟨b,c,none⟩=some (.int .u8 k))/\base<=b/\b<w.heap.size/\ ∀ i s',(s::p)[i]? =some s'->∃ g,sa=some ⟨g,0,none⟩/\base<=g/\g<w.heap.size/\∀ j,j<4->w.cell? ⟨g,i*4+j,none⟩=(encS s')[j]? :=by
 rcases h.form with⟨_,h⟩ | h
 ·cases h
 ·exact h
def setOf (p:List BS) (k:Int):Option BS:=if 0<=k then p[k.toNat]? else none
theorem JS (k:Int):setOf [] k=none:=by unfold setOf;split<;>simp
theorem JT (p:List BS) {k:Int} (h:k<0):setOf p k=none:=by unfold setOf;rw[if_neg (by omega)]
theorem Gb (p:List BS) {k:Int} (h:(p.length:Int)<=k):setOf p k=none:=by unfold setOf;rw[if_pos (by omega),dD (by omega)]
theorem nJ (p:List BS) (k:Nat):setOf p k=p[k]? :=by unfold setOf;rw[if_pos (by omega),Int.toNat_natCast]
theorem Db (p:List BS) (k:Int):(setOf p k=none/\(k<0\/(p.length:Int)<=k))\/∃ (n:Nat) (s:BS),k=n/\n<p.length/\p[n]? =some s/\setOf p k=some s:=by
 by_cases h1:k<0
 ·exact .inl ⟨JT p h1,.inl h1⟩
 ·by_cases h2:(p.length:Int)<=k
  ·exact .inl ⟨Gb p h2,.inr h2⟩
  ·obtain⟨n,rfl⟩:∃ n:Nat,k=n:=⟨k.toNat,by omega⟩
   have h3:n<p.length:=by omega
   exact .inr ⟨n,p[n],rfl,h3,aC h3,by rw[nJ];exact aC h3⟩
theorem Gc (v:Value) (base:Nat) (p:List BS) (k:Int) (w:World) (h:cU w base v p): ag 99 #[v,.int .i64 k] w fun e w'=>e=.returned (.bool (setOf p k).isSome)/\w'=w:=by
 have hn:=mM v base p w h;cases p with
 | nil=>
  have HN:=hid hn;clear h hn;go_enter Tryz.func99,Tryz.ntmps99;go_wp2_with (go_at_call 98;refine HN.mono ?_;rintro e w1 ⟨rfl,rfl⟩);go_ret;exact⟨by rw[JS];rfl,rfl⟩
 | cons s p=>
  obtain⟨b,sa,cap,rfl,c0,_⟩:=h.some;have hp:=Db (s::p) k;have hle:=h.le;generalize (s::p).length=m at c0 hp hle;generalize setOf (s::p) k=r at hp ⊢;have HN:=hid hn;clear h hn;rcases hp with⟨rfl,h1 | h1⟩ | ⟨n,t,rfl,h1,_,rfl⟩
  ·go_enter Tryz.func99,Tryz.ntmps99
   go_wp2_with (go_at_call 98;refine HN.mono ?_;rintro e w1 ⟨rfl,rfl⟩)
   go_ret;exact⟨rfl,rfl⟩
  ·go_enter Tryz.func99,Tryz.ntmps99
   go_wp2_with (go_at_call 98;refine HN.mono ?_;rintro e w1 ⟨rfl,rfl⟩)
   go_ret;exact⟨by rw[show(decide (k<(m:Int)))=false from decide_eq_false (by omega)];rfl,rfl⟩
  ·go_enter Tryz.func99,Tryz.ntmps99
   go_wp2_with (go_at_call 98;refine HN.mono ?_;rintro e w1 ⟨rfl,rfl⟩)
   go_ret;exact⟨rfl,rfl⟩
theorem zV (v:Value) (base:Nat) (p:List BS) (k:Int) (w:World) (h:cU w base v p): ag 68 #[v,.int .i64 k] w fun e w'=>e=.returned (.tuple #[.agg (encS ((setOf p k).getD 0)),.bool (setOf p k).isSome])/\Ext w w':=by
 have hn:=Gc v base p k w h;have hz:=gi;rcases Db p k with⟨h1,_⟩ | ⟨n,t,rfl,h1,h2,h3⟩
 ·rw[h1]at hn ⊢
  have HI:=hid (fun o=>(show ag 99 #[v,.int .i64 k] (w.alloc o) _ from Gc v base p k (w.alloc o) (h.below ((Ext.refl w).alloc o).below)));rw[h1]at HI;clear h hn h1;go_enter Tryz.func68,Tryz.ntmps68;go_wp2_with (go_at_call 99;refine(HI _).mono ?_;rintro e w1 ⟨rfl,rfl⟩);refine bodyPost_ret (v:=.tuple #[.agg (encS 0),.bool false]) ?_ rfl ⟨rfl,(Ext.refl w).alloc _⟩;rw[hz];simp[results,Tryz.results68,go_sem]
 ·cases p with
  | nil=>simp at h1
  | cons s p=>
  obtain⟨b,sa,cap,rfl,c0,_,_,hb,hr⟩:=h.some;obtain⟨g,rfl,_,hg,hc⟩:=hr n t h2;have hle:=h.le;have d0:w.cell? ⟨g,n*4,none⟩=some (.int .u64 (wd t 0).toNat):=hc 0 (by decide);have d1:w.cell? ⟨g,n*4+1,none⟩=some (.int .u64 (wd t 1).toNat):=hc 1 (by decide);have d2:w.cell? ⟨g,n*4+2,none⟩=some (.int .u64 (wd t 2).toNat):=hc 2 (by decide);have d3:w.cell? ⟨g,n*4+3,none⟩=some (.int .u64 (wd t 3).toNat):=hc 3 (by decide);have HI:=hid (fun o=>(show ag 99 #[_,.int .i64 n] (w.alloc o) _ from Gc _ base _ n (w.alloc o) (h.below ((Ext.refl w).alloc o).below)));rw[h3]at HI ⊢;generalize (s::p).length=m at c0 hle h1;clear h hn hc hr h2 h3;go_enter Tryz.func68,Tryz.ntmps68;go_wp2_with (go_at_call 99;refine(HI _).mono ?_;rintro e w1 ⟨rfl,rfl⟩);refine bodyPost_ret (v:=.tuple #[.agg (encS t),.bool true]) ?_ rfl ⟨rfl,(Ext.refl w).alloc _⟩;simp[results,Tryz.results68,go_sem]
def leastOf (p:List BS) (k:Int):Nat×Bool:=match setOf p k with | none=>(0,false) | some s=>aZ s
theorem yz (v:Value) (base:Nat) (p:List BS) (k:Int) (w:World) (h:cU w base v p): ag 69 #[v,.int .i64 k] w fun e w'=>e=.returned (.tuple #[.int .u8 (leastOf p k).1,.bool (leastOf p k).2])/\Ext w w':=by
 have HS:=hid (zV v base p k w h);clear h;unfold leastOf;generalize setOf p k=r at HS ⊢;cases r with
 | none=>
  go_enter Tryz.func69,Tryz.ntmps69
  go_wp2_with (go_at_call 68;refine HS.mono ?_;rintro e w1 ⟨rfl,hx⟩;have HX:=hid hx;clear hx)
  refine bodyPost_ret (v:=.tuple #[.int .u8 (0:Nat),.bool false]) ?_ rfl ⟨rfl,HX.alloc _⟩;simp[results,Tryz.results69,go_sem]
 | some s=>
  have HF:=hid (rI s);dsimp only at HS ⊢;generalize aZ s=z at HF ⊢;have hs:(some s).getD 0=s:=rfl;go_enter Tryz.func69,Tryz.ntmps69;go_wp2_with (first | (go_at_call 68;refine HS.mono ?_;rintro e w1 ⟨rfl,hx⟩;have HX:=hid hx;clear hx) | (go_at_call 90;refine(HF _).mono ?_;rintro e w2 ⟨rfl,hx⟩;have eW:=hid hx;clear hx));refine bodyPost_ret (v:=.tuple #[.int .u8 z.1,.bool z.2]) ?_ rfl ⟨rfl,(HX.alloc _).trans eW⟩;simp[results,Tryz.results69,go_sem]
end
section
open Go Go.RowKit Go.Shelf Go.Maps
attribute [local go_sem] encS Oper.semAt_some eU cJ
theorem zW (ad:Option Addr) (w:World):ag 132 #[.pointer ad] w fun e w'=>e=.returned (.func (.func 150) #[] #[.pointer (some ⟨w.heap.size,0,none⟩)])/\w'=w.alloc (.cells #[.pointer ad] 146 (0,0)):=by
 go_enter Tryz.func132,Tryz.ntmps132
 go_wp2;go_ret;exact⟨rfl,rfl⟩
def uW (w:World) (g:Nat) (sa:Option Addr) (p:List BS):Prop:=g<w.heap.size/\∀ i s,p[i]? =some s->sa=some ⟨g,0,none⟩/\∀ j,j<4->w.cell? ⟨g,i*4+j,none⟩=(encS s)[j]?
theorem uW.keeps {w w':World} {g:Nat} {sa:Option Addr} {p:List BS} (h:uW w g sa p) {R:Nat->Prop} (hk:ae R w w') (hr:R g):uW w' g sa p:=
 ⟨aw h.1 hk.size,fun i s hi=>⟨(h.2 i s hi).1,fun j hj=>(hk.cell (p:=⟨g,i*4+j,none⟩) hr).trans ((h.2 i s hi).2 j hj)⟩⟩
theorem xM {w:World} {base n:Nat} {v:Value} {l:List Nat} (h:w.ownsRow base 5 1 v n (l.map eN)) (hn:n=l.length):∃ g a cap,v=.slice a n cap/\(n=0\/a=some ⟨g,0,none⟩/\base<=g/\g<w.heap.size/\∀ i c:Nat,l[i]? =some c->w.cell? ⟨g,i,none⟩=some (.int .u8 c)):=by
 rcases h.2 with⟨h1,h2⟩ | ⟨g,cap,cur,hv,hb,hg,_,_,hs,ht⟩
 ·exact⟨0,none,0,by rw[h1,h2],.inl h2⟩
 ·refine⟨g,_,cap,hv,.inr ⟨rfl,hb,(Array.getElem?_eq_some_iff.1 hg).1,fun i c hi=>?_⟩⟩
  have hlt:i<l.length:=(List.getElem?_eq_some_iff.1 hi).1;have hc:w.cell? ⟨g,i,none⟩=cur[i]? :=by simp[World.cell?,hg]
  have h3:cur[i]? =(l.map eN)[i]? :=by rw[<-ht,List.getElem?_take,if_pos (by omega)];simp
  rw[hc,h3,bH,hi];rfl
theorem Dc (p:List BS) (bx ab g n cap:Nat) (sa:Option Addr) (w:World) (hp:n=p.length) (hn:p.length<=256) (xF:w.cell? ⟨bx,0,none⟩=some (.pointer (some ⟨ab,0,none⟩))) (Ms:bx<w.heap.size) (hab:w.cell? ⟨ab,256,none⟩=some (.slice sa n cap)) (has:ab<w.heap.size) (hr:uW w g sa p): Seq false Tryz.prog 150 #[.pointer (some ⟨bx,0,none⟩)] (fun x:Nat×Nat=> #[.int .i64 x.1,.int .u8 x.2]) (· =g) (cC p) w:=by
 intro l J Jx W hK hJ NC hY h0;have c0:W.cell? ⟨bx,0,none⟩=_:=(hK.cell (p:=⟨bx,0,none⟩) Ms).trans xF;have c1:W.cell? ⟨ab,256,none⟩=_:=(hK.cell (p:=⟨ab,256,none⟩) has).trans hab;have hr1:uW W g sa p:=hr.keeps hK hr.1;have HY:=hid hY;have HB:=hid fun s W=>JO s W
 have Sg:=hid hr1;have HJ:=hid hJ;have HP:=hid hp;have hn':n<=256:=by omega
 clear hY xF hab Ms has hr hr1 NC hK hJ hp hn;refine callsIn_wide (n:=0).1 ?_;refine callsIn_of_wp Tryz.func150 rfl trivial ?_ rfl;simp only[Tryz.ntmps150,List.size_toArray,List.length_cons,List.length_nil,Nat.reduceAdd,Nat.reduceSub,Array.replicate_succ,Array.replicate_zero,List.push_toArray,List.append_toArray,List.nil_append,List.cons_append]
 gi_wp2
 gi_loopw [12] (fun i wr=>∃ (k:Nat) (T:Nat->Prop),k<=n/\i=.int .i64 k/\J (cC (p.take k)) T wr/\(∀ k,T k->W.heap.size<=k/\k<wr.heap.size)/\ae (· =g) W wr)
  (fun i _=>n-(intOf i).toNat)
 case atStart=>
  exact⟨0,fun _=>False,by omega,rfl,h0,fun _ h=>h.elim,ae.refl _ _⟩
 case round=>
  clear c0 c1 h0;obtain⟨wo,rfl⟩:=ah (wr:World);obtain⟨k,T,hk,rfl,hj,hT,hR⟩:=hrel;have Sh:=hid hj;have HT:=hid hT;have HR:=hid hR;clear hj hT hR;by_cases hlt:k<n
  ·obtain⟨s,hs⟩:∃ s,p[k]? =some s:=⟨_,aC (by have:=HP.out;omega)⟩
   obtain⟨Rj,hcs⟩:=(Sg.keeps HR rfl).2 k s hs;subst Rj;have d0:wo.cell? ⟨g,k*4,none⟩=some (.int .u64 (wd s 0).toNat):=hcs 0 (by decide);have d1:wo.cell? ⟨g,k*4+1,none⟩=some (.int .u64 (wd s 1).toNat):=hcs 1 (by decide);have d2:wo.cell? ⟨g,k*4+2,none⟩=some (.int .u64 (wd s 2).toNat):=hcs 2 (by decide);have d3:wo.cell? ⟨g,k*4+3,none⟩=some (.int .u64 (wd s 3).toNat):=hcs 3 (by decide);have HPT:=hid (qy hs);have yw:=hid (uV hs);have ID:Hid (∀ c∈bK s 256,c<256):=fun c h=>Ga h
   have HBs:=hid (HB.out s);have hlen:(bK s 256).length<=256:=by unfold bK;exact Nat.le_trans (List.length_filter_le _ _) (by simp)
   clear hcs hs;generalize bK s 256=bs at HPT yw ID HBs hlen;obtain⟨m,hm⟩:=ah bs.length;rw[<-hm]at HBs hlen;have HM:=hid hm;clear hm
   gi_wp2_with (gi_at_call 151;refine(callsIn_wide.2 (HBs _)).mono ?_;rintro e w1 ⟨v,rfl,h1,h2⟩;obtain⟨gb,ba,akJ,rfl,h3⟩:=xM h1 HM;have H2:=hid h2;have H3:=hid h3;clear h1 h2 h3)
   obtain⟨T',Iy⟩:=ah (fun x=>T x\/(0<m/\x=gb):Nat->Prop);have hx1:aa wo w1:=((Ext.refl wo).alloc _).below.trans (H2.mono (by simp));have hsz:wo.heap.size<=w1.heap.size:=hx1.size;have hTb:∀ x,T' x->W.heap.size<=x/\x<w1.heap.size:=fun x hx=>by
    rw[Iy]at hx;rcases hx with hx | ⟨h0,rfl⟩
    ·have:=HT.out x hx;omega
    ·rcases H3.out with h | ⟨_,h1,h2,_⟩
     ·omega
     ·have:=HR.size;simp at h1;omega
   have Si:J (cC (p.take k)) T' w1:=HJ.out _ T T' wo w1 Sh HT hTb (fun x hx=>by rw[Iy];exact .inl hx) (fun x hx=>by
    rw[Iy]at hx;rcases hx with hx | ⟨h0,rfl⟩
    ·exact .inl hx
    ·rcases H3.out with h | ⟨_,h1,h2,_⟩
     ·omega
     ·simp at h1;exact .inr (by omega)) ⟨ae.ai hx1 fun _ h=>h.1,fun h=>(by cases h)⟩
   have sP:ae (· =g) W w1:=HR.tr (ae.ai hx1 fun x h=>by have h1:=(Sg.keeps HR rfl).1;rw[show x=g from h];exact h1);have H3':Hid (m=0\/ba=some ⟨gb,0,none⟩/\T' gb/\∀ i c:Nat,bs[i]? =some c->w1.cell? ⟨gb,i,none⟩=some (.int .u8 c)):=by
    by_cases YF:m=0
    ·exact .inl YF
    ·rcases H3.out with h | ⟨h1,_,_,h4⟩
     ·exact absurd h YF
     ·exact .inr ⟨h1,by rw[Iy];exact .inr ⟨by omega,rfl⟩,h4⟩
   have HJ1:=hid Si;have ND:=hid sP;have YG:=hid hTb;clear Iy hx1 hsz hTb Si sP H3 H2 Sh HT HR d0 d1 d2 d3 HBs
   gi_loopw [20] (fun i w2=>∃ j:Nat,j<=m/\i=.int .i64 j/\J (cC (p.take k)++(bs.take j).map fun c=>(k,c)) T' w2/\ae (fun x=>x=g\/T' x) w1 w2) (fun i _=>m-(intOf i).toNat)
   case atStart=>
    refine⟨0,by omega,rfl,?_,ae.refl _ _⟩;rw[List.take_zero,List.map_nil,List.append_nil];exact HJ1
   case round=>
    obtain⟨w2,rfl⟩:=ah (wr:World);obtain⟨j,hj,rfl,VQ,hkk⟩:=hrel;have YH:=hid VQ;have Fm:=hid hkk;clear VQ hkk HJ1;by_cases Fk:j<m
    ·obtain⟨Gd,hg,hcb⟩:=H3'.resolve_left (by omega)
     subst Gd;obtain⟨c,hc⟩:∃ c,bs[j]? =some c:=⟨_,aC (by have:=HM.out;omega)⟩;have l5:c<256:=ID.out c (aA hc);have e0:w2.cell? ⟨gb,j,none⟩=some (.int .u8 c):=(Fm.cell (p:=⟨gb,j,none⟩) (.inr hg)).trans (hcb j c hc);have dT:(bs.take (j+1)).map (fun c=>(k,c))=(bs.take j).map (fun c=>(k,c))++ [(k,c)]:=by rw[List.take_add_one,hc];simp
     have Mr:(cC (p.take k)++(bs.take j).map fun c=>(k,c))++ [(k,c)]<+:cC p:=by have:=yw.out (j+1);rw[dT, <-List.append_assoc]at this;exact this
     obtain⟨fn,tm,ym,bd,hy,sN⟩:=HY.out _ (k,c) T' w2 Mr (fun x hx=>⟨(YG x hx).1,aw (YG x hx).2 Fm.size⟩) (ND.tr (Fm.mono fun x hx=>.inl hx)) YH;have BQ:=hid sN;have jg:=hid dT;have Z8:=hid Mr;clear sN hg hcb hc dT Mr;dsimp only at hy
     gi_wp2
     refine BQ.mono ?_;rintro e W2 (⟨rfl,fC,hk2⟩ | ⟨rfl,fC,hk2⟩)
     ·have mD:=hid fC
      have jO:=hid hk2;clear fC hk2 hy
      gi_wp2
      go_roundw
      case rel=>
       refine⟨j+1,by omega,by go_num,?_,Fm.tr (jO)⟩;rw[jg.out, <-List.append_assoc];exact mD
      case measure=>simp[intOf];omega
     ·have mD:=hid fC
      have jO:=hid hk2;clear fC hk2 hy
      gi_wp2
      refine bodyPost_ret (results_none rfl _ _ _) rfl ?_;exact⟨⟨_,rfl⟩,T',fun x hx=>⟨(YG x hx).1,aw (YG x hx).2 (Nat.le_trans Fm.size jO.size)⟩,.inr ⟨_,Z8,mD⟩⟩
    ·obtain rfl:j=m:=by omega
     gi_wp2
     go_roundw
     case rel=>
      refine⟨k+1,T',by omega,by go_num,?_,fun x hx=>⟨(YG x hx).1,aw (YG x hx).2 Fm.size⟩,ND.tr (Fm.mono fun x hx=>.inl hx)⟩;rw[HPT.out];have:=YH.out;rwa[HM.out,List.take_length]at this
     case measure=>simp[intOf];omega
  ·obtain rfl:k=n:=by omega
   gi_wp2
   refine bodyPost_end (results_none rfl _ _ _) rfl ?_;refine⟨⟨_,rfl⟩,T,HT,.inl ?_⟩;have:=Sh.out;rwa[HP.out,List.take_length]at this
theorem xN {w:World} {base n:Nat} {v:Value} {p:List BS} (h:w.ownsRow base 37 4 v n (aN p)) (hn:n=p.length):∃ sa cap,v=.slice sa n cap/\((p=[]/\n=0)\/∃ g,uW w g sa p):=by
 rcases h.2 with⟨h1,h2⟩ | ⟨g,cap,cur,hv,hb,hg,_⟩
 ·exact⟨none,0,by rw[h1,h2],.inl ⟨List.eq_nil_of_length_eq_zero (by omega),h2⟩⟩
 ·refine⟨_,cap,hv,.inr ⟨g,(Array.getElem?_eq_some_iff.1 hg).1,fun i s hi=>?_⟩⟩
  obtain⟨g',cap',h6,h7,h8,h9⟩:=iW h hn hi;rw[hv]at h6;cases h6;exact⟨rfl,h9⟩
theorem zX (v:Value):Tryz.zeroCells183.setIfInBounds 256 v=fR (dU []) v:=by kernel_rfl
theorem NL (p:List BS) (v:Value) (base:Nat) (w:World) (h:w.ownsRow base 37 4 v p.length (aN p)) (hb:base<=w.heap.size) (hp:p.length<=256): ag 97 #[v] w fun e w'=>∃ b,e=.returned (.pointer (some ⟨b,0,none⟩))/\cU w' base (.pointer (some ⟨b,0,none⟩)) p/\aa w w':=by
 have eg:∀ args w,(callFunc 150 args).run Tryz.prog w=.ok (.enter 150 args) w:=enters_of Tryz.func150 (by kernel_rfl) rfl;obtain⟨n,hn⟩:=ah p.length;rw[<-hn]at h;obtain⟨sa,cap,rfl,hrow⟩:=xN h hn;have H:=hid h;have HR:=hid hrow;have HN:=hid hn;have HP:=hid hp;have HB:=hid hb;clear h hrow hn hp hb;refine bG Tryz.func97 rfl ?_;simp only[Tryz.ntmps97,List.size_toArray,List.length_cons,List.length_nil,Nat.reduceAdd,Nat.reduceSub,Array.replicate_succ,Array.replicate_zero,List.push_toArray,List.append_toArray,List.nil_append,List.cons_append];go_wp2_with (go_at_call 132;refine(zW _ _).mono ?_;rintro e w1 ⟨rfl,rfl⟩);rw[zX];refine ax ?_;intro W0 hW0;have hab:aq W0 w.heap.size (fR (dU []) (.slice sa n cap)) 183:=by rw[hW0];exact((aq.new _ _ _).alloc _).alloc _
 have xF:aq W0 (w.heap.size+1) #[.pointer (some ⟨w.heap.size,0,none⟩)] 146:=by rw[hW0];exact((aq.new _ _ _).at (by simp)).alloc _
 have oG:aq W0 (w.heap.size+1+1) #[.pointer (some ⟨w.heap.size,0,none⟩)] 146:=by rw[hW0];exact(aq.new _ _ _).at (by simp)
 have hx0:Ext w W0:=by rw[hW0];exact(((Ext.refl w).alloc _).alloc _).alloc _
 have hsz:W0.heap.size=w.heap.size+1+1+1:=by rw[hW0];simp
 clear hW0;obtain⟨g,hg,hr⟩:∃ g,(g≠w.heap.size/\g≠w.heap.size+1/\g<W0.heap.size)/\uW W0 g sa p:=by
  rcases HR.out with⟨h1,_⟩ | ⟨g,h1⟩
  ·exact⟨w.heap.size+1+1,⟨by omega,by omega,by omega⟩,by omega,fun i s hi=>by rw[h1]at hi;simp at hi⟩
  ·exact⟨g,⟨by have:=h1.1;omega,by have:=h1.1;omega,by have:=h1.1;omega⟩,h1.keeps hx0.keeps h1.1⟩
 have hseq:=Dc p (w.heap.size+1+1) w.heap.size g n cap sa W0 HN HP (oG.cell 0) oG.lt (by rw[hab.cell 256,lu (fj _)]) hab.lt hr;clear hr oG;refine ig hseq (by rfl) eg (by intro _;rfl) (by intro k hk;rw[show k=g from hk];exact hg.2.2)
  (fun xs _ W=>aq W w.heap.size (fR (dU xs) (.slice sa n cap)) 183/\aq W (w.heap.size+1) #[.pointer (some ⟨w.heap.size,0,none⟩)] 146/\aa w W)
  (fun _ _ _ _=>False)
  (fun xs T T' W W' ⟨h1,h2,h3⟩ hT _ _ _ hk=>⟨h1.gT hT hk (by omega),h2.gT hT hk (by omega),dc h3 hT hk (aD _) (by omega)⟩)
  (fun c xs T T' W W' h=>h.elim)
  ⟨hab,xF,hx0.below⟩
  (fun x=>⟨#[.slice sa n cap,undef,.pointer none,.pointer (some ⟨w.heap.size+1,0,none⟩),.int .i64 x.1,.int .u8 x.2,.slice sa n cap,.agg (fR (dU []) (.slice sa n cap)),.pointer (some ⟨w.heap.size,0,none⟩),.pointer (some ⟨w.heap.size,0,none⟩),
   .func (.func 150) #[] #[.pointer (some ⟨w.heap.size+1+1,0,none⟩)],.int .i64 x.1,.int .u8 x.2,undef,undef,undef,undef,undef,undef,undef,undef],[]⟩) ?assign ?body ?done ?stop
 case assign=>
  intro l x W K hK
  gi_wp2
  exact hK
 case body=>
  rintro l pre ⟨k,c⟩ T W bF hT _ rE hl ⟨g1,g2,g3⟩;have ik:(k,c)∈cC p:=bF.subset (by simp);obtain⟨s,h1,l5,_⟩:=mL.1 ik;have ahZ:k<256:=by have:=(List.getElem?_eq_some_iff.1 h1).1;have:=HP.out;dsimp only at*;omega
  dsimp only at l5;obtain⟨y,hy⟩:∃ y,(dU pre)[c]? =some y:=⟨_,aC (by rw[fj];exact l5)⟩;have c0:W.cell? ⟨w.heap.size+1,0,none⟩=some (.pointer (some ⟨w.heap.size,0,none⟩)):=g2.cell 0;have c1:W.cell? ⟨w.heap.size,c,none⟩=some (.int .u8 y):=(g1.cell c).trans (sT hy);have f1:=g1.frozen c;have rM:=g1.set c (.int .u8 k);rw[Da (by rw[fj];exact l5)]at rM;have Mt:=qA pre (k,c);rw[<-Mt]at rM;have NM:=hid rM;have HG2:=hid (g2.other (p:=⟨w.heap.size,c,none⟩) (by simp) (.int .u8 k));have HG3:=hid (g3.setCell (p:=⟨w.heap.size,c,none⟩) (aD _) (.int .u8 k));have HT:=hid hT;have HG:=hid hg;have jV:=hid hsz;clear rM Mt g1 g2 g3 hT hy h1 ik rE hl hg hsz hab xF hx0 bF hseq
  gi_wp2
  refine⟨(ae.refl _ _).setCell (fun h=>?_) _,NM,HG2,HG3⟩;have hgg:=HG.out;have hss:=jV.out;rcases h with h | h
  ·exact hgg.1 h.symm
  ·have:=(HT.out _ h).1;dsimp only at this;omega
 case done=>
  rintro D T W hD rJ hT ⟨g1,g2,g3⟩ jN;have c0:W.cell? ⟨w.heap.size+1,0,none⟩=some (.pointer (some ⟨w.heap.size,0,none⟩)):=g2.cell 0;have G1:=hid g1;have G3:=hid g3;have HD:=hid hD;have jV:=hid hsz;have oD:=hid jN;clear g1 g2 g3 hsz hT rJ jN hD hg hab xF hx0 hseq;dsimp only;go_wp2;refine cB rfl oD (results_tmp rfl _ _ _) ⟨_,rfl,.inr ⟨_,_,rfl,HB,G1.put (by have:=HD.out;have:=jV.out;omega) _,?_,HP⟩,((ae.ai G3 (fun _ h=>h)).putObj (by have:=HD.out;have:=jV.out;omega) _).below⟩;have h1:=au H (ae.ai G3 fun _ h=>h) (fun k e=>(H.lt k e).2);rw[HN.out]at h1;rw[<-HN.out,HN.out];exact ownsRow_putObj h1 _ oD rfl
 case stop=>rintro D c pre T W _ _ _ _ h _;exact h.elim
end
section
open Go Go.RowKit Go.Shelf Go.Maps
attribute [local go_sem] encS
theorem cR.keeps {α:Type} {enc:α->Value} {w w':World} {v:Value} {l:List α} (h:cR enc w v l) {R:Nat->Prop} (hk:ae R w w') (hr:∀ b off n cap,v=.slice (some ⟨b,off,none⟩) n cap->R b):cR enc w' v l:=by
 rcases h with h | ⟨b,off,cap,hv,hb,hc,h⟩
 ·exact .inl h
 ·exact .inr ⟨b,off,cap,hv,aw hb hk.size,hc,fun i x hi=>(hk.cell (p:=⟨b,off+i,none⟩) (hr _ _ _ _ hv)).trans (h i x hi)⟩
theorem cR.below {α:Type} {enc:α->Value} {w w':World} {v:Value} {l:List α} (h:cR enc w v l) (hk:aa w w'):cR enc w' v l:=by
 rcases h with h | ⟨b,off,cap,hv,hb,hc,h⟩
 ·exact .inl h
 ·exact .inr ⟨b,off,cap,hv,aw hb hk.size,hc,fun i x hi=>(hk.cell (p:=⟨b,off+i,none⟩) hb).trans (h i x hi)⟩
theorem cR.form {α:Type} {enc:α->Value} {w:World} {v:Value} {l:List α} (h:cR enc w v l):∃ a cap,v=.slice a l.length cap:=by
 rcases h with⟨h,rfl⟩ | ⟨b,off,cap,hv,_⟩
 ·exact⟨_,_,h⟩
 ·exact⟨_,_,hv⟩
theorem cR.elem {α:Type} {enc:α->Value} {w:World} {a:Option Addr} {n cap:Nat} {l:List α} (h:cR enc w (.slice a n cap) l) {i:Nat} {x:α} (hi:l[i]? =some x):∃ b off,a=some ⟨b,off,none⟩/\b<w.heap.size/\w.cell? ⟨b,off+i,none⟩=some (enc x):=by
 rcases h with⟨_,rfl⟩ | ⟨b,off,cap,hv,hb,hc,h⟩
 ·simp at hi
 ·cases hv;exact⟨b,off,rfl,hb,h i x hi⟩
theorem dP {α:Type} {enc:α->Value} {w:World} {base n:Nat} {v:Value} {e:TypeId} {l:List α} (h:w.ownsRow base e 1 v n (l.map enc)) (hn:n=l.length):cR enc w v l:=by
 rcases h.2 with⟨h1,h2⟩ | ⟨g,cap,cur,hv,hb,hg,hc,_,hs,ht⟩
 ·exact .inl ⟨h1,List.eq_nil_of_length_eq_zero (by omega)⟩
 ·refine .inr ⟨g,0,cap,by rw[hv,hn],(Array.getElem?_eq_some_iff.1 hg).1,by omega,fun i x hi=>?_⟩
  have hlt:i<l.length:=(List.getElem?_eq_some_iff.1 hi).1;have hc:w.cell? ⟨g,0+i,none⟩=cur[i]? :=by simp[World.cell?,hg]
  have h3:cur[i]? =(l.map enc)[i]? :=by rw[<-ht,List.getElem?_take,if_pos (by omega)];simp
  rw[hc,h3,bH,hi];rfl
theorem Tryz.qB:(Tryz.prog.info? 3).map (fun i=>(i.zero,i.size,i.bytes))=some (some (.int .i64 0),1,8):=by kernel_rfl
def VR (n:Nat):Value:=.int .i64 n
def aV (k:Int):Value:=.int .i64 k
theorem Dd (l:List BS):(partsOf l).length<=256:=by unfold partsOf;rw[List.length_mergeSort];exact dK l
theorem lx (l:List BS) (v0:Value) (w:World) (hl:dn w v0 l) (hlen:l.length<=9223372036854775807): ag 66 #[v0] w fun e w'=>∃ b,e=.returned (.pointer (some ⟨b,0,none⟩))/\cU w' w.heap.size (.pointer (some ⟨b,0,none⟩)) (partsOf l)/\aa w w':=by have HP:=hid (yx l v0 w hl hlen);have HL:=hid (Dd l);clear hl;generalize partsOf l=p at HP HL ⊢;go_enter Tryz.func66,Tryz.ntmps66;go_wp2_with (first | (go_at_call 76;refine HP.mono ?_;rintro e w1 ⟨v1,rfl,h1,h2⟩;have H1:=hid h1;have H2:=hid h2;clear h1 h2) | (go_at_call 97;refine(NL p _ w.heap.size _ H1 H2.size HL).mono ?_;rintro e w2 ⟨b,rfl,h1,h2⟩;have H3:=hid h1;have H4:=hid h2;clear h1 h2));go_ret;exact⟨b,rfl,H3,H2.trans (H4.mono H2.size)⟩
end
section
open Go Go.RowKit Go.Shelf Go.Maps
attribute [local go_sem] encS
end
section
open Go Go.RowKit Go.Shelf Go.Maps
attribute [local go_sem] encS
end
section
open Go Go.RowKit Go.Shelf Go.Maps
attribute [local go_sem] encS
end
section
open Go Go.RowKit Go.Shelf Go.Maps
theorem js (l:List BS):∀ u∈aN l,u.oneCell'=true:=by intro u hu;unfold aN at hu;obtain⟨s,_,hs⟩:=List.mem_flatMap.1 hu;simp[encS]at hs;rcases hs with rfl | rfl | rfl | rfl<;>rfl
theorem cU.row {w:World} {base:Nat} {v:Value} {s:BS} {p:List BS} (h:cU w base v (s::p)): ∃ b g cap,v=.pointer (Option.some ⟨b,0,none⟩)/\b<w.heap.size/\g<w.heap.size/\w.cell? ⟨b,256,none⟩=Option.some (.slice (Option.some ⟨g,0,none⟩) (s::p).length cap)/\ ∀ j u,(aN (s::p))[j]? =Option.some u->w.cell? ((⟨g,0,none⟩:Addr).add j)=Option.some u:=by
 rcases h with⟨_,h⟩ | ⟨b,sl,h1,h2,h3,h4,h5⟩
 ·cases h
 ·obtain⟨g,cap,e,_,hg,_⟩:=iW (i:=0) (s:=s) h4 rfl rfl
  subst e;refine⟨b,g,cap,h1,h3.lt,hg,?_,h4.cells rfl⟩;have:=h3.cell 256;rw[lu (iX _)]at this;exact this
def zY (p q:List BS) (w:World) (e:Ending) (w':World):Prop:=
 if p.isEmpty || q.isEmpty then e=.returned (.pointer none)/\aa w w' else ∃ b,e=.returned (.pointer (some ⟨b,0,none⟩))/\cU w' w.heap.size (.pointer (some ⟨b,0,none⟩)) (partsOf (p++q))/\aa w w'
theorem NN (v v2:Value) (base Us:Nat) (p q:List BS) (w:World) (h:cU w base v p) (h2:cU w Us v2 q): ag 79 #[v,v2] w (zY p q w):=by
 have xO:=hid (mM v base p w h);have tS:=hid (mM v2 Us q w h2);cases p with
 | nil=>
  rw[show([]:List BS).isEmpty=true from rfl]at xO;clear h h2;go_enter Tryz.func79,Tryz.ntmps79;go_wp2_with fail
  refine(xO).mono ?_;rintro e w' ⟨rfl,hw⟩;replace hw:=hw.symm;subst hw;go_wp2;go_ret;exact⟨rfl,Below.refl _ _⟩
 | cons s p=>
  rw[show(s::p).isEmpty=false from rfl]at xO;cases q with
  | nil=>
   rw[show([]:List BS).isEmpty=true from rfl]at tS;clear h h2;go_enter Tryz.func79,Tryz.ntmps79;go_wp2_with fail
   refine(xO).mono ?_;rintro e w' ⟨rfl,hw⟩;replace hw:=hw.symm;subst hw;go_wp2_with fail
   refine(tS).mono ?_;rintro e w' ⟨rfl,hw⟩;replace hw:=hw.symm;subst hw;go_wp2;go_ret;exact⟨rfl,Below.refl _ _⟩
  | cons t q=>
   rw[show(t::q).isEmpty=false from rfl]at tS;have hj:∀ e w',(∃ b,e=.returned (.pointer (some ⟨b,0,none⟩))/\cU w' w.heap.size (.pointer (some ⟨b,0,none⟩)) (partsOf ((s::p)++(t::q)))/\aa w w')->zY (s::p) (t::q) w e w':=fun e w' h=>h
   obtain⟨i0,hi,hz0,hz1,hz2⟩:=info_parts Tryz.CZ;obtain⟨b,g,cap,rfl,hb,hg,hc,hr⟩:=h.row;obtain⟨b2,g2,aeQ,rfl,hb2,hg2,hc2,hr2⟩:=h2.row;have hle:=h.le;have aeR:=h2.le;generalize zY (s::p) (t::q) w=J at*;generalize s::p=p at*;generalize t::q=q at*;obtain⟨n,hn⟩:=ah p.length;obtain⟨m,hm⟩:=ah q.length;rw[<-hn]at hc hle;rw[<-hm]at hc2 aeR;have Z9:=hid hn;have HMm:=hid hm;have HR:=hid hr;have YI:=hid hr2;have HJ:=hid hj;clear h h2 hr hr2 hn hm hj;go_enter Tryz.func79,Tryz.ntmps79;go_wp2_with fail
   refine(xO).mono ?_;rintro e w' ⟨rfl,hw⟩;replace hw:=hw.symm;subst hw;go_wp2_with fail
   refine(tS).mono ?_;rintro e w' ⟨rfl,hw⟩;replace hw:=hw.symm;subst hw;go_wp2;refine gI (fun x=>x<w.heap.size) (by kernel_rfl) (fun i=>i==0 || i==5 || i==10 || i==11) (by kernel_rfl) ?_;intro C hC hne W0 Iu hblk hsz hx0;have HC:=hid hC;have zM:=hid Iu;have Mq:=hid hx0;refine eJ.out ?_;have f1:=dJ hC (p:=⟨b,256,none⟩) hb hc;have f2:=dJ hC (p:=⟨b2,256,none⟩) hb2 hc2;have HSz:=hid hsz;clear hC Iu hblk hsz hx0 hc hc2;refine ft (fun K hK=>?_);refine Nc rfl rfl ?_;go_simp;have k1:=zM.alloc (fun x hx=>aw hx zM.size) (.cells #[] 37 (0,0));refine⟨(HC _).2 k1,hK _ _ ?_⟩;clear hK K;have ND:=hid k1;clear k1;have o1:(W0.alloc (.cells #[] 37 (0,0))).ownsRow W0.heap.size 37 4 (.slice (some ⟨W0.heap.size,0,none⟩) 0 0) 0 []:=⟨rfl,.inr ⟨W0.heap.size,0, #[],rfl,aD _,World.alloc_heap_new _ _,aD _,by simp,rfl,rfl⟩⟩;have Z4:=hid o1;clear o1
   repeat (refine ft (fun K hK=>?_);first | (refine lexN rfl ?_;try go_simp;refine hK _ _ ?_;clear hK K) | (refine RF rfl rfl ?_;unfold aB;go_simp;refine hK _ _ ?_;clear hK K))
   refine ft (fun K hK=>?_);refine Nc rfl rfl (qm (.tmp 11) (.tmp 15) 70 rfl (W0.heap.size) 37 i0 (.agg #[.int .u64 0,.int .u64 0,.int .u64 0,.int .u64 0]) 4 32 Tryz.underlying70 hi hz0 hz1 hz2 rfl (by decide) _ (0) _ rfl (Z4) (⟨g,0,none⟩) (n) (cap) (aN p) rfl (by rw[dw,Z9.out]) (fun j u hj=>(ND.cell (p:=(⟨g,0,none⟩:Addr).add j) (by rw[Addr.add_mid];exact hg)).trans (HR j u hj)) (js p) (by unfold maxLen;omega) (by omega) (by simp) ?_);intro v2 w2 ho hgr hat;obtain⟨a2,c2,rfl⟩:=ownsRow_form ho;go_simp;have k2:ae (fun x=>x<w.heap.size) w w2:=ND.tr (ae.bA hgr (fun x hx=>⟨aw hx ND.size,fun e=>by have:=Z4.lt x e.symm;have:=zM.size;omega⟩));refine⟨(HC _).2 k2,hK _ _ ?_⟩;rw[Nat.zero_add,List.nil_append]at ho;have kA:=hid ho;have jO:=hid k2;have S2:=hid (Nat.le_trans (Nat.le_trans (aD _) (by simp:W0.heap.size<=(W0.alloc (.cells #[] 37 (0,0))).heap.size)) hgr.size);clear hK K ho k2 hgr hat
   repeat (refine ft (fun K hK=>?_);first | (refine lexN rfl ?_;try go_simp;refine hK _ _ ?_;clear hK K) | (refine RF rfl rfl ?_;unfold aB;go_simp;refine hK _ _ ?_;clear hK K))
   refine ft (fun K hK=>?_);refine Nc rfl rfl (qm (.tmp 16) (.tmp 20) 70 rfl (W0.heap.size) 37 i0 (.agg #[.int .u64 0,.int .u64 0,.int .u64 0,.int .u64 0]) 4 32 Tryz.underlying70 hi hz0 hz1 hz2 rfl (by decide) _ (n) _ rfl (kA) (⟨g2,0,none⟩) (m) (aeQ) (aN q) rfl (by rw[dw,HMm.out]) (fun j u hj=>(jO.cell (p:=(⟨g2,0,none⟩:Addr).add j) (by rw[Addr.add_mid];exact hg2)).trans (YI j u hj)) (js q) (by unfold maxLen;omega) (by omega) (S2) ?_);intro v3 w3 ho hgr hat;obtain⟨a3,c3,rfl⟩:=ownsRow_form ho;go_simp;have k3:ae (fun x=>x<w.heap.size) w w3:=jO.tr (ae.bA hgr (fun x hx=>⟨aw hx jO.size,fun e=>by have:=kA.lt x e.symm;have:=zM.size;omega⟩));refine⟨(HC _).2 k3,hK _ _ ?_⟩;have o3:w3.ownsRow W0.heap.size 37 4 (.slice a3 (n+m) c3) (p++q).length (aN (p++q)):=by
    rw[aQ, <-Z9.out, <-HMm.out,fy];exact ho
   have HI3:=hid (iV o3);have Up:=hid k3;clear hK K ho k3 hgr hat o3;have HS:=hid (fun x (hx:x<w.heap.size)=>hx);refine ft (fun K hK=>?_);refine Nc rfl rfl ?_;go_simp;refine fe ((lx (p++q) _ _ HI3 (by rw[aQ, <-Z9.out, <-HMm.out];omega)).mono ?_);rintro e w4 ⟨bo,rfl,h1,hx⟩;have hk4:=ae.eI Up HS hx;refine⟨_,rfl,(HC _).2 hk4,hK _ _ ?_⟩;have YC:=hid hk4;clear hK K hk4
   repeat (refine ft (fun K hK=>?_);first | (refine lexN rfl ?_;try go_simp;refine hK _ _ ?_;clear hK K) | (refine RF rfl rfl ?_;unfold aB;go_simp;refine hK _ _ ?_;clear hK K))
   refine Cn ?_;go_wp2;exact HJ _ _ ⟨bo,rfl,h1.base Up.size,YC.below⟩
end
end Go.Proofs.YtpcmhjbehdgdbaaGreatDoor
