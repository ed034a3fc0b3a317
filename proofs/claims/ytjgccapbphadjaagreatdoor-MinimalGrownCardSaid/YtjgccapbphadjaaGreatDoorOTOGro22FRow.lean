/- MinimalGrown returns true for any small one, any byte, any byte, any bytes; the arguments read behind the call as they did. No condition. A tied card: the three listed tables hold at the call what the program's text lays. Printed by wip/gen/drow.py. -/
import Derived.Test.YtjgccapbphadjaaGreatDoorCards
import Derived.Test.YtjgccapbphadjaaGreatDoorTie
import Derived.Test.YtjgccapbphadjaaGreatDoorOT02
import Derived.Deep.DeepHandedRow
import Derived.Stop.LaidErr
set_option maxRecDepth 100000
set_option maxHeartbeats 16000000
open Go.Lib (hid)
open Go.Value renaming int->An,slice->A_
open Go.Proofs.Tryz renaming prog->As,f4->AN,checked->A',params4->Bm,func4->Bs
open Go.Proofs.YtjgccapbphadjaaGreatDoor.Rows renaming minimalGrownSpec->AF,minimalGrownRow->AM
open Go.IntKind renaming u8->AI,u64->AT
open Go.OpenSpec renaming ofChange->AS
namespace Go.Proofs.YtjgccapbphadjaaGreatDoor
open Go Go.ChangeShapes Go.WideShapes Go.ChangeAt Go.RowKit
theorem acA:As.globalNamed "internal/strconv.uint64pow10" =some 0:=by kernel_rfl
theorem abq:(As.globals[0]?).map (·.type)=some 346:=by kernel_rfl
theorem abP:As.cellsOf 346=20:=by kernel_rfl
theorem abQ:As.cellsOf 54=1:=by kernel_rfl
theorem abT {W:World} (h:laidMetH As AM.laid W):nB W:=by have h1:laidMet As [("math/bits.deBruijn32tab",Rows.laid_math_bits_deBruijn32tab),("math/bits.deBruijn64tab",Rows.laid_math_bits_deBruijn64tab),("internal/strconv.uint64pow10",Lib.tabData AT Lib.pow10Tab)] W:=h;exact Lib.tabIs_of_head (rest:=[]) acA abq Tryz.underlying346 Tryz.underlying54 abQ abP h1.tail.tail
noncomputable def abb (cs:Array Value):Obj->Obj
 | .cells _ t frozen=>.cells cs t frozen
 | o=>o
noncomputable def aa8 (os:Os):World:=
 {World.holding As os ⟨#[], #[],[]⟩with heap:=(((World.holding As os ⟨#[], #[],[]⟩).heap.modify 0 (abb #[An AT 1,An AT 10,An AT 100,An AT 1000,An AT 10000,An AT 100000,An AT 1000000,An AT 10000000,An AT 100000000,An AT 1000000000,An AT 10000000000,An AT 100000000000,An AT 1000000000000,An AT 10000000000000,An AT 100000000000000,An AT 1000000000000000,An AT 10000000000000000,An AT 100000000000000000,An AT 1000000000000000000,An AT 10000000000000000000])).modify 1 (abb #[An AI 0,An AI 1,An AI 28,An AI 2,An AI 29,An AI 14,An AI 24,An AI 3,An AI 30,An AI 22,An AI 20,An AI 15,An AI 25,An AI 17,An AI 4,An AI 8,An AI 31,An AI 27,An AI 13,An AI 23,An AI 21,An AI 19,An AI 16,An AI 7,An AI 26,An AI 12,An AI 18,An AI 6,An AI 11,An AI 5,An AI 10,An AI 9])).modify 2 (abb #[An AI 0,An AI 1,An AI 56,An AI 2,An AI 57,An AI 49,An AI 28,An AI 3,An AI 61,An AI 58,An AI 42,An AI 50,An AI 38,An AI 29,An AI 17,An AI 4,An AI 62,An AI 47,An AI 59,An AI 36,An AI 45,An AI 43,An AI 51,An AI 22,An AI 53,An AI 39,An AI 33,An AI 30,An AI 24,An AI 18,An AI 12,An AI 5,An AI 63,An AI 55,An AI 48,An AI 27,An AI 60,An AI 41,An AI 37,An AI 16,An AI 46,An AI 35,An AI 44,An AI 21,An AI 52,An AI 32,An AI 23,An AI 11,An AI 54,An AI 26,An AI 40,An AI 15,An AI 34,An AI 20,An AI 31,An AI 10,An AI 25,An AI 14,An AI 19,An AI 9,An AI 13,An AI 8,An AI 7,An AI 6])}
theorem acZ (os:Os):laidMet As AM.laid ((aa8 os).forCall (fun _ _=>0) ⟨#[], #[.agg #[A_ none 0 0,An AI 0],An AI 0,An AI 0,A_ none 0 0],[]⟩).memory:=
 laidMet_of_run' 8 (by kernel_rfl) (by kernel_rfl)
theorem abU (os:Os) {H:Type} (enc:TypeId×Value->H):∃ places,DataW.whole enc As ((aa8 os).forCall (fun _ _=>0) ⟨#[], #[.agg #[A_ none 0 0,An AI 0],An AI 0,An AI 0,A_ none 0 0],[]⟩).memory AN.params.toList AF.vars false (#[.agg #[A_ none 0 0,An AI 0],An AI 0,An AI 0,A_ none 0 0]:Array Value).toList 8=some ([.agg [.nil,.lit (.int AI 0)],.lit (.int AI 0),.lit (.int AI 0),.nil],[],places):=
 ⟨[],by kernel_rfl⟩
theorem abR (os:Os) (started:os.Started) (H:Type) (enc:TypeId×Value->H) (F:Stop.Interp): ReturnsInHanded {} A' os 4 .any ((AS AF).preRow enc As AN AM.domain false AM.laid) (((AS AF).at F).post enc As AN false true false false):=by
 obtain⟨places,hx⟩:=abU os enc;refine returnsInHanded_of_row (C:=A') (s:=AS AF) Tryz.own started (by kernel_rfl) Bs
  (witness_row_at (enc:=enc) (C:=A') false (aa8 os) #[.agg #[A_ none 0 0,An AI 0],An AI 0,An AI 0,A_ none 0 0] rfl (by kernel_rfl) (by kernel_rfl) (by kernel_rfl)
   (OpenSpec.preRow_of_cond 8 hx (by kernel_rfl) (fun k hk=>by cases hk) (by kernel_rfl) (acZ os))) ?_
 intro W base args ds gs before aex hW _ _ aji hL _ _;have hval:∀ (j:Nat) t v,AN.params[j]? =some t->args[j]? =some v->Value.okWide As W .any base t v:=aex;have hT:∀ V,aa W V->nB V:=fun V hV=>(abT hL).below hV
 have hW1:DataW.Whole enc As AN.params.toList AF.vars false W args.toList ds gs before:=hW;have Ll:=hW1;obtain⟨p,q,hA0,hV,rfl,hfz,VI⟩:=hW1;have hA:DataW.TrodAll enc As W 0 (fun _=>true) true AN.params.toList args.toList ds p:=hA0;have hsz:(DataW.weightsEach As (AN.params.toList++AF.plain.varTypes As) (ds++gs)).all (· <=reachBytes)=true:=aji;rw[Bm]at hA hval hsz;obtain⟨v0,v1,v2,v3,d0,d1,d2,d3,p0,p1,p2,p3,rfl,rfl,rfl,h0,h1,h2,h3⟩:=trodAll_four hA;obtain⟨l0,f0,s0,g0,u0⟩:=Sw (hval 0 _ v0 rfl rfl) h0 (Lv hsz (j:=0) rfl rfl);obtain⟨x1,rfl,u1⟩:=Ub (hval 1 _ v1 rfl rfl) h1;obtain⟨x2,rfl,u2⟩:=Ub (hval 2 _ v2 rfl rfl) h2;obtain⟨l3,q3,_,s3⟩:=acG (hval 3 _ v3 rfl rfl) h3;refine(abp v0 v3 l0 g0 f0 u0 x1 u1 x2 u2 l3 q3 W s0 s3 hT).mono fun e W' ⟨he,hw⟩=>⟨_,he,?_⟩
 exact Pg (s:=AF) Tryz.laidOut rfl (by rw[Bm];exact of_decide_eq_true (by kernel_rfl)) rfl Tryz.underlying4 rfl Ll hw
theorem acB:Rows.MinimalGrownSaid:=
 OpenClaim.holds_of_cond 4 AN rfl rfl rfl rfl rfl rfl rfl ⟨rfl,rfl,rfl,rfl,rfl⟩ rfl rfl rfl rfl rfl (by kernel_rfl) Bs abE
  (of_decide_eq_true (by kernel_rfl)) (by unfold Func.isWrapper;first | (rw[if_pos (by decide+kernel)];kernel_rfl) | (rw[if_neg (by decide+kernel)];exact⟨rfl,rfl⟩))
  (fun os started H enc _ F=>by rw[OpenClaim.pre_eq_preRow];exact abR os started H enc F)
theorem abV (f:FuncId) (fn:Func) (hf:Tryz.pinned.checked.prog.funcNamed "repartee/reparteelaw22.MinimalGrown" =some f) (hfn:Tryz.pinned.checked.prog.funcs[f]? =some fn): true=Tryz.pinned.checked.prog.looks []/\∀ (j:Nat) t,fn.params[j]? =some t->Tryz.pinned.checked.prog.wantsStandIn t=false:=by
 obtain rfl:f=4:=Option.some.inj ((show As.funcNamed "repartee/reparteelaw22.MinimalGrown" =some 4 by kernel_rfl).symm.trans hf) |>.symm;obtain rfl:fn=AN:=(Option.some.inj (Bs.symm.trans hfn)).symm;refine⟨by kernel_rfl,fun j t ht=>?_⟩;rw[Bm]at ht;have h2:t=24\/t=5\/t=44:=by have:=Array.mem_of_getElem? ht;simpa using this
 rcases h2 with rfl | rfl | rfl
 ·exact(show As.wantsStandIn 24=false by kernel_rfl)
 ·exact(show As.wantsStandIn 5=false by kernel_rfl)
 ·exact(show As.wantsStandIn 44=false by kernel_rfl)
theorem migrown_card:Rows.MinimalGrownCardSaid:=
 Claim7.holds_tied_plain_at .later [] _ _ _ _ acB (fun _ h=>by cases h) (by kernel_rfl) (fun _ h=>by cases h) minimalGrown_row_tie rfl ⟨rfl,rfl⟩ (by kernel_rfl) rfl abV (by kernel_rfl)
end Go.Proofs.YtjgccapbphadjaaGreatDoor
