/- ProductCounts returns true for any small steps, any small steps, any byte, any integer; the arguments read behind the call as they did. No condition. A tied card: the three listed tables hold at the call what the program's text lays. Printed by wip/gen/drow.py. -/
import Derived.Test.YtalombmiochpmaaGreatDoorCards
import Derived.Test.YtalombmiochpmaaGreatDoorTie
import Derived.Test.YtalombmiochpmaaGreatDoorOP39
import Derived.Deep.DeepHandedRow
import Derived.Stop.LaidErr
set_option maxRecDepth 100000
set_option maxHeartbeats 16000000
open Go.Lib (hid)
namespace Go.Proofs.YtalombmiochpmaaGreatDoor
open Go Go.ChangeShapes Go.WideShapes Go.ChangeAt Go.RowKit
theorem zQ:Tryz.prog.globalNamed "internal/strconv.uint64pow10" =some 1:=by kernel_rfl
theorem ri:(Tryz.prog.globals[1]?).map (·.type)=some 258:=by kernel_rfl
theorem vL:Tryz.prog.cellsOf 258=20:=by kernel_rfl
theorem vM:Tryz.prog.cellsOf 57=1:=by kernel_rfl
theorem wW {W:World} (h:laidMetH Tryz.prog Rows.productCountsRow.laid W):pK W:=by have h1:laidMet Tryz.prog [("math/bits.deBruijn32tab",Rows.laid_math_bits_deBruijn32tab),("math/bits.deBruijn64tab",Rows.laid_math_bits_deBruijn64tab),("internal/strconv.uint64pow10",Lib.tabData .u64 Lib.pow10Tab)] W:=h;exact Lib.tabIs_of_head (rest:=[]) zQ ri Tryz.underlying258 Tryz.underlying57 vM vL h1.tail.tail
noncomputable def kC (cs:Array Value):Obj->Obj
 | .cells _ t frozen=>.cells cs t frozen
 | o=>o
noncomputable def jq (os:Os):World:=
 {World.holding Tryz.prog os ⟨#[], #[],[]⟩with heap:=(((World.holding Tryz.prog os ⟨#[], #[],[]⟩).heap.modify 1 (kC #[.int .u64 1,.int .u64 10,.int .u64 100,.int .u64 1000,.int .u64 10000,.int .u64 100000,.int .u64 1000000,.int .u64 10000000,.int .u64 100000000,.int .u64 1000000000,.int .u64 10000000000,.int .u64 100000000000,.int .u64 1000000000000,.int .u64 10000000000000,.int .u64 100000000000000,.int .u64 1000000000000000,.int .u64 10000000000000000,.int .u64 100000000000000000,.int .u64 1000000000000000000,.int .u64 10000000000000000000])).modify 2 (kC #[.int .u8 0,.int .u8 1,.int .u8 28,.int .u8 2,.int .u8 29,.int .u8 14,.int .u8 24,.int .u8 3,.int .u8 30,.int .u8 22,.int .u8 20,.int .u8 15,.int .u8 25,.int .u8 17,.int .u8 4,.int .u8 8,.int .u8 31,.int .u8 27,.int .u8 13,.int .u8 23,.int .u8 21,.int .u8 19,.int .u8 16,.int .u8 7,.int .u8 26,.int .u8 12,.int .u8 18,.int .u8 6,.int .u8 11,.int .u8 5,.int .u8 10,.int .u8 9])).modify 3 (kC #[.int .u8 0,.int .u8 1,.int .u8 56,.int .u8 2,.int .u8 57,.int .u8 49,.int .u8 28,.int .u8 3,.int .u8 61,.int .u8 58,.int .u8 42,.int .u8 50,.int .u8 38,.int .u8 29,.int .u8 17,.int .u8 4,.int .u8 62,.int .u8 47,.int .u8 59,.int .u8 36,.int .u8 45,.int .u8 43,.int .u8 51,.int .u8 22,.int .u8 53,.int .u8 39,.int .u8 33,.int .u8 30,.int .u8 24,.int .u8 18,.int .u8 12,.int .u8 5,.int .u8 63,.int .u8 55,.int .u8 48,.int .u8 27,.int .u8 60,.int .u8 41,.int .u8 37,.int .u8 16,.int .u8 46,.int .u8 35,.int .u8 44,.int .u8 21,.int .u8 52,.int .u8 32,.int .u8 23,.int .u8 11,.int .u8 54,.int .u8 26,.int .u8 40,.int .u8 15,.int .u8 34,.int .u8 20,.int .u8 31,.int .u8 10,.int .u8 25,.int .u8 14,.int .u8 19,.int .u8 9,.int .u8 13,.int .u8 8,.int .u8 7,.int .u8 6])}
theorem Dq (os:Os):laidMet Tryz.prog Rows.productCountsRow.laid ((jq os).forCall (fun _ _=>0) ⟨#[], #[.slice none 0 0,.slice none 0 0,.int .u8 0,.int .i64 0],[]⟩).memory:=
 laidMet_of_run' 8 (by kernel_rfl) (by kernel_rfl)
theorem wX (os:Os) {H:Type} (enc:TypeId×Value->H):∃ places,DataW.whole enc Tryz.prog ((jq os).forCall (fun _ _=>0) ⟨#[], #[.slice none 0 0,.slice none 0 0,.int .u8 0,.int .i64 0],[]⟩).memory Tryz.f5.params.toList Rows.productCountsSpec.vars false (#[.slice none 0 0,.slice none 0 0,.int .u8 0,.int .i64 0]:Array Value).toList 8=some ([.nil,.nil,.lit (.int .u8 0),.lit (.int .i64 0)],[],places):=
 ⟨[],by kernel_rfl⟩
theorem vN (os:Os) (started:os.Started) (H:Type) (enc:TypeId×Value->H) (F:Stop.Interp): ReturnsInHanded {} Tryz.checked os 5 .any ((OpenSpec.ofChange Rows.productCountsSpec).preRow enc Tryz.prog Tryz.f5 Rows.productCountsRow.domain false Rows.productCountsRow.laid) (((OpenSpec.ofChange Rows.productCountsSpec).at F).post enc Tryz.prog Tryz.f5 false true false false):=by
 obtain⟨places,hx⟩:=wX os enc;refine returnsInHanded_of_row (C:=Tryz.checked) (s:=OpenSpec.ofChange Rows.productCountsSpec) Tryz.own started (by kernel_rfl) Tryz.func5
  (witness_row_at (enc:=enc) (C:=Tryz.checked) false (jq os) #[.slice none 0 0,.slice none 0 0,.int .u8 0,.int .i64 0] rfl (by kernel_rfl) (by kernel_rfl) (by kernel_rfl)
   (OpenSpec.preRow_of_cond 8 hx (by kernel_rfl) (fun k hk=>by cases hk) (by kernel_rfl) (Dq os))) ?_
 intro W base args ds gs before aau hW _ _ aeX hL _ _;have hval:∀ (j:Nat) t v,Tryz.f5.params[j]? =some t->args[j]? =some v->Value.okWide Tryz.prog W .any base t v:=aau;have hT:∀ V,Below W.heap.size W V->pK V:=fun V hV=>(wW hL).below hV
 have hW1:DataW.Whole enc Tryz.prog Tryz.f5.params.toList Rows.productCountsSpec.vars false W args.toList ds gs before:=hW;have Lm:=hW1;obtain⟨p,q,hA0,hV,rfl,hfz,Xd⟩:=hW1;have hA:DataW.TrodAll enc Tryz.prog W 0 (fun _=>true) true Tryz.f5.params.toList args.toList ds p:=hA0;have hsz:(DataW.weightsEach Tryz.prog (Tryz.f5.params.toList++Rows.productCountsSpec.plain.varTypes Tryz.prog) (ds++gs)).all (· <=reachBytes)=true:=aeX;rw[Tryz.params5]at hA hval hsz;obtain⟨v0,v1,v2,v3,d0,d1,d2,d3,p0,p1,p2,p3,rfl,rfl,rfl,h0,h1,h2,h3⟩:=trodAll_four hA;obtain⟨l0,s0,g0⟩:=vo (hval 0 _ v0 rfl rfl) h0 (xK hsz (j:=0) rfl rfl);obtain⟨l1,s1,g1⟩:=vo (hval 1 _ v1 rfl rfl) h1 (xK hsz (j:=1) rfl rfl);obtain⟨x2,rfl,u2⟩:=P6 (hval 2 _ v2 rfl rfl) h2;obtain⟨x3,rfl,_,_,_⟩:=open_int Tryz.underlying3 (hval 3 _ v3 rfl rfl) h3;refine(pW v0 v1 l0 l1 g0 g1 x2 u2 x3 W s0 s1 hT).mono fun e W' ⟨he,hw⟩=>⟨_,he,?_⟩
 exact Ll (s:=Rows.productCountsSpec) Tryz.laidOut rfl (by rw[Tryz.params5];exact of_decide_eq_true (by kernel_rfl)) rfl Tryz.underlying4 rfl Lm hw
theorem zR:Rows.ProductCountsSaid:=
 OpenClaim.holds_of_cond 5 Tryz.f5 rfl rfl rfl rfl rfl rfl rfl ⟨rfl,rfl,rfl,rfl,rfl⟩ rfl rfl rfl rfl rfl (by kernel_rfl) Tryz.func5 (by kernel_rfl)
  (of_decide_eq_true (by kernel_rfl)) (by unfold Func.isWrapper;first | (rw[if_pos (by decide+kernel)];kernel_rfl) | (rw[if_neg (by decide+kernel)];exact⟨rfl,rfl⟩))
  (fun os started H enc _ F=>by rw[OpenClaim.pre_eq_preRow];exact vN os started H enc F)
theorem wY (f:FuncId) (fn:Func) (hf:Tryz.pinned.checked.prog.funcNamed "repartee/reparteelaw19.ProductCounts" =some f) (hfn:Tryz.pinned.checked.prog.funcs[f]? =some fn): true=Tryz.pinned.checked.prog.looks []/\∀ (j:Nat) t,fn.params[j]? =some t->Tryz.pinned.checked.prog.wantsStandIn t=false:=by
 obtain rfl:f=5:=Option.some.inj ((show Tryz.prog.funcNamed "repartee/reparteelaw19.ProductCounts" =some 5 by kernel_rfl).symm.trans hf) |>.symm;obtain rfl:fn=Tryz.f5:=(Option.some.inj (Tryz.func5.symm.trans hfn)).symm;refine⟨by kernel_rfl,fun j t ht=>?_⟩;rw[Tryz.params5]at ht;have h2:t=22\/t=5\/t=3:=by have:=Array.mem_of_getElem? ht;simpa using this
 rcases h2 with rfl | rfl | rfl
 ·exact(show Tryz.prog.wantsStandIn 22=false by kernel_rfl)
 ·exact(show Tryz.prog.wantsStandIn 5=false by kernel_rfl)
 ·exact(show Tryz.prog.wantsStandIn 3=false by kernel_rfl)
theorem pcounts_card:Rows.ProductCountsCardSaid:=
 Claim7.holds_tied_plain_at .later [] _ _ _ _ zR (fun _ h=>by cases h) (by kernel_rfl) (fun _ h=>by cases h) productCounts_row_tie rfl ⟨rfl,rfl⟩ (by kernel_rfl) rfl wY (by kernel_rfl)
end Go.Proofs.YtalombmiochpmaaGreatDoor
