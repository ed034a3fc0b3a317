/- dfa.Of: sets as a source of an append; plain facts. -/
import Derived.Test.YtalombmiochpmaaGreatDoorOP31
import Derived.Lib.SlBuf
set_option maxRecDepth 100000
set_option maxHeartbeats 16000000
open Go.Lib (hid)
namespace Go.Proofs.YtalombmiochpmaaGreatDoor
open Go Go.RowKit Go.Shelf Go.Maps
theorem FU (p:Addr) (w:World): CallsD Tryz.prog 103 #[.pointer (some p)] .returning w fun e u' w'=>e=.returned (.tuple #[])/\u'=.returning/\w'=w:=by
 refine callsD_of_wpS Tryz.func103 rfl fun aad cs hu=>?_
 apply wpS_seq;apply wpS_region;simp[wpOpsS,go_sem,recoverD,hu,Tryz.ntmps103,Exit.thenS];refine wpS_of_wp ?_;go_wp2;cases aad
 simp_all[bodyPostS,results,Tryz.results103]
theorem sM (p:Addr) (x:Value) (Te:List PanicEntry) (w:World) (hc:w.cell? p=some x) (hz:w.frozen? p=false) (hp:p.block<w.heap.size): CallsD Tryz.prog 103 #[.pointer (some p)] (.panicking ({v:=.iface 174 (.agg #[]),recovered:=false} ::Te)) w fun e u' w'=>
   e=.returned (.tuple #[])/\u'=.panicking ({v:=.iface 174 (.agg #[]),recovered:=true} ::Te)/\∃ w2,Below w.heap.size w w2/\w'=w2.setCell p (.int .i64 181):=by
 refine callsD_of_wpS Tryz.func103 rfl fun aad cs hu=>?_
 apply wpS_seq;apply wpS_region;simp[wpOpsS,go_sem,recoverD,hu,Tryz.ntmps103,Exit.thenS];refine wpS_of_wp ?_;have hta:∀ w:World,(Instr.typeAssert (.iface 174 (.agg #[])) 20 174 true).run Tryz.prog w=.ok (.tuple #[.agg #[],.bool true]) w:=fun _=>by kernel_rfl
 have hK:aa (· <w.heap.size) w (w.alloc (.cells #[] 174)):=aa.aj ((Ext.refl w).alloc _).below fun _ h=>h
 have hc2:(w.alloc (.cells #[] 174)).cell? p=some x:=(hK.cell hp).trans hc;have hz2:(w.alloc (.cells #[] 174)).frozen? p=false:=(hK.frozen hp).trans hz;go_wp2;refine⟨rfl,_,rfl,.tuple #[],?_,rfl,rfl,_,((Ext.refl w).alloc _).below,rfl⟩;simp[results,Tryz.results103]
theorem JI (n:Nat) (hn:n<=64) (w:World):Calls Tryz.prog 162 #[.int .u64 1,.int .u64 n] w fun e w'=>e=.returned (.tuple #[.int .u64 0,.int .u64 n])/\w'=w:=by
 have a1:bits .and .u64 (1:Int) 4294967295=1:=by decide
 have a2:bits .and .u64 (n:Int) 4294967295=n:=by
  have h:∀ m:Fin 65,bits .and .u64 ((m.val:Nat):Int) 4294967295=(m.val:Int):=by decide+kernel
  exact h ⟨n,by omega⟩
 go_enter Tryz.func162,Tryz.ntmps162
 have h0:(n:Int)/4294967296=0:=by omega
 have a3:bits .and .u64 (0:Int) 4294967295=0:=by decide
 have a4:IntKind.u64.wrap 0=0:=by decide
 go_wp2;refine bodyPost_ret (v:=.tuple #[.int .u64 0,.int .u64 n]) (by simp[results,Tryz.results162,go_sem]) rfl ⟨rfl,rfl⟩
theorem Rk (n:Nat) (hn:n<=64) (w:World):Calls Tryz.prog 142 #[.int .u64 1,.int .u64 n] w fun e w'=>e=.returned (.tuple #[.int .u64 0,.int .u64 n])/\w'=w:=by
 have CM:=hid (JI n hn w);go_enter Tryz.func142,Tryz.ntmps142;go_wp2_with fail
 refine CM.out.mono ?_;rintro e w2 ⟨rfl,hw⟩;replace hw:=hw.symm;subst hw;go_wp2;refine bodyPost_ret (v:=.tuple #[.int .u64 0,.int .u64 n]) (by simp[results,Tryz.results142,go_sem]) rfl ⟨rfl,rfl⟩
theorem FV (n:Nat):(madeCells (Value.slice none 0 0).cells (n*1)).toList=List.replicate n (.slice none 0 0):=by
 apply List.ext_getElem?;intro i;simp only[madeCells,Value.cells,Nat.mul_one,Array.toList_map,Array.toList_range,List.getElem?_map,List.getElem?_replicate];rcases Nat.lt_or_ge i n with h | h
 ·rw[List.getElem?_range h,if_pos h];simp[Nat.mod_one]
 ·rw[List.getElem?_eq_none (by simpa using h),if_neg (by omega)];rfl
def mj (n m:Nat) (h:Value):List Value:=List.replicate m h++List.replicate (n-m) (.slice none 0 0)
theorem vu {n m:Nat} (h:Value) (hm:m<=n):(mj n m h).length=n:=by unfold mj;simp;omega
theorem C0 {base g n m k:Nat} {h:Value} {W:World} (h1:h.oneCell'=true) (ho:W.ownsRow base 47 1 (.slice (some ⟨g,0,none⟩) n n) n (mj n m h)) (hk:m+k<=n) (a:Addr) (sl sc:Nat) (hs:∀ j,j<k->W.cell? (a.add j)=some h) (hkk:k=Nat.min sl (n-m)) (ty:TypeId): ∃ W',(Builtin.copy_ #[26,26] ty #[.slice (some ⟨g,m,none⟩) (n-m) (n-m),.slice (some a) sl sc]).run Tryz.prog W=.ok (.int .i64 k) W'/\W'.ownsRow base 47 1 (.slice (some ⟨g,0,none⟩) n n) n (mj n (m+k) h)/\aa (· ≠g) W W':=by
 rcases ho.2 with⟨e,_⟩ | ⟨g',cap,cur,e,hb,hg,hc,hcm,hsz,dL⟩
 ·cases e
 ·cases e
  have yL:cur.toList=mj n m h:=by rw[<-dL,List.take_of_length_le];simp[hsz]
  refine⟨_,by
         have:=run_copy_row (P:=Tryz.prog) W 26 26 ty 47 g m (n-m) (n-m) a sl sc cur 47 (List.replicate k h) Tryz.underlying26 (by kernel_rfl) hg (by rw[List.length_replicate];exact hkk) (fun j v hj=>by
    rw[List.getElem?_replicate]at hj;split at hj
    ·cases hj;exact hs j (by assumption)
    ·cases hj) (by rw[List.length_replicate,hsz];omega) (fun v hv=>by rw[List.eq_of_mem_replicate hv];exact h1)
         rw[List.length_replicate]at this
         exact this,?_,(aa.refl _ _).setRow (fun h=>h rfl) _⟩
  have Qv:(cur.toList.take m++List.replicate k h++cur.toList.drop (m+k))=mj n (m+k) h:=by rw[yL];unfold mj;rw[List.take_left' (by simp),List.replicate_append_replicate];congr 1;rw[List.drop_append,List.drop_eq_nil_of_le (by simp),List.length_replicate,List.nil_append,List.drop_replicate];congr 1;omega
  rw[Qv];refine⟨by rw[vu h hk];omega,.inr ⟨g,n,_,rfl,hb,setRow_heap W g cur _ _ _ hg,hc,hcm,by simp[vu h hk],?_⟩⟩;rw[List.take_of_length_le];simp[vu h hk]
theorem JK {P:Program} {Cl:FuncId->Array Value->World->(Ending->World->Prop)->Prop} {Rd:Nat->FuncId->Array Value->Code->Code->World->(Ending->World->Prop)->Prop} {o:Oper} {a:Act} {W W':World} {post:Value->World->Prop} {v:Value} (d s:Operand) (t1 t2:TypeId) (ho:o.op=.call {callee:=.builtin .copy,args:= #[d,s],argTypes:= #[t1,t2]}) (dv sv:Value) (hd:a.eval d=dv) (hs:a.eval s=sv) (hr:(Builtin.copy_ #[t1,t2] o.type #[dv,sv]).run P W=.ok v W') (h:post v W'):kQ Cl Rd post ((execOp a.eval o).run P W):=by unfold execOp;simp only[ho,resolve,invoke,builtin,Sem.run_bind,Sem.run_pure,Result.andThen_ok,List.map_toArray,List.map_cons,List.map_nil,hs,hd,hr];exact h
def Rl (g n m:Nat) (h:Value) (A B:World):Prop:=aa (fun x=>x<A.heap.size/\x≠g) A B/\(A.ownsRow g 47 1 (.slice (some ⟨g,0,none⟩) n n) n (mj n m h)->B.ownsRow g 47 1 (.slice (some ⟨g,0,none⟩) n n) n (mj n m h))
theorem Rl.trans {g n m:Nat} {h:Value} {A B C:World} (h1:Rl g n m h A B) (h2:Rl g n m h B C):Rl g n m h A C:=⟨h1.1.trans h2.1 fun _ hx=>⟨Nat.lt_of_lt_of_le hx.1 h1.1.size,hx.2⟩,fun a=>h2.2 (h1.2 a)⟩
theorem Rl.drew {g n m:Nat} {h:Value} {A:World} :Rl g n m h A A.drew:=⟨(aa.refl _ _).drew,fun a=>a⟩
def Tf (g n m:Nat) (h v:Value):aR (Rl g n m h):=⟨fun u=>u=v,fun _ W=>W.ownsRow g 47 1 (.slice (some ⟨g,0,none⟩) n n) n (mj n m h),v,rfl,fun _ _ _ hm _ h=>hm.2 h⟩
theorem FX (b gb:Nat) (h:Value) (n:Nat) (hn:n<=64) (w:World) (hc:w.cell? ⟨gb,0,none⟩=some h) (hh:w.ownsRow b 3 1 h 1 [aG (-1)]) (hb:b<=w.heap.size): Calls Tryz.prog 105 #[.slice (some ⟨gb,0,none⟩) 1 1,.int .i64 n] w fun e w'=>∃ u,e=.returned u/\aH b w' u (List.replicate n [-1])/\Below w.heap.size w w':=by
 obtain⟨iL,zX,kV,kW,kX⟩:=info_parts Tryz.rH;have CM:=hid (Rk n hn);have cv1:IntKind.u64.wrap (n:Int)=n:=by have:=IntWalk.u64_in (n:Int) (by omega);exact this
 have cv2:IntKind.i64.wrap (n:Int)=n:=IntWalk.i64_in _ (by omega);have d1:decide ((n:Int)<0)=false:=decide_eq_false (by omega);have d2:decide ((9223372036854775807:Int)<(n:Int))=false:=decide_eq_false (by omega);have HH:=hid hh;have HCc:=hid hc;have hgb:=World.block_lt_of_cell? _ _ hc;clear hh hc;go_enter Tryz.func105,Tryz.ntmps105;go_wp2_with fail
 refine(CM.out w).mono ?_;rintro e w2 ⟨rfl,hw⟩;replace hw:=hw.symm;subst hw;go_wp2_with (at_make;refine wpList_make_full _ rfl (.tmp 29) (.tmp 29) 26 rfl w.heap.size 47 iL (.slice none 0 0) 1 Tryz.underlying26 zX kV kW .i64 .i64 _ _ n rfl rfl rfl rfl (by rw[kX];omega) (by unfold maxLen;omega) (Nat.le_refl _) ?_;intro w3 hr hg;refine Hid.out ?_);refine hid ?_;have hs3:w.heap.size<w3.heap.size:=by
  rcases hr.2 with⟨h5,_⟩ | ⟨g,c,cur,h5,_,h6,_⟩
  ·cases h5
  ·cases h5;exact(Array.getElem?_eq_some_iff.1 h6).1
 have hb3:Below w.heap.size w w3:=(aa.aU hg fun x hx=>⟨hx,fun e=>by cases e⟩:aa (· <w.heap.size) w w3).below;rw[FV]at hr;have h1h:h.oneCell'=true:=by obtain⟨a,c,rfl⟩:=ownsRow_form HH.out;rfl
 have hr2:w3.ownsRow w.heap.size 47 1 (.slice (some ⟨w.heap.size,0,none⟩) n n) n (mj n 0 h):=by unfold mj;rw[Nat.sub_zero];exact hr
 have hc3:w3.cell? ⟨gb,0,none⟩=some h:=((aa.aj hb3 fun _ h=>h:aa (· <w.heap.size) w w3).cell (p:=⟨gb,0,none⟩) hgb).trans HCc.out
 obtain⟨w4,J4,ho4,hk4⟩:=C0 (k:=Nat.min 1 n) h1h hr2 (by rw[Nat.zero_add];exact Nat.min_le_right _ _) ⟨gb,0,none⟩ 1 1 (fun j hj=>by
  have XJ:j=0:=by have:=Nat.lt_of_lt_of_le hj (Nat.min_le_left 1 n);omega
  subst XJ
  exact hc3) (by rw[Nat.sub_zero]) 3
 rw[Nat.sub_zero]at J4;rw[Nat.zero_add]at ho4;obtain⟨k0,Gh⟩:∃ z,z=Nat.min 1 n:=⟨_,rfl⟩;rw[<-Gh]at J4 ho4;have VH:k0<=n/\(n=0\/1<=k0):=by rw[Gh];unfold Nat.min;constructor<;>omega
 have HO4:=hid ho4;have X4:Hid (Below w.heap.size w w4):=hid (hb3.trans (hk4.mono fun x hx=>by have h5:x<w.heap.size:=hx;show x≠w.heap.size;omega:aa (· <w.heap.size) w3 w4).below);clear hr hr2 hg hb3 hc3 ho4 hk4 Gh CM;go_wp2_with (at_builtin;refine Lib.wpList_copy_run _ rfl (.tmp 31) (.tmp 32) 26 26 rfl _ _ rfl rfl J4 ?_;clear J4);go_loopw [8] (fun mv wr=>∃ m:Nat,m<=n/\(n=0\/1<=m)/\mv=.int .i64 m/\wr.ownsRow w.heap.size 47 1 (.slice (some ⟨w.heap.size,0,none⟩) n n) n (mj n m h)/\Below w.heap.size w wr) (fun mv _=>n-(intOf mv).toNat);case atStart=>exact⟨k0,VH.1,VH.2,rfl,HO4.out,X4.out⟩
 case round=>
  obtain⟨m,hm,DG,rfl,ho,hx⟩:=hrel;obtain⟨wo,rfl⟩:∃ wo:World,wo=wr:=⟨_,rfl⟩;have HO:=hid ho;have HX:=hid hx;clear ho hx HO4 X4 VH;by_cases hlt:m<n
  ·have hmi:(m:Int)<n:=by omega
   have hmn:¬ ((n:Int)<m):=by omega
   have pX:(m:Int)<=n:=by omega
   have dml:decide ((m:Int)<=n)=true:=decide_eq_true pX;obtain⟨k,hk⟩:∃ z,z=Nat.min m (n-m):=⟨_,rfl⟩;have GK:m+k<=n/\1<=k/\k<=m:=by rw[hk];unfold Nat.min;refine⟨?_,?_,?_⟩<;>omega
   have Dw:=hid hk;clear hk;go_wp2_with fail
   refine RegQ.aO (Rl w.heap.size n (m+k) h) Rl.drew (fun _ _ _ h k=>h.trans k) (by kernel_rfl) 8 [0,0,0,6,0,0,48,126,255,511] (fun i=>i==7) (by kernel_rfl) (fun i=>if i=7 then Tf w.heap.size n (m+k) h (.int .i64 k)else aR.any _) (fun j W=>(j=7)->W.ownsRow w.heap.size 47 1 (.slice (some ⟨w.heap.size,0,none⟩) n n) n (mj n m h)) (fun _ _ _=>HO.out) ?_;intro C hC hne;have HC:=hid hC;clear hC
   repeat (refine RegQ.ae (fun K hK=>?_);first | (refine RegQ.bp rfl ?_;try go_simp;refine hK _ _ ?_;clear hK K) | (refine RegQ.aX rfl rfl ?_;unfold aq;go_simp;refine hK _ _ ?_;clear hK K))
   refine RegQ.ae (fun K hK=>?_);refine RegQ.bH rfl rfl (Tf w.heap.size n (m+k) h (.int .i64 k)) rfl (fun W hW hD hN=>?_) (fun v hv=>?_)
   ·have hD7:=hD rfl
    clear hW hN hK K hD
    obtain⟨W',e1,e2,e3⟩:=C0 (k:=k) h1h hD7 GK.1 ⟨w.heap.size,0,none⟩ m n (fun j hj=>by
     have:(⟨w.heap.size,0,none⟩:Addr).add j=⟨w.heap.size,j,none⟩:=by simp[Addr.add];omega
     rw[this,hD7.cellAt j (by omega)];unfold mj
     rw[List.getElem?_append_left (by rw[List.length_replicate];omega),List.getElem?_replicate,if_pos (by omega)]) Dw.out 3
    refine JK (.tmp 41) (.tmp 44) 26 26 rfl _ _ ?_ ?_ e1 ?_
    ·show Value.slice (if n=m then _ else _) _ _=_
     rw[if_neg (by omega)]
    ·rfl
    ·exact⟨⟨⟨e3.mono fun x hx=>hx.2,fun _=>e2⟩,fun j hj _ _ e=>absurd e hj⟩,rfl,e2⟩
   replace hv:v=_:=hv;subst hv;go_simp;refine hK _ _ ?_;clear hK K
   repeat (refine RegQ.ae (fun K hK=>?_);first | (refine RegQ.bp rfl ?_;try go_simp;refine hK _ _ ?_;clear hK K) | (refine RegQ.aX rfl rfl ?_;unfold aq;go_simp;refine hK _ _ ?_;clear hK K))
   refine RegQ.aV (fun W hW hH=>?_);have iU:=(HC.out W).1 hW;have NR:Hid (W.ownsRow w.heap.size 47 1 (.slice (some ⟨w.heap.size,0,none⟩) n n) n (mj n (m+k) h)):=hid (hH _ (List.mem_of_getElem? (show _=some _ from rfl:_[0]? =some _)));have XR:Hid (Below w.heap.size w W):=hid (HX.out.trans (iU.1.mono fun x hx=>⟨Nat.lt_of_lt_of_le hx HX.out.size,Nat.ne_of_lt hx⟩:aa (· <w.heap.size) wo W).below);clear iU hW hH HC hne HO HX;go_wp2;go_roundw;case rel=>exact⟨m+k,GK.1,by omega,by go_num,NR.out,XR.out⟩
   case measure=>simp[intOf];omega
  ·obtain rfl:m=n:=by omega
   have hmn:¬ ((m:Int)<m):=by omega
   go_wp2;go_ret;refine⟨_,rfl,⟨List.replicate m h,by simp,?_,fun i u l hu hl=>?_⟩,HX.out⟩
   ·have h5:=az HO.out hb
    unfold mj at h5;rw[Nat.sub_self,List.replicate_zero,List.append_nil]at h5;rw[List.length_replicate];exact h5
   ·rw[List.getElem?_replicate]at hu hl
    split at hu
    ·cases hu
     rw[if_pos (by assumption)]at hl;cases hl;exact ak HH.out HX.out
    ·cases hu
theorem VI {α:Type} [DecidableEq α] {l:List α} {q:α} (h:q∈l):l.idxOf q<l.length:=List.idxOf_lt_length_of_mem h
theorem VJ {base c x:Nat} {F0:Nat->Prop} (h:x<base\/x=c\/¬F0 x):x<base\/¬ (F0 x/\x≠c):=by
 rcases h with h | h | h
 ·exact .inl h
 ·exact .inr fun h2=>h2.2 h
 ·exact .inr fun h2=>h h2.1
theorem aae {base c x:Nat} {F0:Nat->Prop} {q:Prop} (h:x<base\/x=c\/¬F0 x):x<base\/¬ ((F0 x/\x≠c)/\q):=(VJ h).imp id fun h h2=>h h2.1
theorem rZ (tmps:Array Value) (c0:Nat) (ht:tmps[4]?.getD undef=.pointer (some ⟨c0,0,none⟩)) (R:Ending->World->Prop) (W:World) (hB:ah W c0 #[.int .i64 0] 34) (h:∀ W',aa (fun x=>x<W.heap.size/\x≠c0) W W'->R (.returned (.int .i64 181)) W'): Leaves Tryz.prog Tryz.f80 tmps R [{target:=.fn (.func 103) #[.pointer (some ⟨c0,0,none⟩)],args:= #[]}] (.panicking [{v:=.iface 174 (.agg #[]),recovered:=false}]) W:=by refine leaves_cons (f:=103) (args:= #[.pointer (some ⟨c0,0,none⟩)]) (by simp) (by simp[go_sem]) ?_;refine(sM ⟨c0,0,none⟩ (.int .i64 0) [] W (hB.cell 0) (hB.frozen 0) hB.lt).mono ?_;rintro e u' w'' ⟨rfl,rfl,w2,hk,rfl⟩;have hB2:=hB.below hk hB.lt;have hB3:=hB2.set 0 (.int .i64 181);have h1:=hB3.cell 0;have K:aa (fun x=>x<W.heap.size/\x≠c0) W (w2.setCell ⟨c0,0,none⟩ (.int .i64 181)):=(aa.aj hk fun x hx=>hx.1:aa (fun x=>x<W.heap.size/\x≠c0) W w2).setCell (fun h=>h.2 rfl) _;have h5:=h _ K;obtain⟨W2,hW2⟩:∃ z,z=w2.setCell ⟨c0,0,none⟩ (.int .i64 181):=⟨_,rfl⟩;rw[<-hW2]at h1 h5 ⊢;replace h1:W2.cell? ⟨c0,0,none⟩=some (.int .i64 181):=h1;simp[Leaves,settle,results,Tryz.results80,go_sem,ht,h1];exact h5
theorem JL (tmps:Array Value) (c0:Nat) (k:Int) (ht:tmps[4]?.getD undef=.pointer (some ⟨c0,0,none⟩)) (R:Ending->World->Prop) (W:World) (hB:ah W c0 #[.int .i64 k] 34) (h:R (.returned (.int .i64 k)) W): Leaves Tryz.prog Tryz.f80 tmps R [{target:=.fn (.func 103) #[.pointer (some ⟨c0,0,none⟩)],args:= #[]}] .returning W:=by refine leaves_cons (f:=103) (args:= #[.pointer (some ⟨c0,0,none⟩)]) (by simp) (by simp[go_sem]) ?_;refine(FU ⟨c0,0,none⟩ W).mono ?_;rintro e u' w'' ⟨rfl,rfl,rfl⟩;have h1:w''.cell? ⟨c0,0,none⟩=some (.int .i64 k):=hB.cell 0;simp[Leaves,settle,results,Tryz.results80,go_sem,ht,h1];exact h
theorem NW (F0:Nat->Prop) (base mb ob f:Nat) (pv cv lv:Value) (ps:List PT) (ls:List Nat) (ok:QL ps) (w:World) (hF0:∀ x,w.heap.size<=x->F0 x) (hM:SK F0 w base mb ob f pv cv ps [] []) (hf:f<=4000) (hls:ls.length<=256) (zS:∀ c∈ls,c<256) (hL:∀ W,aa (fun x=>x<w.heap.size/\(x<base\/¬F0 x)) w W->cr cF W lv ls) (hP:∀ W,Below base w W->jd W pv ps) (hT:∀ W,Below base w W->pK W): Calls Tryz.prog 80 #[.pointer (some ⟨mb,0,none⟩),lv] w fun e w'=>aa (fun x=>x<w.heap.size/\(x<base\/¬F0 x)) w w'/\((∃ st,vr ps ls f=some st/\e=.returned (.int .i64 0)/\SK (fun _=>True) w' base mb ob f pv cv ps st.1 (st.2.map fun r=>r.map Int.ofNat))\/(vr ps ls f=none/\e=.returned (.int .i64 181))):=by
 obtain⟨iL,zX,kV,kW,kX⟩:=info_parts Tryz.rH;obtain⟨iI,yV,j5,j6,j7⟩:=info_parts Tryz.nr;obtain⟨sv,nv,kv,us,ns,ks,M⟩:=hM;obtain⟨pa,pc,rfl⟩:=(hP w (Below.refl _ _)).form;obtain⟨la,lc,rfl⟩:=(hL w (aa.refl _ _)).form;obtain⟨n,GU⟩:∃ z,z=ps.length:=⟨_,rfl⟩;obtain⟨m,hlm⟩:∃ z,z=ls.length:=⟨_,rfl⟩;rw[<-GU]at M hP ⊢;rw[<-hlm]at hL hls ⊢;have pM:n<=64:=by rw[GU];exact ok.1
 have sA:base<w.heap.size:=Nat.lt_of_le_of_lt M.bm M.blk.lt;have sH:mb<w.heap.size:=M.blk.lt;have MW:=hid M;have NU:=hid GU;have HLM:=hid hlm;have HL:=hid hL;have HP:=hid hP;have HT:=hid hT;have OK:=hid ok;have Ww:=hid zS;have HF0:=hid hF0
 have CR:Hid (∀ (b gb:Nat) (h:Value) (W:World),W.cell? ⟨gb,0,none⟩=some h->W.ownsRow b 3 1 h 1 [aG (-1)]->b<=W.heap.size->
  Calls Tryz.prog 105 #[.slice (some ⟨gb,0,none⟩) 1 1,.int .i64 n] W fun e w'=>∃ u,e=.returned u/\aH b w' u (List.replicate n [-1])/\Below W.heap.size W w'):=hid fun b gb h W h1 h2 h3=>FX b gb h n pM W h1 h2 h3
 have m0:w.cell? ⟨mb,0,none⟩=some (.slice pa n pc):=M.blk.cell 0;clear M GU hlm hL hP hT ok zS hF0;have hmf:∀ (fn:Fn) (first cap:Array Value) (w:World),(Instr.makeFunc fn first cap).run Tryz.prog w=.ok (.func fn first cap) w:=fun _ _ _ _=>rfl
 go_enter_defers Tryz.func80,Tryz.ntmps80
 have m1:(((w.alloc (.cells #[.int .i64 0] 34)).alloc (.cells #[.int .i64 (-1)] 3)).alloc (.cells #[.slice (some ⟨w.heap.size+1,0,none⟩) 1 1] 47)).cell? ⟨mb,0,none⟩=some (.slice pa n pc):=
  ((aa.aj ((((Ext.refl w).alloc _).alloc _).alloc _).below fun _ h=>h:aa (· <w.heap.size) w _).cell (p:=⟨mb,0,none⟩) sH).trans m0
 go_wp2_with fail
 refine(CR.out (w.heap.size+1) (w.heap.size+1+1) (.slice (some ⟨w.heap.size+1,0,none⟩) 1 1) _ (by go_simp) ?_ (by simp)).mono ?_
 ·have h5:((w.alloc (.cells #[.int .i64 0] 34)).alloc (.cells #[.int .i64 (-1)] 3)).ownsRow (w.heap.size+1) 3 1 (.slice (some ⟨w.heap.size+1,0,none⟩) 1 1) 1 [.int .i64 (-1)]:=by
   have h6:=World.alloc_heap_new (w.alloc (.cells #[.int .i64 0] 34)) (.cells #[.int .i64 (-1)] 3);rw[World.size_alloc]at h6;exact⟨rfl,.inr ⟨w.heap.size+1,1, #[.int .i64 (-1)],rfl,Nat.le_refl _,h6,Nat.le_refl _,by unfold maxLen;omega,rfl,rfl⟩⟩
  exact h5.alloc _
 rintro e w3 ⟨u,rfl,ho3,hk3⟩
 have CA:Hid (∃ wA:World,wA.heap.size=w.heap.size+1/\Below w.heap.size w wA/\ah wA w.heap.size #[.int .i64 0] 34/\Below wA.heap.size wA w3):=hid ⟨w.alloc (.cells #[.int .i64 0] 34),World.size_alloc _ _,((Ext.refl w).alloc _).below,ah.new _ _ _,by
  have h5:=(((Ext.refl (w.alloc (.cells #[.int .i64 0] 34))).alloc (.cells #[.int .i64 (-1)] 3)).alloc (.cells #[.slice (some ⟨w.heap.size+1,0,none⟩) 1 1] 47)).below
  exact h5.trans (hk3.mono h5.size)⟩
 have WQ:=hid ho3;clear ho3 hk3 m1 m0 CR;obtain⟨wA,hA1,hA2,hA3,hA4⟩:=CA.out;have DT:=hid hA1;have XA:=hid hA2;have BA:=hid hA3;have X3:=hid hA4;clear hA1 hA2 hA3 hA4 CA;have MA:Hid (Mk (fun x=>F0 x/\x≠w.heap.size) wA base mb ob f (.slice pa n pc) cv ps [] [] sv nv kv us ns ks):=hid ((MW.out.mono fun x hx h=>⟨h,Nat.ne_of_lt hx⟩).below XA.out);have PB:Hid (Below base w wA):=hid (XA.out.mono (Nat.le_of_lt sA));have VK:Hid (∀ W W',aa (fun x=>x<wA.heap.size/\(x<base\/x=w.heap.size\/¬F0 x)) wA W->aa (fun x=>x<W.heap.size/\x≠w.heap.size) W W'->aa (fun x=>x<w.heap.size/\(x<base\/¬F0 x)) w W'):=hid fun W W' h1 h2=>by
  have h4:=h1.size;have h5:=DT.out;exact((aa.aj XA.out fun x hx=>hx.1:aa (fun x=>x<w.heap.size/\(x<base\/¬F0 x)) w wA).tr (h1.mono fun x hx=>⟨by omega,hx.2.imp id .inr⟩)).tr (h2.mono fun x hx=>⟨by omega,by omega⟩)
 clear MW;go_wp2_with fail
 refine(yq (fun x=>F0 x/\x≠w.heap.size) base mb ob f (.slice pa n pc) cv ps [] [] OK.out wA w3 ⟨_,_,_,_,_,_,MA.out⟩ X3.out (fun x hx=>⟨HF0.out x (by have:=DT.out;omega),by have:=DT.out;omega⟩) u (kY ps) ?_ (zg ps) List.nodup_nil (fun p hp=>by cases hp) hf (Nat.zero_le _) (fun W hW=>HP.out W (PB.out.trans hW)) (fun W hW=>HT.out W (PB.out.trans hW))).mono ?_
 ·have h5:=WQ.out
  have h6:kY ps=List.replicate n [-1]:=by unfold kY;rw[List.map_const',NU.out]
  rw[h6,DT.out];exact h5
 rintro e w4 ⟨hk4,hq⟩;rcases hq with⟨h1,_⟩ | ⟨h1,h2,rfl,hM4⟩ | ⟨h1,h2,rfl⟩
 ·cases h1
 ·have KA:Hid (aa (fun x=>x<wA.heap.size/\(x<base\/x=w.heap.size\/¬F0 x)) wA w4):=hid ((aa.aj X3.out fun x hx=>hx.1:aa (fun x=>x<wA.heap.size/\(x<base\/x=w.heap.size\/¬F0 x)) wA w3).tr (hk4.mono fun x hx=>⟨hx.1,VJ hx.2⟩))
  have M4:=hid hM4;have Ir:1<=f:=by simp at h2;omega
  clear hk4 hM4 h1 h2 X3 WQ MA;go_wp2;go_loopw [5] (fun iv wr=>∃ (k:Nat) (rows:List (List (List Int))) (yT:List (List Nat)),dF f (cN ps ls) ls.length (kY ps) k=some (rows,yT)/\k<=rows.length/\iv=.int .i64 k/\SK (fun x=>F0 x/\x≠w.heap.size) wr base mb ob f (.slice pa n pc) cv ps rows (yT.map fun r=>r.map Int.ofNat)/\aa (fun x=>x<wA.heap.size/\(x<base\/x=w.heap.size\/¬F0 x)) wA wr) (fun iv _=>f-(intOf iv).toNat);case atStart=>exact⟨0,[kY ps],[],rfl,Nat.zero_le _,rfl,M4.out,KA.out⟩
  case round=>
   obtain⟨k,rows,yT,hst,hk,rfl,hM,hK⟩:=hrel;obtain⟨sv1,nv1,kv1,us1,ns1,ks1,M⟩:=hM;obtain⟨wo,rfl⟩:∃ wo:World,wo=wr:=⟨_,rfl⟩;have IS:=hid (G8 Ir hst);obtain⟨L,Yy⟩:∃ z,z=rows.length:=⟨_,rfl⟩;have LS:=M.st.1;rw[<-Yy]at LS hk;obtain⟨sa,sc,rfl⟩:=ownsRow_form LS;have hLf:L<=f:=by rw[Yy];exact(G8 Ir hst).le
   have MO:=hid M;have zU:=hid Yy;have HST:=hid hst;have KO:=hid hK;have m2:wo.cell? ⟨mb,2,none⟩=some (.slice sa L sc):=M.blk.cell 2;clear hst hK M Yy LS M4 KA;by_cases hlt:k<L
   ·have eT:(k:Int)<L:=by omega
    obtain⟨p,hp⟩:∃ p,rows[k]? =some p:=⟨_,List.getElem?_eq_getElem (by have:=zU.out;omega)⟩;have WZ:=hid hp;clear hp;go_wp2;clear m2;go_loopw [6,31] (fun nv2 iv wi=>∃ (j:Nat) (fP:List (List (List Int))) (qW:List Nat),cI f (cN ps ls p) rows j=some (fP,qW)/\j<=m/\iv=.int .i64 j/\wi.ownsRow wA.heap.size 3 1 nv2 j (qW.map fun t:Nat=>.int .i64 t)/\SK (fun x=>(F0 x/\x≠w.heap.size)/\nv2.ownBlock≠some x) wi base mb ob f (.slice pa n pc) cv ps fP (yT.map fun r=>r.map Int.ofNat)/\aa (fun x=>x<wA.heap.size/\(x<base\/x=w.heap.size\/¬F0 x)) wA wi) (fun _ iv _=>m-(intOf iv).toNat);case atStart=>exact⟨0,rows,[],rfl,Nat.zero_le _,rfl,World.ownsRow_nil _ _ _ _,⟨_,_,_,_,_,_,MO.out.mono fun x _ hx=>⟨hx,fun e=>by cases e⟩⟩,KO.out⟩
    case round=>
     obtain⟨j,fP,qW,hr2,hj,rfl,P2,hM2,hK2⟩:=hrel;obtain⟨wj,rfl⟩:∃ wj:World,wj=wr:=⟨_,rfl⟩;have RO:=hid (jB (P:=ny ps) IS.out.nodup IS.out.le IS.out.all j (fun _ _=>pG (IS.out.all p (List.mem_of_getElem? WZ.out)) _) hr2);have Wo:=hid hr2;have gL:=hid P2;have K2:=hid hK2;have M2:=hid hM2;clear hr2 P2 hK2 hM2;by_cases mS:j<m
     ·have jT:(j:Int)<m:=by omega
      obtain⟨c,hc⟩:∃ c,ls[j]? =some c:=⟨_,List.getElem?_eq_getElem (by have:=HLM.out;omega)⟩;have ie:c<256:=Ww.out c (List.mem_of_getElem? hc);have HG:Hid (cN ps ls p j=eA ps p c):=hid (by unfold cN;rw[List.getD_eq_getElem?_getD,hc];rfl);have PJ:Hid (Below base w wj):=hid (PB.out.trans (K2.out.mono fun x (hx:x<base)=>⟨by have:=DT.out;omega,.inl hx⟩:aa (· <base) wA wj).below);obtain⟨lb,lo,rfl,zS,fl⟩:=(HL.out wj ((aa.aj XA.out fun x hx=>hx.1:aa (fun x=>x<w.heap.size/\(x<base\/¬F0 x)) w wA).tr (K2.out.mono fun x hx=>⟨by have:=DT.out;omega,hx.2.imp id .inr⟩))).elem hc;replace fl:wj.cell? ⟨lb,lo+j,none⟩=some (.int .u8 c):=fl;obtain⟨sv2,nv3,kv2,us2,ns2,ks2,M⟩:=M2.out;obtain⟨L2,hL2⟩:∃ z,z=fP.length:=⟨_,rfl⟩;have Rm:=M.st.1;rw[<-hL2]at Rm;obtain⟨VD,Td,rfl⟩:=ownsRow_form Rm;have ak9:L<=L2:=by have h5:=RO.out.pre.length_le;have h6:=zU.out;simp only at h5;omega
      have hk2:k<L2:=by omega
      have ala:(0:Int)<=k/\(k:Int)<L2:=by omega
      obtain⟨g,u,rfl,hbg,hgs,hu,fu,hz⟩:=cZ Rm hk2;have A9:fP[k]? =some p:=by obtain⟨ys,H6⟩:=RO.out.pre;replace H6:rows++ys=fP:=H6;rw[<-H6,List.getElem?_append_left (by have:=zU.out;omega)];exact WZ.out
      have hLu:=(M.Pq k u p hu A9).1.own;obtain⟨ua,uc,rfl⟩:=hLu.form;have HLu:=hid hLu;have f0:wj.cell? ⟨mb,0,none⟩=some (.slice pa n pc):=M.blk.cell 0;have f2:wj.cell? ⟨mb,2,none⟩=some (.slice (some ⟨g,0,none⟩) L2 Td):=M.blk.cell 2;clear Rm hz hu hc hL2 A9 hLu;have Rn:wA.heap.size<=wj.heap.size:=K2.out.size;have CS:Hid (∀ (W:World) (v:Value),Below wj.heap.size wj W->aH wj.heap.size W v (eA ps p c)->Calls Tryz.prog 104 #[.pointer (some ⟨mb,0,none⟩),v] W fun e w'=>aa (fun x=>x<wj.heap.size/\(x<base\/¬ ((F0 x/\x≠w.heap.size)/\u6.ownBlock≠some x))) W w'/\((∃ (t:Nat) (G9:List (List (List Int))),t<=4000/\cI f (cN ps ls p) rows (j+1)=some (G9,qW++ [t])/\e=.returned (.int .i64 t)/\SK (fun x=>(F0 x/\x≠w.heap.size)/\u6.ownBlock≠some x) w' base mb ob f (.slice pa n pc) cv ps G9 (yT.map fun r=>r.map Int.ofNat))\/(vr ps ls f=none/\e=.panicked [{v:=.iface 174 (.agg #[]),recovered:=false}]))):=hid fun W v hW hv=>by
       have Kr:fP.length<=f:=RO.out.le;refine(yq (fun x=>(F0 x/\x≠w.heap.size)/\u6.ownBlock≠some x) base mb ob f (.slice pa n pc) cv ps fP (yT.map fun r=>r.map Int.ofNat) OK.out wj W M2.out hW (fun x hx=>⟨⟨HF0.out x (by have:=DT.out;omega),by have:=DT.out;omega⟩,fun e=>by have:=(gL.out.lt x e).2;omega⟩) v (eA ps p c) hv (pG (IS.out.all p (List.mem_of_getElem? WZ.out)) c) RO.out.nodup RO.out.all hf Kr (fun W hW=>HP.out W (PJ.out.trans hW)) (fun W hW=>HT.out W (PJ.out.trans hW))).mono ?_;rintro e w' ⟨hk,hq⟩;refine⟨hk,?_⟩;rcases hq with⟨h1,rfl,h3⟩ | ⟨h1,h2,rfl,h3⟩ | ⟨h1,h2,rfl⟩
       ·refine .inl ⟨UQ fP (eA ps p c),fP,?_,?_,rfl,h3⟩
        ·have:UQ fP (eA ps p c)<fP.length:=VI h1
         omega
        ·rw[cI,Wo.out,HG.out]
         exact Rg h1
       ·refine .inl ⟨fP.length,fP++ [eA ps p c],by omega,?_,rfl,h3⟩
        rw[cI,Wo.out,HG.out];exact NQ h1 h2
       ·exact .inr ⟨Ri Ir HST.out WZ.out Wo.out (by have:=HLM.out;omega) (by rw[HG.out];exact h1) h2,rfl⟩
      go_wp2_with fail
      refine(Je mb (.slice pa n pc) (.slice ua p.length uc) ps OK.out p (IS.out.all p (List.mem_of_getElem? WZ.out)) c ie wj f0 (HP.out wj PJ.out) HLu.out.ll).mono ?_;rintro e w2 ⟨v1,rfl,ho3,hk3⟩;have WQ:=hid ho3;have X3:=hid hk3;clear ho3 hk3 f0 f2 fl fu;go_wp2_with fail
      refine(CS.out w2 v1 X3.out WQ.out).mono ?_;rintro e w3 ⟨hk4,hq⟩;have K4:=hid hk4;clear hk4;have SN:Hid (aa (fun x=>x<wA.heap.size/\(x<base\/x=w.heap.size\/¬F0 x)) wA w3):=hid ((K2.out.tr (aa.aj X3.out fun x hx=>Nat.lt_of_lt_of_le hx.1 Rn)).tr (K4.out.mono fun x hx=>⟨Nat.lt_of_lt_of_le hx.1 Rn,aae hx.2⟩));rcases hq with⟨t,G9,ht,hr3,rfl,hM3⟩ | ⟨hno,rfl⟩
      ·have RN:Hid (w3.ownsRow wA.heap.size 3 1 u6 j (qW.map fun t:Nat=>.int .i64 t)):=hid (ag gL.out ((aa.aj X3.out fun x hx=>hx.1:aa (fun x=>x<wj.heap.size/\u6.ownBlock=some x) wj w2).tr (K4.out.mono fun x hx=>⟨hx.1,.inr fun h=>h.2 hx.2⟩)) fun x hx=>⟨(gL.out.lt x hx).2,hx⟩)
       have HR3:=hid hr3;have M3:=hid hM3;have UY:wA.heap.size<=w3.heap.size:=SN.out.size;clear hr3 hM3 CS;go_wp2_with (at_builtin;refine Hid.out ?_);refine hid ?_;refine wpList_append_own_at _ rfl (.tmp 35) (.tmp 48) 47 rfl wA.heap.size 3 iI (.int .i64 0) 1 8 Tryz.underlying47 yV j5 j6 j7 rfl (by decide) u6 j _ rfl (RN.out.alloc _) ⟨w3.heap.size,0,none⟩ 1 1 [.int .i64 t] rfl rfl (gq _ _ _) (by simp[Value.oneCell']) (by unfold maxLen;omega) (by omega) (by simp;omega) ?_;intro v' w5 hown' hgrow hh hat;have HO5:=hid hown';have oo:=hid hgrow;have Gq:=hid hat;clear hown' hgrow hh hat;go_wp2;go_roundw;case rel=>
        refine⟨j+1,G9,qW++ [t],HR3.out,by omega,by go_num,?_,?_,?_⟩
        ·rw[List.map_append];exact HO5.out
        ·obtain⟨sv3,nv3,kv3,us3,ns3,ks3,M⟩:=M3.out
         have M4:=M.below ((Ext.refl w3).alloc (.cells #[.int .i64 t] 3)).below
         have M5:=M4.mono (F':=fun x=>((F0 x/\x≠w.heap.size)/\u6.ownBlock≠some x)/\v'.ownBlock≠some x) fun x hx h=>⟨h,fun e=>by
          rcases Gq.out with h5 | h5
          ·exact h.2 (by rw[<-h5,e])
          ·rw[h5]at e;cases e;simp at hx⟩
         have M6:=M5.keeps (aa.aU oo.out fun x hx=>⟨hx.1,fun e=>hx.2 e.symm⟩:aa (fun x=>x<(w3.alloc (.cells #[.int .i64 t] 3)).heap.size/\u6.ownBlock≠some x) _ w5) fun x hx h=>⟨hx,h.1.2⟩
         exact⟨_,_,_,_,_,_,M6.mono fun x _ h=>⟨h.1.1,h.2⟩⟩
        ·exact(SN.out.alloc (fun x hx=>Nat.lt_of_lt_of_le hx.1 UY) _).tr (aa.aU oo.out fun x hx=>⟨by have:=hx.1;simp;omega,fun e=>by have:=(RN.out.lt x e.symm).1;have:=hx.1;omega⟩)
       case measure=>simp[intOf];omega
      ·refine rZ _ w.heap.size rfl _ w3 (BA.out.keeps SN.out ⟨by have:=DT.out;omega,.inr (.inl rfl)⟩) fun W' Lm=>⟨VK.out w3 W' SN.out Lm,.inr ⟨hno,rfl⟩⟩
     ·have Dt:j=m:=by omega
      subst Dt;clear mS hj;have jT:¬ ((j:Int)<j):=by omega
      obtain⟨sv2,nv3,kv2,us2,ns2,ks2,M⟩:=M2.out;have hxf:=gL.out;obtain⟨xa,xc,rfl⟩:=ownsRow_form hxf;have vO:(yT.map fun r=>r.map Int.ofNat).length=k:=by have h5:=IS.out.len;have h6:=zU.out;simp only at h5;rw[List.length_map,h5];omega
      have Px:=M.sJ.1;rw[vO]at Px;obtain⟨na,nc,rfl⟩:=ownsRow_form Px;have f5:wj.cell? ⟨mb,5,none⟩=some (.slice na k nc):=M.blk.cell 5;have M3:=hid (M.mono (F':=fun x=>F0 x/\x≠w.heap.size) fun x _ h=>h.1);have HNR:=hid Px;have HNL:=hid vO;have hbj:base<=wj.heap.size:=Nat.le_trans M.bm (Nat.le_of_lt M.blk.lt);have aes:mb≠w.heap.size:=M.fm.1.2;clear M hxf vO Px;go_wp2_with (at_builtin;refine Hid.out ?_);refine hid ?_;refine wpList_append_own_at _ rfl (.tmp 56) (.tmp 58) 26 rfl base 47 iL (.slice none 0 0) 1 24 Tryz.underlying26 zX kV kW kX rfl (by decide) (.slice na k nc) k ns2 rfl (HNR.out.alloc _) ⟨wj.heap.size,0,none⟩ 1 1 [.slice xa j xc] rfl rfl (gq _ _ _) (by simp[Value.oneCell']) (by unfold maxLen;omega) (by omega) (by simp;omega) ?_;intro v' w5 hown' hgrow hh hat;obtain⟨va,vc,rfl⟩:=ownsRow_form hown';have aaf:some mb≠(Value.slice na k nc).ownBlock:=fun e=>cH M3.out.blk HNR.out (by decide) mb e.symm rfl
      have B5:=hid ((M3.out.blk.alloc (.cells #[.slice xa j xc] 47)).grown hgrow aaf);have HO5:=hid hown';have oo:=hid hgrow;have Gq:=hid hat;have g5:=B5.out.cell 5;have z5:=B5.out.frozen 5;clear hown' hgrow hh hat f5 aaf;go_wp2;have K9:aa (fun x=>x<wj.heap.size/\x≠mb/\(Value.slice na k nc).ownBlock≠some x) wj (w5.setCell ⟨mb,5,none⟩ (.slice va (k+1) vc)):=(((aa.refl _ wj).alloc (fun x hx=>hx.1) _).tr (aa.aU oo.out fun x hx=>⟨by have:=hx.1;simp;omega,fun e=>hx.2.2 e.symm⟩)).setCell (fun h=>h.2.1 rfl) _;have K5:aa (· ≠mb) w5 (w5.setCell ⟨mb,5,none⟩ (.slice va (k+1) vc)):=(aa.refl _ w5).setCell (fun h=>h rfl) _;have Rn:wA.heap.size<=wj.heap.size:=K2.out.size;have Qy:qW.length=j:=RO.out.len;have e1:qW.map (fun t:Nat=>Value.int .i64 t)=(qW.map Int.ofNat).map aG:=by rw[List.map_map];rfl
      have xi:(Value.slice va (k+1) vc).ownBlock=(Value.slice na k nc).ownBlock\/∀ x,(Value.slice va (k+1) vc).ownBlock=some x->wj.heap.size<=x:=Gq.out.imp id fun h x e=>by rw[h]at e;cases e;simp
      have hrow:fM (fun x=>F0 x/\x≠w.heap.size) (w5.setCell ⟨mb,5,none⟩ (.slice va (k+1) vc)) base 3 (.slice xa j xc) (qW.map Int.ofNat).length ((qW.map Int.ofNat).map aG):=by rw[<-e1,List.length_map,Qy];exact⟨vt M3.out.blk HNR.out K9 (az gL.out (by have:=DT.out;omega)) (by decide) (.inl (by decide)),fun x e=>⟨HF0.out x (by have:=(gL.out.lt x e).1;have:=DT.out;omega),by have:=(gL.out.lt x e).1;have:=DT.out;omega⟩⟩
      have MF:=Mk.next M3.out HNL.out.symm K9 (B5.out.set 5 _) ⟨ag HO5.out K5 fun x hx=>cH B5.out HO5.out (by decide) x hx,fun x e=>by
       rcases xi with h5 | h5
       ·exact M3.out.sJ.2 x (h5.symm.trans e)
       ·exact⟨HF0.out x (by have:=h5 x e;have:=DT.out;omega),by have:=h5 x e;have:=DT.out;omega⟩⟩ hrow xi
      have K8:aa (fun x=>x<wA.heap.size/\(x<base\/x=w.heap.size\/¬F0 x)) wA (w5.setCell ⟨mb,5,none⟩ (.slice va (k+1) vc)):=K2.out.tr (K9.mono fun x hx=>⟨Nat.lt_of_lt_of_le hx.1 Rn,fun e=>by
       rcases hx.2 with h5 | h5 | h5
       ·have:=M3.out.bm;omega
       ·exact aes (e.symm.trans h5)
       ·exact h5 (by rw[e];exact M3.out.fm.1),fun e=>by
       rcases hx.2 with h5 | h5 | h5
       ·have:=(HNR.out.lt x e).1;omega
       ·exact(M3.out.sJ.2 x e).2 h5
       ·exact h5 (M3.out.sJ.2 x e).1⟩)
      have hst:dF f (cN ps ls) ls.length (kY ps) (k+1)=some (fP,yT++ [qW]):=by rw[NS HST.out WZ.out, <-HLM.out,Wo.out];rfl
      have Ch:k+1<=fP.length:=by have h5:rows.length<=fP.length:=RO.out.pre.length_le;have:=zU.out;omega
      go_roundw
      case rel=>
       refine⟨k+1,fP,yT++ [qW],hst,Ch,by go_num,?_,K8⟩;rw[List.map_append];exact⟨_,_,_,_,_,_,MF⟩
      case measure=>simp[intOf];omega
   ·have hkL:k=L:=by omega
    subst hkL;clear hlt;have eT:¬ ((k:Int)<k):=by omega
    have B0:=hid (BA.out.keeps KO.out ⟨by have:=DT.out;omega,.inr (.inl rfl)⟩);have g0:=B0.out.cell 0;have z0:=B0.out.frozen 0;go_wp2;have K9:aa (fun x=>x<wo.heap.size/\x≠w.heap.size) wo (wo.setCell ⟨w.heap.size,0,none⟩ (.int .i64 0)):=(aa.refl _ wo).setCell (fun h=>h.2 rfl) _;exact JL _ w.heap.size 0 rfl _ _ (B0.out.set 0 _) ⟨VK.out wo _ KO.out K9,.inl ⟨rows,yT,Rh Ir HST.out (by have:=zU.out;show rows.length=k;omega),rfl,_,_,_,_,_,_,(MO.out.keeps K9 fun x hx h=>⟨hx,h.2⟩).mono fun x _ _=>trivial⟩⟩
 ·have KA:aa (fun x=>x<wA.heap.size/\(x<base\/x=w.heap.size\/¬F0 x)) wA w4:=(aa.aj X3.out fun x hx=>hx.1:aa (fun x=>x<wA.heap.size/\(x<base\/x=w.heap.size\/¬F0 x)) wA w3).tr (hk4.mono fun x hx=>⟨hx.1,VJ hx.2⟩)
  refine rZ _ w.heap.size rfl _ w4 (BA.out.keeps KA ⟨by have:=DT.out;omega,.inr (.inl rfl)⟩) fun W' Lm=>⟨VK.out w4 W' KA Lm,.inr ⟨?_,rfl⟩⟩
  unfold vr;rw[if_pos (by simpa using h2)]
theorem cB.src {w:World} {v:Value} {l:List BS} (h:cB w v l):xu w v l.length (aC l):=by
 rcases h with⟨rfl,rfl⟩ | ⟨b,off,cap,rfl,_,hc⟩
 ·exact .inl ⟨rfl,rfl,rfl⟩
 ·refine .inr ⟨⟨b,off,none⟩,cap,rfl,fun j u hj=>?_⟩
  have Kv:j<l.length*4:=by rw[<-bV];exact(List.getElem?_eq_some_iff.1 hj).1
  have h1:l[j/4]? =some (l[j/4]'(by omega)):=List.getElem?_eq_getElem (by omega);have h2:=fT l h1 (j:=j%4) (by omega);rw[show j/4*4+j%4=j by omega,hj]at h2;rw[Addr.add_mid,show off+j=off+j/4*4+j%4 by omega,hc _ _ h1 _ (by omega), <-h2]
theorem pS {ps:List PT} {k:Nat} {x:PT} (h:ps[k]? =some x):bT (ps.take (k+1))=bT (ps.take k)++x.nf.aB:=by unfold bT;rw[List.take_add_one,h];simp
theorem PT.vv (x:PT):x.ok=true↔x.nf.right=true/\0<=x.mark/\x.mark<=255:=by unfold PT.ok;simp[and_assoc]
theorem zM {ps:List PT} {f:Int} (h:ps.length<=64) {k:Nat} {x:PT} (hx:ps[k]? =some x) (hb:¬x.ok=true):kZ ps f=(⟨[],[],[]⟩,180):=by unfold kZ;rw[if_neg (by omega),if_pos];rw[List.all_eq_false];exact⟨x,List.mem_of_getElem? hx,hb⟩
theorem NY {ps:List PT} {f:Int} (h:64<ps.length):kZ ps f=(⟨[],[],[]⟩,5):=by unfold kZ;rw[if_pos h]
theorem VL {ps:List PT} (h:∀ (k:Nat) (x:PT),ps[k]? =some x->x.ok=true):ps.all PT.ok=true:=List.all_eq_true.2 fun x hx=>by
 obtain⟨i,hi⟩:=List.getElem?_of_mem hx;exact h i x hi
theorem Da {ps:List PT} {f:Int} (h:ps.length<=64) (ho:ps.all PT.ok=true) (hf:f<0\/4000<f):kZ ps f=(⟨[],[],[]⟩,2):=by unfold kZ;rw[if_neg (by omega),ho,if_neg (by decide),if_pos hf]
theorem r8 {α:Type} [DecidableEq α] {fuel:Nat} {g g':Nat->α} {todo:List α} :∀ {k:Nat},(∀ j,j<k->g j=g' j)->cI fuel g todo k=cI fuel g' todo k
 | 0,_=>rfl
 | k+1,h=>by rw[cI,cI,r8 fun j hj=>h j (by omega),h k (by omega)]
theorem vw {α:Type} [DecidableEq α] {fuel K:Nat} {f f':α->Nat->α} {p0:α} (h:∀ p j,j<K->f p j=f' p j):∀ n,dF fuel f K p0 n=dF fuel f' K p0 n
 | 0=>rfl
 | n+1=>by
  rw[dF,dF,vw h n];congr 1;funext st;unfold fF;cases st.1[n]? with
  | none=>rfl
  | some p=>simp only[r8 (h p)]
theorem Ro {ps:List PT} {f:Nat} {ls:List Nat} (hl:ls.length=(partsOf (bT ps)).length) (h:∀ k,k<ls.length->ls.getD k 0=lb (partsOf (bT ps)) k):vr ps ls f=sD ps f:=by
 unfold vr sD;rw[hl];split
 ·rfl
 ·refine vw (fun p j hj=>?_) f
  unfold cN;rw[h j (by omega)]
theorem NZ {ps:List PT} {f:Nat} (h:ps.length<=64) (ho:ps.all PT.ok=true) (hf:f<=4000) (hs:sD ps f=none):kZ ps f=(⟨[],[],[]⟩,181):=by unfold kZ;rw[if_neg (by omega),ho,if_neg (by decide),if_neg (by omega),Int.toNat_natCast,hs]
theorem N4 {ps:List PT} {f:Nat} (h:ps.length<=64) (ho:ps.all PT.ok=true) (hf:f<=4000) {st:List (List (List Int))×List (List Nat)} (hs:sD ps f=some st):kZ ps f=(⟨partsOf (bT ps),st.2.map fun r=>r.map Int.ofNat,st.1.map (dy ps)⟩,0):=by unfold kZ;rw[if_neg (by omega),ho,if_neg (by decide),if_neg (by omega),Int.toNat_natCast,hs]
end Go.Proofs.YtalombmiochpmaaGreatDoor
