/- dfa.Of: sets as a source of an append; plain facts. -/
import Derived.Test.YtalombmiochpmaaGreatDoorOR30
import Derived.Lib.SlBuf
set_option maxRecDepth 100000
set_option maxHeartbeats 16000000
open Go.Lib (hid)
namespace Go.Proofs.YtalombmiochpmaaGreatDoor
open Go Go.RowKit Go.Shelf Go.Maps
theorem LH (p:Addr) (w:World): CallsD Tryz.prog 103 #[.pointer (some p)] .returning w fun e u' w'=>e=.returned (.tuple #[])/\u'=.returning/\w'=w:=by
 refine callsD_of_wpS Tryz.func103 rfl fun afQ cs hu=>?_
 apply wpS_seq;apply wpS_region;simp[wpOpsS,go_sem,recoverD,hu,Tryz.ntmps103,Exit.thenS];refine wpS_of_wp ?_;go_wp2;cases afQ
 simp_all[bodyPostS,results,Tryz.results103]
theorem xo (p:Addr) (x:Value) (Za:List PanicEntry) (w:World) (hc:w.cell? p=some x) (hz:w.frozen? p=false) (hp:p.block<w.heap.size): CallsD Tryz.prog 103 #[.pointer (some p)] (.panicking ({v:=.iface 174 (.agg #[]),recovered:=false} ::Za)) w fun e u' w'=>
   e=.returned (.tuple #[])/\u'=.panicking ({v:=.iface 174 (.agg #[]),recovered:=true} ::Za)/\∃ w2,Below w.heap.size w w2/\w'=w2.setCell p (.int .i64 181):=by
 refine callsD_of_wpS Tryz.func103 rfl fun afQ cs hu=>?_
 apply wpS_seq;apply wpS_region;simp[wpOpsS,go_sem,recoverD,hu,Tryz.ntmps103,Exit.thenS];refine wpS_of_wp ?_;have hta:∀ w:World,(Instr.typeAssert (.iface 174 (.agg #[])) 20 174 true).run Tryz.prog w=.ok (.tuple #[.agg #[],.bool true]) w:=fun _=>by kernel_rfl
 have hK:aa (· <w.heap.size) w (w.alloc (.cells #[] 174)):=aa.ag ((Ext.refl w).alloc _).below fun _ h=>h
 have hc2:(w.alloc (.cells #[] 174)).cell? p=some x:=(hK.cell hp).trans hc;have hz2:(w.alloc (.cells #[] 174)).frozen? p=false:=(hK.frozen hp).trans hz;go_wp2;refine⟨rfl,_,rfl,.tuple #[],?_,rfl,rfl,_,((Ext.refl w).alloc _).below,rfl⟩;simp[results,Tryz.results103]
theorem Py (n:Nat) (hn:n<=64) (w:World):Calls Tryz.prog 162 #[.int .u64 1,.int .u64 n] w fun e w'=>e=.returned (.tuple #[.int .u64 0,.int .u64 n])/\w'=w:=by
 have a1:bits .and .u64 (1:Int) 4294967295=1:=by decide
 have a2:bits .and .u64 (n:Int) 4294967295=n:=by
  have h:∀ m:Fin 65,bits .and .u64 ((m.val:Nat):Int) 4294967295=(m.val:Int):=by decide+kernel
  exact h ⟨n,by omega⟩
 go_enter Tryz.func162,Tryz.ntmps162
 have h0:(n:Int)/4294967296=0:=by omega
 have a3:bits .and .u64 (0:Int) 4294967295=0:=by decide
 have a4:IntKind.u64.wrap 0=0:=by decide
 go_wp2;refine bodyPost_ret (v:=.tuple #[.int .u64 0,.int .u64 n]) (by simp[results,Tryz.results162,go_sem]) rfl ⟨rfl,rfl⟩
theorem Xp (n:Nat) (hn:n<=64) (w:World):Calls Tryz.prog 142 #[.int .u64 1,.int .u64 n] w fun e w'=>e=.returned (.tuple #[.int .u64 0,.int .u64 n])/\w'=w:=by
 have CM:=hid (Py n hn w);go_enter Tryz.func142,Tryz.ntmps142;go_wp2_with fail
 refine CM.out.mono ?_;rintro e w2 ⟨rfl,hw⟩;replace hw:=hw.symm;subst hw;go_wp2;refine bodyPost_ret (v:=.tuple #[.int .u64 0,.int .u64 n]) (by simp[results,Tryz.results142,go_sem]) rfl ⟨rfl,rfl⟩
theorem LI (n:Nat):(madeCells (Value.slice none 0 0).cells (n*1)).toList=List.replicate n (.slice none 0 0):=by
 apply List.ext_getElem?;intro i;simp only[madeCells,Value.cells,Nat.mul_one,Array.toList_map,Array.toList_range,List.getElem?_map,List.getElem?_replicate];rcases Nat.lt_or_ge i n with h | h
 ·rw[List.getElem?_range h,if_pos h];simp[Nat.mod_one]
 ·rw[List.getElem?_eq_none (by simpa using h),if_neg (by omega)];rfl
def qy (n m:Nat) (h:Value):List Value:=List.replicate m h++List.replicate (n-m) (.slice none 0 0)
theorem zF {n m:Nat} (h:Value) (hm:m<=n):(qy n m h).length=n:=by unfold qy;simp;omega
theorem IZ {base g n m k:Nat} {h:Value} {W:World} (h1:h.oneCell'=true) (ho:W.ownsRow base 47 1 (.slice (some ⟨g,0,none⟩) n n) n (qy n m h)) (hk:m+k<=n) (a:Addr) (sl sc:Nat) (hs:∀ j,j<k->W.cell? (a.add j)=some h) (hkk:k=Nat.min sl (n-m)) (ty:TypeId): ∃ W',(Builtin.copy_ #[26,26] ty #[.slice (some ⟨g,m,none⟩) (n-m) (n-m),.slice (some a) sl sc]).run Tryz.prog W=.ok (.int .i64 k) W'/\W'.ownsRow base 47 1 (.slice (some ⟨g,0,none⟩) n n) n (qy n (m+k) h)/\aa (· ≠g) W W':=by
 rcases ho.2 with⟨e,_⟩ | ⟨g',cap,cur,e,hb,hg,hc,hcm,hsz,eH⟩
 ·cases e
 ·cases e
  have El:cur.toList=qy n m h:=by rw[<-eH,List.take_of_length_le];simp[hsz]
  refine⟨_,by
         have:=run_copy_row (P:=Tryz.prog) W 26 26 ty 47 g m (n-m) (n-m) a sl sc cur 47 (List.replicate k h) Tryz.underlying26 (by kernel_rfl) hg (by rw[List.length_replicate];exact hkk) (fun j v hj=>by
    rw[List.getElem?_replicate]at hj;split at hj
    ·cases hj;exact hs j (by assumption)
    ·cases hj) (by rw[List.length_replicate,hsz];omega) (fun v hv=>by rw[List.eq_of_mem_replicate hv];exact h1)
         rw[List.length_replicate]at this
         exact this,?_,(aa.refl _ _).setRow (fun h=>h rfl) _⟩
  have Ww:(cur.toList.take m++List.replicate k h++cur.toList.drop (m+k))=qy n (m+k) h:=by rw[El];unfold qy;rw[List.take_left' (by simp),List.replicate_append_replicate];congr 1;rw[List.drop_append,List.drop_eq_nil_of_le (by simp),List.length_replicate,List.nil_append,List.drop_replicate];congr 1;omega
  rw[Ww];refine⟨by rw[zF h hk];omega,.inr ⟨g,n,_,rfl,hb,setRow_heap W g cur _ _ _ hg,hc,hcm,by simp[zF h hk],?_⟩⟩;rw[List.take_of_length_le];simp[zF h hk]
theorem Pz {P:Program} {Cl:FuncId->Array Value->World->(Ending->World->Prop)->Prop} {Rd:Nat->FuncId->Array Value->Code->Code->World->(Ending->World->Prop)->Prop} {o:Oper} {a:Act} {W W':World} {post:Value->World->Prop} {v:Value} (d s:Operand) (t1 t2:TypeId) (ho:o.op=.call {callee:=.builtin .copy,args:= #[d,s],argTypes:= #[t1,t2]}) (dv sv:Value) (hd:a.eval d=dv) (hs:a.eval s=sv) (hr:(Builtin.copy_ #[t1,t2] o.type #[dv,sv]).run P W=.ok v W') (h:post v W'):kj Cl Rd post ((execOp a.eval o).run P W):=by unfold execOp;simp only[ho,resolve,invoke,builtin,Sem.run_bind,Sem.run_pure,Result.andThen_ok,List.map_toArray,List.map_cons,List.map_nil,hs,hd,hr];exact h
def Xq (g n m:Nat) (h:Value) (A B:World):Prop:=aa (fun x=>x<A.heap.size/\x≠g) A B/\(A.ownsRow g 47 1 (.slice (some ⟨g,0,none⟩) n n) n (qy n m h)->B.ownsRow g 47 1 (.slice (some ⟨g,0,none⟩) n n) n (qy n m h))
theorem Xq.trans {g n m:Nat} {h:Value} {A B C:World} (h1:Xq g n m h A B) (h2:Xq g n m h B C):Xq g n m h A C:=⟨h1.1.trans h2.1 fun _ hx=>⟨Nat.lt_of_lt_of_le hx.1 h1.1.size,hx.2⟩,fun a=>h2.2 (h1.2 a)⟩
theorem Xq.drew {g n m:Nat} {h:Value} {A:World} :Xq g n m h A A.drew:=⟨(aa.refl _ _).drew,fun a=>a⟩
def Zb (g n m:Nat) (h v:Value):aH (Xq g n m h):=⟨fun u=>u=v,fun _ W=>W.ownsRow g 47 1 (.slice (some ⟨g,0,none⟩) n n) n (qy n m h),v,rfl,fun _ _ _ hm _ h=>hm.2 h⟩
theorem LJ (b gb:Nat) (h:Value) (n:Nat) (hn:n<=64) (w:World) (hc:w.cell? ⟨gb,0,none⟩=some h) (hh:w.ownsRow b 3 1 h 1 [aS (-1)]) (hb:b<=w.heap.size): Calls Tryz.prog 105 #[.slice (some ⟨gb,0,none⟩) 1 1,.int .i64 n] w fun e w'=>∃ u,e=.returned u/\aW b w' u (List.replicate n [-1])/\Below w.heap.size w w':=by
 obtain⟨iL,Gk,oM,oN,oO⟩:=info_parts Tryz.vU;have CM:=hid (Xp n hn);have cv1:IntKind.u64.wrap (n:Int)=n:=by have:=IntWalk.u64_in (n:Int) (by omega);exact this
 have cv2:IntKind.i64.wrap (n:Int)=n:=IntWalk.i64_in _ (by omega);have d1:decide ((n:Int)<0)=false:=decide_eq_false (by omega);have d2:decide ((9223372036854775807:Int)<(n:Int))=false:=decide_eq_false (by omega);have HH:=hid hh;have HCc:=hid hc;have hgb:=World.block_lt_of_cell? _ _ hc;clear hh hc;go_enter Tryz.func105,Tryz.ntmps105;go_wp2_with fail
 refine(CM.out w).mono ?_;rintro e w2 ⟨rfl,hw⟩;replace hw:=hw.symm;subst hw;go_wp2_with (at_make;refine wpList_make_full _ rfl (.tmp 29) (.tmp 29) 26 rfl w.heap.size 47 iL (.slice none 0 0) 1 Tryz.underlying26 Gk oM oN .i64 .i64 _ _ n rfl rfl rfl rfl (by rw[oO];omega) (by unfold maxLen;omega) (Nat.le_refl _) ?_;intro w3 hr hg;refine Hid.out ?_);refine hid ?_;have hs3:w.heap.size<w3.heap.size:=by
  rcases hr.2 with⟨h5,_⟩ | ⟨g,c,cur,h5,_,h6,_⟩
  ·cases h5
  ·cases h5;exact(Array.getElem?_eq_some_iff.1 h6).1
 have hb3:Below w.heap.size w w3:=(aa.bG hg fun x hx=>⟨hx,fun e=>by cases e⟩:aa (· <w.heap.size) w w3).below;rw[LI]at hr;have h1h:h.oneCell'=true:=by obtain⟨a,c,rfl⟩:=ownsRow_form HH.out;rfl
 have hr2:w3.ownsRow w.heap.size 47 1 (.slice (some ⟨w.heap.size,0,none⟩) n n) n (qy n 0 h):=by unfold qy;rw[Nat.sub_zero];exact hr
 have hc3:w3.cell? ⟨gb,0,none⟩=some h:=((aa.ag hb3 fun _ h=>h:aa (· <w.heap.size) w w3).cell (p:=⟨gb,0,none⟩) hgb).trans HCc.out
 obtain⟨w4,yh,ho4,hk4⟩:=IZ (k:=Nat.min 1 n) h1h hr2 (by rw[Nat.zero_add];exact Nat.min_le_right _ _) ⟨gb,0,none⟩ 1 1 (fun j hj=>by
  have hj0:j=0:=by have:=Nat.lt_of_lt_of_le hj (Nat.min_le_left 1 n);omega
  subst hj0
  exact hc3) (by rw[Nat.sub_zero]) 3
 rw[Nat.sub_zero]at yh;rw[Nat.zero_add]at ho4;obtain⟨k0,Ge⟩:∃ z,z=Nat.min 1 n:=⟨_,rfl⟩;rw[<-Ge]at yh ho4;have abT:k0<=n/\(n=0\/1<=k0):=by rw[Ge];unfold Nat.min;constructor<;>omega
 have HO4:=hid ho4;have X4:Hid (Below w.heap.size w w4):=hid (hb3.trans (hk4.mono fun x hx=>by have h5:x<w.heap.size:=hx;show x≠w.heap.size;omega:aa (· <w.heap.size) w3 w4).below);clear hr hr2 hg hb3 hc3 ho4 hk4 Ge CM;go_wp2_with (at_builtin;refine Lib.wpList_copy_run _ rfl (.tmp 31) (.tmp 32) 26 26 rfl _ _ rfl rfl yh ?_;clear yh);go_loopw [8] (fun mv wr=>∃ m:Nat,m<=n/\(n=0\/1<=m)/\mv=.int .i64 m/\wr.ownsRow w.heap.size 47 1 (.slice (some ⟨w.heap.size,0,none⟩) n n) n (qy n m h)/\Below w.heap.size w wr) (fun mv _=>n-(intOf mv).toNat);case atStart=>exact⟨k0,abT.1,abT.2,rfl,HO4.out,X4.out⟩
 case round=>
  obtain⟨m,hm,oQ,rfl,ho,hx⟩:=hrel;obtain⟨wo,rfl⟩:∃ wo:World,wo=wr:=⟨_,rfl⟩;have HO:=hid ho;have HX:=hid hx;clear ho hx HO4 X4 abT;by_cases hlt:m<n
  ·have hmi:(m:Int)<n:=by omega
   have hmn:¬ ((n:Int)<m):=by omega
   have uC:(m:Int)<=n:=by omega
   have dml:decide ((m:Int)<=n)=true:=decide_eq_true uC;obtain⟨k,hk⟩:∃ z,z=Nat.min m (n-m):=⟨_,rfl⟩;have KD:m+k<=n/\1<=k/\k<=m:=by rw[hk];unfold Nat.min;refine⟨?_,?_,?_⟩<;>omega
   have Ep:=hid hk;clear hk;go_wp2_with fail
   refine RegQ.aY (Xq w.heap.size n (m+k) h) Xq.drew (fun _ _ _ h k=>h.trans k) (by kernel_rfl) 8 [0,0,0,6,0,0,48,126,255,511] (fun i=>i==7) (by kernel_rfl) (fun i=>if i=7 then Zb w.heap.size n (m+k) h (.int .i64 k)else aH.any _) (fun j W=>(j=7)->W.ownsRow w.heap.size 47 1 (.slice (some ⟨w.heap.size,0,none⟩) n n) n (qy n m h)) (fun _ _ _=>HO.out) ?_;intro C hC hne;have HC:=hid hC;clear hC
   repeat (refine RegQ.ae (fun K hK=>?_);first | (refine RegQ.aR rfl ?_;try go_simp;refine hK _ _ ?_;clear hK K) | (refine RegQ.aO rfl rfl ?_;unfold ai;go_simp;refine hK _ _ ?_;clear hK K))
   refine RegQ.ae (fun K hK=>?_);refine RegQ.bg rfl rfl (Zb w.heap.size n (m+k) h (.int .i64 k)) rfl (fun W hW hD hN=>?_) (fun v hv=>?_)
   ·have hD7:=hD rfl
    clear hW hN hK K hD
    obtain⟨W',e1,e2,e3⟩:=IZ (k:=k) h1h hD7 KD.1 ⟨w.heap.size,0,none⟩ m n (fun j hj=>by
     have:(⟨w.heap.size,0,none⟩:Addr).add j=⟨w.heap.size,j,none⟩:=by simp[Addr.add];omega
     rw[this,hD7.cellAt j (by omega)];unfold qy
     rw[List.getElem?_append_left (by rw[List.length_replicate];omega),List.getElem?_replicate,if_pos (by omega)]) Ep.out 3
    refine Pz (.tmp 41) (.tmp 44) 26 26 rfl _ _ ?_ ?_ e1 ?_
    ·show Value.slice (if n=m then _ else _) _ _=_
     rw[if_neg (by omega)]
    ·rfl
    ·exact⟨⟨⟨e3.mono fun x hx=>hx.2,fun _=>e2⟩,fun j hj _ _ e=>absurd e hj⟩,rfl,e2⟩
   replace hv:v=_:=hv;subst hv;go_simp;refine hK _ _ ?_;clear hK K
   repeat (refine RegQ.ae (fun K hK=>?_);first | (refine RegQ.aR rfl ?_;try go_simp;refine hK _ _ ?_;clear hK K) | (refine RegQ.aO rfl rfl ?_;unfold ai;go_simp;refine hK _ _ ?_;clear hK K))
   refine RegQ.bh (fun W hW hH=>?_);have lH:=(HC.out W).1 hW;have NR:Hid (W.ownsRow w.heap.size 47 1 (.slice (some ⟨w.heap.size,0,none⟩) n n) n (qy n (m+k) h)):=hid (hH _ (List.mem_of_getElem? (show _=some _ from rfl:_[0]? =some _)));have XR:Hid (Below w.heap.size w W):=hid (HX.out.trans (lH.1.mono fun x hx=>⟨Nat.lt_of_lt_of_le hx HX.out.size,Nat.ne_of_lt hx⟩:aa (· <w.heap.size) wo W).below);clear lH hW hH HC hne HO HX;go_wp2;go_roundw;case rel=>exact⟨m+k,KD.1,by omega,by go_num,NR.out,XR.out⟩
   case measure=>simp[intOf];omega
  ·obtain rfl:m=n:=by omega
   have hmn:¬ ((m:Int)<m):=by omega
   go_wp2;go_ret;refine⟨_,rfl,⟨List.replicate m h,by simp,?_,fun i u l hu hl=>?_⟩,HX.out⟩
   ·have h5:=aA HO.out hb
    unfold qy at h5;rw[Nat.sub_self,List.replicate_zero,List.append_nil]at h5;rw[List.length_replicate];exact h5
   ·rw[List.getElem?_replicate]at hu hl
    split at hu
    ·cases hu
     rw[if_pos (by assumption)]at hl;cases hl;exact aq HH.out HX.out
    ·cases hu
theorem abU {α:Type} [DecidableEq α] {l:List α} {q:α} (h:q∈l):l.idxOf q<l.length:=List.idxOf_lt_length_of_mem h
theorem abV {base c x:Nat} {F0:Nat->Prop} (h:x<base\/x=c\/¬F0 x):x<base\/¬ (F0 x/\x≠c):=by
 rcases h with h | h | h
 ·exact .inl h
 ·exact .inr fun h2=>h2.2 h
 ·exact .inr fun h2=>h h2.1
theorem afR {base c x:Nat} {F0:Nat->Prop} {q:Prop} (h:x<base\/x=c\/¬F0 x):x<base\/¬ ((F0 x/\x≠c)/\q):=(abV h).imp id fun h h2=>h h2.1
theorem wH (tmps:Array Value) (c0:Nat) (ht:tmps[4]?.getD undef=.pointer (some ⟨c0,0,none⟩)) (R:Ending->World->Prop) (W:World) (hB:ah W c0 #[.int .i64 0] 34) (h:∀ W',aa (fun x=>x<W.heap.size/\x≠c0) W W'->R (.returned (.int .i64 181)) W'): Leaves Tryz.prog Tryz.f80 tmps R [{target:=.fn (.func 103) #[.pointer (some ⟨c0,0,none⟩)],args:= #[]}] (.panicking [{v:=.iface 174 (.agg #[]),recovered:=false}]) W:=by refine leaves_cons (f:=103) (args:= #[.pointer (some ⟨c0,0,none⟩)]) (by simp) (by simp[go_sem]) ?_;refine(xo ⟨c0,0,none⟩ (.int .i64 0) [] W (hB.cell 0) (hB.frozen 0) hB.lt).mono ?_;rintro e u' w'' ⟨rfl,rfl,w2,hk,rfl⟩;have hB2:=hB.below hk hB.lt;have hB3:=hB2.set 0 (.int .i64 181);have h1:=hB3.cell 0;have K:aa (fun x=>x<W.heap.size/\x≠c0) W (w2.setCell ⟨c0,0,none⟩ (.int .i64 181)):=(aa.ag hk fun x hx=>hx.1:aa (fun x=>x<W.heap.size/\x≠c0) W w2).setCell (fun h=>h.2 rfl) _;have h5:=h _ K;obtain⟨W2,hW2⟩:∃ z,z=w2.setCell ⟨c0,0,none⟩ (.int .i64 181):=⟨_,rfl⟩;rw[<-hW2]at h1 h5 ⊢;replace h1:W2.cell? ⟨c0,0,none⟩=some (.int .i64 181):=h1;simp[Leaves,settle,results,Tryz.results80,go_sem,ht,h1];exact h5
theorem PA (tmps:Array Value) (c0:Nat) (k:Int) (ht:tmps[4]?.getD undef=.pointer (some ⟨c0,0,none⟩)) (R:Ending->World->Prop) (W:World) (hB:ah W c0 #[.int .i64 k] 34) (h:R (.returned (.int .i64 k)) W): Leaves Tryz.prog Tryz.f80 tmps R [{target:=.fn (.func 103) #[.pointer (some ⟨c0,0,none⟩)],args:= #[]}] .returning W:=by refine leaves_cons (f:=103) (args:= #[.pointer (some ⟨c0,0,none⟩)]) (by simp) (by simp[go_sem]) ?_;refine(LH ⟨c0,0,none⟩ W).mono ?_;rintro e u' w'' ⟨rfl,rfl,rfl⟩;have h1:w''.cell? ⟨c0,0,none⟩=some (.int .i64 k):=hB.cell 0;simp[Leaves,settle,results,Tryz.results80,go_sem,ht,h1];exact h
theorem Uj (F0:Nat->Prop) (base mb ob f:Nat) (pv cv lv:Value) (ps:List PT) (ls:List Nat) (ok:WN ps) (w:World) (hF0:∀ x,w.heap.size<=x->F0 x) (hM:YG F0 w base mb ob f pv cv ps [] []) (hf:f<=4000) (hls:ls.length<=256) (Gf:∀ c∈ls,c<256) (hL:∀ W,aa (fun x=>x<w.heap.size/\(x<base\/¬F0 x)) w W->aZ bu W lv ls) (hP:∀ W,Below base w W->lT W pv ps) (hT:∀ W,Below base w W->gL W): Calls Tryz.prog 80 #[.pointer (some ⟨mb,0,none⟩),lv] w fun e w'=>aa (fun x=>x<w.heap.size/\(x<base\/¬F0 x)) w w'/\((∃ st,zD ps ls f=some st/\e=.returned (.int .i64 0)/\YG (fun _=>True) w' base mb ob f pv cv ps st.1 (st.2.map fun r=>r.map Int.ofNat))\/(zD ps ls f=none/\e=.returned (.int .i64 181))):=by
 obtain⟨iL,Gk,oM,oN,oO⟩:=info_parts Tryz.vU;obtain⟨iI,Hh,pT,pU,pV⟩:=info_parts Tryz.tz;obtain⟨sv,nv,kv,us,ns,ks,M⟩:=hM;obtain⟨pa,pc,rfl⟩:=(hP w (Below.refl _ _)).form;obtain⟨la,lc,rfl⟩:=(hL w (aa.refl _ _)).form;obtain⟨n,ER⟩:∃ z,z=ps.length:=⟨_,rfl⟩;obtain⟨m,hlm⟩:∃ z,z=ls.length:=⟨_,rfl⟩;rw[<-ER]at M hP ⊢;rw[<-hlm]at hL hls ⊢;have tQ:n<=64:=by rw[ER];exact ok.1
 have rK:base<w.heap.size:=Nat.lt_of_le_of_lt M.bm M.blk.lt;have xg:mb<w.heap.size:=M.blk.lt;have MW:=hid M;have Uh:=hid ER;have HLM:=hid hlm;have HL:=hid hL;have HP:=hid hP;have HT:=hid hT;have OK:=hid ok;have HLB:=hid Gf;have HF0:=hid hF0
 have CR:Hid (∀ (b gb:Nat) (h:Value) (W:World),W.cell? ⟨gb,0,none⟩=some h->W.ownsRow b 3 1 h 1 [aS (-1)]->b<=W.heap.size->
  Calls Tryz.prog 105 #[.slice (some ⟨gb,0,none⟩) 1 1,.int .i64 n] W fun e w'=>∃ u,e=.returned u/\aW b w' u (List.replicate n [-1])/\Below W.heap.size W w'):=hid fun b gb h W h1 h2 h3=>LJ b gb h n tQ W h1 h2 h3
 have m0:w.cell? ⟨mb,0,none⟩=some (.slice pa n pc):=M.blk.cell 0;clear M ER hlm hL hP hT ok Gf hF0;have hmf:∀ (fn:Fn) (first cap:Array Value) (w:World),(Instr.makeFunc fn first cap).run Tryz.prog w=.ok (.func fn first cap) w:=fun _ _ _ _=>rfl
 go_enter_defers Tryz.func80,Tryz.ntmps80
 have m1:(((w.alloc (.cells #[.int .i64 0] 34)).alloc (.cells #[.int .i64 (-1)] 3)).alloc (.cells #[.slice (some ⟨w.heap.size+1,0,none⟩) 1 1] 47)).cell? ⟨mb,0,none⟩=some (.slice pa n pc):=
  ((aa.ag ((((Ext.refl w).alloc _).alloc _).alloc _).below fun _ h=>h:aa (· <w.heap.size) w _).cell (p:=⟨mb,0,none⟩) xg).trans m0
 go_wp2_with fail
 refine(CR.out (w.heap.size+1) (w.heap.size+1+1) (.slice (some ⟨w.heap.size+1,0,none⟩) 1 1) _ (by go_simp) ?_ (by simp)).mono ?_
 ·have h5:((w.alloc (.cells #[.int .i64 0] 34)).alloc (.cells #[.int .i64 (-1)] 3)).ownsRow (w.heap.size+1) 3 1 (.slice (some ⟨w.heap.size+1,0,none⟩) 1 1) 1 [.int .i64 (-1)]:=by
   have h6:=World.alloc_heap_new (w.alloc (.cells #[.int .i64 0] 34)) (.cells #[.int .i64 (-1)] 3);rw[World.size_alloc]at h6;exact⟨rfl,.inr ⟨w.heap.size+1,1, #[.int .i64 (-1)],rfl,Nat.le_refl _,h6,Nat.le_refl _,by unfold maxLen;omega,rfl,rfl⟩⟩
  exact h5.alloc _
 rintro e w3 ⟨u,rfl,ho3,hk3⟩
 have CA:Hid (∃ wA:World,wA.heap.size=w.heap.size+1/\Below w.heap.size w wA/\ah wA w.heap.size #[.int .i64 0] 34/\Below wA.heap.size wA w3):=hid ⟨w.alloc (.cells #[.int .i64 0] 34),World.size_alloc _ _,((Ext.refl w).alloc _).below,ah.new _ _ _,by
  have h5:=(((Ext.refl (w.alloc (.cells #[.int .i64 0] 34))).alloc (.cells #[.int .i64 (-1)] 3)).alloc (.cells #[.slice (some ⟨w.heap.size+1,0,none⟩) 1 1] 47)).below
  exact h5.trans (hk3.mono h5.size)⟩
 have HO3:=hid ho3;clear ho3 hk3 m1 m0 CR;obtain⟨wA,hA1,hA2,hA3,hA4⟩:=CA.out;have JN:=hid hA1;have XA:=hid hA2;have BA:=hid hA3;have X3:=hid hA4;clear hA1 hA2 hA3 hA4 CA;have MA:Hid (Mk (fun x=>F0 x/\x≠w.heap.size) wA base mb ob f (.slice pa n pc) cv ps [] [] sv nv kv us ns ks):=hid ((MW.out.mono fun x hx h=>⟨h,Nat.ne_of_lt hx⟩).below XA.out);have PB:Hid (Below base w wA):=hid (XA.out.mono (Nat.le_of_lt rK));have abX:Hid (∀ W W',aa (fun x=>x<wA.heap.size/\(x<base\/x=w.heap.size\/¬F0 x)) wA W->aa (fun x=>x<W.heap.size/\x≠w.heap.size) W W'->aa (fun x=>x<w.heap.size/\(x<base\/¬F0 x)) w W'):=hid fun W W' h1 h2=>by
  have h4:=h1.size;have h5:=JN.out;exact((aa.ag XA.out fun x hx=>hx.1:aa (fun x=>x<w.heap.size/\(x<base\/¬F0 x)) w wA).tr (h1.mono fun x hx=>⟨by omega,hx.2.imp id .inr⟩)).tr (h2.mono fun x hx=>⟨by omega,by omega⟩)
 clear MW;go_wp2_with fail
 refine(Dv (fun x=>F0 x/\x≠w.heap.size) base mb ob f (.slice pa n pc) cv ps [] [] OK.out wA w3 ⟨_,_,_,_,_,_,MA.out⟩ X3.out (fun x hx=>⟨HF0.out x (by have:=JN.out;omega),by have:=JN.out;omega⟩) u (oP ps) ?_ (ED ps) List.nodup_nil (fun p hp=>by cases hp) hf (Nat.zero_le _) (fun W hW=>HP.out W (PB.out.trans hW)) (fun W hW=>HT.out W (PB.out.trans hW))).mono ?_
 ·have h5:=HO3.out
  have h6:oP ps=List.replicate n [-1]:=by unfold oP;rw[List.map_const',Uh.out]
  rw[h6,JN.out];exact h5
 rintro e w4 ⟨hk4,hq⟩;rcases hq with⟨h1,_⟩ | ⟨h1,h2,rfl,hM4⟩ | ⟨h1,h2,rfl⟩
 ·cases h1
 ·have KA:Hid (aa (fun x=>x<wA.heap.size/\(x<base\/x=w.heap.size\/¬F0 x)) wA w4):=hid ((aa.ag X3.out fun x hx=>hx.1:aa (fun x=>x<wA.heap.size/\(x<base\/x=w.heap.size\/¬F0 x)) wA w3).tr (hk4.mono fun x hx=>⟨hx.1,abV hx.2⟩))
  have M4:=hid hM4;have Oc:1<=f:=by simp at h2;omega
  clear hk4 hM4 h1 h2 X3 HO3 MA;go_wp2;go_loopw [5] (fun iv wr=>∃ (k:Nat) (rows:List (List (List Int))) (Ci:List (List Nat)),cS f (dL ps ls) ls.length (oP ps) k=some (rows,Ci)/\k<=rows.length/\iv=.int .i64 k/\YG (fun x=>F0 x/\x≠w.heap.size) wr base mb ob f (.slice pa n pc) cv ps rows (Ci.map fun r=>r.map Int.ofNat)/\aa (fun x=>x<wA.heap.size/\(x<base\/x=w.heap.size\/¬F0 x)) wA wr) (fun iv _=>f-(intOf iv).toNat);case atStart=>exact⟨0,[oP ps],[],rfl,Nat.zero_le _,rfl,M4.out,KA.out⟩
  case round=>
   obtain⟨k,rows,Ci,hst,hk,rfl,hM,hK⟩:=hrel;obtain⟨sv1,nv1,kv1,us1,ns1,ks1,M⟩:=hM;obtain⟨wo,rfl⟩:∃ wo:World,wo=wr:=⟨_,rfl⟩;have IS:=hid (Na Oc hst);obtain⟨L,hLn⟩:∃ z,z=rows.length:=⟨_,rfl⟩;have R8:=M.st.1;rw[<-hLn]at R8 hk;obtain⟨sa,sc,rfl⟩:=ownsRow_form R8;have hLf:L<=f:=by rw[hLn];exact(Na Oc hst).le
   have MO:=hid M;have Gi:=hid hLn;have HST:=hid hst;have KO:=hid hK;have m2:wo.cell? ⟨mb,2,none⟩=some (.slice sa L sc):=M.blk.cell 2;clear hst hK M hLn R8 M4 KA;by_cases hlt:k<L
   ·have gz:(k:Int)<L:=by omega
    obtain⟨p,hp⟩:∃ p,rows[k]? =some p:=⟨_,List.getElem?_eq_getElem (by have:=Gi.out;omega)⟩;have HPp:=hid hp;clear hp;go_wp2;clear m2;go_loopw [6,31] (fun nv2 iv wi=>∃ (j:Nat) (jf:List (List (List Int))) (vy:List Nat),bO f (dL ps ls p) rows j=some (jf,vy)/\j<=m/\iv=.int .i64 j/\wi.ownsRow wA.heap.size 3 1 nv2 j (vy.map fun t:Nat=>.int .i64 t)/\YG (fun x=>(F0 x/\x≠w.heap.size)/\nv2.ownBlock≠some x) wi base mb ob f (.slice pa n pc) cv ps jf (Ci.map fun r=>r.map Int.ofNat)/\aa (fun x=>x<wA.heap.size/\(x<base\/x=w.heap.size\/¬F0 x)) wA wi) (fun _ iv _=>m-(intOf iv).toNat);case atStart=>exact⟨0,rows,[],rfl,Nat.zero_le _,rfl,World.ownsRow_nil _ _ _ _,⟨_,_,_,_,_,_,MO.out.mono fun x _ hx=>⟨hx,fun e=>by cases e⟩⟩,KO.out⟩
    case round=>
     obtain⟨j,jf,vy,hr2,hj,rfl,Re,hM2,hK2⟩:=hrel;obtain⟨wj,rfl⟩:∃ wj:World,wj=wr:=⟨_,rfl⟩;have RO:=hid (iO (P:=rL ps) IS.out.nodup IS.out.le IS.out.all j (fun _ _=>tL (IS.out.all p (List.mem_of_getElem? HPp.out)) _) hr2);have HR2:=hid hr2;have j8:=hid Re;have K2:=hid hK2;have M2:=hid hM2;clear hr2 Re hK2 hM2;by_cases rB:j<m
     ·have nz:(j:Int)<m:=by omega
      obtain⟨c,hc⟩:∃ c,ls[j]? =some c:=⟨_,List.getElem?_eq_getElem (by have:=HLM.out;omega)⟩;have jL:c<256:=HLB.out c (List.mem_of_getElem? hc);have HG:Hid (dL ps ls p j=gi ps p c):=hid (by unfold dL;rw[List.getD_eq_getElem?_getD,hc];rfl);have PJ:Hid (Below base w wj):=hid (PB.out.trans (K2.out.mono fun x (hx:x<base)=>⟨by have:=JN.out;omega,.inl hx⟩:aa (· <base) wA wj).below);obtain⟨lb,lo,rfl,Gf,fl⟩:=(HL.out wj ((aa.ag XA.out fun x hx=>hx.1:aa (fun x=>x<w.heap.size/\(x<base\/¬F0 x)) w wA).tr (K2.out.mono fun x hx=>⟨by have:=JN.out;omega,hx.2.imp id .inr⟩))).elem hc;replace fl:wj.cell? ⟨lb,lo+j,none⟩=some (.int .u8 c):=fl;obtain⟨sv2,nv3,kv2,us2,ns2,ks2,M⟩:=M2.out;obtain⟨L2,hL2⟩:∃ z,z=jf.length:=⟨_,rfl⟩;have Xr:=M.st.1;rw[<-hL2]at Xr;obtain⟨sa2,YZ,rfl⟩:=ownsRow_form Xr;have ata:L<=L2:=by have h5:=RO.out.pre.length_le;have h6:=Gi.out;simp only at h5;omega
      have hk2:k<L2:=by omega
      have atb:(0:Int)<=k/\(k:Int)<L2:=by omega
      obtain⟨g,u,rfl,hbg,hgs,hu,fu,hz⟩:=fj Xr hk2;have Hi:jf[k]? =some p:=by obtain⟨ys,NK⟩:=RO.out.pre;replace NK:rows++ys=jf:=NK;rw[<-NK,List.getElem?_append_left (by have:=Gi.out;omega)];exact HPp.out
      have hLu:=(M.Ve k u p hu Hi).1.own;obtain⟨ua,uc,rfl⟩:=hLu.form;have HLu:=hid hLu;have f0:wj.cell? ⟨mb,0,none⟩=some (.slice pa n pc):=M.blk.cell 0;have f2:wj.cell? ⟨mb,2,none⟩=some (.slice (some ⟨g,0,none⟩) L2 YZ):=M.blk.cell 2;clear Xr hz hu hc hL2 Hi hLu;have Xs:wA.heap.size<=wj.heap.size:=K2.out.size;have CS:Hid (∀ (W:World) (v:Value),Below wj.heap.size wj W->aW wj.heap.size W v (gi ps p c)->Calls Tryz.prog 104 #[.pointer (some ⟨mb,0,none⟩),v] W fun e w'=>aa (fun x=>x<wj.heap.size/\(x<base\/¬ ((F0 x/\x≠w.heap.size)/\u6.ownBlock≠some x))) W w'/\((∃ (t:Nat) (Nb:List (List (List Int))),t<=4000/\bO f (dL ps ls p) rows (j+1)=some (Nb,vy++ [t])/\e=.returned (.int .i64 t)/\YG (fun x=>(F0 x/\x≠w.heap.size)/\u6.ownBlock≠some x) w' base mb ob f (.slice pa n pc) cv ps Nb (Ci.map fun r=>r.map Int.ofNat))\/(zD ps ls f=none/\e=.panicked [{v:=.iface 174 (.agg #[]),recovered:=false}]))):=hid fun W v hW hv=>by
       have QE:jf.length<=f:=RO.out.le;refine(Dv (fun x=>(F0 x/\x≠w.heap.size)/\u6.ownBlock≠some x) base mb ob f (.slice pa n pc) cv ps jf (Ci.map fun r=>r.map Int.ofNat) OK.out wj W M2.out hW (fun x hx=>⟨⟨HF0.out x (by have:=JN.out;omega),by have:=JN.out;omega⟩,fun e=>by have:=(j8.out.lt x e).2;omega⟩) v (gi ps p c) hv (tL (IS.out.all p (List.mem_of_getElem? HPp.out)) c) RO.out.nodup RO.out.all hf QE (fun W hW=>HP.out W (PJ.out.trans hW)) (fun W hW=>HT.out W (PJ.out.trans hW))).mono ?_;rintro e w' ⟨hk,hq⟩;refine⟨hk,?_⟩;rcases hq with⟨h1,rfl,h3⟩ | ⟨h1,h2,rfl,h3⟩ | ⟨h1,h2,rfl⟩
       ·refine .inl ⟨ixR jf (gi ps p c),jf,?_,?_,rfl,h3⟩
        ·have:ixR jf (gi ps p c)<jf.length:=abU h1
         omega
        ·rw[bO,HR2.out,HG.out]
         exact Xl h1
       ·refine .inl ⟨jf.length,jf++ [gi ps p c],by omega,?_,rfl,h3⟩
        rw[bO,HR2.out,HG.out];exact Ud h1 h2
       ·exact .inr ⟨Xn Oc HST.out HPp.out HR2.out (by have:=HLM.out;omega) (by rw[HG.out];exact h1) h2,rfl⟩
      go_wp2_with fail
      refine(OG mb (.slice pa n pc) (.slice ua p.length uc) ps OK.out p (IS.out.all p (List.mem_of_getElem? HPp.out)) c jL wj f0 (HP.out wj PJ.out) HLu.out.ll).mono ?_;rintro e w2 ⟨v1,rfl,ho3,hk3⟩;have HO3:=hid ho3;have X3:=hid hk3;clear ho3 hk3 f0 f2 fl fu;go_wp2_with fail
      refine(CS.out w2 v1 X3.out HO3.out).mono ?_;rintro e w3 ⟨hk4,hq⟩;have K4:=hid hk4;clear hk4;have YH:Hid (aa (fun x=>x<wA.heap.size/\(x<base\/x=w.heap.size\/¬F0 x)) wA w3):=hid ((K2.out.tr (aa.ag X3.out fun x hx=>Nat.lt_of_lt_of_le hx.1 Xs)).tr (K4.out.mono fun x hx=>⟨Nat.lt_of_lt_of_le hx.1 Xs,afR hx.2⟩));rcases hq with⟨t,Nb,ht,hr3,rfl,hM3⟩ | ⟨hno,rfl⟩
      ·have RN:Hid (w3.ownsRow wA.heap.size 3 1 u6 j (vy.map fun t:Nat=>.int .i64 t)):=hid (aj j8.out ((aa.ag X3.out fun x hx=>hx.1:aa (fun x=>x<wj.heap.size/\u6.ownBlock=some x) wj w2).tr (K4.out.mono fun x hx=>⟨hx.1,.inr fun h=>h.2 hx.2⟩)) fun x hx=>⟨(j8.out.lt x hx).2,hx⟩)
       have HR3:=hid hr3;have M3:=hid hM3;have abe:wA.heap.size<=w3.heap.size:=YH.out.size;clear hr3 hM3 CS;go_wp2_with (at_builtin;refine Hid.out ?_);refine hid ?_;refine wpList_append_own_at _ rfl (.tmp 35) (.tmp 48) 47 rfl wA.heap.size 3 iI (.int .i64 0) 1 8 Tryz.underlying47 Hh pT pU pV rfl (by decide) u6 j _ rfl (RN.out.alloc _) ⟨w3.heap.size,0,none⟩ 1 1 [.int .i64 t] rfl rfl (jA _ _ _) (by simp[Value.oneCell']) (by unfold maxLen;omega) (by omega) (by simp;omega) ?_;intro v' w5 hown' hgrow hh hat;have HO5:=hid hown';have sD:=hid hgrow;have Mp:=hid hat;clear hown' hgrow hh hat;go_wp2;go_roundw;case rel=>
        refine⟨j+1,Nb,vy++ [t],HR3.out,by omega,by go_num,?_,?_,?_⟩
        ·rw[List.map_append];exact HO5.out
        ·obtain⟨sv3,nv3,kv3,us3,ns3,ks3,M⟩:=M3.out
         have M4:=M.below ((Ext.refl w3).alloc (.cells #[.int .i64 t] 3)).below
         have M5:=M4.mono (F':=fun x=>((F0 x/\x≠w.heap.size)/\u6.ownBlock≠some x)/\v'.ownBlock≠some x) fun x hx h=>⟨h,fun e=>by
          rcases Mp.out with h5 | h5
          ·exact h.2 (by rw[<-h5,e])
          ·rw[h5]at e;cases e;simp at hx⟩
         have M6:=M5.keeps (aa.bG sD.out fun x hx=>⟨hx.1,fun e=>hx.2 e.symm⟩:aa (fun x=>x<(w3.alloc (.cells #[.int .i64 t] 3)).heap.size/\u6.ownBlock≠some x) _ w5) fun x hx h=>⟨hx,h.1.2⟩
         exact⟨_,_,_,_,_,_,M6.mono fun x _ h=>⟨h.1.1,h.2⟩⟩
        ·exact(YH.out.alloc (fun x hx=>Nat.lt_of_lt_of_le hx.1 abe) _).tr (aa.bG sD.out fun x hx=>⟨by have:=hx.1;simp;omega,fun e=>by have:=(RN.out.lt x e.symm).1;have:=hx.1;omega⟩)
       case measure=>simp[intOf];omega
      ·refine wH _ w.heap.size rfl _ w3 (BA.out.keeps YH.out ⟨by have:=JN.out;omega,.inr (.inl rfl)⟩) fun W' Et=>⟨abX.out w3 W' YH.out Et,.inr ⟨hno,rfl⟩⟩
     ·have JA:j=m:=by omega
      subst JA;clear rB hj;have nz:¬ ((j:Int)<j):=by omega
      obtain⟨sv2,nv3,kv2,us2,ns2,ks2,M⟩:=M2.out;have hxf:=j8.out;obtain⟨xa,xc,rfl⟩:=ownsRow_form hxf;have Al:(Ci.map fun r=>r.map Int.ofNat).length=k:=by have h5:=IS.out.len;have h6:=Gi.out;simp only at h5;rw[List.length_map,h5];omega
      have Vl:=M.xj.1;rw[Al]at Vl;obtain⟨na,nc,rfl⟩:=ownsRow_form Vl;have f5:wj.cell? ⟨mb,5,none⟩=some (.slice na k nc):=M.blk.cell 5;have M3:=hid (M.mono (F':=fun x=>F0 x/\x≠w.heap.size) fun x _ h=>h.1);have HNR:=hid Vl;have HNL:=hid Al;have hbj:base<=wj.heap.size:=Nat.le_trans M.bm (Nat.le_of_lt M.blk.lt);have ak0:mb≠w.heap.size:=M.fm.1.2;clear M hxf Al Vl;go_wp2_with (at_builtin;refine Hid.out ?_);refine hid ?_;refine wpList_append_own_at _ rfl (.tmp 56) (.tmp 58) 26 rfl base 47 iL (.slice none 0 0) 1 24 Tryz.underlying26 Gk oM oN oO rfl (by decide) (.slice na k nc) k ns2 rfl (HNR.out.alloc _) ⟨wj.heap.size,0,none⟩ 1 1 [.slice xa j xc] rfl rfl (jA _ _ _) (by simp[Value.oneCell']) (by unfold maxLen;omega) (by omega) (by simp;omega) ?_;intro v' w5 hown' hgrow hh hat;obtain⟨va,vc,rfl⟩:=ownsRow_form hown';have afS:some mb≠(Value.slice na k nc).ownBlock:=fun e=>dA M3.out.blk HNR.out (by decide) mb e.symm rfl
      have B5:=hid ((M3.out.blk.alloc (.cells #[.slice xa j xc] 47)).grown hgrow afS);have HO5:=hid hown';have sD:=hid hgrow;have Mp:=hid hat;have g5:=B5.out.cell 5;have z5:=B5.out.frozen 5;clear hown' hgrow hh hat f5 afS;go_wp2;have K9:aa (fun x=>x<wj.heap.size/\x≠mb/\(Value.slice na k nc).ownBlock≠some x) wj (w5.setCell ⟨mb,5,none⟩ (.slice va (k+1) vc)):=(((aa.refl _ wj).alloc (fun x hx=>hx.1) _).tr (aa.bG sD.out fun x hx=>⟨by have:=hx.1;simp;omega,fun e=>hx.2.2 e.symm⟩)).setCell (fun h=>h.2.1 rfl) _;have K5:aa (· ≠mb) w5 (w5.setCell ⟨mb,5,none⟩ (.slice va (k+1) vc)):=(aa.refl _ w5).setCell (fun h=>h rfl) _;have Xs:wA.heap.size<=wj.heap.size:=K2.out.size;have WA:vy.length=j:=RO.out.len;have e1:vy.map (fun t:Nat=>Value.int .i64 t)=(vy.map Int.ofNat).map aS:=by rw[List.map_map];rfl
      have BH:(Value.slice va (k+1) vc).ownBlock=(Value.slice na k nc).ownBlock\/∀ x,(Value.slice va (k+1) vc).ownBlock=some x->wj.heap.size<=x:=Mp.out.imp id fun h x e=>by rw[h]at e;cases e;simp
      have hrow:jd (fun x=>F0 x/\x≠w.heap.size) (w5.setCell ⟨mb,5,none⟩ (.slice va (k+1) vc)) base 3 (.slice xa j xc) (vy.map Int.ofNat).length ((vy.map Int.ofNat).map aS):=by rw[<-e1,List.length_map,WA];exact⟨zE M3.out.blk HNR.out K9 (aA j8.out (by have:=JN.out;omega)) (by decide) (.inl (by decide)),fun x e=>⟨HF0.out x (by have:=(j8.out.lt x e).1;have:=JN.out;omega),by have:=(j8.out.lt x e).1;have:=JN.out;omega⟩⟩
      have MF:=Mk.next M3.out HNL.out.symm K9 (B5.out.set 5 _) ⟨aj HO5.out K5 fun x hx=>dA B5.out HO5.out (by decide) x hx,fun x e=>by
       rcases BH with h5 | h5
       ·exact M3.out.xj.2 x (h5.symm.trans e)
       ·exact⟨HF0.out x (by have:=h5 x e;have:=JN.out;omega),by have:=h5 x e;have:=JN.out;omega⟩⟩ hrow BH
      have K8:aa (fun x=>x<wA.heap.size/\(x<base\/x=w.heap.size\/¬F0 x)) wA (w5.setCell ⟨mb,5,none⟩ (.slice va (k+1) vc)):=K2.out.tr (K9.mono fun x hx=>⟨Nat.lt_of_lt_of_le hx.1 Xs,fun e=>by
       rcases hx.2 with h5 | h5 | h5
       ·have:=M3.out.bm;omega
       ·exact ak0 (e.symm.trans h5)
       ·exact h5 (by rw[e];exact M3.out.fm.1),fun e=>by
       rcases hx.2 with h5 | h5 | h5
       ·have:=(HNR.out.lt x e).1;omega
       ·exact(M3.out.xj.2 x e).2 h5
       ·exact h5 (M3.out.xj.2 x e).1⟩)
      have hst:cS f (dL ps ls) ls.length (oP ps) (k+1)=some (jf,Ci++ [vy]):=by rw[Ue HST.out HPp.out, <-HLM.out,HR2.out];rfl
      have Ip:k+1<=jf.length:=by have h5:rows.length<=jf.length:=RO.out.pre.length_le;have:=Gi.out;omega
      go_roundw
      case rel=>
       refine⟨k+1,jf,Ci++ [vy],hst,Ip,by go_num,?_,K8⟩;rw[List.map_append];exact⟨_,_,_,_,_,_,MF⟩
      case measure=>simp[intOf];omega
   ·have hkL:k=L:=by omega
    subst hkL;clear hlt;have gz:¬ ((k:Int)<k):=by omega
    have B0:=hid (BA.out.keeps KO.out ⟨by have:=JN.out;omega,.inr (.inl rfl)⟩);have g0:=B0.out.cell 0;have z0:=B0.out.frozen 0;go_wp2;have K9:aa (fun x=>x<wo.heap.size/\x≠w.heap.size) wo (wo.setCell ⟨w.heap.size,0,none⟩ (.int .i64 0)):=(aa.refl _ wo).setCell (fun h=>h.2 rfl) _;exact PA _ w.heap.size 0 rfl _ _ (B0.out.set 0 _) ⟨abX.out wo _ KO.out K9,.inl ⟨rows,Ci,Xm Oc HST.out (by have:=Gi.out;show rows.length=k;omega),rfl,_,_,_,_,_,_,(MO.out.keeps K9 fun x hx h=>⟨hx,h.2⟩).mono fun x _ _=>trivial⟩⟩
 ·have KA:aa (fun x=>x<wA.heap.size/\(x<base\/x=w.heap.size\/¬F0 x)) wA w4:=(aa.ag X3.out fun x hx=>hx.1:aa (fun x=>x<wA.heap.size/\(x<base\/x=w.heap.size\/¬F0 x)) wA w3).tr (hk4.mono fun x hx=>⟨hx.1,abV hx.2⟩)
  refine wH _ w.heap.size rfl _ w4 (BA.out.keeps KA ⟨by have:=JN.out;omega,.inr (.inl rfl)⟩) fun W' Et=>⟨abX.out w4 W' KA Et,.inr ⟨?_,rfl⟩⟩
  unfold zD;rw[if_pos (by simpa using h2)]
theorem dm.src {w:World} {v:Value} {l:List BS} (h:dm w v l):mE w v l.length (aN l):=by
 rcases h with⟨rfl,rfl⟩ | ⟨b,off,cap,rfl,_,hc⟩
 ·exact .inl ⟨rfl,rfl,rfl⟩
 ·refine .inr ⟨⟨b,off,none⟩,cap,rfl,fun j u hj=>?_⟩
  have QJ:j<l.length*4:=by rw[<-cT];exact(List.getElem?_eq_some_iff.1 hj).1
  have h1:l[j/4]? =some (l[j/4]'(by omega)):=List.getElem?_eq_getElem (by omega);have h2:=ji l h1 (j:=j%4) (by omega);rw[show j/4*4+j%4=j by omega,hj]at h2;rw[Addr.add_mid,show off+j=off+j/4*4+j%4 by omega,hc _ _ h1 _ (by omega), <-h2]
theorem tW {ps:List PT} {k:Nat} {x:PT} (h:ps[k]? =some x):cQ (ps.take (k+1))=cQ (ps.take k)++x.nf.aM:=by unfold cQ;rw[List.take_add_one,h];simp
theorem PT.zG (x:PT):x.ok=true↔x.nf.right=true/\0<=x.mark/\x.mark<=255:=by unfold PT.ok;simp[and_assoc]
theorem Fw {ps:List PT} {f:Int} (h:ps.length<=64) {k:Nat} {x:PT} (hx:ps[k]? =some x) (hb:¬x.ok=true):jO ps f=(⟨[],[],[]⟩,180):=by unfold jO;rw[if_neg (by omega),if_pos];rw[List.all_eq_false];exact⟨x,List.mem_of_getElem? hx,hb⟩
theorem Uk {ps:List PT} {f:Int} (h:64<ps.length):jO ps f=(⟨[],[],[]⟩,5):=by unfold jO;rw[if_pos h]
theorem abY {ps:List PT} (h:∀ (k:Nat) (x:PT),ps[k]? =some x->x.ok=true):ps.all PT.ok=true:=List.all_eq_true.2 fun x hx=>by
 obtain⟨i,hi⟩:=List.getElem?_of_mem hx;exact h i x hi
theorem I0 {ps:List PT} {f:Int} (h:ps.length<=64) (ho:ps.all PT.ok=true) (hf:f<0\/4000<f):jO ps f=(⟨[],[],[]⟩,2):=by unfold jO;rw[if_neg (by omega),ho,if_neg (by decide),if_pos hf]
theorem wI {α:Type} [DecidableEq α] {fuel:Nat} {g g':Nat->α} {todo:List α} :∀ {k:Nat},(∀ j,j<k->g j=g' j)->bO fuel g todo k=bO fuel g' todo k
 | 0,_=>rfl
 | k+1,h=>by rw[bO,bO,wI fun j hj=>h j (by omega),h k (by omega)]
theorem zH {α:Type} [DecidableEq α] {fuel K:Nat} {f f':α->Nat->α} {p0:α} (h:∀ p j,j<K->f p j=f' p j):∀ n,cS fuel f K p0 n=cS fuel f' K p0 n
 | 0=>rfl
 | n+1=>by
  rw[cS,cS,zH h n];congr 1;funext st;unfold cB;cases st.1[n]? with
  | none=>rfl
  | some p=>simp only[wI (h p)]
theorem Xt {ps:List PT} {f:Nat} {ls:List Nat} (hl:ls.length=(partsOf (cQ ps)).length) (h:∀ k,k<ls.length->ls.getD k 0=lb (partsOf (cQ ps)) k):zD ps ls f=xd ps f:=by
 unfold zD xd;rw[hl];split
 ·rfl
 ·refine zH (fun p j hj=>?_) f
  unfold dL;rw[h j (by omega)]
theorem Ul {ps:List PT} {f:Nat} (h:ps.length<=64) (ho:ps.all PT.ok=true) (hf:f<=4000) (hs:xd ps f=none):jO ps f=(⟨[],[],[]⟩,181):=by unfold jO;rw[if_neg (by omega),ho,if_neg (by decide),if_neg (by omega),Int.toNat_natCast,hs]
theorem Um {ps:List PT} {f:Nat} (h:ps.length<=64) (ho:ps.all PT.ok=true) (hf:f<=4000) {st:List (List (List Int))×List (List Nat)} (hs:xd ps f=some st):jO ps f=(⟨partsOf (cQ ps),st.2.map fun r=>r.map Int.ofNat,st.1.map (ej ps)⟩,0):=by unfold jO;rw[if_neg (by omega),ho,if_neg (by decide),if_neg (by omega),Int.toNat_natCast,hs]
end Go.Proofs.YtalombmiochpmaaGreatDoor
