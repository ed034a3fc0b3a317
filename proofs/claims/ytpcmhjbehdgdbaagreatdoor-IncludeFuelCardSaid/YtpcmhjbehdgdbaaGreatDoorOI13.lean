/- What reparteelaw08.Few counts, and how many of the nodes that rx.nodes yields are groups. -/
import Derived.Test.YtpcmhjbehdgdbaaGreatDoorOI12
import Derived.Lib.SlBuf
set_option maxRecDepth 100000
set_option maxHeartbeats 16000000
open Go.Lib (hid)
namespace Go.Proofs.YtpcmhjbehdgdbaaGreatDoor
section
open Go Go.RowKit Go.Shelf Go.Maps
theorem Hk (p:Addr) (w:World): CallsD Tryz.prog 100 #[.pointer (some p)] .returning w fun e u' w'=>e=.returned (.tuple #[])/\u'=.returning/\w'=w:=by
 refine callsD_of_wpS Tryz.func100 rfl fun ab0 cs hu=>?_
 apply wpS_seq;apply wpS_region;simp[wpOpsS,go_sem,recoverD,hu,Tryz.ntmps100,Exit.thenS];refine wpS_of_wp ?_;go_wp2;cases ab0
 simp_all[bodyPostS,results,Tryz.results100]
theorem uh (p:Addr) (x:Value) (Vb:List PanicEntry) (w:World) (hc:w.cell? p=some x) (hz:w.frozen? p=false) (hp:p.block<w.heap.size): CallsD Tryz.prog 100 #[.pointer (some p)] (.panicking ({v:=.iface 185 (.agg #[]),recovered:=false} ::Vb)) w fun e u' w'=>
   e=.returned (.tuple #[])/\u'=.panicking ({v:=.iface 185 (.agg #[]),recovered:=true} ::Vb)/\∃ w2,aa w w2/\w'=w2.setCell p (.int .i64 181):=by
 refine callsD_of_wpS Tryz.func100 rfl fun ab0 cs hu=>?_
 apply wpS_seq;apply wpS_region;simp[wpOpsS,go_sem,recoverD,hu,Tryz.ntmps100,Exit.thenS];refine wpS_of_wp ?_;have hta:∀ w:World,(Instr.typeAssert (.iface 185 (.agg #[])) 20 185 true).run Tryz.prog w=.ok (.tuple #[.agg #[],.bool true]) w:=fun _=>by kernel_rfl
 have hK:ae (· <w.heap.size) w (w.alloc (.cells #[] 185)):=ae.ai ((Ext.refl w).alloc _).below fun _ h=>h
 have hc2:(w.alloc (.cells #[] 185)).cell? p=some x:=(hK.cell hp).trans hc;have hz2:(w.alloc (.cells #[] 185)).frozen? p=false:=(hK.frozen hp).trans hz;go_wp2;refine⟨rfl,_,rfl,.tuple #[],?_,rfl,rfl,_,((Ext.refl w).alloc _).below,rfl⟩;simp[results,Tryz.results100]
theorem LP (n:Nat) (hn:n<=64) (w:World):ag 53 #[.int .u64 1,.int .u64 n] w fun e w'=>e=.returned (.tuple #[.int .u64 0,.int .u64 n])/\w'=w:=by
 have a1:bits .and .u64 (1:Int) 4294967295=1:=by decide
 have a2:bits .and .u64 (n:Int) 4294967295=n:=by
  have h:∀ m:Fin 65,bits .and .u64 ((m.val:Nat):Int) 4294967295=(m.val:Int):=by decide+kernel
  exact h ⟨n,by omega⟩
 go_enter Tryz.func53,Tryz.ntmps53
 have h0:(n:Int)/4294967296=0:=by omega
 have a3:bits .and .u64 (0:Int) 4294967295=0:=by decide
 have a4:IntKind.u64.wrap 0=0:=by decide
 go_wp2;refine bodyPost_ret (v:=.tuple #[.int .u64 0,.int .u64 n]) (by simp[results,Tryz.results53,go_sem]) rfl ⟨rfl,rfl⟩
theorem TM (n:Nat) (hn:n<=64) (w:World):ag 28 #[.int .u64 1,.int .u64 n] w fun e w'=>e=.returned (.tuple #[.int .u64 0,.int .u64 n])/\w'=w:=by
 have CM:=hid (LP n hn w);go_enter Tryz.func28,Tryz.ntmps28;go_wp2_with fail
 refine CM.mono ?_;rintro e w2 ⟨rfl,hw⟩;replace hw:=hw.symm;subst hw;go_wp2;refine bodyPost_ret (v:=.tuple #[.int .u64 0,.int .u64 n]) (by simp[results,Tryz.results28,go_sem]) rfl ⟨rfl,rfl⟩
theorem Hl (n:Nat):(madeCells (Value.slice none 0 0).cells (n*1)).toList=List.replicate n (.slice none 0 0):=by
 apply List.ext_getElem?;intro i;simp only[madeCells,Value.cells,Nat.mul_one,Array.toList_map,Array.toList_range,bH,List.getElem?_replicate];rcases Nat.lt_or_ge i n with h | h
 ·rw[List.getElem?_range h,if_pos h];simp[Nat.mod_one]
 ·rw[dD (by simpa using h),if_neg (by omega)];rfl
def nB (n m:Nat) (h:Value):List Value:=List.replicate m h++List.replicate (n-m) (.slice none 0 0)
theorem wU {n m:Nat} (h:Value) (hm:m<=n):(nB n m h).length=n:=by unfold nB;simp;omega
theorem Ez {base g n m k:Nat} {h:Value} {W:World} (h1:h.oneCell'=true) (ho:W.ownsRow base 51 1 (.slice (some ⟨g,0,none⟩) n n) n (nB n m h)) (hk:m+k<=n) (a:Addr) (sl sc:Nat) (hs:∀ j,j<k->W.cell? (a.add j)=some h) (hkk:k=Nat.min sl (n-m)) (ty:TypeId): ∃ W',(Builtin.copy_ #[71,71] ty #[.slice (some ⟨g,m,none⟩) (n-m) (n-m),.slice (some a) sl sc]).run Tryz.prog W=.ok (.int .i64 k) W'/\W'.ownsRow base 51 1 (.slice (some ⟨g,0,none⟩) n n) n (nB n (m+k) h)/\ae (· ≠g) W W':=by
 rcases ho.2 with⟨e,_⟩ | ⟨g',cap,cur,e,hb,hg,hc,hcm,hsz,dT⟩
 ·cases e
 ·cases e
  have zS:cur.toList=nB n m h:=by rw[<-dT,List.take_of_length_le];simp[hsz]
  refine⟨_,by
         have:=run_copy_row (P:=Tryz.prog) W 71 71 ty 51 g m (n-m) (n-m) a sl sc cur 51 (List.replicate k h) Tryz.underlying71 (by kernel_rfl) hg (by rw[List.length_replicate];exact hkk) (fun j v hj=>by
    rw[List.getElem?_replicate]at hj;split at hj
    ·cases hj;exact hs j (by assumption)
    ·cases hj) (by rw[List.length_replicate,hsz];omega) (fun v hv=>by rw[List.eq_of_mem_replicate hv];exact h1)
         rw[List.length_replicate]at this
         exact this,?_,(ae.refl _ _).setRow (fun h=>h rfl) _⟩
  have SQ:(cur.toList.take m++List.replicate k h++cur.toList.drop (m+k))=nB n (m+k) h:=by rw[zS];unfold nB;rw[List.take_left' (by simp),List.replicate_append_replicate];congr 1;rw[List.drop_append,List.drop_eq_nil_of_le (by simp),List.length_replicate,List.nil_append,List.drop_replicate];congr 1;omega
  rw[SQ];refine⟨by rw[wU h hk];omega,.inr ⟨g,n,_,rfl,hb,setRow_heap W g cur _ _ _ hg,hc,hcm,by simp[wU h hk],?_⟩⟩;rw[List.take_of_length_le];simp[wU h hk]
theorem LQ {P:Program} {Cl:FuncId->Array Value->World->(Ending->World->Prop)->Prop} {Rd:Nat->FuncId->Array Value->Code->Code->World->(Ending->World->Prop)->Prop} {o:Oper} {a:Act} {W W':World} {post:Value->World->Prop} {v:Value} (d s:Operand) (t1 t2:TypeId) (ho:o.op=.call {callee:=.builtin .copy,args:= #[d,s],argTypes:= #[t1,t2]}) (dv sv:Value) (hd:a.eval d=dv) (hs:a.eval s=sv) (hr:(Builtin.copy_ #[t1,t2] o.type #[dv,sv]).run P W=.ok v W') (h:post v W'):jo Cl Rd post ((execOp a.eval o).run P W):=by unfold execOp;simp only[ho,resolve,invoke,builtin,Sem.run_bind,Sem.run_pure,Result.andThen_ok,List.map_toArray,List.map_cons,List.map_nil,hs,hd,hr];exact h
def TN (g n m:Nat) (h:Value) (A B:World):Prop:=ae (fun x=>x<A.heap.size/\x≠g) A B/\(A.ownsRow g 51 1 (.slice (some ⟨g,0,none⟩) n n) n (nB n m h)->B.ownsRow g 51 1 (.slice (some ⟨g,0,none⟩) n n) n (nB n m h))
theorem TN.trans {g n m:Nat} {h:Value} {A B C:World} (h1:TN g n m h A B) (h2:TN g n m h B C):TN g n m h A C:=⟨h1.1.trans h2.1 fun _ hx=>⟨aw hx.1 h1.1.size,hx.2⟩,fun a=>h2.2 (h1.2 a)⟩
theorem TN.drew {g n m:Nat} {h:Value} {A:World} :TN g n m h A A.drew:=⟨(ae.refl _ _).drew,fun a=>a⟩
def Vc (g n m:Nat) (h v:Value):aR (TN g n m h):=⟨fun u=>u=v,fun _ W=>W.ownsRow g 51 1 (.slice (some ⟨g,0,none⟩) n n) n (nB n m h),v,rfl,fun _ _ _ hm _ h=>hm.2 h⟩
theorem Hm (b gb:Nat) (h:Value) (n:Nat) (hn:n<=64) (w:World) (hc:w.cell? ⟨gb,0,none⟩=some h) (hh:w.ownsRow b 3 1 h 1 [aV (-1)]) (hb:b<=w.heap.size): ag 102 #[.slice (some ⟨gb,0,none⟩) 1 1,.int .i64 n] w fun e w'=>∃ u,e=.returned u/\bI b w' u (List.replicate n [-1])/\aa w w':=by
 obtain⟨iL,Ki,rQ,rR,rS⟩:=info_parts Tryz.yD;have CM:=hid (TM n hn);have cv1:IntKind.u64.wrap (n:Int)=n:=by have:=IntWalk.u64_in (n:Int) (by omega);exact this
 have cv2:IntKind.i64.wrap (n:Int)=n:=IntWalk.i64_in _ (by omega);have d1:decide ((n:Int)<0)=false:=decide_eq_false (by omega);have d2:decide ((9223372036854775807:Int)<(n:Int))=false:=decide_eq_false (by omega);have HH:=hid hh;have HCc:=hid hc;have hgb:=World.block_lt_of_cell? _ _ hc;clear hh hc;go_enter Tryz.func102,Tryz.ntmps102;go_wp2_with fail
 refine(CM w).mono ?_;rintro e w2 ⟨rfl,hw⟩;replace hw:=hw.symm;subst hw;go_wp2_with (at_make;refine wpList_make_full _ rfl (.tmp 29) (.tmp 29) 71 rfl w.heap.size 51 iL (.slice none 0 0) 1 Tryz.underlying71 Ki rQ rR .i64 .i64 _ _ n rfl rfl rfl rfl (by rw[rS];omega) (by unfold maxLen;omega) (aD _) ?_;intro w3 hr hg;refine Hid.out ?_);refine hid ?_;have hs3:w.heap.size<w3.heap.size:=by
  rcases hr.2 with⟨h5,_⟩ | ⟨g,c,cur,h5,_,h6,_⟩
  ·cases h5
  ·cases h5;exact(Array.getElem?_eq_some_iff.1 h6).1
 have hb3:aa w w3:=(ae.bA hg fun x hx=>⟨hx,fun e=>by cases e⟩:ae (· <w.heap.size) w w3).below;rw[Hl]at hr;have h1h:h.oneCell'=true:=by obtain⟨a,c,rfl⟩:=ownsRow_form HH;rfl
 have hr2:w3.ownsRow w.heap.size 51 1 (.slice (some ⟨w.heap.size,0,none⟩) n n) n (nB n 0 h):=by unfold nB;rw[Nat.sub_zero];exact hr
 have hc3:w3.cell? ⟨gb,0,none⟩=some h:=((ae.ai hb3 fun _ h=>h:ae (· <w.heap.size) w w3).cell (p:=⟨gb,0,none⟩) hgb).trans HCc
 obtain⟨w4,Ri,ho4,hk4⟩:=Ez (k:=Nat.min 1 n) h1h hr2 (by rw[Nat.zero_add];exact Nat.min_le_right _ _) ⟨gb,0,none⟩ 1 1 (fun j hj=>by
  have Sx:j=0:=by have:=aw hj (Nat.min_le_left 1 n);omega
  subst Sx
  exact hc3) (by rw[Nat.sub_zero]) 3
 rw[Nat.sub_zero]at Ri;rw[Nat.zero_add]at ho4;obtain⟨k0,BH⟩:=ah (Nat.min 1 n);rw[<-BH]at Ri ho4;have XY:k0<=n/\(n=0\/1<=k0):=by rw[BH];unfold Nat.min;constructor<;>omega
 have HO4:=hid ho4;have X4:Hid (aa w w4):=hid (hb3.trans (hk4.mono fun x hx=>by have h5:x<w.heap.size:=hx;show x≠w.heap.size;omega:ae (· <w.heap.size) w3 w4).below);clear hr hr2 hg hb3 hc3 ho4 hk4 BH CM;go_wp2_with (at_builtin;refine Lib.wpList_copy_run _ rfl (.tmp 31) (.tmp 32) 71 71 rfl _ _ rfl rfl Ri ?_;clear Ri);go_loopw [8] (fun mv wr=>∃ m:Nat,m<=n/\(n=0\/1<=m)/\mv=.int .i64 m/\wr.ownsRow w.heap.size 51 1 (.slice (some ⟨w.heap.size,0,none⟩) n n) n (nB n m h)/\aa w wr) (fun mv _=>n-(intOf mv).toNat);case atStart=>exact⟨k0,XY.1,XY.2,rfl,HO4,X4⟩
 case round=>
  obtain⟨m,hm,U5,rfl,ho,hx⟩:=hrel;obtain⟨wo,rfl⟩:=ah (wr:World);have HO:=hid ho;have HX:=hid hx;clear ho hx HO4 X4 XY;by_cases hlt:m<n
  ·have Zy:(m:Int)<n:=by omega
   have hmn:¬ ((n:Int)<m):=by omega
   have uq:(m:Int)<=n:=by omega
   have dml:decide ((m:Int)<=n)=true:=decide_eq_true uq;obtain⟨k,hk⟩:=ah (Nat.min m (n-m));have yQ:m+k<=n/\1<=k/\k<=m:=by rw[hk];unfold Nat.min;refine⟨?_,?_,?_⟩<;>omega
   have Fm:=hid hk;clear hk;go_wp2_with fail
   refine RegQ.ck (TN w.heap.size n (m+k) h) TN.drew (fun _ _ _ h k=>h.trans k) (by kernel_rfl) 8 [0,0,0,6,0,0,48,126,255,511] (fun i=>i==7) (by kernel_rfl) (fun i=>if i=7 then Vc w.heap.size n (m+k) h (.int .i64 k)else aR.any _) (fun j W=>(j=7)->W.ownsRow w.heap.size 51 1 (.slice (some ⟨w.heap.size,0,none⟩) n n) n (nB n m h)) (fun _ _ _=>HO) ?_;intro C hC hne;have HC:=hid hC;clear hC
   repeat (refine RegQ.ak (fun K hK=>?_);first | (refine RegQ.cQ rfl ?_;try go_simp;refine hK _ _ ?_;clear hK K) | (refine RegQ.bV rfl rfl ?_;unfold aB;go_simp;refine hK _ _ ?_;clear hK K))
   refine RegQ.ak (fun K hK=>?_);refine RegQ.bS rfl rfl (Vc w.heap.size n (m+k) h (.int .i64 k)) rfl (fun W hW hD hN=>?_) (fun v hv=>?_)
   ·have hD7:=hD rfl
    clear hW hN hK K hD
    obtain⟨W',e1,e2,e3⟩:=Ez (k:=k) h1h hD7 yQ.1 ⟨w.heap.size,0,none⟩ m n (fun j hj=>by
     have:(⟨w.heap.size,0,none⟩:Addr).add j=⟨w.heap.size,j,none⟩:=by simp[Addr.add];omega
     rw[this,hD7.cellAt j (by omega)];unfold nB
     rw[bJ (by rw[List.length_replicate];omega),List.getElem?_replicate,if_pos (by omega)]) Fm 3
    refine LQ (.tmp 41) (.tmp 44) 71 71 rfl _ _ ?_ ?_ e1 ?_
    ·show Value.slice (if n=m then _ else _) _ _=_
     rw[if_neg (by omega)]
    ·rfl
    ·exact⟨⟨⟨e3.mono fun x hx=>hx.2,fun _=>e2⟩,fun j hj _ _ e=>absurd e hj⟩,rfl,e2⟩
   replace hv:v=_:=hv;subst hv;go_simp;refine hK _ _ ?_;clear hK K
   repeat (refine RegQ.ak (fun K hK=>?_);first | (refine RegQ.cQ rfl ?_;try go_simp;refine hK _ _ ?_;clear hK K) | (refine RegQ.bV rfl rfl ?_;unfold aB;go_simp;refine hK _ _ ?_;clear hK K))
   refine RegQ.cg (fun W hW hH=>?_);have jT:=(HC.out W).1 hW;have NR:Hid (W.ownsRow w.heap.size 51 1 (.slice (some ⟨w.heap.size,0,none⟩) n n) n (nB n (m+k) h)):=hid (hH _ (aA (show _=some _ from rfl:_[0]? =some _)));have XR:Hid (aa w W):=hid (HX.trans (jT.1.mono fun x hx=>⟨aw hx HX.size,Nat.ne_of_lt hx⟩:ae (· <w.heap.size) wo W).below);clear jT hW hH HC hne HO HX;go_wp2;go_roundw;case rel=>exact⟨m+k,yQ.1,by omega,by go_num,NR,XR⟩
   case measure=>simp[intOf];omega
  ·obtain rfl:m=n:=by omega
   have hmn:¬ ((m:Int)<m):=by omega
   go_wp2;go_ret;refine⟨_,rfl,⟨List.replicate m h,by simp,?_,fun i u l hu hl=>?_⟩,HX⟩
   ·have h5:=aG HO hb
    unfold nB at h5;rw[Nat.sub_self,List.replicate_zero,List.append_nil]at h5;rw[List.length_replicate];exact h5
   ·rw[List.getElem?_replicate]at hu hl
    split at hu
    ·cases hu
     rw[if_pos (by assumption)]at hl;cases hl;exact ay HH HX
    ·cases hu
theorem XZ {α:Type} [DecidableEq α] {l:List α} {q:α} (h:q∈l):l.idxOf q<l.length:=List.idxOf_lt_length_of_mem h
theorem Ya {base c x:Nat} {F0:Nat->Prop} (h:x<base\/x=c\/¬F0 x):x<base\/¬ (F0 x/\x≠c):=by
 rcases h with h | h | h
 ·exact .inl h
 ·exact .inr fun h2=>h2.2 h
 ·exact .inr fun h2=>h h2.1
theorem ab1 {base c x:Nat} {F0:Nat->Prop} {q:Prop} (h:x<base\/x=c\/¬F0 x):x<base\/¬ ((F0 x/\x≠c)/\q):=(Ya h).imp id fun h h2=>h h2.1
theorem tI (tmps:Array Value) (c0:Nat) (ht:tmps[4]?.getD undef=.pointer (some ⟨c0,0,none⟩)) (R:Ending->World->Prop) (W:World) (hB:aq W c0 #[.int .i64 0] 28) (h:∀ W',ae (fun x=>x<W.heap.size/\x≠c0) W W'->R (.returned (.int .i64 181)) W'): Leaves Tryz.prog Tryz.f70 tmps R [{target:=.fn (.func 100) #[.pointer (some ⟨c0,0,none⟩)],args:= #[]}] (.panicking [{v:=.iface 185 (.agg #[]),recovered:=false}]) W:=by refine leaves_cons (f:=100) (args:= #[.pointer (some ⟨c0,0,none⟩)]) (by simp) (by simp[go_sem]) ?_;refine(uh ⟨c0,0,none⟩ (.int .i64 0) [] W (hB.cell 0) (hB.frozen 0) hB.lt).mono ?_;rintro e u' w'' ⟨rfl,rfl,w2,hk,rfl⟩;have IK:=hB.below hk hB.lt;have hB3:=IK.set 0 (.int .i64 181);have h1:=hB3.cell 0;have K:ae (fun x=>x<W.heap.size/\x≠c0) W (w2.setCell ⟨c0,0,none⟩ (.int .i64 181)):=(ae.ai hk fun x hx=>hx.1:ae (fun x=>x<W.heap.size/\x≠c0) W w2).setCell (fun h=>h.2 rfl) _;have h5:=h _ K;obtain⟨W2,hW2⟩:=ah (w2.setCell ⟨c0,0,none⟩ (.int .i64 181));rw[<-hW2]at h1 h5 ⊢;replace h1:W2.cell? ⟨c0,0,none⟩=some (.int .i64 181):=h1;simp[Leaves,settle,results,Tryz.results70,go_sem,ht,h1];exact h5
theorem LR (tmps:Array Value) (c0:Nat) (k:Int) (ht:tmps[4]?.getD undef=.pointer (some ⟨c0,0,none⟩)) (R:Ending->World->Prop) (W:World) (hB:aq W c0 #[.int .i64 k] 28) (h:R (.returned (.int .i64 k)) W): Leaves Tryz.prog Tryz.f70 tmps R [{target:=.fn (.func 100) #[.pointer (some ⟨c0,0,none⟩)],args:= #[]}] .returning W:=by refine leaves_cons (f:=100) (args:= #[.pointer (some ⟨c0,0,none⟩)]) (by simp) (by simp[go_sem]) ?_;refine(Hk ⟨c0,0,none⟩ W).mono ?_;rintro e u' w'' ⟨rfl,rfl,rfl⟩;have h1:w''.cell? ⟨c0,0,none⟩=some (.int .i64 k):=hB.cell 0;simp[Leaves,settle,results,Tryz.results70,go_sem,ht,h1];exact h
theorem Qz (F0:Nat->Prop) (base mb ob f:Nat) (pv cv lv:Value) (ps:List PT) (ls:List Nat) (ok:Th ps) (w:World) (hF0:∀ x,w.heap.size<=x->F0 x) (hM:UO F0 w base mb ob f pv cv ps [] []) (hf:f<=4000) (hls:ls.length<=256) (BJ:∀ c∈ls,c<256) (hL:∀ W,ae (fun x=>x<w.heap.size/\(x<base\/¬F0 x)) w W->cR eN W lv ls) (hP:∀ W,Below base w W->jG W pv ps) (hT:∀ W,Below base w W->mB W): ag 70 #[.pointer (some ⟨mb,0,none⟩),lv] w fun e w'=>ae (fun x=>x<w.heap.size/\(x<base\/¬F0 x)) w w'/\((∃ st,wS ps ls f=some st/\e=.returned (.int .i64 0)/\UO (fun _=>True) w' base mb ob f pv cv ps st.1 (st.2.map fun r=>r.map Int.ofNat))\/(wS ps ls f=none/\e=.returned (.int .i64 181))):=by
 obtain⟨iL,Ki,rQ,rR,rS⟩:=info_parts Tryz.yD;obtain⟨iI,Cb,my,mz,mA⟩:=info_parts Tryz.qB;obtain⟨sv,nv,kv,us,ns,ks,M⟩:=hM;obtain⟨pa,pc,rfl⟩:=(hP w (Below.refl _ _)).form;obtain⟨la,lc,rfl⟩:=(hL w (ae.refl _ _)).form;obtain⟨n,Jc⟩:=ah ps.length;obtain⟨m,hlm⟩:=ah ls.length;rw[<-Jc]at M hP ⊢;rw[<-hlm]at hL hls ⊢;have pD:n<=64:=by rw[Jc];exact ok.1
 have rV:base<w.heap.size:=Nat.lt_of_le_of_lt M.bm M.blk.lt;have tY:mb<w.heap.size:=M.blk.lt;have MW:=hid M;have Qx:=hid Jc;have HLM:=hid hlm;have HL:=hid hL;have HP:=hid hP;have HT:=hid hT;have OK:=hid ok;have YP:=hid BJ;have Vd:=hid hF0
 have CR:Hid (∀ (b gb:Nat) (h:Value) (W:World),W.cell? ⟨gb,0,none⟩=some h->W.ownsRow b 3 1 h 1 [aV (-1)]->b<=W.heap.size->
  ag 102 #[.slice (some ⟨gb,0,none⟩) 1 1,.int .i64 n] W fun e w'=>∃ u,e=.returned u/\bI b w' u (List.replicate n [-1])/\aa W w'):=hid fun b gb h W h1 h2 h3=>Hm b gb h n pD W h1 h2 h3
 have m0:w.cell? ⟨mb,0,none⟩=some (.slice pa n pc):=M.blk.cell 0;clear M Jc hlm hL hP hT ok BJ hF0;have hmf:∀ (fn:Fn) (first cap:Array Value) (w:World),(Instr.makeFunc fn first cap).run Tryz.prog w=.ok (.func fn first cap) w:=fun _ _ _ _=>rfl
 go_enter_defers Tryz.func70,Tryz.ntmps70
 have m1:(((w.alloc (.cells #[.int .i64 0] 28)).alloc (.cells #[.int .i64 (-1)] 3)).alloc (.cells #[.slice (some ⟨w.heap.size+1,0,none⟩) 1 1] 51)).cell? ⟨mb,0,none⟩=some (.slice pa n pc):=
  ((ae.ai ((((Ext.refl w).alloc _).alloc _).alloc _).below fun _ h=>h:ae (· <w.heap.size) w _).cell (p:=⟨mb,0,none⟩) tY).trans m0
 go_wp2_with fail
 refine(CR (w.heap.size+1) (w.heap.size+1+1) (.slice (some ⟨w.heap.size+1,0,none⟩) 1 1) _ (by go_simp) ?_ (by simp)).mono ?_
 ·have h5:((w.alloc (.cells #[.int .i64 0] 28)).alloc (.cells #[.int .i64 (-1)] 3)).ownsRow (w.heap.size+1) 3 1 (.slice (some ⟨w.heap.size+1,0,none⟩) 1 1) 1 [.int .i64 (-1)]:=by
   have h6:=World.alloc_heap_new (w.alloc (.cells #[.int .i64 0] 28)) (.cells #[.int .i64 (-1)] 3);rw[World.size_alloc]at h6;exact⟨rfl,.inr ⟨w.heap.size+1,1, #[.int .i64 (-1)],rfl,aD _,h6,aD _,by unfold maxLen;omega,rfl,rfl⟩⟩
  exact h5.alloc _
 rintro e w3 ⟨u,rfl,ho3,hk3⟩
 have CA:Hid (∃ wA:World,wA.heap.size=w.heap.size+1/\aa w wA/\aq wA w.heap.size #[.int .i64 0] 28/\aa wA w3):=hid ⟨w.alloc (.cells #[.int .i64 0] 28),World.size_alloc _ _,((Ext.refl w).alloc _).below,aq.new _ _ _,by
  have h5:=(((Ext.refl (w.alloc (.cells #[.int .i64 0] 28))).alloc (.cells #[.int .i64 (-1)] 3)).alloc (.cells #[.slice (some ⟨w.heap.size+1,0,none⟩) 1 1] 51)).below
  exact h5.trans (hk3.mono h5.size)⟩
 have Zo:=hid ho3;clear ho3 hk3 m1 m0 CR;obtain⟨wA,hA1,hA2,hA3,hA4⟩:=CA.out;have Fw:=hid hA1;have XA:=hid hA2;have BA:=hid hA3;have X3:=hid hA4;clear hA1 hA2 hA3 hA4 CA;have MA:Hid (Mk (fun x=>F0 x/\x≠w.heap.size) wA base mb ob f (.slice pa n pc) cv ps [] [] sv nv kv us ns ks):=hid ((MW.mono fun x hx h=>⟨h,Nat.ne_of_lt hx⟩).below XA);have PB:Hid (Below base w wA):=hid (XA.mono (Nat.le_of_lt rV));have Yb:Hid (∀ W W',ae (fun x=>x<wA.heap.size/\(x<base\/x=w.heap.size\/¬F0 x)) wA W->ae (fun x=>x<W.heap.size/\x≠w.heap.size) W W'->ae (fun x=>x<w.heap.size/\(x<base\/¬F0 x)) w W'):=hid fun W W' h1 h2=>by
  have h4:=h1.size;have h5:=Fw.out;exact((ae.ai XA fun x hx=>hx.1:ae (fun x=>x<w.heap.size/\(x<base\/¬F0 x)) w wA).tr (h1.mono fun x hx=>⟨by omega,hx.2.imp id .inr⟩)).tr (h2.mono fun x hx=>⟨by omega,by omega⟩)
 clear MW;go_wp2_with fail
 refine(zz (fun x=>F0 x/\x≠w.heap.size) base mb ob f (.slice pa n pc) cv ps [] [] OK wA w3 ⟨_,_,_,_,_,_,MA⟩ X3 (fun x hx=>⟨Vd x (by have:=Fw.out;omega),by have:=Fw.out;omega⟩) u (kq ps) ?_ (nR ps) List.nodup_nil (fun p hp=>by cases hp) hf (Nat.zero_le _) (fun W hW=>HP W (PB.out.trans hW)) (fun W hW=>HT W (PB.out.trans hW))).mono ?_
 ·have h5:=Zo.out
  have h6:kq ps=List.replicate n [-1]:=by unfold kq;rw[List.map_const',Qx.out]
  rw[h6,Fw.out];exact h5
 rintro e w4 ⟨hk4,hq⟩;rcases hq with⟨h1,_⟩ | ⟨h1,h2,rfl,hM4⟩ | ⟨h1,h2,rfl⟩
 ·cases h1
 ·have KA:Hid (ae (fun x=>x<wA.heap.size/\(x<base\/x=w.heap.size\/¬F0 x)) wA w4):=hid ((ae.ai X3 fun x hx=>hx.1:ae (fun x=>x<wA.heap.size/\(x<base\/x=w.heap.size\/¬F0 x)) wA w3).tr (hk4.mono fun x hx=>⟨hx.1,Ya hx.2⟩))
  have M4:=hid hM4;have Fp:1<=f:=by simp at h2;omega
  clear hk4 hM4 h1 h2 X3 Zo MA;go_wp2;go_loopw [5] (fun iv wr=>∃ (k:Nat) (rows:List (List (List Int))) (Ca:List (List Nat)),dQ f (dB ps ls) ls.length (kq ps) k=some (rows,Ca)/\k<=rows.length/\iv=.int .i64 k/\UO (fun x=>F0 x/\x≠w.heap.size) wr base mb ob f (.slice pa n pc) cv ps rows (Ca.map fun r=>r.map Int.ofNat)/\ae (fun x=>x<wA.heap.size/\(x<base\/x=w.heap.size\/¬F0 x)) wA wr) (fun iv _=>f-(intOf iv).toNat);case atStart=>exact⟨0,[kq ps],[],rfl,Nat.zero_le _,rfl,M4,KA⟩
  case round=>
   obtain⟨k,rows,Ca,hst,hk,rfl,hM,hK⟩:=hrel;obtain⟨sv1,nv1,kv1,us1,ns1,ks1,M⟩:=hM;obtain⟨wo,rfl⟩:=ah (wr:World);have IS:=hid (Jm Fp hst);obtain⟨L,hLn⟩:=ah rows.length;have Ot:=M.st.1;rw[<-hLn]at Ot hk;obtain⟨sa,sc,rfl⟩:=ownsRow_form Ot;have hLf:L<=f:=by rw[hLn];exact(Jm Fp hst).le
   have MO:=hid M;have BU:=hid hLn;have HST:=hid hst;have KO:=hid hK;have m2:wo.cell? ⟨mb,2,none⟩=some (.slice sa L sc):=M.blk.cell 2;clear hst hK M hLn Ot M4 KA;by_cases hlt:k<L
   ·have eT:(k:Int)<L:=by omega
    obtain⟨p,hp⟩:∃ p,rows[k]? =some p:=⟨_,aC (by have:=BU.out;omega)⟩;have Zz:=hid hp;clear hp;go_wp2;clear m2;go_loopw [6,31] (fun nv2 iv wi=>∃ (j:Nat) (ia:List (List (List Int))) (sF:List Nat),dr f (dB ps ls p) rows j=some (ia,sF)/\j<=m/\iv=.int .i64 j/\wi.ownsRow wA.heap.size 3 1 nv2 j (sF.map fun t:Nat=>.int .i64 t)/\UO (fun x=>(F0 x/\x≠w.heap.size)/\nv2.ownBlock≠some x) wi base mb ob f (.slice pa n pc) cv ps ia (Ca.map fun r=>r.map Int.ofNat)/\ae (fun x=>x<wA.heap.size/\(x<base\/x=w.heap.size\/¬F0 x)) wA wi) (fun _ iv _=>m-(intOf iv).toNat);case atStart=>exact⟨0,rows,[],rfl,Nat.zero_le _,rfl,World.ownsRow_nil _ _ _ _,⟨_,_,_,_,_,_,MO.mono fun x _ hx=>⟨hx,fun e=>by cases e⟩⟩,KO⟩
    case round=>
     obtain⟨j,ia,sF,hr2,hj,rfl,Sc,hM2,hK2⟩:=hrel;obtain⟨wj,rfl⟩:=ah (wr:World);have RO:=hid (mU (P:=nh ps) IS.nodup IS.le IS.all j (fun _ _=>jD (IS.all p (aA Zz)) _) hr2);have YI:=hid hr2;have kA:=hid Sc;have K2:=hid hK2;have M2:=hid hM2;clear hr2 Sc hK2 hM2;by_cases Cm:j<m
     ·have lY:(j:Int)<m:=by omega
      obtain⟨c,hc⟩:∃ c,ls[j]? =some c:=⟨_,aC (by have:=HLM.out;omega)⟩;have l5:c<256:=YP.out c (aA hc);have HG:Hid (dB ps ls p j=dZ ps p c):=hid (by unfold dB;rw[cq,hc];rfl);have PJ:Hid (Below base w wj):=hid (PB.out.trans (K2.mono fun x (hx:x<base)=>⟨by have:=Fw.out;omega,.inl hx⟩:ae (· <base) wA wj).below);obtain⟨lb,lo,rfl,BJ,fl⟩:=(HL.out wj ((ae.ai XA fun x hx=>hx.1:ae (fun x=>x<w.heap.size/\(x<base\/¬F0 x)) w wA).tr (K2.mono fun x hx=>⟨by have:=Fw.out;omega,hx.2.imp id .inr⟩))).elem hc;replace fl:wj.cell? ⟨lb,lo+j,none⟩=some (.int .u8 c):=fl;obtain⟨sv2,nv3,kv2,us2,ns2,ks2,M⟩:=M2.out;obtain⟨L2,hL2⟩:=ah ia.length;have TP:=M.st.1;rw[<-hL2]at TP;obtain⟨sa2,Zw,rfl⟩:=ownsRow_form TP;have anw:L<=L2:=by have h5:=RO.pre.length_le;have h6:=BU.out;simp only at h5;omega
      have hk2:k<L2:=by omega
      have anx:(0:Int)<=k/\(k:Int)<L2:=by omega
      obtain⟨g,u,rfl,hbg,hgs,hu,fu,hz⟩:=j6 TP hk2;have Fo:ia[k]? =some p:=by obtain⟨ys,JV⟩:=RO.pre;replace JV:rows++ys=ia:=JV;rw[<-JV,bJ (by have:=BU.out;omega)];exact Zz
      have hLu:=(M.Rq k u p hu Fo).1.own;obtain⟨ua,uc,rfl⟩:=hLu.form;have HLu:=hid hLu;have f0:wj.cell? ⟨mb,0,none⟩=some (.slice pa n pc):=M.blk.cell 0;have f2:wj.cell? ⟨mb,2,none⟩=some (.slice (some ⟨g,0,none⟩) L2 Zw):=M.blk.cell 2;clear TP hz hu hc hL2 Fo hLu;have TQ:wA.heap.size<=wj.heap.size:=K2.size;have CS:Hid (∀ (W:World) (v:Value),aa wj W->bI wj.heap.size W v (dZ ps p c)->ag 101 #[.pointer (some ⟨mb,0,none⟩),v] W fun e w'=>ae (fun x=>x<wj.heap.size/\(x<base\/¬ ((F0 x/\x≠w.heap.size)/\u6.ownBlock≠some x))) W w'/\((∃ (t:Nat) (Jn:List (List (List Int))),t<=4000/\dr f (dB ps ls p) rows (j+1)=some (Jn,sF++ [t])/\e=.returned (.int .i64 t)/\UO (fun x=>(F0 x/\x≠w.heap.size)/\u6.ownBlock≠some x) w' base mb ob f (.slice pa n pc) cv ps Jn (Ca.map fun r=>r.map Int.ofNat))\/(wS ps ls f=none/\e=.panicked [{v:=.iface 185 (.agg #[]),recovered:=false}]))):=hid fun W v hW hv=>by
       have Io:ia.length<=f:=RO.le;refine(zz (fun x=>(F0 x/\x≠w.heap.size)/\u6.ownBlock≠some x) base mb ob f (.slice pa n pc) cv ps ia (Ca.map fun r=>r.map Int.ofNat) OK wj W M2.out hW (fun x hx=>⟨⟨Vd x (by have:=Fw.out;omega),by have:=Fw.out;omega⟩,fun e=>by have:=(kA.lt x e).2;omega⟩) v (dZ ps p c) hv (jD (IS.all p (aA Zz)) c) RO.nodup RO.all hf Io (fun W hW=>HP W (PJ.trans hW)) (fun W hW=>HT W (PJ.trans hW))).mono ?_;rintro e w' ⟨hk,hq⟩;refine⟨hk,?_⟩;rcases hq with⟨h1,rfl,h3⟩ | ⟨h1,h2,rfl,h3⟩ | ⟨h1,h2,rfl⟩
       ·refine .inl ⟨WK ia (dZ ps p c),ia,?_,?_,rfl,h3⟩
        ·have:WK ia (dZ ps p c)<ia.length:=XZ h1
         omega
        ·rw[dr,YI.out,HG.out]
         exact TH h1
       ·refine .inl ⟨ia.length,ia++ [dZ ps p c],by omega,?_,rfl,h3⟩
        rw[dr,YI.out,HG.out];exact Qu h1 h2
       ·exact .inr ⟨TK Fp HST Zz YI (by have:=HLM.out;omega) (by rw[HG.out];exact h1) h2,rfl⟩
      go_wp2_with fail
      refine(K1 mb (.slice pa n pc) (.slice ua p.length uc) ps OK p (IS.all p (aA Zz)) c l5 wj f0 (HP wj PJ) HLu.ll).mono ?_;rintro e w2 ⟨v1,rfl,ho3,hk3⟩;have Zo:=hid ho3;have X3:=hid hk3;clear ho3 hk3 f0 f2 fl fu;go_wp2_with fail
      refine(CS w2 v1 X3 Zo).mono ?_;rintro e w3 ⟨hk4,hq⟩;have K4:=hid hk4;clear hk4;have UQ:Hid (ae (fun x=>x<wA.heap.size/\(x<base\/x=w.heap.size\/¬F0 x)) wA w3):=hid ((K2.tr (ae.ai X3 fun x hx=>aw hx.1 TQ)).tr (K4.mono fun x hx=>⟨aw hx.1 TQ,ab1 hx.2⟩));rcases hq with⟨t,Jn,ht,hr3,rfl,hM3⟩ | ⟨hno,rfl⟩
      ·have RN:Hid (w3.ownsRow wA.heap.size 3 1 u6 j (sF.map fun t:Nat=>.int .i64 t)):=hid (au kA ((ae.ai X3 fun x hx=>hx.1:ae (fun x=>x<wj.heap.size/\u6.ownBlock=some x) wj w2).tr (K4.mono fun x hx=>⟨hx.1,.inr fun h=>h.2 hx.2⟩)) fun x hx=>⟨(kA.lt x hx).2,hx⟩)
       have HR3:=hid hr3;have M3:=hid hM3;have WR:wA.heap.size<=w3.heap.size:=UQ.size;clear hr3 hM3 CS;go_wp2_with (at_builtin;refine Hid.out ?_);refine hid ?_;refine wpList_append_own_at _ rfl (.tmp 35) (.tmp 48) 51 rfl wA.heap.size 3 iI (.int .i64 0) 1 8 Tryz.underlying51 Cb my mz mA rfl (by decide) u6 j _ rfl (RN.alloc _) ⟨w3.heap.size,0,none⟩ 1 1 [.int .i64 t] rfl rfl (jx _ _ _) (by simp[Value.oneCell']) (by unfold maxLen;omega) (by omega) (by simp;omega) ?_;intro v' w5 hown' hgrow hh hat;have TR:=hid hown';have pP:=hid hgrow;have zN:=hid hat;clear hown' hgrow hh hat;go_wp2;go_roundw;case rel=>
        refine⟨j+1,Jn,sF++ [t],HR3,by omega,by go_num,?_,?_,?_⟩
        ·rw[List.map_append];exact TR
        ·obtain⟨sv3,nv3,kv3,us3,ns3,ks3,M⟩:=M3.out
         have M4:=M.below ((Ext.refl w3).alloc (.cells #[.int .i64 t] 3)).below
         have M5:=M4.mono (F':=fun x=>((F0 x/\x≠w.heap.size)/\u6.ownBlock≠some x)/\v'.ownBlock≠some x) fun x hx h=>⟨h,fun e=>by
          rcases zN.out with h5 | h5
          ·exact h.2 (by rw[<-h5,e])
          ·rw[h5]at e;cases e;simp at hx⟩
         have M6:=M5.keeps (ae.bA pP fun x hx=>⟨hx.1,fun e=>hx.2 e.symm⟩:ae (fun x=>x<(w3.alloc (.cells #[.int .i64 t] 3)).heap.size/\u6.ownBlock≠some x) _ w5) fun x hx h=>⟨hx,h.1.2⟩
         exact⟨_,_,_,_,_,_,M6.mono fun x _ h=>⟨h.1.1,h.2⟩⟩
        ·exact(UQ.alloc (fun x hx=>aw hx.1 WR) _).tr (ae.bA pP fun x hx=>⟨by have:=hx.1;simp;omega,fun e=>by have:=(RN.lt x e.symm).1;have:=hx.1;omega⟩)
       case measure=>simp[intOf];omega
      ·refine tI _ w.heap.size rfl _ w3 (BA.keeps UQ ⟨by have:=Fw.out;omega,.inr (.inl rfl)⟩) fun W' NQ=>⟨Yb w3 W' UQ NQ,.inr ⟨hno,rfl⟩⟩
     ·have Fk:j=m:=by omega
      subst Fk;clear Cm hj;have lY:¬ ((j:Int)<j):=by omega
      obtain⟨sv2,nv3,kv2,us2,ns2,ks2,M⟩:=M2.out;have hxf:=kA.out;obtain⟨xa,xc,rfl⟩:=ownsRow_form hxf;have gW:(Ca.map fun r=>r.map Int.ofNat).length=k:=by have h5:=IS.len;have h6:=BU.out;simp only at h5;rw[bp,h5];omega
      have Rx:=M.ud.1;rw[gW]at Rx;obtain⟨na,nc,rfl⟩:=ownsRow_form Rx;have f5:wj.cell? ⟨mb,5,none⟩=some (.slice na k nc):=M.blk.cell 5;have M3:=hid (M.mono (F':=fun x=>F0 x/\x≠w.heap.size) fun x _ h=>h.1);have HNR:=hid Rx;have HNL:=hid gW;have hbj:base<=wj.heap.size:=Nat.le_trans M.bm (Nat.le_of_lt M.blk.lt);have agM:mb≠w.heap.size:=M.fm.1.2;clear M hxf gW Rx;go_wp2_with (at_builtin;refine Hid.out ?_);refine hid ?_;refine wpList_append_own_at _ rfl (.tmp 56) (.tmp 58) 71 rfl base 51 iL (.slice none 0 0) 1 24 Tryz.underlying71 Ki rQ rR rS rfl (by decide) (.slice na k nc) k ns2 rfl (HNR.alloc _) ⟨wj.heap.size,0,none⟩ 1 1 [.slice xa j xc] rfl rfl (jx _ _ _) (by simp[Value.oneCell']) (by unfold maxLen;omega) (by omega) (by simp;omega) ?_;intro v' w5 hown' hgrow hh hat;obtain⟨va,vc,rfl⟩:=ownsRow_form hown';have ab3:some mb≠(Value.slice na k nc).ownBlock:=fun e=>dp M3.blk HNR (by decide) mb e.symm rfl
      have B5:=hid ((M3.blk.alloc (.cells #[.slice xa j xc] 51)).grown hgrow ab3);have TR:=hid hown';have pP:=hid hgrow;have zN:=hid hat;have g5:=B5.cell 5;have z5:=B5.frozen 5;clear hown' hgrow hh hat f5 ab3;go_wp2;have K9:ae (fun x=>x<wj.heap.size/\x≠mb/\(Value.slice na k nc).ownBlock≠some x) wj (w5.setCell ⟨mb,5,none⟩ (.slice va (k+1) vc)):=(((ae.refl _ wj).alloc (fun x hx=>hx.1) _).tr (ae.bA pP fun x hx=>⟨by have:=hx.1;simp;omega,fun e=>hx.2.2 e.symm⟩)).setCell (fun h=>h.2.1 rfl) _;have K5:ae (· ≠mb) w5 (w5.setCell ⟨mb,5,none⟩ (.slice va (k+1) vc)):=(ae.refl _ w5).setCell (fun h=>h rfl) _;have TQ:wA.heap.size<=wj.heap.size:=K2.size;have Ze:sF.length=j:=RO.len;have e1:sF.map (fun t:Nat=>Value.int .i64 t)=(sF.map Int.ofNat).map aV:=by rw[List.map_map];rfl
      have oC:(Value.slice va (k+1) vc).ownBlock=(Value.slice na k nc).ownBlock\/∀ x,(Value.slice va (k+1) vc).ownBlock=some x->wj.heap.size<=x:=zN.imp id fun h x e=>by rw[h]at e;cases e;simp
      have hrow:gV (fun x=>F0 x/\x≠w.heap.size) (w5.setCell ⟨mb,5,none⟩ (.slice va (k+1) vc)) base 3 (.slice xa j xc) (sF.map Int.ofNat).length ((sF.map Int.ofNat).map aV):=by rw[<-e1,bp,Ze];exact⟨wT M3.blk HNR K9 (aG kA (by have:=Fw.out;omega)) (by decide) (.inl (by decide)),fun x e=>⟨Vd x (by have:=(kA.lt x e).1;have:=Fw.out;omega),by have:=(kA.lt x e).1;have:=Fw.out;omega⟩⟩
      have MF:=Mk.next M3 HNL.symm K9 (B5.set 5 _) ⟨au TR K5 fun x hx=>dp B5 TR (by decide) x hx,fun x e=>by
       rcases oC with h5 | h5
       ·exact M3.ud.2 x (h5.symm.trans e)
       ·exact⟨Vd x (by have:=h5 x e;have:=Fw.out;omega),by have:=h5 x e;have:=Fw.out;omega⟩⟩ hrow oC
      have K8:ae (fun x=>x<wA.heap.size/\(x<base\/x=w.heap.size\/¬F0 x)) wA (w5.setCell ⟨mb,5,none⟩ (.slice va (k+1) vc)):=K2.tr (K9.mono fun x hx=>⟨aw hx.1 TQ,fun e=>by
       rcases hx.2 with h5 | h5 | h5
       ·have:=M3.bm;omega
       ·exact agM (e.symm.trans h5)
       ·exact h5 (by rw[e];exact M3.fm.1),fun e=>by
       rcases hx.2 with h5 | h5 | h5
       ·have:=(HNR.lt x e).1;omega
       ·exact(M3.ud.2 x e).2 h5
       ·exact h5 (M3.ud.2 x e).1⟩)
      have hst:dQ f (dB ps ls) ls.length (kq ps) (k+1)=some (ia,Ca++ [sF]):=by rw[Qv HST.out Zz.out, <-HLM.out,YI.out];rfl
      have D9:k+1<=ia.length:=by have h5:rows.length<=ia.length:=RO.pre.length_le;have:=BU.out;omega
      go_roundw
      case rel=>
       refine⟨k+1,ia,Ca++ [sF],hst,D9,by go_num,?_,K8⟩;rw[List.map_append];exact⟨_,_,_,_,_,_,MF⟩
      case measure=>simp[intOf];omega
   ·have hkL:k=L:=by omega
    subst hkL;clear hlt;have eT:¬ ((k:Int)<k):=by omega
    have B0:=hid (BA.keeps KO ⟨by have:=Fw.out;omega,.inr (.inl rfl)⟩);have g0:=B0.cell 0;have z0:=B0.frozen 0;go_wp2;have K9:ae (fun x=>x<wo.heap.size/\x≠w.heap.size) wo (wo.setCell ⟨w.heap.size,0,none⟩ (.int .i64 0)):=(ae.refl _ wo).setCell (fun h=>h.2 rfl) _;exact LR _ w.heap.size 0 rfl _ _ (B0.set 0 _) ⟨Yb wo _ KO K9,.inl ⟨rows,Ca,TJ Fp HST (by have:=BU.out;show rows.length=k;omega),rfl,_,_,_,_,_,_,(MO.keeps K9 fun x hx h=>⟨hx,h.2⟩).mono fun x _ _=>trivial⟩⟩
 ·have KA:ae (fun x=>x<wA.heap.size/\(x<base\/x=w.heap.size\/¬F0 x)) wA w4:=(ae.ai X3 fun x hx=>hx.1:ae (fun x=>x<wA.heap.size/\(x<base\/x=w.heap.size\/¬F0 x)) wA w3).tr (hk4.mono fun x hx=>⟨hx.1,Ya hx.2⟩)
  refine tI _ w.heap.size rfl _ w4 (BA.keeps KA ⟨by have:=Fw.out;omega,.inr (.inl rfl)⟩) fun W' NQ=>⟨Yb w4 W' KA NQ,.inr ⟨?_,rfl⟩⟩
  unfold wS;rw[if_pos (by simpa using h2)]
theorem dn.src {w:World} {v:Value} {l:List BS} (h:dn w v l):uX w v l.length (aN l):=by
 rcases h with⟨rfl,rfl⟩ | ⟨b,off,cap,rfl,_,hc⟩
 ·exact .inl ⟨rfl,rfl,rfl⟩
 ·refine .inr ⟨⟨b,off,none⟩,cap,rfl,fun j u hj=>?_⟩
  have Mp:j<l.length*4:=by rw[<-dw];exact(List.getElem?_eq_some_iff.1 hj).1
  have h1:l[j/4]? =some (l[j/4]'(by omega)):=aC (by omega);have h2:=kG l h1 (j:=j%4) (by omega);rw[show j/4*4+j%4=j by omega,hj]at h2;rw[Addr.add_mid,show off+j=off+j/4*4+j%4 by omega,hc _ _ h1 _ (by omega), <-h2]
theorem qX {ps:List PT} {k:Nat} {x:PT} (h:ps[k]? =some x):ct (ps.take (k+1))=ct (ps.take k)++x.nf.aL:=by unfold ct;rw[List.take_add_one,h];simp
theorem PT.wV (x:PT):x.ok=true↔x.nf.right=true/\0<=x.mark/\x.mark<=255:=by unfold PT.ok;simp[and_assoc]
theorem Be {ps:List PT} {f:Int} (h:ps.length<=64) {k:Nat} {x:PT} (hx:ps[k]? =some x) (hb:¬x.ok=true):di ps f=(⟨[],[],[]⟩,180):=by unfold di;rw[if_neg (by omega),if_pos];rw[List.all_eq_false];exact⟨x,aA hx,hb⟩
theorem QA {ps:List PT} {f:Int} (h:64<ps.length):di ps f=(⟨[],[],[]⟩,5):=by unfold di;rw[if_pos h]
theorem Yc {ps:List PT} (h:∀ (k:Nat) (x:PT),ps[k]? =some x->x.ok=true):ps.all PT.ok=true:=List.all_eq_true.2 fun x hx=>by
 obtain⟨i,hi⟩:=List.getElem?_of_mem hx;exact h i x hi
theorem EA {ps:List PT} {f:Int} (h:ps.length<=64) (ho:ps.all PT.ok=true) (hf:f<0\/4000<f):di ps f=(⟨[],[],[]⟩,2):=by unfold di;rw[if_neg (by omega),ho,if_neg (by decide),if_pos hf]
theorem tJ {α:Type} [DecidableEq α] {fuel:Nat} {g g':Nat->α} {todo:List α} :∀ {k:Nat},(∀ j,j<k->g j=g' j)->dr fuel g todo k=dr fuel g' todo k
 | 0,_=>rfl
 | k+1,h=>by rw[dr,dr,tJ fun j hj=>h j (by omega),h k (by omega)]
theorem wW {α:Type} [DecidableEq α] {fuel K:Nat} {f f':α->Nat->α} {p0:α} (h:∀ p j,j<K->f p j=f' p j):∀ n,dQ fuel f K p0 n=dQ fuel f' K p0 n
 | 0=>rfl
 | n+1=>by
  rw[dQ,dQ,wW h n];congr 1;funext st;unfold fK;cases st.1[n]? with
  | none=>rfl
  | some p=>simp only[tJ (h p)]
theorem TS {ps:List PT} {f:Nat} {ls:List Nat} (hl:ls.length=(partsOf (ct ps)).length) (h:∀ k,k<ls.length->ls.getD k 0=lb (partsOf (ct ps)) k):wS ps ls f=kO ps f:=by
 unfold wS kO;rw[hl];split
 ·rfl
 ·refine wW (fun p j hj=>?_) f
  unfold dB;rw[h j (by omega)]
theorem QB {ps:List PT} {f:Nat} (h:ps.length<=64) (ho:ps.all PT.ok=true) (hf:f<=4000) (hs:kO ps f=none):di ps f=(⟨[],[],[]⟩,181):=by unfold di;rw[if_neg (by omega),ho,if_neg (by decide),if_neg (by omega),Int.toNat_natCast,hs]
theorem QC {ps:List PT} {f:Nat} (h:ps.length<=64) (ho:ps.all PT.ok=true) (hf:f<=4000) {st:List (List (List Int))×List (List Nat)} (hs:kO ps f=some st):di ps f=(⟨partsOf (ct ps),st.2.map fun r=>r.map Int.ofNat,st.1.map (dG ps)⟩,0):=by unfold di;rw[if_neg (by omega),ho,if_neg (by decide),if_neg (by omega),Int.toNat_natCast,hs]
attribute [local go_sem] encS
theorem LS (v:Value) (ps:List PT) (f:Int) (w:World) (h:jG w v ps) (sm:∀ x∈ps,I8 x.nf) (hT:∀ W,aa w W->mB W): ag 44 #[v,.int .i64 f] w fun e w'=>∃ u,e=.returned (.tuple #[u,.int .i64 (di ps f).2])/\dM w.heap.size w' u (di ps f).1/\aa w w':=by
 obtain⟨iS,YN,J9,Ka,Kb⟩:=info_parts Tryz.CZ;obtain⟨iB,Za,Kq,Kr,Ks⟩:=info_parts Tryz.FZ;obtain⟨pa,pc,rfl⟩:=h.form;obtain⟨n,Jc⟩:=ah ps.length;rw[<-Jc]at h ⊢;have Qx:=hid Jc;have HP:=hid h;have SM:=hid sm;have HT:=hid hT;have fin:Hid (∀ (W:World) (code:Int),di ps f=(⟨[],[],[]⟩,code)->aq W w.heap.size #[.slice none 0 0,.slice none 0 0,.slice none 0 0] 73->aa w W->∃ u,Ending.returned (.tuple #[.agg #[.slice none 0 0,.slice none 0 0,.slice none 0 0],.int .i64 code])=.returned (.tuple #[u,.int .i64 (di ps f).2])/\dM w.heap.size W u (di ps f).1/\aa w W):=hid fun W code h1 _ h3=>by
  rw[h1];exact⟨_,rfl,⟨_,_,_,rfl,World.ownsRow_nil _ _ _ _,bI.nil _ _,bI.nil _ _⟩,h3⟩
 clear h sm hT Jc;by_cases ab4:64<n
 ·have Zy:(64:Int)<n:=by omega
  have Ce:=hid (QA (f:=f) (show 64<ps.length by rw[<-Qx.out];exact ab4));go_enter Tryz.func44,Tryz.ntmps44;go_wp2;refine aT ?_;intro W9 eO;have E9:Hid (aq W9 w.heap.size #[.slice none 0 0,.slice none 0 0,.slice none 0 0] 73/\aa w W9):=by rw[eO];exact hid ⟨aq.new _ _ _,((Ext.refl w).alloc _).below⟩
  clear eO;obtain⟨⟨m0,m1,m2⟩,_⟩:=E9.1.three;refine bodyPost_ret (v:=.tuple #[.agg #[.slice none 0 0,.slice none 0 0,.slice none 0 0],.int .i64 5]) (by simp[results,Tryz.results44,go_sem,m0,m1,m2]) rfl (fin W9 5 Ce E9.1 E9.2)
 ·have Zy:¬ ((64:Int)<n):=by omega
  have pD:ps.length<=64:=by rw[<-Qx.out];omega
  have NY:= @run_makeMap Tryz.prog;go_enter Tryz.func44,Tryz.ntmps44;go_wp2;go_loopw [6,24] (fun av iv wr=>∃ k:Nat,k<=n/\iv=.int .i64 k/\wr.ownsRow (w.heap.size+1) 37 4 av (ct (ps.take k)).length (aN (ct (ps.take k)))/\(ct (ps.take k)).length<=400*k/\(∀ (i:Nat) (x:PT),i<k->ps[i]? =some x->x.ok=true)/\aq wr w.heap.size #[.slice none 0 0,.slice none 0 0,.slice none 0 0] 73/\aa w wr) (fun _ iv _=>n-(intOf iv).toNat);case atStart=>exact⟨0,Nat.zero_le _,rfl,World.ownsRow_nil _ _ _ _,Nat.zero_le _,fun i x h=>absurd h (Nat.not_lt_zero _),aq.new _ _ _,((Ext.refl w).alloc _).below⟩
  case round=>
   obtain⟨k,hk,rfl,ho,mq,hall,hb,hx⟩:=hrel;obtain⟨wo,rfl⟩:=ah (wr:World);have HO:=hid ho;have Kj:=hid hall;have HB:=hid hb;have HX:=hid hx;have HPO:=hid (HP.below hx);have Pe:w.heap.size<wo.heap.size:=hb.lt;obtain⟨A,hA⟩:=ah ((ct (ps.take k)).length);rw[<-hA]at HO mq;have HAn:=hid hA;clear ho hall hb hx hA;by_cases hlt:k<n
   ·have eT:(k:Int)<n:=by omega
    obtain⟨x,hx⟩:∃ x,ps[k]? =some x:=⟨_,aC (by have:=Qx.out;omega)⟩;obtain⟨b,off,v0,v1,v2,v3,rfl,hb,ox,q0,q1,q2,q3,q4,q5,q6⟩:=HPO.elem hx;obtain⟨x0,n0,c0,x1,n1,c1,x2,n2,c2,x3,n3,c3,rfl,rfl,rfl,rfl⟩:=ox.za;have Je:=hid ox;have OG:=hid hx;have SX:Hid (I8 x.nf):=hid (SM.out x (aA hx));clear hx ox;go_wp2_with fail
    refine aK ?_;intro V hV;have BX:Hid (aq V wo.heap.size #[.slice x0 n0 c0,.slice x1 n1 c1,.slice x2 n2 c2,.slice x3 n3 c3,.bool x.nf.emp,.bool x.OP,.int .i64 x.mark] 101):=hid (by rw[hV];exact aq.new wo _ _);have XV:Hid (aa wo V):=hid (by rw[hV];exact((Ext.refl wo).alloc _).below);clear hV q0 q1 q2 q3 q4 q5 q6;refine(py (.agg #[.slice x0 n0 c0,.slice x1 n1 c1,.slice x2 n2 c2,.slice x3 n3 c3,.bool x.nf.emp]) x.nf V (Je.below XV) SX).mono ?_;rintro e w2 ⟨rfl,hx2⟩;have B2:=hid (BX.below hx2 BX.lt);have X2:=hid (XV.trans (hx2.mono XV.size));clear hx2 BX XV;have C8:=hid (HB.below X2 Pe);have X9:=hid (HX.trans (X2.mono HX.size));have O2:=hid (ay HO X2)
    have S2:Hid (dn w2 (.slice x0 n0 c0) x.nf.aL/\n0=x.nf.aL.length):=hid (by
     obtain⟨u0,u1,u2,u3,e,h0,h1,h2,h3⟩:=Je.out;cases e;obtain⟨a9,c9,e9⟩:=h0.1.form;refine⟨h0.1.below X2,?_⟩
     cases e9;rfl)
    have afM:wo.heap.size<=w2.heap.size:=X2.size;obtain⟨r0,r1,r2,r3,r4,r5,r6⟩:=B2.seven;obtain⟨⟨k0,k1,k2⟩,z0,z1,z2⟩:=C8.three;by_cases hr:x.nf.right=true
    ·have Ntx:=(fk _).1 hr
     rw[hr];by_cases YF:x.mark<0
     ·have d1:decide (x.mark<0)=true:=decide_eq_true YF
      have uF:=hid (Be (f:=f) pD OG (by rw[PT.wV];omega));go_wp2;refine aT ?_;intro W9 eO;have E9:Hid (aq W9 w.heap.size #[.slice none 0 0,.slice none 0 0,.slice none 0 0] 73/\aa w W9):=by rw[eO];exact hid ⟨C8.vt,eC X9 (aD _)⟩
      clear eO z0 z1 z2 k0 k1 k2;obtain⟨⟨m0,m1,m2⟩,_⟩:=E9.1.three;refine bodyPost_ret (v:=.tuple #[.agg #[.slice none 0 0,.slice none 0 0,.slice none 0 0],.int .i64 180]) (by simp[results,Tryz.results44,go_sem,m0,m1,m2]) rfl (fin W9 180 uF E9.1 E9.2)
     ·have d1:decide (x.mark<0)=false:=decide_eq_false YF
      by_cases U5:255<x.mark
      ·have d2:decide (255<x.mark)=true:=decide_eq_true U5
       have uF:=hid (Be (f:=f) pD OG (by rw[PT.wV];omega));go_wp2;refine aT ?_;intro W9 eO;have E9:Hid (aq W9 w.heap.size #[.slice none 0 0,.slice none 0 0,.slice none 0 0] 73/\aa w W9):=by rw[eO];exact hid ⟨C8.vt,eC X9 (aD _)⟩
       clear eO z0 z1 z2 k0 k1 k2;obtain⟨⟨m0,m1,m2⟩,_⟩:=E9.1.three;refine bodyPost_ret (v:=.tuple #[.agg #[.slice none 0 0,.slice none 0 0,.slice none 0 0],.int .i64 180]) (by simp[results,Tryz.results44,go_sem,m0,m1,m2]) rfl (fin W9 180 uF E9.1 E9.2)
      ·have d2:decide (255<x.mark)=false:=decide_eq_false U5
       have hle:=Ntx.le;go_wp2_with (at_builtin;refine Hid.out ?_);refine hid ?_;refine ju rfl (.tmp 43) (.tmp 46) 70 rfl (w.heap.size+1) 37 iS (.agg #[.int .u64 0,.int .u64 0,.int .u64 0,.int .u64 0]) 4 32 Tryz.underlying70 YN J9 Ka Kb rfl (by decide) u6 A _ rfl O2 (.slice x0 n0 c0) x.nf.aL.length (aN x.nf.aL) rfl S2.1.src (dw _) (js _) (by unfold maxLen;omega) (by omega) (by omega) ?_;intro v' w5 hown hgrow;have O5:=hid hown;have X5:Hid (Below (w.heap.size+1) w2 w5):=hid ((Below.refl _ w2).grown hgrow (by omega) (fun c e=>(O2.lt c e).1));clear hown hgrow r0 r1 r2 r3 r4 r5 r6;go_wp2;go_roundw;case rel=>
        refine⟨k+1,by omega,by go_num,?_,?_,fun i y hi hy=>?_,C8.below X5 (by omega),X9.trans (X5.mono (by omega))⟩
        ·rw[qX OG.out,aQ,fy, <-HAn.out]
         exact O5
        ·rw[qX OG.out,aQ, <-HAn.out]
         omega
        ·by_cases e:i<k
         ·exact Kj i y e hy
         ·obtain rfl:i=k:=by omega
          rw[OG.out]at hy;cases hy;exact(PT.wV _).2 ⟨hr,by omega,by omega⟩
       case measure=>simp[intOf];omega
    ·rw[Bool.not_eq_true]at hr
     rw[hr];have uF:=hid (Be (f:=f) pD OG (by rw[PT.wV];rw[hr];simp));go_wp2;refine aT ?_;intro W9 eO;have E9:Hid (aq W9 w.heap.size #[.slice none 0 0,.slice none 0 0,.slice none 0 0] 73/\aa w W9):=by rw[eO];exact hid ⟨C8.vt,eC X9 (aD _)⟩
     clear eO z0 z1 z2 k0 k1 k2;obtain⟨⟨m0,m1,m2⟩,_⟩:=E9.1.three;refine bodyPost_ret (v:=.tuple #[.agg #[.slice none 0 0,.slice none 0 0,.slice none 0 0],.int .i64 180]) (by simp[results,Tryz.results44,go_sem,m0,m1,m2]) rfl (fin W9 180 uF E9.1 E9.2)
   ·obtain rfl:k=n:=by omega
    clear hlt hk;have eT:¬ ((k:Int)<k):=by omega
    have dT:ps.take k=ps:=by rw[Qx.out];exact List.take_length
    have mf:Hid (ps.all PT.ok=true):=hid (Yc fun i x hx=>Kj i x (by have:=(List.getElem?_eq_some_iff.1 hx).1;have:=Qx.out;omega) hx);rw[dT]at HO HAn;clear dT Kj;by_cases Km:f<0
    ·have d1:decide (f<0)=true:=decide_eq_true Km
     obtain⟨⟨k0,k1,k2⟩,z0,z1,z2⟩:=HB.three;have uF:=hid (EA (f:=f) pD mf (.inl Km));go_wp2;refine aT ?_;intro W9 eO;have E9:Hid (aq W9 w.heap.size #[.slice none 0 0,.slice none 0 0,.slice none 0 0] 73/\aa w W9):=by rw[eO];exact hid ⟨HB.vt,eC HX (aD _)⟩
     clear eO z0 z1 z2 k0 k1 k2;obtain⟨⟨m0,m1,m2⟩,_⟩:=E9.1.three;refine bodyPost_ret (v:=.tuple #[.agg #[.slice none 0 0,.slice none 0 0,.slice none 0 0],.int .i64 2]) (by simp[results,Tryz.results44,go_sem,m0,m1,m2]) rfl (fin W9 2 uF E9.1 E9.2)
    ·have d1:decide (f<0)=false:=decide_eq_false Km
     by_cases UA:4000<f
     ·have d2:decide (4000<f)=true:=decide_eq_true UA
      obtain⟨⟨k0,k1,k2⟩,z0,z1,z2⟩:=HB.three;have uF:=hid (EA (f:=f) pD mf (.inr UA));go_wp2;refine aT ?_;intro W9 eO;have E9:Hid (aq W9 w.heap.size #[.slice none 0 0,.slice none 0 0,.slice none 0 0] 73/\aa w W9):=by rw[eO];exact hid ⟨HB.vt,eC HX (aD _)⟩
      clear eO z0 z1 z2 k0 k1 k2;obtain⟨⟨m0,m1,m2⟩,_⟩:=E9.1.three;refine bodyPost_ret (v:=.tuple #[.agg #[.slice none 0 0,.slice none 0 0,.slice none 0 0],.int .i64 2]) (by simp[results,Tryz.results44,go_sem,m0,m1,m2]) rfl (fin W9 2 uF E9.1 E9.2)
     ·have d2:decide (4000<f)=false:=decide_eq_false UA
      obtain⟨P,hP⟩:=ah (partsOf (ct ps));obtain⟨K,hK⟩:=ah P.length;have Oe:K<=256:=by rw[hK,hP,(eA _).length_eq];exact dK _
      have uF:=hid hP;have Fm:=hid hK;have CA:Hid (∀ W v,dn W v (ct ps)->ag 66 #[v] W fun e w'=>∃ b,e=.returned (.pointer (some ⟨b,0,none⟩))/\cU w' W.heap.size (.pointer (some ⟨b,0,none⟩)) P/\aa W w'):=hid fun W v h=>by
       have:=lx (ct ps) v W h (by have:=HAn.out;omega);rwa[<-hP]at this
      have CL:Hid (∀ W x bx,cU W bx (.pointer (some ⟨x,0,none⟩)) P->ag 67 #[.pointer (some ⟨x,0,none⟩)] W fun e w'=>e=.returned (.int .i64 K)/\w'=W):=hid fun W x bx h=>by rw[hK];exact Iz _ _ _ _ h
      have CS:Hid (∀ W x bx (k:Nat) s,P[k]? =some s->cU W bx (.pointer (some ⟨x,0,none⟩)) P->ag 68 #[.pointer (some ⟨x,0,none⟩),.int .i64 k] W fun e w'=>e=.returned (.tuple #[.agg (encS s),.bool true])/\Ext W w'):=hid fun W x bx k s hs h=>by
       have:=zV _ bx P k W h;rw[nJ,hs]at this;exact this
      have CM:Hid (∀ W x bx (k:Nat),k<P.length->cU W bx (.pointer (some ⟨x,0,none⟩)) P->ag 69 #[.pointer (some ⟨x,0,none⟩),.int .i64 k] W fun e w'=>e=.returned (.tuple #[.int .u8 (lb P k),.bool true])/\Ext W w'):=hid fun W x bx k hk h=>by
       have:=yz _ bx P k W h;rw[hP,vu (by rw[<-hP];exact hk), <-hP]at this;exact this
      have YP:Hid (∀ k,k<P.length->lb P k<256):=hid fun k hk=>by rw[hP];exact Dj (by rw[<-hP];exact hk)
      clear hP hK;have HS:=hid (iV (by rw[<-HAn.out];exact HO.out:wo.ownsRow (w.heap.size+1) 37 4 u6 (ct ps).length (aN (ct ps))));go_wp2_with fail
      refine(CA wo u6 HS).mono ?_;rintro e w2 ⟨ba,rfl,ha,hx⟩;obtain⟨bal,ab6⟩:=ah wo.heap.size;rw[<-ab6]at ha;have AL:=hid ha;clear ab6;have B2:=hid (HB.below hx Pe);have X2:=hid (HX.trans (hx.mono HX.size));clear ha hx CA HB HX HPO HO HS;obtain⟨F,rfl⟩:∃ F:Nat,f=F:=⟨f.toNat,by omega⟩;have hF4:F<=4000:=by omega
      go_wp2_with fail
      refine aK ?_;intro V hV;have BM0:aq V (w2.heap.size+1) #[.slice pa k pc,.int .i64 F,.slice none 0 0,.map (some w2.heap.size),.slice none 0 0,.slice none 0 0,.slice none 0 0] 152:=by rw[hV];exact(aq.new (w2.alloc _) _ _).at (by simp)
      have MS0:kS V w2.heap.size []:=by have h5:kS (w2.alloc (.map #[] 0)) w2.heap.size []:=World.alloc_heap_new w2 _;rw[hV];exact h5.below ((Ext.refl _).alloc _).below
      have XV0:aa w2 V:=by rw[hV];exact(((Ext.refl w2).alloc _).alloc _).below
      clear hV;obtain⟨mb,tY⟩:=ah (w2.heap.size+1);rw[<-tY]at BM0 ⊢;have BM:=hid BM0;have MS:=hid MS0;have XV:=hid XV0;have Yd:=hid tY;have AV:=hid (AL.below XV0);have A4:Hid (∀ W',ae (fun x=>x<V.heap.size/\x≠mb) V W'->cU W' bal (.pointer (some ⟨ba,0,none⟩)) P):=hid fun W' h=>AL.keeps ((ae.ai XV fun _ h=>h:ae (· <w2.heap.size) w2 V).tr (h.mono fun x hx=>⟨aw hx XV.size,by have h5:x<w2.heap.size:=hx;have:=Yd.out;omega⟩)) fun _ _ h=>h
      clear BM0 MS0 XV0 tY AL;refine(CL _ _ _ AV).mono ?_;rintro e w' ⟨rfl,hw⟩;replace hw:=hw.symm;subst hw;go_wp2;go_loopw [11,65] (fun lv iv wr=>∃ (j:Nat) (cv:Value),j<=K/\iv=.int .i64 j/\aq wr mb #[.slice pa k pc,.int .i64 F,.slice none 0 0,.map (some w2.heap.size),cv,.slice none 0 0,.slice none 0 0] 152/\wr.ownsRow V.heap.size 37 4 cv j (aN (P.take j))/\wr.ownsRow V.heap.size 5 1 lv j (((List.range j).map (lb P)).map eN)/\ae (fun x=>x<V.heap.size/\x≠mb) V wr) (fun _ iv _=>K-(intOf iv).toNat);case atStart=>exact⟨0,_,Nat.zero_le _,rfl,BM,World.ownsRow_nil _ _ _ _,World.ownsRow_nil _ _ _ _,ae.refl _ _⟩
      case round=>
       obtain⟨j,c,hj,rfl,hb,hc,ho,hx⟩:=hrel;obtain⟨wo,rfl⟩:=ah (wr:World);have YQ:V.heap.size<=wo.heap.size:=hx.size;have agR:mb<V.heap.size:=BM.lt;have HB:=hid hb;have Gn:=hid hc;have HO:=hid ho;have HX:=hid hx;have AJ:=hid (A4.out wo hx);clear hb hc ho hx;by_cases hlt:j<K
       ·obtain⟨s,hs⟩:∃ s,P[j]? =some s:=⟨_,aC (by have:=Fm.out;omega)⟩
        have YD:j<P.length:=by rw[<-Fm.out];exact hlt
        have BJ:=YP.out j YD;obtain⟨q,hq⟩:=ah (lb P j);rw[<-hq]at BJ;have HSs:=hid hs;have lY:(j:Int)<K:=by omega
        clear hs;have VY:Hid (∀ W',cU W' bal (.pointer (some ⟨ba,0,none⟩)) P->ag 68 #[.pointer (some ⟨ba,0,none⟩),.int .i64 j] W' fun e w'=>e=.returned (.tuple #[.agg (encS s),.bool true])/\Ext W' w'):=hid fun W' h=>CS W' ba _ j s HSs h
        have IM:Hid (∀ W',cU W' bal (.pointer (some ⟨ba,0,none⟩)) P->ag 69 #[.pointer (some ⟨ba,0,none⟩),.int .i64 j] W' fun e w'=>e=.returned (.tuple #[.int .u8 q,.bool true])/\Ext W' w'):=hid fun W' h=>by rw[hq];exact CM W' ba _ j YD h
        have HQS:Hid (P.take (j+1)=P.take j++ [s]):=hid (by rw[List.take_add_one,HSs.out];rfl);have HQL:Hid (((List.range (j+1)).map (lb P)).map eN=((List.range j).map (lb P)).map eN++ [.int .u8 q]):=hid (by rw[List.range_succ,List.map_append,List.map_append,hq];rfl);clear hq BJ YD HSs;go_wp2_with fail
        refine(VY _ AJ).mono ?_;rintro e w5 ⟨rfl,hx⟩;have Y5:=hid hx;have YR:wo.heap.size<=w5.heap.size:=hx.size;clear hx;go_wp2_with fail
        refine aK ?_;intro V3 cD;have S3:Hid (aq V3 w5.heap.size (encS s) 37):=by rw[cD];exact aq.new _ _ _
        have Y6:Hid (Ext wo V3):=by rw[cD];exact Y5.alloc _
        clear cD Y5;refine(IM _ (AJ.below Y6.below)).mono ?_;rintro e w6 ⟨rfl,hx⟩;have S6:=hid (S3.ext hx);have Y7:=hid (Y6.trans hx);clear hx S3 Y6;have yF:=hid (ay Gn Y7.below);have kA:=hid (ay HO Y7.below);have fJ:=hid (HB.ext Y7);have hw6:wo.heap.size<=w6.heap.size:=Y7.size;have eW:=hid (HX.tr (ae.ai Y7.below fun x hx=>aw hx.1 YQ));have L1:=hid fun x e=>(Gn.lt x e).2
        have L2:=hid fun x e=>(HO.lt x e).2
        clear Gn HO HB HX;obtain⟨ca,cc,rfl⟩:=ownsRow_form yF;obtain⟨oa,oc,rfl⟩:=ownsRow_form kA;have SG:Hid ((Value.slice ca j cc).ownBlock=none\/(Value.slice ca j cc).ownBlock≠(Value.slice oa j oc).ownBlock):=ownBlock_ne (by decide) yF kA;have hoc:Hid ((Value.slice oa j oc).ownBlock=none\/(Value.slice oa j oc).ownBlock≠(Value.slice ca j cc).ownBlock):=ownBlock_ne (by decide) kA yF;obtain⟨XO,VZ⟩:=ah (((List.range j).map (lb P)).map eN);rw[<-VZ]at kA;have HXO:=hid VZ;clear VZ;obtain⟨PL,xm⟩:=ah ([⟨37,4,.slice ca j cc,j,aN (P.take j),1,(encS s).toList⟩,⟨5,1,.slice oa j oc,j,XO,1,[.int .u8 q]⟩]:List App);have rO:PL[0]? =some ⟨37,4,.slice ca j cc,j,aN (P.take j),1,(encS s).toList⟩:=by rw[xm];rfl
        have vv:PL[1]? =some ⟨5,1,.slice oa j oc,j,XO,1,[.int .u8 q]⟩:=by rw[xm];rfl
        have OK:Hid (kI w6 PL):=hid ⟨fun p hp x e=>by
          rw[xm]at hp;simp only[List.mem_cons,List.not_mem_nil,or_false]at hp;rcases hp with rfl | rfl
          ·exact(yF.lt x e).2
          ·exact(kA.lt x e).2,fun i j p q hi hj oY=>by
          have hl:PL.length=2:=by rw[xm];rfl
          have h1:=(List.getElem?_eq_some_iff.1 hi).1;have h2:=(List.getElem?_eq_some_iff.1 hj).1;rcases(show i=0\/i=1 by omega)with rfl | rfl<;>rcases(show j=0\/j=1 by omega)with rfl | rfl<;>(first | (exact absurd rfl oY) | skip)<;>(first | rw[rO]at hi | rw[vv]at hi)<;>(first | rw[rO]at hj | rw[vv]at hj)<;>cases hi<;>cases hj
          ·exact SG
          ·exact hoc⟩
        clear SG hoc;have hsz:V.heap.size<=w6.heap.size:=Nat.le_trans YQ hw6;have My:∀ x,x<V.heap.size->¬ ∃ p∈PL,p.v.ownBlock=some x:=fun x hx ⟨p,hp,e⟩=>by
         rw[xm]at hp;simp only[List.mem_cons,List.not_mem_nil,or_false]at hp;rcases hp with rfl | rfl
         ·have:=(yF.lt _ e).1;omega
         ·have:=(kA.lt _ e).1;omega
        have Ac:=My mb agR;have Ad:Hid (∀ W',bX V.heap.size w6 PL w6 W'->ae (fun x=>x<V.heap.size/\x≠mb) V W'):=hid fun W' h=>eW.tr (h.keeps.mono fun x hx=>⟨aw hx.1 hsz,My x hx.1⟩)
        have xn:¬ ∃ p∈PL,p.v.ownBlock=some w5.heap.size:=fun ⟨p,hp,e⟩=>by
         rw[xm]at hp;simp only[List.mem_cons,List.not_mem_nil,or_false]at hp;rcases hp with rfl | rfl
         ·have:=L1.out _ e;omega
         ·have:=L2.out _ e;omega
        clear xm My;go_wp2;refine RegG.ck (bX V.heap.size w6 PL) (bX.drew) (fun _ _ _ h k=>h.trans k) (by kernel_rfl) 13 [0,0,2,6,14,30,0,64,254,0,0,1024,3584,8191,16383,32767,65535,131071] (fun i=>i==7 || i==8 || i==11 || i==12 || i==16) (by kernel_rfl) (fun _=>none) (fun j hj=>(by first | rfl | (have fC:18<=j:=hj;first | exact if_neg (by omega) | (split<;>first | omega | rfl)))) (by kernel_rfl) (fun i=>if i=7 then RegG.aR.rN V.heap.size w6 PL 1 (encS s) 37 else if i=8 then RegG.aR.app V.heap.size w6 PL ⟨37,4,.slice ca j cc,j,aN (P.take j),1,(encS s).toList⟩ (aA rO)else if i=11 then RegG.aR.rN V.heap.size w6 PL 1 #[.int .u8 q] 5 else if i=12 then RegG.aR.app V.heap.size w6 PL ⟨5,1,.slice oa j oc,j,XO,1,[.int .u8 q]⟩ (aA vv)else RegG.aR.any _) ?_;intro C hC hne;have HC:=hid hC;have l4:∀ {x:Nat},x<w6.heap.size->(¬ ∃ p∈PL,p.v.ownBlock=some x)->∀ W: {W//C W},W.1.heap[x]? =w6.heap[x]? :=fun {x} h1 h2 W=>((hC W.1).1 W.2).keeps.keep x ⟨h1,h2⟩
        have f4:∀ W: {W//C W},W.1.cell? ⟨mb,4,none⟩=some (.slice ca j cc):=fun W=>((fJ.same (l4 fJ.lt Ac W)).cell 4)
        have s0:∀ W: {W//C W},W.1.cell? ⟨w5.heap.size,0,none⟩=some (.int .u64 (wd s 0).toNat):=fun W=>(S6.same (l4 S6.lt xn W)).xD.1
        have s1:∀ W: {W//C W},W.1.cell? ⟨w5.heap.size,1,none⟩=some (.int .u64 (wd s 1).toNat):=fun W=>(S6.same (l4 S6.lt xn W)).xD.2.1
        have s2:∀ W: {W//C W},W.1.cell? ⟨w5.heap.size,2,none⟩=some (.int .u64 (wd s 2).toNat):=fun W=>(S6.same (l4 S6.lt xn W)).xD.2.2.1
        have s3:∀ W: {W//C W},W.1.cell? ⟨w5.heap.size,3,none⟩=some (.int .u64 (wd s 3).toNat):=fun W=>(S6.same (l4 S6.lt xn W)).xD.2.2.2
        clear hC l4
        repeat (refine RegG.ak (fun K hK=>?_);first | (refine RegG.cQ rfl ?_;try go_simp;refine hK _ _ ?_;clear hK K) | (refine RegG.bV rfl rfl ?_;unfold aB;go_simp;refine hK _ _ ?_;clear hK K))
        refine RegG.ak (fun K hK=>?_);refine RegG.bS rfl rfl (RegG.aR.rN V.heap.size w6 PL 1 (encS s) 37) rfl (fun W hW hN=>?_) (fun v hv=>?_)
        ·have hM:=(HC.out W).1 hW
         clear hW hK K
         (go_simp;exact⟨.below ((Ext.refl _).alloc _).below,⟨_,rfl⟩,fun b hb=>by cases hb;exact⟨aq.new _ _ _,OK.fresh hM.size⟩⟩)
        obtain⟨x3,rfl⟩:=hv;go_simp;refine hK _ _ ?_;clear hK K;refine RegG.ak (fun K hK=>?_);refine RegG.bS rfl rfl (RegG.aR.app V.heap.size w6 PL ⟨37,4,.slice ca j cc,j,aN (P.take j),1,(encS s).toList⟩ (aA rO)) rfl (fun W hW hN=>?_) (fun v hv=>?_)
        ·have hM:=(HC.out W).1 hW
         clear hW hK K;refine dL (w0:=w6) (PL:=PL) (p:=⟨37,4,.slice ca j cc,j,aN (P.take j),1,(encS s).toList⟩) (.tmp 85) (.tmp 87) 70 rfl iS _ 32 Tryz.underlying70 YN J9 Ka Kb rfl (show(0:Nat)<4 from by decide) OK rO rfl (hM.old _ (aA rO) yF) ⟨x3,0,none⟩ 1 rfl rfl (bQ (hN.at 0 rfl (by kernel_rfl) x3 rfl).1) (by intro u hu;simp[encS]at hu;rcases hu with rfl | rfl | rfl | rfl<;>rfl) (by show j+1<=maxLen;unfold maxLen;omega) (by show(j+1)*32<=_;omega) (Nat.le_trans hsz hM.size) (show(0:Nat)<1 from by decide) hM.size (fun v W' g1 g2 g3 _=>⟨g1,g2,g3⟩)
        obtain⟨V0,We,rfl⟩:=hv;go_simp;refine hK _ _ ?_;clear hK K
        repeat (refine RegG.ak (fun K hK=>?_);first | (refine RegG.cQ rfl ?_;try go_simp;refine hK _ _ ?_;clear hK K) | (refine RegG.bV rfl rfl ?_;unfold aB;go_simp;refine hK _ _ ?_;clear hK K))
        refine RegG.ak (fun K hK=>?_);refine RegG.bS rfl rfl (RegG.aR.rN V.heap.size w6 PL 1 #[.int .u8 q] 5) rfl (fun W hW hN=>?_) (fun v hv=>?_)
        ·have hM:=(HC.out W).1 hW
         clear hW hK K
         (go_simp;exact⟨.below ((Ext.refl _).alloc _).below,⟨_,rfl⟩,fun b hb=>by cases hb;exact⟨aq.new _ _ _,OK.fresh hM.size⟩⟩)
        obtain⟨Uz,rfl⟩:=hv;go_simp;refine hK _ _ ?_;clear hK K;refine RegG.ak (fun K hK=>?_);refine RegG.bS rfl rfl (RegG.aR.app V.heap.size w6 PL ⟨5,1,.slice oa j oc,j,XO,1,[.int .u8 q]⟩ (aA vv)) rfl (fun W hW hN=>?_) (fun v hv=>?_)
        ·have hM:=(HC.out W).1 hW
         clear hW hK K;refine dL (w0:=w6) (PL:=PL) (p:=⟨5,1,.slice oa j oc,j,XO,1,[.int .u8 q]⟩) (.tmp 89) (.tmp 91) 55 rfl iB _ 1 Tryz.underlying55 Za Kq Kr Ks rfl (show(0:Nat)<1 from by decide) OK vv rfl (hM.old _ (aA vv) kA) ⟨Uz,0,none⟩ 1 rfl rfl (bQ (hN.at 0 rfl (by kernel_rfl) Uz rfl).1) (by intro u hu;simp at hu;rw[hu];rfl) (by show j+1<=maxLen;unfold maxLen;omega) (by show(j+1)*1<=_;omega) (Nat.le_trans hsz hM.size) (show(0:Nat)<1 from by decide) hM.size (fun v W2 g1 g2 g3 _=>⟨g1,g2,g3⟩)
        obtain⟨Rm,Rn,rfl⟩:=hv;go_simp;refine hK _ _ ?_;clear hK K;refine RegG.cg (fun W7 hW hH=>?_);have hM:=(HC.out W7).1 hW;have Q0:Hid (After V.heap.size w6 ⟨37,4,.slice ca j cc,j,aN (P.take j),1,(encS s).toList⟩ W7 (.slice V0 (j+1) We)):=hid (hH _ (aA (show _=some _ from rfl:_[2]? =some _)));have Q1:Hid (After V.heap.size w6 ⟨5,1,.slice oa j oc,j,XO,1,[.int .u8 q]⟩ W7 (.slice Rm (j+1) Rn)):=hid (hH _ (aA (show _=some _ from rfl:_[0]? =some _)));have K7:=hid (Ad.out _ hM);have B7:=hid (fJ.same (hM.keeps.keep mb ⟨fJ.lt,Ac⟩));have NJ:w6.heap.size<=W7.heap.size:=hM.size
        have R0:Hid (W7.ownsRow V.heap.size 37 4 (.slice V0 (j+1) We) (j+1) (aN (P.take (j+1)))):=hid (by
         have:=Q0.1;rw[HQS.out,fy]
         simpa[aN]using this)
        have R1:Hid (W7.ownsRow V.heap.size 5 1 (.slice Rm (j+1) Rn) (j+1) (((List.range (j+1)).map (lb P)).map eN)):=hid (by
         have:=Q1.1;rw[HQL.out, <-HXO.out]
         exact this)
        clear hM hW hH HC f4 s0 s1 s2 s3 rO vv OK Ac xn Ad eW fJ S6 Y7 VY IM Q0 Q1 yF kA L1 L2;obtain⟨p0,p1,p2,p3,p4,p5,p6⟩:=B7.seven;have z4:=B7.frozen 4;go_wp2;go_roundw;case rel=>
         have kg:ae (· ≠mb) W7 (W7.setCell ⟨mb,4,none⟩ (.slice V0 (j+1) We)):=(ae.refl _ _).setCell (p:=⟨mb,4,none⟩) (fun h=>h rfl) _;refine⟨j+1,_,by omega,by go_num,B7.set 4 _,?_,?_,K7.tr (kg.mono fun x hx=>hx.2)⟩
         ·exact aS R0 kg fun x h1 _ e=>by omega
         ·exact aS R1 kg fun x h1 _ e=>by omega
        case measure=>simp[intOf];omega
       ·obtain rfl:j=K:=by omega
        clear hlt hj;have lY:¬ ((j:Int)<j):=by omega
        have hkP:P.take j=P:=by rw[Fm.out];exact List.take_length
        rw[hkP]at Gn;obtain⟨ca,cc,rfl⟩:=ownsRow_form Gn;obtain⟨oa,oc,rfl⟩:=ownsRow_form HO;have hbase:w.heap.size<=w2.heap.size:=X2.size;have agT:w2.heap.size<=V.heap.size:=XV.size;have XX:Hid (aa w wo):=hid ((X2.trans (XV.mono hbase)).trans (HX.mono fun x (hx:x<w.heap.size)=>⟨by omega,by have:=Yd.out;omega⟩:ae (· <w.heap.size) V wo).below);have QD:((List.range j).map (lb P)).length=j:=by simp
        have CK:=hid (Qz (fun x=>(Value.slice ca j cc).ownBlock≠some x/\(Value.slice oa j oc).ownBlock≠some x) w2.heap.size mb w2.heap.size F (.slice pa k pc) (.slice ca j cc) (.slice oa j oc) ps ((List.range j).map (lb P))
         ⟨pD,fun x hx=>by
          have h5:=(PT.wV x).1 (List.all_eq_true.1 mf x hx)
          exact⟨(fk _).1 h5.1,SM x hx,h5.2.1,h5.2.2⟩⟩ wo
         (fun x hx=>⟨fun e=>by have:=(Gn.lt x e).2;omega,fun e=>by have:=(HO.lt x e).2;omega⟩)
         ⟨_,_,_,_,_,_, {blk:=HB.out,map:=MS.keeps HX ⟨MS.lt,by have:=Yd.out;omega⟩,fm:=⟨fun e=>by have:=(Gn.lt mb e).1;omega,fun e=>by have:=(HO.lt mb e).1;omega⟩,fo:=⟨fun e=>by have:=(Gn.lt _ e).1;have:=Yd.out;omega,fun e=>by have:=(HO.lt _ e).1;have:=Yd.out;omega⟩,bm:=by have:=Yd.out;omega,bo:=aD _,st:=gV.nil _ _ _ _,Rq:=fun i u r hu=>by simp at hu,ud:=gV.nil _ _ _ _,MI:=fun i u r hu=>by simp at hu,tE:=gV.nil _ _ _ _,MJ:=fun i u r hu=>by simp at hu,far:=.inl rfl}⟩ hF4 (by rw[QD];exact Oe)
         (fun c hc=>by obtain⟨i,hi,rfl⟩:=List.mem_map.1 hc;exact YP i (by rw[<-Fm.out];exact List.mem_range.1 hi))
         (fun W hW=>dP (e:=5) (base:=V.heap.size) (au HO hW fun x hx=>⟨(HO.lt x hx).2,.inr fun h=>h.2 hx⟩) QD.symm)
         (fun W hW=>HP.below (XX.trans (hW.mono hbase))) (fun W hW=>HT W (XX.trans (hW.mono hbase))))
        have HST:Hid (wS ps ((List.range j).map (lb P)) F=kO ps F):=hid (TS (by rw[QD,Fm.out,uF.out]) fun i hi=>by
         rw[QD]at hi
         rw[cq,bH,List.getElem?_range hi, <-uF.out];rfl)
        have B5:=hid ((B2.below XV (by have:=B2.lt;exact this)).keeps HX ⟨by have:=B2.lt;omega,by have:=B2.lt;have:=Yd.out;omega⟩);clear hkP QD CL CS CM;go_wp2_with fail
        refine CK.mono ?_;rintro e w9 ⟨Ye,hq⟩;have B9:=hid (B5.keeps Ye ⟨B5.lt,.inl B2.lt⟩);have K9:=hid Ye;have X9:Hid (aa w w9):=hid (XX.trans (Ye.mono fun x (hx:x<w.heap.size)=>⟨aw hx XX.size,.inl (by omega)⟩:ae (· <w.heap.size) wo w9).below);clear Ye;obtain⟨⟨k0,k1,k2⟩,z0,z1,z2⟩:=B9.three;rcases hq with⟨st,hst,rfl,hM⟩ | ⟨hno,rfl⟩
        ·obtain⟨sv9,nv9,kv9,us9,ns9,ks9,M⟩:=hM
         have Rx:=M.ud.1;have D9:=M.tE.1;obtain⟨n9,hn9⟩:=ah ((st.2.map fun r=>r.map Int.ofNat).length);obtain⟨k9,Ye⟩:=ah st.1.length;rw[<-hn9]at Rx;rw[<-Ye]at D9;obtain⟨na,nc,rfl⟩:=ownsRow_form Rx;obtain⟨ma,mc,rfl⟩:=ownsRow_form D9;have M9:=hid M;obtain⟨y0,y1,y2,y3,y4,y5,y6⟩:=M.blk.seven;have HPZ:=hid (QC (f:=F) pD mf hF4 (by rw[<-HST.out];exact hst));clear M hst Rx D9 hn9 Ye;go_wp2;refine aT ?_;intro W9 eO;have E9:Hid (aq W9 w.heap.size #[.slice ca j cc,.slice na n9 nc,.slice ma k9 mc] 73/\ae (· ≠w.heap.size) w9 W9):=by rw[eO];exact hid ⟨B9.vt,((((ae.refl _ _).setCell (p:=⟨w.heap.size,0,none⟩) (fun h=>h rfl) _).setCell (p:=⟨w.heap.size,1,none⟩) (fun h=>h rfl) _).setCell (p:=⟨w.heap.size,2,none⟩) (fun h=>h rfl) _)⟩
         clear eO z0 z1 z2 k0 k1 k2 y0 y1 y2 y3 y4 y5 y6;obtain⟨⟨m0,m1,m2⟩,_⟩:=E9.1.three;refine bodyPost_ret (v:=.tuple #[.agg #[.slice ca j cc,.slice na n9 nc,.slice ma k9 mc],.int .i64 0]) (by simp[results,Tryz.results44,go_sem,m0,m1,m2]) rfl ?_;rw[HPZ.out];have hw2:w.heap.size<w2.heap.size:=B2.lt;refine⟨_,rfl,⟨_,_,_,rfl,?_,?_,?_⟩,X9.trans (E9.2.mono fun x (hx:x<w.heap.size)=>Nat.ne_of_lt hx:ae (· <w.heap.size) w9 W9).below⟩
         ·show W9.ownsRow w.heap.size 37 4 _ (partsOf (ct ps)).length _
          rw[<-uF.out, <-Fm.out];refine aG (base:=V.heap.size) ?_ (by omega);refine au (au Gn K9 fun x hx=>⟨(Gn.lt x hx).2,.inr fun h=>h.1 hx⟩) E9.2 fun x hx=>by have:=(Gn.lt x hx).1;show x≠w.heap.size;omega
         ·have h5:bI w2.heap.size w9 (.slice na n9 nc) (st.2.map fun r=>r.map Int.ofNat):=Lj.own ⟨_,M9.ud,M9.MI⟩
          exact(h5.keeps E9.2 fun x h1 _=>by show x≠w.heap.size;omega).base hbase
         ·have h5:bI w2.heap.size w9 (.slice ma k9 mc) (st.1.map (dG ps)):=Lj.own ⟨_,by rw[bp];exact M9.tE,M9.MJ⟩
          exact(h5.keeps E9.2 fun x h1 _=>by show x≠w.heap.size;omega).base hbase
        ·have HPZ:=hid (QB (f:=F) pD mf hF4 (by rw[<-HST.out];exact hno))
         clear hno;go_wp2;refine aT ?_;intro W9 eO;have E9:Hid (aq W9 w.heap.size #[.slice none 0 0,.slice none 0 0,.slice none 0 0] 73/\aa w W9):=by rw[eO];exact hid ⟨B9.vt,eC X9 (aD _)⟩
         clear eO z0 z1 z2 k0 k1 k2;obtain⟨⟨m0,m1,m2⟩,_⟩:=E9.1.three;refine bodyPost_ret (v:=.tuple #[.agg #[.slice none 0 0,.slice none 0 0,.slice none 0 0],.int .i64 181]) (by simp[results,Tryz.results44,go_sem,m0,m1,m2]) rfl (fin W9 181 HPZ E9.1 E9.2)
end
section
open Go Go.RowKit Go.Shelf Go.Maps
structure Ps (ps:List PT):Prop where
 len:ps.length<=64
 ok:∀ x∈ps,Nt x.nf/\I8 x.nf/\0<=x.mark/\x.mark<=255
theorem QE {P:List PT} (h:Ps P) {f:Int} {d:DF} {code:Int} (he:di P f=(d,code)) {n0 n1 n2:Nat} (h0:n0=d.cl.length) (h1:n1=d.nx.length) (h2:n2=d.mr.length) (W:World) (u:Value) (hu:jG W u P) (hT:∀ V,aa W V->mB V): ag 44 #[u,.int .i64 f] W (wR n0 n1 n2 code d W):=(LS u P f W hu (fun x hx=>(h.ok x hx).2.1) hT).mono fun e w' ⟨r,hr,hd,hx⟩=>by
 rw[he]at hr hd;subst h0 h1 h2;obtain⟨a0,c0,a1,c1,a2,c2,rfl⟩:=hd.form;exact⟨a0,c0,a1,c1,a2,c2,hr,hd,hx⟩
def T1 (l:List (Nat×Nat×Nat)) (OP:Bool):List PT:=TG [(l,OP,0)]
end
section
open Go Go.RowKit
theorem wX {a b d:DF} {op f g:Int} (h:bM a b op f=(d,0)) (h0:0<=g) (h1:g<=4000):bM a b op g=if(d.nx.length:Int)<=g then(d,0)else(Gq,181):=by
 obtain⟨n,rfl⟩:∃ n:Nat,f=n:=⟨f.toNat,by
  unfold bM at h;split at h
  ·cases (Prod.ext_iff.1 h).2
  ·split at h
   ·cases (Prod.ext_iff.1 h).2
   ·split at h
    ·cases (Prod.ext_iff.1 h).2
    ·omega⟩
 obtain⟨m,rfl⟩:∃ m:Nat,g=m:=⟨g.toNat,by omega⟩;obtain⟨ra,rb,o1,o4,n1,n4,hd⟩:=Ey rfl h;have ha:=(aP a).1 ra;have hb:=(aP b).1 rb;have rd:=vq ha hb n1 n4 hd;have hle:d.nx.length<=n:=(wP ha hb n1 (aD n) hd hd).2;unfold bM;rw[if_neg (by rw[ra,rb];simp),if_neg (by omega),if_neg (by omega)];by_cases hc:(d.nx.length:Int)<=m
 ·rw[if_pos hc,if_neg (by have:=rd.pos;omega),Int.toNat_natCast]
  obtain⟨st,e1,rfl⟩:=pQ hd;have I:=qF ha hb n1 e1;have hl:st.1.length<=m:=by
   have h5:((⟨partsOf (a.cl++b.cl),st.2.map fun r=>r.map Int.ofNat,st.1.map (eB a b op)⟩:DF).nx.length:Int)<=m:=hc;have h6:(st.2.map fun (r:List Nat)=>r.map Int.ofNat).length<=m:=by exact_mod_cast h5
   rw[bp]at h6;have:=I.len;have:=I.le;omega
  have h7:=og e1 hl;have h8:dQ m (l6 a b) (partsOf (a.cl++b.cl)).length (0,0) m=some st:=by
   rcases Nat.le_total n m with h9 | h9
   ·exact jw h7 I.le m h9
   ·rcases h3:dQ m (l6 a b) (partsOf (a.cl++b.cl)).length (0,0) m with _ | st2
    ·rw[nK h3 n h9]at h7
     cases h7
    ·have m1:1<=m:=by have:=rd.pos;omega
     have J:=qF ha hb m1 h3;rw[jw h3 J.le n h9]at h7;exact h7
  unfold fT;rw[h8];rfl
 ·rw[if_neg hc]
  by_cases hz:(m:Int)=0
  ·rw[if_pos hz]
  ·rw[if_neg hz,Int.toNat_natCast]
   cases e:fT a b op m with
   | none=>rfl
   | some d'=>
    have h5:=wP ha hb (f:=n) (f':=m) (by omega) (by omega) hd e;have h6:=h5.2;have h7:=h5.1;subst h7;omega
def kr (x y:List PT) (op f:Int):Option (Option (List Nat)):=
 if(di x f).2=0/\(di y f).2=0/\(bM (di x f).1 (di y f).1 op f).2=0 then some (dA (bM (di x f).1 (di y f).1 op f).1)else none
def fZ (x y:List PT) (op:Int):Nat:=max (max (di x 4000).1.nx.length (di y 4000).1.nx.length) (bM (di x 4000).1 (di y 4000).1 op 4000).1.nx.length
theorem Jo {ps:List PT} {f:Int} (h:(di ps f).2=0):(di ps f).1.mr.length=(di ps f).1.nx.length/\((di ps f).1.nx.length:Int)<=f/\1<=(di ps f).1.nx.length:=by
 have rt:=bO (ps:=ps) (d:=(di ps f).1) (Prod.ext rfl h);obtain⟨_,_,h0,h1,st,e1,e2⟩:=sB h;obtain⟨_,h3,_⟩:=uI e1;refine⟨rt.mr,?_,rt.pos⟩;have h4:=rt.mr;have h5:(di ps f).1.mr.length=st.1.length:=by rw[e2];exact bp ..
 omega
theorem qY {x y:List PT} {op f:Int} {a:Option (List Nat)} (h:kr x y op f=some a):(fZ x y op:Int)<=f/\1<=fZ x y op/\∀ g:Int,0<=g->g<=4000->kr x y op g=if(fZ x y op:Int)<=g then some a else none:=by
 unfold kr at h;split at h
 ·rename_i hk
  obtain⟨k1,k2,k3⟩:=hk;cases h;obtain⟨_,_,f0,f1,_⟩:=sB k1;obtain⟨x1,x2,x3⟩:=Jo k1;obtain⟨y1,y2,y3⟩:=Jo k2;have kx:∀ g:Int,0<=g->g<=4000->di x g=if((di x f).1.nx.length:Int)<=g then((di x f).1,0)else(⟨[],[],[]⟩,181):=fun g h0 h1=>by rw[oh k1 h0 h1,x1]
  have ky:∀ g:Int,0<=g->g<=4000->di y g=if((di y f).1.nx.length:Int)<=g then((di y f).1,0)else(⟨[],[],[]⟩,181):=fun g h0 h1=>by rw[oh k2 h0 h1,y1]
  have kz:∀ g:Int,0<=g->g<=4000->bM (di x f).1 (di y f).1 op g=if((bM (di x f).1 (di y f).1 op f).1.nx.length:Int)<=g then((bM (di x f).1 (di y f).1 op f).1,0)else(Gq,181):=fun g h0 h1=>wX (Prod.ext rfl k3) h0 h1
  have hz:((bM (di x f).1 (di y f).1 op f).1.nx.length:Int)<=f:=by
   have h5:=kz f f0 f1;by_cases hc:((bM (di x f).1 (di y f).1 op f).1.nx.length:Int)<=f
   ·exact hc
   ·rw[if_neg hc]at h5
    have h6:=congrArg Prod.snd h5;rw[k3]at h6;cases h6
  have hl:fZ x y op=max (max (di x f).1.nx.length (di y f).1.nx.length) (bM (di x f).1 (di y f).1 op f).1.nx.length:=by unfold fZ;rw[kx 4000 (by decide) (by decide),ky 4000 (by decide) (by decide),if_pos (by omega),if_pos (by omega)];show max (max (di x f).1.nx.length (di y f).1.nx.length) (bM (di x f).1 (di y f).1 op 4000).1.nx.length=_;rw[kz 4000 (by decide) (by decide),if_pos (by omega)]
  rw[hl];refine⟨by omega,by omega,fun g h0 h1=>?_⟩;unfold kr;rw[kx g h0 h1,ky g h0 h1];by_cases hx:((di x f).1.nx.length:Int)<=g
  ·rw[if_pos hx]
   by_cases hy:((di y f).1.nx.length:Int)<=g
   ·rw[if_pos hy]
    show(if(0:Int)=0/\(0:Int)=0/\(bM (di x f).1 (di y f).1 op g).2=0 then some (dA (bM (di x f).1 (di y f).1 op g).1)else none)=_;rw[kz g h0 h1];by_cases hw:((bM (di x f).1 (di y f).1 op f).1.nx.length:Int)<=g
    ·rw[if_pos hw,if_pos ⟨rfl,rfl,rfl⟩,if_pos (by omega)]
    ·rw[if_neg hw,if_neg (fun h=>by cases h.2.2),if_neg (by omega)]
   ·rw[if_neg hy,if_neg (fun h=>by cases h.2.1),if_neg (by omega)]
  ·rw[if_neg hx,if_neg (fun h=>by cases h.1),if_neg (by omega)]
 ·cases h
structure RL where
 bg:Bool
 en:Bool
 tr:RX
def RL.pt (r:RL):PT:=⟨r.tr.nf,r.bg,0⟩
structure RL.Ok (r:RL):Prop where
 fine:r.tr.fine
 size:r.tr.size<=10000
 bZ:r.tr.bZ<=400
def kt (l:List RL) (r:RL) (j:Nat):List RL:=(l.take j).filter fun q=>r.en || !q.en
def cP (l:List RL) (r:RL) (j:Nat) (f:Int):Option (Option (List Nat)):=kr [r.pt] ((kt l r j).map RL.pt) 3 f
def cV (l:List RL) (r:RL) (j:Nat):Nat:=fZ [r.pt] ((kt l r j).map RL.pt) 3
theorem QF (l:List RL) (r:RL) (j um:Nat):let a:=cP l r j 200;let b:=cP l r j (min (um:Int) 200)
  (b.isSome=true->a=b)/\(a.isSome=true->1<=cV l r j/\cV l r j<=200/\cP l r j (cV l r j)=a/\cP l r j ((cV l r j:Int)-1)=none/\b.isSome=decide ((cV l r j:Int)<=min (um:Int) 200)):=by
 refine⟨fun hb=>?_,fun ha=>?_⟩
 ·obtain⟨x,hx⟩:=Option.isSome_iff_exists.1 hb
  obtain⟨h1,h2,h3⟩:=qY hx;have h4:=h3 200 (by decide) (by decide);rw[if_pos (by omega)]at h4;exact h4.trans hx.symm
 ·obtain⟨x,hx⟩:=Option.isSome_iff_exists.1 ha
  obtain⟨h1,h2,h3⟩:=qY hx;have e1:(cV l r j:Int)<=200:=h1;have e2:1<=cV l r j:=h2;refine⟨e2,by omega,?_,?_,?_⟩
  ·refine(h3 _ (by omega) (by omega)).trans ?_
   rw[if_pos (show(fZ [r.pt] ((kt l r j).map RL.pt) 3:Int)<=(cV l r j:Int) from Int.le_refl _)];exact hx.symm
  ·refine(h3 _ (by omega) (by omega)).trans ?_
   rw[if_neg (show ¬ (fZ [r.pt] ((kt l r j).map RL.pt) 3:Int)<=(cV l r j:Int)-1 from fun h=>by have h9:(cV l r j:Int)<=(cV l r j:Int)-1:=h;omega)]
  ·rw[show cP l r j (min (um:Int) 200)=_ from h3 (min (um:Int) 200) (by omega) (by omega)]
   by_cases hc:(cV l r j:Int)<=min (um:Int) 200
   ·rw[if_pos (show(fZ [r.pt] ((kt l r j).map RL.pt) 3:Int)<=_ from hc),decide_eq_true hc];rfl
   ·rw[if_neg (show ¬ (fZ [r.pt] ((kt l r j).map RL.pt) 3:Int)<=_ from hc),decide_eq_false hc];rfl
def ui (x:List (List (Nat×Nat×Nat)×Nat)):List RL:=((x.take 5).filter fun y=>decide ((fI y.1).size<=30)).map fun y=>⟨y.2%4==3,y.2%5==4,fI y.1⟩
theorem TT (x:List (List (Nat×Nat×Nat)×Nat)):(ui x).length<=5/\∀ r∈ui x,r.Ok:=by
 refine⟨?_,fun r hr=>?_⟩
 ·unfold ui
  rw[bp];refine Nat.le_trans (List.length_filter_le _ _) ?_;rw[List.length_take];omega
 ·obtain⟨y,hy,rfl⟩:=List.mem_map.1 hr
  have h:=vS y.1;exact⟨h.fine,by show(fI y.1).size<=10000;have:=h.size;omega,h.bZ⟩
end
section
open Go Go.RowKit Go.Shelf Go.Maps
def zA (w:World) (v:Value) (l:List (List (Nat×Nat×Nat)×Nat)):Prop:=(∃ p c,v=.slice p 0 c/\l=[])\/
 ∃ b off c,v=.slice (some ⟨b,off,none⟩) l.length c/\b<w.heap.size/\l.length<=c/\l≠[]/\∀ (i:Nat) (s:List (Nat×Nat×Nat)×Nat),l[i]? =some s->s.1.length<=1000000000000000/\s.2<256/\∃ u,iC w u s.1/\w.cell? ⟨b,off+i*2,none⟩=some u/\w.cell? ⟨b,off+i*2+1,none⟩=some (.int .u8 s.2)
theorem zA.below {w w':World} {v:Value} {l:List (List (Nat×Nat×Nat)×Nat)} (h:zA w v l) (hk:aa w w'):zA w' v l:=by
 rcases h with h | ⟨b,off,c,hv,hb,hc,hl,h⟩
 ·exact .inl h
 ·have hcell:∀ j,w'.cell? ⟨b,j,none⟩=w.cell? ⟨b,j,none⟩:=fun j=>(ae.ai hk fun _ h=>h:ae (· <w.heap.size) w w').cell (p:=⟨b,j,none⟩) hb
  refine .inr ⟨b,off,c,hv,aw hb hk.size,hc,hl,fun i s hi=>?_⟩;rw[hcell,hcell];obtain⟨h1,h2,u,h3,h4⟩:=h i s hi;exact⟨h1,h2,u,h3.below hk,h4⟩
end
section
open Go Go.ChangeShapes Go.WideShapes Go.ChangeAt Go.RowKit Go.Deep
section
variable {H:Type} {enc:TypeId×Value→H} {W:World}
theorem QG {r:Go.Reach} {v:Value} {d:DataW H} {p:List MemPlace} {b0:Nat} (ry:Value.okWide Tryz.prog W r b0 22 v) (h:DataW.Trod enc Tryz.prog W 0 (fun _=>true) true 22 v d p) (hz:∀ m∈d.weights Tryz.prog 22,m<=reachBytes): ∃ l:List (List (Nat×Nat×Nat)×Nat),zA W v l/\l.length<=1000000000000000:=by
 have hb8:1<=Tryz.prog.bytesOf 64:=by
  have:Tryz.prog.bytesOf 64=32:=by kernel_rfl
  omega
 obtain⟨a,len,cap,rfl⟩:=okWide_slice Tryz.underlying22 ry;obtain⟨fuel,hf⟩:=h;have Km:DataW.trod enc Tryz.prog W 0 (fun _=>true) true fuel 22 [.slice a len cap]=some (d,p):=hf;have hbd:=qV Tryz.underlying22 hb8 Km hz;rcases open_slice Tryz.underlying22 Km with⟨hcs,_⟩ | ⟨a',len',cap',m,n,D,Pl,hcs,_,hl,hm,NY,hd,hi⟩
 ·have:Value.slice a len cap=.slice none 0 0:=by simpa using hcs
  cases this
  exact⟨[],.inl ⟨none,0,rfl,rfl⟩,by simp⟩
 ·have:Value.slice a len cap=.slice (some a') len' cap':=by simpa using hcs
  cases this
  rcases Nat.eq_zero_or_pos len with h1 | h1
  ·subst h1
   exact⟨[],.inl ⟨some a',cap,rfl,rfl⟩,by simp⟩
  obtain⟨hs,hb⟩:=Ge Tryz.underlying22 ry;obtain⟨b,off,spot⟩:=a';have hs':spot=none:=hs;subst hs';have hc:Tryz.prog.cellsOf 64=2:=by kernel_rfl
  rw[hc]at hi;rw[if_pos rfl]at NY;have hd1:d=.slice ((List.range len).map D) ((List.range (m-len)).map fun j=>D (len+j)):=congrArg Prod.fst hd;have hD:∀ i,i<len->∀ w∈(D i).weights Tryz.prog 64,w<=reachBytes:=fun i iR w hw=>by
   refine hz w ?_;rw[hd1];simp only[DataW.weights,Tryz.underlying22,List.mem_cons,List.mem_append];exact .inr (.inl (oM (List.mem_map.2 ⟨i,List.mem_range.2 iR,rfl⟩) w hw))
  obtain⟨L,hL⟩:=choose_lt (α:=List (Nat×Nat×Nat)×Nat) (p:=fun i s=>s.1.length<=1000000000000000/\s.2<256/\∃ u,iC W u s.1/\W.cell? ⟨b,off+i*2,none⟩=some u/\W.cell? ⟨b,off+i*2+1,none⟩=some (.int .u8 s.2)) (n:=len) (fun i iR=>by
   obtain⟨cs',h1,h2⟩:=hi i (by omega);obtain⟨_,Ef,hat⟩:=World.cells?_some h1;match cs',Ef with
   | [c0,c1],_=>
   obtain⟨y0,y1,k,hy,_,t0,t1⟩:=trod_struct2 Tryz.underlying64 h2
   have hz0:∀ m∈y0.1.weights Tryz.prog 62,m<=reachBytes:=fun m hm=>hD i iR m (by
    rw[show D i=_ from congrArg Prod.fst hy];simp only[DataW.weights,Tryz.underlying64]
    exact DataW.weights_mem_each (j:=0) (ds:=[y0.1,y1.1]) rfl rfl m hm)
   obtain⟨st,s0,sl⟩:=Eu (show DataW.trod enc Tryz.prog W 0 (fun _=>true) true k 62 [c0]=some y0 from t0) hz0;obtain⟨n2,rfl,q2⟩:=qW Tryz.underlying5 (show DataW.trod enc Tryz.prog W 0 (fun _=>true) true k 5 [c1]=some y1 from t1);have g0:=hat 0 (by decide);have g1:=hat 1 (by decide);rw[nr,nr]at g0 g1
   exact⟨(st,n2),sl,q2,c0,s0,g0,g1⟩)
  refine⟨(List.range len).map L,.inr ⟨b,off,cap,by simp,hb,by simpa using hl,?_,fun i s hx=>?_⟩,by simpa using hbd⟩
  ·intro e
   have:=congrArg List.length e;simp at this;omega
  ·simp only[bH,Option.map_eq_some_iff,MT]at hx
   obtain⟨k,⟨hk,rfl⟩,rfl⟩:=hx;simp at hk ⊢;exact hL i hk
end
end
section
open Go
theorem LU {P:Program} {f:FuncId} {fn:Func} {s:ChangeSpec} {c:OpenClaim} (k1:(c.wf (OpenSpec.ofChange s))=true) (k2:(laidOutB P)=true) (k3:(mapsRowed P)=true) (k4:(fn.params.all (P.readableRec ·))=true) (k5:(namedTie P c.named s.vars)=true) (k6:(c.stops== [])=true) (k7:(P.stops== [])=true) (k8:(c.knobs== [])=true) (k9:(P.stopKnobs== [])=true) (k10:(c.inPlace==P.inPlace f)=true) (k11:(c.unfollowed==P.unfollowed f)=true) (k12:(c.recurses==P.recurses f)=true) (k13:(c.named==P.varsNamed f)=true) (k14:(c.maps==(fn.params.toList++s.plain.varTypes P).any (P.mapsRec ·))=true) (k15:(c.ifaces==(fn.params.toList++s.plain.varTypes P).any (P.ifacesRec ·))=true) (k16:(c.mapsOut==P.mapsAmong fn.resultTypes.toList)=true) (k17:(c.loops==(fn.params.toList++s.plain.varTypes P).any (P.loopsFrom ·))=true) (agV:(c.wideKeys==(fn.params.toList++s.plain.varTypes P++fn.resultTypes.toList).any (P.wideKeysFrom ·))=true) (k18:(s.vars.all (P.varReadable ·))=true) (k19:(fn.resultTypes.all (fun t=>P.readableRec t&&decide (t<P.types.size)))=true) (k20:(c.ifacesOut==fn.resultTypes.toList.any (P.ifacesRec ·))=true) (k21:(c.loopsOut==fn.resultTypes.toList.any (P.loopsFrom ·))=true) (k22:(c.plainKeys==P.plainKeys)=true) (k23:c.shortTexts.isNone=true) (agW:P.stopsHeard=true) (k24:P.mayEnter=true) (agX:(c.lifted==P.liftsFinal)=true) (agY:(P.make==some c.make)=true) (k25:(c.kinds==(if c.domain.isEmpty then []else fn.params.toList.map fun t=>match P.underlying t with | some (.int k)=>some k | _=>none))=true) (k26:(c.pinned==c.pinnedBy)=true) (k27:(c.veiled==(fn.params.toList++s.plain.varTypes P++fn.resultTypes.toList).any (P.veiledRec ·))=true) (k28:(c.veiledFits P fn.params.toList (fn.params.toList++s.plain.varTypes P++fn.resultTypes.toList))=true):joinedFacts P f fn s c=true:=by unfold joinedFacts;simp only[Bool.and_eq_true];exact⟨⟨⟨⟨⟨⟨⟨⟨⟨⟨⟨⟨⟨⟨⟨⟨⟨⟨⟨⟨⟨⟨⟨⟨⟨⟨⟨⟨⟨⟨⟨k1,k2⟩,k3⟩,k4⟩,k5⟩,k6⟩,k7⟩,k8⟩,k9⟩,k10⟩,k11⟩,k12⟩,k13⟩,k14⟩,k15⟩,k16⟩,k17⟩,agV⟩,k18⟩,k19⟩,k20⟩,k21⟩,k22⟩,k23⟩,agW⟩,k24⟩,agX⟩,agY⟩,k25⟩,k26⟩,k27⟩,k28⟩
theorem LV:(Rows.includeFuelRow.wf (OpenSpec.ofChange Rows.includeFuelSpec))=true:=by kernel_rfl
theorem LX:(laidOutB Tryz.prog)=true:=by kernel_rfl
theorem LY:(mapsRowed Tryz.prog)=true:=by kernel_rfl
theorem Hn:((Rows.includeFuelRow.inPlace==Tryz.prog.inPlace 3))=true:=by kernel_rfl
theorem Ho:((Rows.includeFuelRow.unfollowed==Tryz.prog.unfollowed 3))=true:=by kernel_rfl
theorem Hp:((Rows.includeFuelRow.recurses==Tryz.prog.recurses 3))=true:=by kernel_rfl
theorem Hq:((Rows.includeFuelRow.named==Tryz.prog.varsNamed 3))=true:=by kernel_rfl
theorem EB:(Tryz.prog.stopsHeard)=true:=by kernel_rfl
theorem Hr:(Tryz.prog.mayEnter)=true:=by kernel_rfl
theorem EC:((Rows.includeFuelRow.lifted==Tryz.prog.liftsFinal))=true:=by kernel_rfl
theorem ED:((Tryz.prog.make==some Rows.includeFuelRow.make))=true:=by kernel_rfl
theorem ye:joinedFacts Tryz.prog 3 Tryz.f3 Rows.includeFuelSpec Rows.includeFuelRow=true:=LU LV LX LY (by kernel_rfl) (by kernel_rfl) (by kernel_rfl) (by kernel_rfl) (by kernel_rfl) (by kernel_rfl) Hn Ho Hp Hq (by kernel_rfl) (by kernel_rfl) (by kernel_rfl) (by kernel_rfl) (by kernel_rfl) (by kernel_rfl) (by kernel_rfl) (by kernel_rfl) (by kernel_rfl) (by kernel_rfl) (by kernel_rfl) EB Hr EC ED (by kernel_rfl) (by kernel_rfl) (by kernel_rfl) (by kernel_rfl)
end
section
open Go Go.RowKit
mutual
def RX.gg:RX->Nat
 | .nd k _ _ _ l=>(if k=6 then 1 else 0)+RX.dm l
def RX.dm:List RX->Nat
 | []=>0
 | t::l=>t.gg+RX.dm l
end
theorem fB (a b:List RX):RX.dm (a++b)=RX.dm a+RX.dm b:=by
 induction a with
 | nil=>simp[RX.dm]
 | cons x l ih=>rw[List.cons_append,RX.dm,RX.dm,ih];omega
theorem LZ (t:RX):RX.dm t.subs<=t.gg:=by cases t;rw[RX.gg,RX.subs];omega
theorem wY (k:Nat) (x:RX):RX.dm (dO k x)<=x.gg:=by
 unfold dO;split
 ·exact LZ x
 ·split
  ·exact Nat.zero_le _
  ·simp[RX.dm]
theorem Bf {k:Nat} (hk:k≠6) (l:List RX):(eY k l).gg<=RX.dm l:=by
 unfold eY;split
 ·decide
 ·simp[RX.dm]
 ·rw[RX.gg,if_neg hk,Nat.zero_add];exact aD _
theorem tK {k:Nat} (hk:k≠6) (a b:RX):(bU k a b).gg<=a.gg+b.gg:=by refine Nat.le_trans (Bf hk _) ?_;rw[fB];exact Nat.add_le_add (wY k a) (wY k b)
structure cM.ZA (P:cM):Prop where
 sum:RX.dm P.all<=P.pX
 le:P.pX<=9
theorem cM.ZA.step {P:cM} (h:P.ZA) (s:Nat×Nat×Nat):(P.step s).ZA:=by
 have ab7:∀ x:RX,x.gg=0->RX.dm (P.put 0 x)<=P.pX:=fun x hx=>by
  unfold cM.put;rw[Nat.sub_zero,List.take_length,fB];simp only[RX.dm,hx];exact h.sum
 have ab8:∀ k:Nat,k≠6->1<P.all.length->RX.dm (P.put 2 (bU k P.fH P.last))<=P.pX:=fun k hk hn=>by
  have hs:=h.sum;rw[vQ hn,fB]at hs;have hj:=tK hk P.fH P.last;unfold cM.put;rw[fB];simp only[RX.dm]at hs ⊢;have e1:P.fH=P.all.getD (P.all.length-2) cY:=rfl;have e2:P.last=P.all.getD (P.all.length-1) cY:=rfl;rw[<-e1, <-e2]at hs;omega
 have ab9:∀ x:RX,0<P.all.length->RX.dm (P.put 1 x)+P.last.gg<=P.pX+x.gg:=fun x hn=>by
  have hs:=h.sum;rw[jm hn,fB]at hs;unfold cM.put;rw[fB];simp only[RX.dm]at hs ⊢;have e2:P.last=P.all.getD (P.all.length-1) cY:=rfl;rw[<-e2]at hs;omega
 unfold cM.step;split
 ·exact⟨ab7 _ (by simp[lK,RX.gg,RX.dm]),h.le⟩
 split
 ·exact⟨ab7 _ (by decide),h.le⟩
 split
 ·rename_i hc;exact⟨ab8 3 (by decide) hc.2,h.le⟩
 split
 ·rename_i hc;exact⟨ab8 4 (by decide) hc.2,h.le⟩
 split
 ·rename_i hc
  refine⟨?_,by show P.pX+1<=9;omega⟩;have h1:=ab9 (.nd 6 0 0 0 [P.last]) hc.2.1;have h2:(RX.nd 6 0 0 0 [P.last]).gg=P.last.gg+1:=by rw[RX.gg,if_pos rfl,RX.dm,RX.dm];omega
  show RX.dm (P.put 1 (.nd 6 0 0 0 [P.last]))<=P.pX+1;omega
 split
 ·rename_i hc
  split
  ·refine⟨?_,h.le⟩
   have h1:=ab9 (.nd 5 0 (eo s.2.1) (gY s.2.1 s.2.2) [P.last]) hc.2.1;have h2:(RX.nd 5 0 (eo s.2.1) (gY s.2.1 s.2.2) [P.last]).gg=P.last.gg:=by rw[RX.gg,if_neg (by decide),RX.dm,RX.dm];omega
   show RX.dm (P.put 1 (.nd 5 0 (eo s.2.1) (gY s.2.1 s.2.2) [P.last]))<=P.pX;omega
  ·exact h
 ·exact h
theorem L8 (l:List (Nat×Nat×Nat)):(hZ l).ZA:=by
 have:∀ (l:List (Nat×Nat×Nat)) (P:cM),P.ZA->(l.foldl cM.step P).ZA:=by
  intro l;induction l with
  | nil=>intro P h;exact h
  | cons s l ih=>intro P h;exact ih _ (h.step s)
 exact this l _ ⟨Nat.zero_le _,Nat.zero_le _⟩
theorem wZ:∀ (r:List RX) (x:RX),(r.foldl (bU 4) x).gg<=x.gg+RX.dm r
 | [],x=>by simp[RX.dm]
 | y::r,x=>by
  rw[List.foldl_cons,RX.dm];have h1:=wZ r (bU 4 x y);have h2:=tK (k:=4) (by decide) x y;omega
theorem Hs (l:List (Nat×Nat×Nat)):(fI l).gg<=9:=by
 have h:=L8 (l.take 25);have h1:=h.sum;have h2:=h.le;unfold fI;generalize hZ (l.take 25)=P at*;cases e:P.all with
 | nil=>decide
 | cons x r=>
  rw[e,RX.dm]at h1;show(r.foldl (bU 4) x).gg<=9;have h3:=wZ r x;omega
mutual
def pR:RX->Nat->Nat
 | .nd _ _ _ _ l,m=>jM l m 1
def jM:List RX->Nat->Nat->Nat
 | [],_,s=>s
 | t::l,m,s=>if m<s then s else jM l m (s+pR t (m-s))
end
theorem TU (t:RX):∀ m,(t.size<=m->pR t m=t.size)/\(m<t.size->m<pR t m):=by
 induction t using RX.ind with
 | h k s a b l ih=>
  intro m;have key:∀ l':List RX,(∀ t∈l',t∈l)->∀ s,(s+RX.sizes l'<=m->jM l' m s=s+RX.sizes l')/\(m<s+RX.sizes l'->m<jM l' m s):=by
   intro l';induction l' with
   | nil=>intro _ s;rw[RX.sizes,jM];exact⟨fun _=>rfl,fun h=>h⟩
   | cons t l' Lb=>
    intro hs s;have h1:=ih t (hs t (bL ..));have h2:=Lb fun x hx=>hs x (cd _ hx)
    rw[RX.sizes,jM];by_cases hm:m<s
    ·rw[if_pos hm]
     exact⟨fun h=>by omega,fun _=>hm⟩
    ·rw[if_neg hm]
     by_cases ht:t.size<=m-s
     ·rw[(h1 (m-s)).1 ht]
      have h3:=h2 (s+t.size);exact⟨fun h=>by rw[h3.1 (by omega)];omega,fun h=>h3.2 (by omega)⟩
     ·have h4:=(h1 (m-s)).2 (by omega)
      have h3:=h2 (s+pR t (m-s));exact⟨fun h=>by omega,fun _=>h3.2 (by omega)⟩
  have h0:=key l (fun _ h=>h) 1;rw[RX.size,pR];exact⟨fun h=>by have:=h0.1 (by omega);omega,fun h=>h0.2 (by omega)⟩
theorem Yf (t:RX) (m:Nat):pR t m<=m↔t.size<=m:=by
 have h:=TU t m;constructor
 ·intro hf
  refine Nat.le_of_not_lt fun hl=>?_
  have:=h.2 hl;omega
 ·intro hs
  rw[h.1 hs];exact hs
def nC (l:List RX):Nat:=(l.filter fun x=>x.kind==6).length
theorem nD (a b:List RX):nC (a++b)=nC a+nC b:=by unfold nC;rw[List.filter_append,aQ]
theorem zB (l:List RX) (x:RX):nC (l++ [x])=nC l+if x.kind=6 then 1 else 0:=by
 rw[nD];unfold nC;by_cases h:x.kind=6
 ·rw[if_pos h,List.filter_cons_of_pos (by rw[h];rfl)];rfl
 ·rw[if_neg h,List.filter_cons_of_neg (by simpa using h)];rfl
theorem TW (l:List RX):nC l<=l.length:=List.length_filter_le _ _
theorem QH (t:RX):nC t.pre=t.gg:=by
 induction t using RX.ind with
 | h k s a b l ih=>
  have key:∀ l':List RX,(∀ t∈l',t∈l)->nC (RX.ja l')=RX.dm l':=by
   intro l';induction l' with
   | nil=>intro _;rw[RX.ja,RX.dm];rfl
   | cons t l' Lb=>
    intro hs;rw[RX.ja,RX.dm,nD,ih t (hs t (bL ..)),Lb fun x hx=>hs x (cd _ hx)]
  have h0:=key l fun _ h=>h
  rw[RX.pre,RX.gg];have h1:=nD [RX.nd k s a b l] (RX.ja l);rw[List.singleton_append]at h1;rw[h1,h0];have h2:=zB [] (RX.nd k s a b l);rw[List.nil_append]at h2;rw[h2];show 0+(if k=6 then 1 else 0)+_=_;omega
end
end Go.Proofs.YtpcmhjbehdgdbaaGreatDoor
