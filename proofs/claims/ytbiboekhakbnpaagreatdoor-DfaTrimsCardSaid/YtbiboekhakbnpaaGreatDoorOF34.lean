/- dfa.Of: sets as a source of an append; plain facts. -/
import Derived.Test.YtbiboekhakbnpaaGreatDoorOF33
import Derived.Lib.SlBuf
import Derived.Test.YtbiboekhakbnpaaGreatDoorOF32
set_option maxRecDepth 100000
set_option maxHeartbeats 16000000
open Go.Lib (hid)
namespace Go.Proofs.YtbiboekhakbnpaaGreatDoor
open Go Go.RowKit Go.Shelf Go.Maps
theorem FN (p:Addr) (w:World): CallsD Tryz.prog 80 #[.pointer (some p)] .returning w fun e u' w'=>e=.returned (.tuple #[])/\u'=.returning/\w'=w:=by
 refine callsD_of_wpS Tryz.func80 rfl fun ZO cs hu=>?_
 apply wpS_seq;apply wpS_region;simp[wpOpsS,go_sem,recoverD,hu,Tryz.ntmps80,Exit.thenS];refine wpS_of_wp ?_;go_wp2;cases ZO
 simp_all[bodyPostS,results,Tryz.results80]
theorem rV (p:Addr) (x:Value) (SU:List PanicEntry) (w:World) (hc:w.cell? p=some x) (hz:w.frozen? p=false) (hp:p.block<w.heap.size): CallsD Tryz.prog 80 #[.pointer (some p)] (.panicking ({v:=.iface 146 (.agg #[]),recovered:=false} ::SU)) w fun e u' w'=>
   e=.returned (.tuple #[])/\u'=.panicking ({v:=.iface 146 (.agg #[]),recovered:=true} ::SU)/\∃ w2,Below w.heap.size w w2/\w'=w2.setCell p (.int .i64 181):=by
 refine callsD_of_wpS Tryz.func80 rfl fun ZO cs hu=>?_
 apply wpS_seq;apply wpS_region;simp[wpOpsS,go_sem,recoverD,hu,Tryz.ntmps80,Exit.thenS];refine wpS_of_wp ?_;have hta:∀ w:World,(Instr.typeAssert (.iface 146 (.agg #[])) 20 146 true).run Tryz.prog w=.ok (.tuple #[.agg #[],.bool true]) w:=fun _=>by kernel_rfl
 have hK:aa (· <w.heap.size) w (w.alloc (.cells #[] 146)):=aa.ah ((Ext.refl w).alloc _).below fun _ h=>h
 have hc2:(w.alloc (.cells #[] 146)).cell? p=some x:=(hK.cell hp).trans hc;have hz2:(w.alloc (.cells #[] 146)).frozen? p=false:=(hK.frozen hp).trans hz;go_wp2;refine⟨rfl,_,rfl,.tuple #[],?_,rfl,rfl,_,((Ext.refl w).alloc _).below,rfl⟩;simp[results,Tryz.results80]
theorem Ju (n:Nat) (hn:n<=64) (w:World):Calls Tryz.prog 159 #[.int .u64 1,.int .u64 n] w fun e w'=>e=.returned (.tuple #[.int .u64 0,.int .u64 n])/\w'=w:=by
 have a1:bits .and .u64 (1:Int) 4294967295=1:=by decide
 have a2:bits .and .u64 (n:Int) 4294967295=n:=by
  have h:∀ m:Fin 65,bits .and .u64 ((m.val:Nat):Int) 4294967295=(m.val:Int):=by decide+kernel
  exact h ⟨n,by omega⟩
 go_enter Tryz.func159,Tryz.ntmps159
 have h0:(n:Int)/4294967296=0:=by omega
 have a3:bits .and .u64 (0:Int) 4294967295=0:=by decide
 have a4:IntKind.u64.wrap 0=0:=by decide
 go_wp2;refine bodyPost_ret (v:=.tuple #[.int .u64 0,.int .u64 n]) (by simp[results,Tryz.results159,go_sem]) rfl ⟨rfl,rfl⟩
theorem QL (n:Nat) (hn:n<=64) (w:World):Calls Tryz.prog 120 #[.int .u64 1,.int .u64 n] w fun e w'=>e=.returned (.tuple #[.int .u64 0,.int .u64 n])/\w'=w:=by
 have CM:=hid (Ju n hn w);go_enter Tryz.func120,Tryz.ntmps120;go_wp2_with fail
 refine CM.out.mono ?_;rintro e w2 ⟨rfl,hw⟩;replace hw:=hw.symm;subst hw;go_wp2;refine bodyPost_ret (v:=.tuple #[.int .u64 0,.int .u64 n]) (by simp[results,Tryz.results120,go_sem]) rfl ⟨rfl,rfl⟩
theorem FP (n:Nat):(madeCells (Value.slice none 0 0).cells (n*1)).toList=List.replicate n (.slice none 0 0):=by
 apply List.ext_getElem?;intro i;simp only[madeCells,Value.cells,Nat.mul_one,Array.toList_map,Array.toList_range,List.getElem?_map,List.getElem?_replicate];rcases Nat.lt_or_ge i n with h | h
 ·rw[List.getElem?_range h,if_pos h];simp[Nat.mod_one]
 ·rw[List.getElem?_eq_none (by simpa using h),if_neg (by omega)];rfl
def lX (n m:Nat) (h:Value):List Value:=List.replicate m h++List.replicate (n-m) (.slice none 0 0)
theorem uG {n m:Nat} (h:Value) (hm:m<=n):(lX n m h).length=n:=by unfold lX;simp;omega
theorem Cz {base g n m k:Nat} {h:Value} {W:World} (h1:h.oneCell'=true) (ho:W.ownsRow base 37 1 (.slice (some ⟨g,0,none⟩) n n) n (lX n m h)) (hk:m+k≤n) (a:Addr) (sl sc:Nat) (hs:∀ j,j<k→W.cell? (a.add j)=some h) (PI:k=Nat.min sl (n-m)) (ty:TypeId): ∃ W',(Builtin.copy_ #[29,29] ty #[.slice (some ⟨g,m,none⟩) (n-m) (n-m),.slice (some a) sl sc]).run Tryz.prog W=.ok (.int .i64 k) W'∧W'.ownsRow base 37 1 (.slice (some ⟨g,0,none⟩) n n) n (lX n (m+k) h)∧aa (· ≠g) W W':=by
  rcases ho.2 with⟨e,_⟩ | ⟨g',cap,cur,e,hb,hg,hc,hcm,hsz,dw⟩
  · cases e
  · cases e
    have sW:cur.toList=lX n m h:=by rw[←dw,List.take_of_length_le];simp[hsz]
    refine⟨_,by
                  have:=run_copy_row (P:=Tryz.prog) W 29 29 ty 37 g m (n-m) (n-m) a sl sc cur 37 (List.replicate k h) Tryz.underlying29 (by kernel_rfl) hg (by rw[List.length_replicate];exact PI) (fun j v hj=>by
        rw[List.getElem?_replicate]at hj;split at hj
        · cases hj;exact hs j (by assumption)
        · cases hj) (by rw[List.length_replicate,hsz];omega) (fun v hv=>by rw[List.eq_of_mem_replicate hv];exact h1)
                  rw[List.length_replicate]at this
                  exact this,?_,(aa.refl _ _).setRow (fun h=>h rfl) _⟩
    have aex:(cur.toList.take m++List.replicate k h++cur.toList.drop (m+k))=lX n (m+k) h:=by rw[sW];unfold lX;rw[List.take_left' (by simp),List.replicate_append_replicate];congr 1;rw[List.drop_append,List.drop_eq_nil_of_le (by simp),List.length_replicate,List.nil_append,List.drop_replicate];congr 1;omega
    rw[aex];refine⟨by rw[uG h hk];omega,.inr ⟨g,n,_,rfl,hb,setRow_heap W g cur _ _ _ hg,hc,hcm,by simp[uG h hk],?_⟩⟩;rw[List.take_of_length_le];simp[uG h hk]
theorem Jv {P:Program} {Cl:FuncId->Array Value->World->(Ending->World->Prop)->Prop} {Rd:Nat->FuncId->Array Value->Code->Code->World->(Ending->World->Prop)->Prop} {o:Oper} {a:Act} {W W':World} {post:Value->World->Prop} {v:Value} (d s:Operand) (t1 t2:TypeId) (ho:o.op=.call {callee:=.builtin .copy,args:= #[d,s],argTypes:= #[t1,t2]}) (dv sv:Value) (hd:a.eval d=dv) (hs:a.eval s=sv) (hr:(Builtin.copy_ #[t1,t2] o.type #[dv,sv]).run P W=.ok v W') (h:post v W'):iu Cl Rd post ((execOp a.eval o).run P W):=by unfold execOp;simp only[ho,resolve,invoke,builtin,Sem.run_bind,Sem.run_pure,Result.andThen_ok,List.map_toArray,List.map_cons,List.map_nil,hs,hd,hr];exact h
def QM (g n m:Nat) (h:Value) (A B:World):Prop:=aa (fun x=>x<A.heap.size/\x≠g) A B/\(A.ownsRow g 37 1 (.slice (some ⟨g,0,none⟩) n n) n (lX n m h)->B.ownsRow g 37 1 (.slice (some ⟨g,0,none⟩) n n) n (lX n m h))
theorem QM.trans {g n m:Nat} {h:Value} {A B C:World} (h1:QM g n m h A B) (h2:QM g n m h B C):QM g n m h A C:=⟨h1.1.trans h2.1 fun _ hx=>⟨Nat.lt_of_lt_of_le hx.1 h1.1.size,hx.2⟩,fun a=>h2.2 (h1.2 a)⟩
theorem QM.drew {g n m:Nat} {h:Value} {A:World} :QM g n m h A A.drew:=⟨(aa.refl _ _).drew,fun a=>a⟩
def SV (g n m:Nat) (h v:Value):aO (QM g n m h):=⟨fun u=>u=v,fun _ W=>W.ownsRow g 37 1 (.slice (some ⟨g,0,none⟩) n n) n (lX n m h),v,rfl,fun _ _ _ hm _ h=>hm.2 h⟩
theorem FQ (b gb:Nat) (h:Value) (n:Nat) (hn:n<=64) (w:World) (hc:w.cell? ⟨gb,0,none⟩=some h) (hh:w.ownsRow b 3 1 h 1 [aF (-1)]) (hb:b<=w.heap.size): Calls Tryz.prog 82 #[.slice (some ⟨gb,0,none⟩) 1 1,.int .i64 n] w fun e w'=>∃ u,e=.returned u/\aC b w' u (List.replicate n [-1])/\Below w.heap.size w w':=by
 obtain⟨iL,wW,kQ,kR,kS⟩:=info_parts Tryz.oZ;have CM:=hid (QL n hn);have cv1:IntKind.u64.wrap (n:Int)=n:=by have:=IntWalk.u64_in (n:Int) (by omega);exact this
 have cv2:IntKind.i64.wrap (n:Int)=n:=IntWalk.i64_in _ (by omega);have d1:decide ((n:Int)<0)=false:=decide_eq_false (by omega);have d2:decide ((9223372036854775807:Int)<(n:Int))=false:=decide_eq_false (by omega);have HH:=hid hh;have HCc:=hid hc;have hgb:=World.block_lt_of_cell? _ _ hc;clear hh hc;go_enter Tryz.func82,Tryz.ntmps82;go_wp2_with fail
 refine(CM.out w).mono ?_;rintro e w2 ⟨rfl,hw⟩;replace hw:=hw.symm;subst hw;go_wp2_with (at_make;refine wpList_make_full _ rfl (.tmp 29) (.tmp 29) 29 rfl w.heap.size 37 iL (.slice none 0 0) 1 Tryz.underlying29 wW kQ kR .i64 .i64 _ _ n rfl rfl rfl rfl (by rw[kS];omega) (by unfold maxLen;omega) (Nat.le_refl _) ?_;intro w3 hr hg;refine Hid.out ?_);refine hid ?_;have hs3:w.heap.size<w3.heap.size:=by
  rcases hr.2 with⟨h5,_⟩ | ⟨g,c,cur,h5,_,h6,_⟩
  ·cases h5
  ·cases h5;exact(Array.getElem?_eq_some_iff.1 h6).1
 have hb3:Below w.heap.size w w3:=(aa.aW hg fun x hx=>⟨hx,fun e=>by cases e⟩:aa (· <w.heap.size) w w3).below;rw[FP]at hr;have h1h:h.oneCell'=true:=by obtain⟨a,c,rfl⟩:=ownsRow_form HH.out;rfl
 have hr2:w3.ownsRow w.heap.size 37 1 (.slice (some ⟨w.heap.size,0,none⟩) n n) n (lX n 0 h):=by unfold lX;rw[Nat.sub_zero];exact hr
 have hc3:w3.cell? ⟨gb,0,none⟩=some h:=((aa.ah hb3 fun _ h=>h:aa (· <w.heap.size) w w3).cell (p:=⟨gb,0,none⟩) hgb).trans HCc.out
 obtain⟨w4,OG,ho4,hk4⟩:=Cz (k:=Nat.min 1 n) h1h hr2 (by rw[Nat.zero_add];exact Nat.min_le_right _ _) ⟨gb,0,none⟩ 1 1 (fun j hj=>by
  have Wn:j=0:=by have:=Nat.lt_of_lt_of_le hj (Nat.min_le_left 1 n);omega
  subst Wn
  exact hc3) (by rw[Nat.sub_zero]) 3
 rw[Nat.sub_zero]at OG;rw[Nat.zero_add]at ho4;obtain⟨k0,Ab⟩:∃ z,z=Nat.min 1 n:=⟨_,rfl⟩;rw[<-Ab]at OG ho4;have Vn:k0<=n/\(n=0\/1<=k0):=by rw[Ab];unfold Nat.min;constructor<;>omega
 have HO4:=hid ho4;have X4:Hid (Below w.heap.size w w4):=hid (hb3.trans (hk4.mono fun x hx=>by have h5:x<w.heap.size:=hx;show x≠w.heap.size;omega:aa (· <w.heap.size) w3 w4).below);clear hr hr2 hg hb3 hc3 ho4 hk4 Ab CM;go_wp2_with (at_builtin;refine Lib.wpList_copy_run _ rfl (.tmp 31) (.tmp 32) 29 29 rfl _ _ rfl rfl OG ?_;clear OG);go_loopw [8] (fun mv wr=>∃ m:Nat,m<=n/\(n=0\/1<=m)/\mv=.int .i64 m/\wr.ownsRow w.heap.size 37 1 (.slice (some ⟨w.heap.size,0,none⟩) n n) n (lX n m h)/\Below w.heap.size w wr) (fun mv _=>n-(intOf mv).toNat);case atStart=>exact⟨k0,Vn.1,Vn.2,rfl,HO4.out,X4.out⟩
 case round=>
  obtain⟨m,hm,GY,rfl,ho,hx⟩:=hrel;obtain⟨wo,rfl⟩:∃ wo:World,wo=wr:=⟨_,rfl⟩;have HO:=hid ho;have HX:=hid hx;clear ho hx HO4 X4 Vn;by_cases hlt:m<n
  ·have hmi:(m:Int)<n:=by omega
   have WR:¬ ((n:Int)<m):=by omega
   have rM:(m:Int)<=n:=by omega
   have dml:decide ((m:Int)<=n)=true:=decide_eq_true rM;obtain⟨k,hk⟩:∃ z,z=Nat.min m (n-m):=⟨_,rfl⟩;have vQ:m+k<=n/\1<=k/\k<=m:=by rw[hk];unfold Nat.min;refine⟨?_,?_,?_⟩<;>omega
   have DB:=hid hk;clear hk;go_wp2_with fail
   refine RegQ.aU (QM w.heap.size n (m+k) h) QM.drew (fun _ _ _ h k=>h.trans k) (by kernel_rfl) 8 [0,0,0,6,0,0,48,126,255,511] (fun i=>i==7) (by kernel_rfl) (fun i=>if i=7 then SV w.heap.size n (m+k) h (.int .i64 k)else aO.any _) (fun j W=>(j=7)->W.ownsRow w.heap.size 37 1 (.slice (some ⟨w.heap.size,0,none⟩) n n) n (lX n m h)) (fun _ _ _=>HO.out) ?_;intro C hC hne;have HC:=hid hC;clear hC
   repeat (refine RegQ.ai (fun K hK=>?_);first | (refine RegQ.br rfl ?_;try go_simp;refine hK _ _ ?_;clear hK K) | (refine RegQ.aZ rfl rfl ?_;unfold ar;go_simp;refine hK _ _ ?_;clear hK K))
   refine RegQ.ai (fun K hK=>?_);refine RegQ.bA rfl rfl (SV w.heap.size n (m+k) h (.int .i64 k)) rfl (fun W hW hD hN=>?_) (fun v hv=>?_)
   ·have xG:=hD rfl
    clear hW hN hK K hD
    obtain⟨W',e1,e2,e3⟩:=Cz (k:=k) h1h xG vQ.1 ⟨w.heap.size,0,none⟩ m n (fun j hj=>by
     have:(⟨w.heap.size,0,none⟩:Addr).add j=⟨w.heap.size,j,none⟩:=by simp[Addr.add];omega
     rw[this,xG.cellAt j (by omega)];unfold lX
     rw[List.getElem?_append_left (by rw[List.length_replicate];omega),List.getElem?_replicate,if_pos (by omega)]) DB.out 3
    refine Jv (.tmp 41) (.tmp 44) 29 29 rfl _ _ ?_ ?_ e1 ?_
    ·show Value.slice (if n=m then _ else _) _ _=_
     rw[if_neg (by omega)]
    ·rfl
    ·exact⟨⟨⟨e3.mono fun x hx=>hx.2,fun _=>e2⟩,fun j hj _ _ e=>absurd e hj⟩,rfl,e2⟩
   replace hv:v=_:=hv;subst hv;go_simp;refine hK _ _ ?_;clear hK K
   repeat (refine RegQ.ai (fun K hK=>?_);first | (refine RegQ.br rfl ?_;try go_simp;refine hK _ _ ?_;clear hK K) | (refine RegQ.aZ rfl rfl ?_;unfold ar;go_simp;refine hK _ _ ?_;clear hK K))
   refine RegQ.aY (fun W hW hH=>?_);have ie:=(HC.out W).1 hW;have NR:Hid (W.ownsRow w.heap.size 37 1 (.slice (some ⟨w.heap.size,0,none⟩) n n) n (lX n (m+k) h)):=hid (hH _ (List.mem_of_getElem? (show _=some _ from rfl:_[0]? =some _)));have XR:Hid (Below w.heap.size w W):=hid (HX.out.trans (ie.1.mono fun x hx=>⟨Nat.lt_of_lt_of_le hx HX.out.size,Nat.ne_of_lt hx⟩:aa (· <w.heap.size) wo W).below);clear ie hW hH HC hne HO HX;go_wp2;go_roundw;case rel=>exact⟨m+k,vQ.1,by omega,by go_num,NR.out,XR.out⟩
   case measure=>simp[intOf];omega
  ·obtain rfl:m=n:=by omega
   have WR:¬ ((m:Int)<m):=by omega
   go_wp2;go_ret;refine⟨_,rfl,⟨List.replicate m h,by simp,?_,fun i u l hu hl=>?_⟩,HX.out⟩
   ·have h5:=ax HO.out hb
    unfold lX at h5;rw[Nat.sub_self,List.replicate_zero,List.append_nil]at h5;rw[List.length_replicate];exact h5
   ·rw[List.getElem?_replicate]at hu hl
    split at hu
    ·cases hu
     rw[if_pos (by assumption)]at hl;cases hl;exact ag HH.out HX.out
    ·cases hu
theorem Vo {α:Type} [DecidableEq α] {l:List α} {q:α} (h:q∈l):l.idxOf q<l.length:=List.idxOf_lt_length_of_mem h
theorem Vp {base c x:Nat} {F0:Nat->Prop} (h:x<base\/x=c\/¬F0 x):x<base\/¬ (F0 x/\x≠c):=by
 rcases h with h | h | h
 ·exact .inl h
 ·exact .inr fun h2=>h2.2 h
 ·exact .inr fun h2=>h h2.1
theorem ZP {base c x:Nat} {F0:Nat->Prop} {q:Prop} (h:x<base\/x=c\/¬F0 x):x<base\/¬ ((F0 x/\x≠c)/\q):=(Vp h).imp id fun h h2=>h h2.1
theorem rG (tmps:Array Value) (c0:Nat) (ht:tmps[4]?.getD undef=.pointer (some ⟨c0,0,none⟩)) (R:Ending->World->Prop) (W:World) (hB:ak W c0 #[.int .i64 0] 32) (h:∀ W',aa (fun x=>x<W.heap.size/\x≠c0) W W'->R (.returned (.int .i64 181)) W'): Leaves Tryz.prog Tryz.f45 tmps R [{target:=.fn (.func 80) #[.pointer (some ⟨c0,0,none⟩)],args:= #[]}] (.panicking [{v:=.iface 146 (.agg #[]),recovered:=false}]) W:=by refine leaves_cons (f:=80) (args:= #[.pointer (some ⟨c0,0,none⟩)]) (by simp) (by simp[go_sem]) ?_;refine(rV ⟨c0,0,none⟩ (.int .i64 0) [] W (hB.cell 0) (hB.frozen 0) hB.lt).mono ?_;rintro e u' w'' ⟨rfl,rfl,w2,hk,rfl⟩;have hB2:=hB.below hk hB.lt;have hB3:=hB2.set 0 (.int .i64 181);have h1:=hB3.cell 0;have K:aa (fun x=>x<W.heap.size/\x≠c0) W (w2.setCell ⟨c0,0,none⟩ (.int .i64 181)):=(aa.ah hk fun x hx=>hx.1:aa (fun x=>x<W.heap.size/\x≠c0) W w2).setCell (fun h=>h.2 rfl) _;have h5:=h _ K;obtain⟨W2,hW2⟩:∃ z,z=w2.setCell ⟨c0,0,none⟩ (.int .i64 181):=⟨_,rfl⟩;rw[<-hW2]at h1 h5 ⊢;replace h1:W2.cell? ⟨c0,0,none⟩=some (.int .i64 181):=h1;simp[Leaves,settle,results,Tryz.results45,go_sem,ht,h1];exact h5
theorem Jw (tmps:Array Value) (c0:Nat) (k:Int) (ht:tmps[4]?.getD undef=.pointer (some ⟨c0,0,none⟩)) (R:Ending->World->Prop) (W:World) (hB:ak W c0 #[.int .i64 k] 32) (h:R (.returned (.int .i64 k)) W): Leaves Tryz.prog Tryz.f45 tmps R [{target:=.fn (.func 80) #[.pointer (some ⟨c0,0,none⟩)],args:= #[]}] .returning W:=by refine leaves_cons (f:=80) (args:= #[.pointer (some ⟨c0,0,none⟩)]) (by simp) (by simp[go_sem]) ?_;refine(FN ⟨c0,0,none⟩ W).mono ?_;rintro e u' w'' ⟨rfl,rfl,rfl⟩;have h1:w''.cell? ⟨c0,0,none⟩=some (.int .i64 k):=hB.cell 0;simp[Leaves,settle,results,Tryz.results45,go_sem,ht,h1];exact h
theorem Nz (F0:Nat->Prop) (base mb ob f:Nat) (pv cv lv:Value) (ps:List PT) (ls:List Nat) (ok:Qh ps) (w:World) (hF0:∀ x,w.heap.size<=x->F0 x) (hM:Sn F0 w base mb ob f pv cv ps [] []) (hf:f<=4000) (hls:ls.length<=256) (Pn:∀ c∈ls,c<256) (hL:∀ W,aa (fun x=>x<w.heap.size/\(x<base\/¬F0 x)) w W->bg en W lv ls) (hP:∀ W,Below base w W->dh W pv ps) (hT:∀ W,Below base w W->gO W): Calls Tryz.prog 45 #[.pointer (some ⟨mb,0,none⟩),lv] w fun e w'=>aa (fun x=>x<w.heap.size/\(x<base\/¬F0 x)) w w'/\((∃ st,uE ps ls f=some st/\e=.returned (.int .i64 0)/\Sn (fun _=>True) w' base mb ob f pv cv ps st.1 (st.2.map fun r=>r.map Int.ofNat))\/(uE ps ls f=none/\e=.returned (.int .i64 181))):=by
 obtain⟨iL,wW,kQ,kR,kS⟩:=info_parts Tryz.oZ;obtain⟨iI,GN,pE,pF,pG⟩:=info_parts Tryz.qW;obtain⟨sv,nv,kv,us,ns,ks,M⟩:=hM;obtain⟨pa,pc,rfl⟩:=(hP w (Below.refl _ _)).form;obtain⟨la,lc,rfl⟩:=(hL w (aa.refl _ _)).form;obtain⟨n,Bh⟩:∃ z,z=ps.length:=⟨_,rfl⟩;obtain⟨m,hlm⟩:∃ z,z=ls.length:=⟨_,rfl⟩;rw[<-Bh]at M hP ⊢;rw[<-hlm]at hL hls ⊢;have qx:n<=64:=by rw[Bh];exact ok.1
 have ny:base<w.heap.size:=Nat.lt_of_le_of_lt M.bm M.blk.lt;have rQ:mb<w.heap.size:=M.blk.lt;have MW:=hid M;have DR:=hid Bh;have HLM:=hid hlm;have HL:=hid hL;have HP:=hid hP;have HT:=hid hT;have OK:=hid ok;have HLB:=hid Pn;have HF0:=hid hF0
 have CR:Hid (∀ (b gb:Nat) (h:Value) (W:World),W.cell? ⟨gb,0,none⟩=some h->W.ownsRow b 3 1 h 1 [aF (-1)]->b<=W.heap.size->
  Calls Tryz.prog 82 #[.slice (some ⟨gb,0,none⟩) 1 1,.int .i64 n] W fun e w'=>∃ u,e=.returned u/\aC b w' u (List.replicate n [-1])/\Below W.heap.size W w'):=hid fun b gb h W h1 h2 h3=>FQ b gb h n qx W h1 h2 h3
 have m0:w.cell? ⟨mb,0,none⟩=some (.slice pa n pc):=M.blk.cell 0;clear M Bh hlm hL hP hT ok Pn hF0;have hmf:∀ (fn:Fn) (first cap:Array Value) (w:World),(Instr.makeFunc fn first cap).run Tryz.prog w=.ok (.func fn first cap) w:=fun _ _ _ _=>rfl
 go_enter_defers Tryz.func45,Tryz.ntmps45
 have m1:(((w.alloc (.cells #[.int .i64 0] 32)).alloc (.cells #[.int .i64 (-1)] 3)).alloc (.cells #[.slice (some ⟨w.heap.size+1,0,none⟩) 1 1] 37)).cell? ⟨mb,0,none⟩=some (.slice pa n pc):=
  ((aa.ah ((((Ext.refl w).alloc _).alloc _).alloc _).below fun _ h=>h:aa (· <w.heap.size) w _).cell (p:=⟨mb,0,none⟩) rQ).trans m0
 go_wp2_with fail
 refine(CR.out (w.heap.size+1) (w.heap.size+1+1) (.slice (some ⟨w.heap.size+1,0,none⟩) 1 1) _ (by go_simp) ?_ (by simp)).mono ?_
 ·have h5:((w.alloc (.cells #[.int .i64 0] 32)).alloc (.cells #[.int .i64 (-1)] 3)).ownsRow (w.heap.size+1) 3 1 (.slice (some ⟨w.heap.size+1,0,none⟩) 1 1) 1 [.int .i64 (-1)]:=by
   have h6:=World.alloc_heap_new (w.alloc (.cells #[.int .i64 0] 32)) (.cells #[.int .i64 (-1)] 3);rw[World.size_alloc]at h6;exact⟨rfl,.inr ⟨w.heap.size+1,1, #[.int .i64 (-1)],rfl,Nat.le_refl _,h6,Nat.le_refl _,by unfold maxLen;omega,rfl,rfl⟩⟩
  exact h5.alloc _
 rintro e w3 ⟨u,rfl,ho3,hk3⟩
 have CA:Hid (∃ wA:World,wA.heap.size=w.heap.size+1/\Below w.heap.size w wA/\ak wA w.heap.size #[.int .i64 0] 32/\Below wA.heap.size wA w3):=hid ⟨w.alloc (.cells #[.int .i64 0] 32),World.size_alloc _ _,((Ext.refl w).alloc _).below,ak.new _ _ _,by
  have h5:=(((Ext.refl (w.alloc (.cells #[.int .i64 0] 32))).alloc (.cells #[.int .i64 (-1)] 3)).alloc (.cells #[.slice (some ⟨w.heap.size+1,0,none⟩) 1 1] 37)).below
  exact h5.trans (hk3.mono h5.size)⟩
 have Wy:=hid ho3;clear ho3 hk3 m1 m0 CR;obtain⟨wA,hA1,hA2,hA3,hA4⟩:=CA.out;have DU:=hid hA1;have XA:=hid hA2;have BA:=hid hA3;have X3:=hid hA4;clear hA1 hA2 hA3 hA4 CA;have MA:Hid (Mk (fun x=>F0 x/\x≠w.heap.size) wA base mb ob f (.slice pa n pc) cv ps [] [] sv nv kv us ns ks):=hid ((MW.out.mono fun x hx h=>⟨h,Nat.ne_of_lt hx⟩).below XA.out);have PB:Hid (Below base w wA):=hid (XA.out.mono (Nat.le_of_lt ny));have Vq:Hid (∀ W W',aa (fun x=>x<wA.heap.size/\(x<base\/x=w.heap.size\/¬F0 x)) wA W->aa (fun x=>x<W.heap.size/\x≠w.heap.size) W W'->aa (fun x=>x<w.heap.size/\(x<base\/¬F0 x)) w W'):=hid fun W W' h1 h2=>by
  have h4:=h1.size;have h5:=DU.out;exact((aa.ah XA.out fun x hx=>hx.1:aa (fun x=>x<w.heap.size/\(x<base\/¬F0 x)) w wA).tr (h1.mono fun x hx=>⟨by omega,hx.2.imp id .inr⟩)).tr (h2.mono fun x hx=>⟨by omega,by omega⟩)
 clear MW;go_wp2_with fail
 refine(xF (fun x=>F0 x/\x≠w.heap.size) base mb ob f (.slice pa n pc) cv ps [] [] OK.out wA w3 ⟨_,_,_,_,_,_,MA.out⟩ X3.out (fun x hx=>⟨HF0.out x (by have:=DU.out;omega),by have:=DU.out;omega⟩) u (gh ps) ?_ (py ps) List.nodup_nil (fun p hp=>by cases hp) hf (Nat.zero_le _) (fun W hW=>HP.out W (PB.out.trans hW)) (fun W hW=>HT.out W (PB.out.trans hW))).mono ?_
 ·have h5:=Wy.out
  have h6:gh ps=List.replicate n [-1]:=by unfold gh;rw[List.map_const',DR.out]
  rw[h6,DU.out];exact h5
 rintro e w4 ⟨hk4,hq⟩;rcases hq with⟨h1,_⟩ | ⟨h1,h2,rfl,hM4⟩ | ⟨h1,h2,rfl⟩
 ·cases h1
 ·have KA:Hid (aa (fun x=>x<wA.heap.size/\(x<base\/x=w.heap.size\/¬F0 x)) wA w4):=hid ((aa.ah X3.out fun x hx=>hx.1:aa (fun x=>x<wA.heap.size/\(x<base\/x=w.heap.size\/¬F0 x)) wA w3).tr (hk4.mono fun x hx=>⟨hx.1,Vp hx.2⟩))
  have M4:=hid hM4;have L8:1<=f:=by simp at h2;omega
  clear hk4 hM4 h1 h2 X3 Wy MA;go_wp2;go_loopw [5] (fun iv wr=>∃ (k:Nat) (rows:List (List (List Int))) (vO:List (List Nat)),cQ f (cE ps ls) ls.length (gh ps) k=some (rows,vO)/\k<=rows.length/\iv=.int .i64 k/\Sn (fun x=>F0 x/\x≠w.heap.size) wr base mb ob f (.slice pa n pc) cv ps rows (vO.map fun r=>r.map Int.ofNat)/\aa (fun x=>x<wA.heap.size/\(x<base\/x=w.heap.size\/¬F0 x)) wA wr) (fun iv _=>f-(intOf iv).toNat);case atStart=>exact⟨0,[gh ps],[],rfl,Nat.zero_le _,rfl,M4.out,KA.out⟩
  case round=>
   obtain⟨k,rows,vO,hst,hk,rfl,hM,hK⟩:=hrel;obtain⟨sv1,nv1,kv1,us1,ns1,ks1,M⟩:=hM;obtain⟨wo,rfl⟩:∃ wo:World,wo=wr:=⟨_,rfl⟩;have IS:=hid (Ha L8 hst);obtain⟨L,Vr⟩:∃ z,z=rows.length:=⟨_,rfl⟩;have Vs:=M.st.1;rw[<-Vr]at Vs hk;obtain⟨sa,sc,rfl⟩:=ownsRow_form Vs;have hLf:L<=f:=by rw[Vr];exact(Ha L8 hst).le
   have MO:=hid M;have zO:=hid Vr;have HST:=hid hst;have KO:=hid hK;have m2:wo.cell? ⟨mb,2,none⟩=some (.slice sa L sc):=M.blk.cell 2;clear hst hK M Vr Vs M4 KA;by_cases hlt:k<L
   ·have ed:(k:Int)<L:=by omega
    obtain⟨p,hp⟩:∃ p,rows[k]? =some p:=⟨_,List.getElem?_eq_getElem (by have:=zO.out;omega)⟩;have WT:=hid hp;clear hp;go_wp2;clear m2;go_loopw [6,31] (fun nv2 iv wi=>∃ (j:Nat) (fQ:List (List (List Int))) (qI:List Nat),bY f (cE ps ls p) rows j=some (fQ,qI)/\j<=m/\iv=.int .i64 j/\wi.ownsRow wA.heap.size 3 1 nv2 j (qI.map fun t:Nat=>.int .i64 t)/\Sn (fun x=>(F0 x/\x≠w.heap.size)/\nv2.ownBlock≠some x) wi base mb ob f (.slice pa n pc) cv ps fQ (vO.map fun r=>r.map Int.ofNat)/\aa (fun x=>x<wA.heap.size/\(x<base\/x=w.heap.size\/¬F0 x)) wA wi) (fun _ iv _=>m-(intOf iv).toNat);case atStart=>exact⟨0,rows,[],rfl,Nat.zero_le _,rfl,World.ownsRow_nil _ _ _ _,⟨_,_,_,_,_,_,MO.out.mono fun x _ hx=>⟨hx,fun e=>by cases e⟩⟩,KO.out⟩
    case round=>
     obtain⟨j,fQ,qI,hr2,hj,rfl,PF,hM2,hK2⟩:=hrel;obtain⟨wj,rfl⟩:∃ wj:World,wj=wr:=⟨_,rfl⟩;have RO:=hid (oY (P:=nk ps) IS.out.nodup IS.out.le IS.out.all j (fun _ _=>jH (IS.out.all p (List.mem_of_getElem? WT.out)) _) hr2);have HR2:=hid hr2;have jq:=hid PF;have K2:=hid hK2;have M2:=hid hM2;clear hr2 PF hK2 hM2;by_cases Ac:j<m
     ·have jA:(j:Int)<m:=by omega
      obtain⟨c,hc⟩:∃ c,ls[j]? =some c:=⟨_,List.getElem?_eq_getElem (by have:=HLM.out;omega)⟩;have fP:c<256:=HLB.out c (List.mem_of_getElem? hc);have HG:Hid (cE ps ls p j=bU ps p c):=hid (by unfold cE;rw[List.getD_eq_getElem?_getD,hc];rfl);have PJ:Hid (Below base w wj):=hid (PB.out.trans (K2.out.mono fun x (hx:x<base)=>⟨by have:=DU.out;omega,.inl hx⟩:aa (· <base) wA wj).below);obtain⟨lb,lo,rfl,Pn,fl⟩:=(HL.out wj ((aa.ah XA.out fun x hx=>hx.1:aa (fun x=>x<w.heap.size/\(x<base\/¬F0 x)) w wA).tr (K2.out.mono fun x hx=>⟨by have:=DU.out;omega,hx.2.imp id .inr⟩))).elem hc;replace fl:wj.cell? ⟨lb,lo+j,none⟩=some (.int .u8 c):=fl;obtain⟨sv2,nv3,kv2,us2,ns2,ks2,M⟩:=M2.out;obtain⟨L2,hL2⟩:∃ z,z=fQ.length:=⟨_,rfl⟩;have QN:=M.st.1;rw[<-hL2]at QN;obtain⟨ZI,WN,rfl⟩:=ownsRow_form QN;have als:L<=L2:=by have h5:=RO.out.pre.length_le;have h6:=zO.out;simp only at h5;omega
      have hk2:k<L2:=by omega
      have alu:(0:Int)<=k/\(k:Int)<L2:=by omega
      obtain⟨g,u,rfl,hbg,hgs,hu,fu,hz⟩:=eH QN hk2;have Si:fQ[k]? =some p:=by obtain⟨ys,Gx⟩:=RO.out.pre;replace Gx:rows++ys=fQ:=Gx;rw[<-Gx,List.getElem?_append_left (by have:=zO.out;omega)];exact WT.out
      have hLu:=(M.OQ k u p hu Si).1.own;obtain⟨ua,uc,rfl⟩:=hLu.form;have HLu:=hid hLu;have f0:wj.cell? ⟨mb,0,none⟩=some (.slice pa n pc):=M.blk.cell 0;have f2:wj.cell? ⟨mb,2,none⟩=some (.slice (some ⟨g,0,none⟩) L2 WN):=M.blk.cell 2;clear QN hz hu hc hL2 Si hLu;have QO:wA.heap.size<=wj.heap.size:=K2.out.size;have CS:Hid (∀ (W:World) (v:Value),Below wj.heap.size wj W->aC wj.heap.size W v (bU ps p c)->Calls Tryz.prog 81 #[.pointer (some ⟨mb,0,none⟩),v] W fun e w'=>aa (fun x=>x<wj.heap.size/\(x<base\/¬ ((F0 x/\x≠w.heap.size)/\u6.ownBlock≠some x))) W w'/\((∃ (t:Nat) (Hb:List (List (List Int))),t<=4000/\bY f (cE ps ls p) rows (j+1)=some (Hb,qI++ [t])/\e=.returned (.int .i64 t)/\Sn (fun x=>(F0 x/\x≠w.heap.size)/\u6.ownBlock≠some x) w' base mb ob f (.slice pa n pc) cv ps Hb (vO.map fun r=>r.map Int.ofNat))\/(uE ps ls f=none/\e=.panicked [{v:=.iface 146 (.agg #[]),recovered:=false}]))):=hid fun W v hW hv=>by
       have D4:fQ.length<=f:=RO.out.le;refine(xF (fun x=>(F0 x/\x≠w.heap.size)/\u6.ownBlock≠some x) base mb ob f (.slice pa n pc) cv ps fQ (vO.map fun r=>r.map Int.ofNat) OK.out wj W M2.out hW (fun x hx=>⟨⟨HF0.out x (by have:=DU.out;omega),by have:=DU.out;omega⟩,fun e=>by have:=(jq.out.lt x e).2;omega⟩) v (bU ps p c) hv (jH (IS.out.all p (List.mem_of_getElem? WT.out)) c) RO.out.nodup RO.out.all hf D4 (fun W hW=>HP.out W (PJ.out.trans hW)) (fun W hW=>HT.out W (PJ.out.trans hW))).mono ?_;rintro e w' ⟨hk,hq⟩;refine⟨hk,?_⟩;rcases hq with⟨h1,rfl,h3⟩ | ⟨h1,h2,rfl,h3⟩ | ⟨h1,h2,rfl⟩
       ·refine .inl ⟨Ue fQ (bU ps p c),fQ,?_,?_,rfl,h3⟩
        ·have:Ue fQ (bU ps p c)<fQ.length:=Vo h1
         omega
        ·rw[bY,HR2.out,HG.out]
         exact QH h1
       ·refine .inl ⟨fQ.length,fQ++ [bU ps p c],by omega,?_,rfl,h3⟩
        rw[bY,HR2.out,HG.out];exact Nv h1 h2
       ·exact .inr ⟨QJ L8 HST.out WT.out HR2.out (by have:=HLM.out;omega) (by rw[HG.out];exact h1) h2,rfl⟩
      go_wp2_with fail
      refine(IU mb (.slice pa n pc) (.slice ua p.length uc) ps OK.out p (IS.out.all p (List.mem_of_getElem? WT.out)) c fP wj f0 (HP.out wj PJ.out) HLu.out.ll).mono ?_;rintro e w2 ⟨v1,rfl,ho3,hk3⟩;have Wy:=hid ho3;have X3:=hid hk3;clear ho3 hk3 f0 f2 fl fu;go_wp2_with fail
      refine(CS.out w2 v1 X3.out Wy.out).mono ?_;rintro e w3 ⟨hk4,hq⟩;have K4:=hid hk4;clear hk4;have Sq:Hid (aa (fun x=>x<wA.heap.size/\(x<base\/x=w.heap.size\/¬F0 x)) wA w3):=hid ((K2.out.tr (aa.ah X3.out fun x hx=>Nat.lt_of_lt_of_le hx.1 QO)).tr (K4.out.mono fun x hx=>⟨Nat.lt_of_lt_of_le hx.1 QO,ZP hx.2⟩));rcases hq with⟨t,Hb,ht,hr3,rfl,hM3⟩ | ⟨hno,rfl⟩
      ·have RN:Hid (w3.ownsRow wA.heap.size 3 1 u6 j (qI.map fun t:Nat=>.int .i64 t)):=hid (ae jq.out ((aa.ah X3.out fun x hx=>hx.1:aa (fun x=>x<wj.heap.size/\u6.ownBlock=some x) wj w2).tr (K4.out.mono fun x hx=>⟨hx.1,.inr fun h=>h.2 hx.2⟩)) fun x hx=>⟨(jq.out.lt x hx).2,hx⟩)
       have HR3:=hid hr3;have M3:=hid hM3;have Un:wA.heap.size<=w3.heap.size:=Sq.out.size;clear hr3 hM3 CS;go_wp2_with (at_builtin;refine Hid.out ?_);refine hid ?_;refine wpList_append_own_at _ rfl (.tmp 35) (.tmp 48) 37 rfl wA.heap.size 3 iI (.int .i64 0) 1 8 Tryz.underlying37 GN pE pF pG rfl (by decide) u6 j _ rfl (RN.out.alloc _) ⟨w3.heap.size,0,none⟩ 1 1 [.int .i64 t] rfl rfl (dV _ _ _) (by simp[Value.oneCell']) (by unfold maxLen;omega) (by omega) (by simp;omega) ?_;intro v' w5 hown' hgrow hh hat;have WU:=hid hown';have nZ:=hid hgrow;have Le:=hid hat;clear hown' hgrow hh hat;go_wp2;go_roundw;case rel=>
        refine⟨j+1,Hb,qI++ [t],HR3.out,by omega,by go_num,?_,?_,?_⟩
        ·rw[List.map_append];exact WU.out
        ·obtain⟨sv3,nv3,kv3,us3,ns3,ks3,M⟩:=M3.out
         have M4:=M.below ((Ext.refl w3).alloc (.cells #[.int .i64 t] 3)).below
         have M5:=M4.mono (F':=fun x=>((F0 x/\x≠w.heap.size)/\u6.ownBlock≠some x)/\v'.ownBlock≠some x) fun x hx h=>⟨h,fun e=>by
          rcases Le.out with h5 | h5
          ·exact h.2 (by rw[<-h5,e])
          ·rw[h5]at e;cases e;simp at hx⟩
         have M6:=M5.keeps (aa.aW nZ.out fun x hx=>⟨hx.1,fun e=>hx.2 e.symm⟩:aa (fun x=>x<(w3.alloc (.cells #[.int .i64 t] 3)).heap.size/\u6.ownBlock≠some x) _ w5) fun x hx h=>⟨hx,h.1.2⟩
         exact⟨_,_,_,_,_,_,M6.mono fun x _ h=>⟨h.1.1,h.2⟩⟩
        ·exact(Sq.out.alloc (fun x hx=>Nat.lt_of_lt_of_le hx.1 Un) _).tr (aa.aW nZ.out fun x hx=>⟨by have:=hx.1;simp;omega,fun e=>by have:=(RN.out.lt x e.symm).1;have:=hx.1;omega⟩)
       case measure=>simp[intOf];omega
      ·refine rG _ w.heap.size rfl _ w3 (BA.out.keeps Sq.out ⟨by have:=DU.out;omega,.inr (.inl rfl)⟩) fun W' Et=>⟨Vq.out w3 W' Sq.out Et,.inr ⟨hno,rfl⟩⟩
     ·have Dx:j=m:=by omega
      subst Dx;clear Ac hj;have jA:¬ ((j:Int)<j):=by omega
      obtain⟨sv2,nv3,kv2,us2,ns2,ks2,M⟩:=M2.out;have hxf:=jq.out;obtain⟨xa,xc,rfl⟩:=ownsRow_form hxf;have vn:(vO.map fun r=>r.map Int.ofNat).length=k:=by have h5:=IS.out.len;have h6:=zO.out;simp only at h5;rw[List.length_map,h5];omega
      have Pd:=M.rS.1;rw[vn]at Pd;obtain⟨na,nc,rfl⟩:=ownsRow_form Pd;have f5:wj.cell? ⟨mb,5,none⟩=some (.slice na k nc):=M.blk.cell 5;have M3:=hid (M.mono (F':=fun x=>F0 x/\x≠w.heap.size) fun x _ h=>h.1);have HNR:=hid Pd;have Vt:=hid vn;have hbj:base<=wj.heap.size:=Nat.le_trans M.bm (Nat.le_of_lt M.blk.lt);have aeB:mb≠w.heap.size:=M.fm.1.2;clear M hxf vn Pd;go_wp2_with (at_builtin;refine Hid.out ?_);refine hid ?_;refine wpList_append_own_at _ rfl (.tmp 56) (.tmp 58) 29 rfl base 37 iL (.slice none 0 0) 1 24 Tryz.underlying29 wW kQ kR kS rfl (by decide) (.slice na k nc) k ns2 rfl (HNR.out.alloc _) ⟨wj.heap.size,0,none⟩ 1 1 [.slice xa j xc] rfl rfl (dV _ _ _) (by simp[Value.oneCell']) (by unfold maxLen;omega) (by omega) (by simp;omega) ?_;intro v' w5 hown' hgrow hh hat;obtain⟨va,vc,rfl⟩:=ownsRow_form hown';have ZQ:some mb≠(Value.slice na k nc).ownBlock:=fun e=>bI M3.out.blk HNR.out (by decide) mb e.symm rfl
      have B5:=hid ((M3.out.blk.alloc (.cells #[.slice xa j xc] 37)).grown hgrow ZQ);have WU:=hid hown';have nZ:=hid hgrow;have Le:=hid hat;have g5:=B5.out.cell 5;have z5:=B5.out.frozen 5;clear hown' hgrow hh hat f5 ZQ;go_wp2;have K9:aa (fun x=>x<wj.heap.size/\x≠mb/\(Value.slice na k nc).ownBlock≠some x) wj (w5.setCell ⟨mb,5,none⟩ (.slice va (k+1) vc)):=(((aa.refl _ wj).alloc (fun x hx=>hx.1) _).tr (aa.aW nZ.out fun x hx=>⟨by have:=hx.1;simp;omega,fun e=>hx.2.2 e.symm⟩)).setCell (fun h=>h.2.1 rfl) _;have K5:aa (· ≠mb) w5 (w5.setCell ⟨mb,5,none⟩ (.slice va (k+1) vc)):=(aa.refl _ w5).setCell (fun h=>h rfl) _;have QO:wA.heap.size<=wj.heap.size:=K2.out.size;have U9:qI.length=j:=RO.out.len;have e1:qI.map (fun t:Nat=>Value.int .i64 t)=(qI.map Int.ofNat).map aF:=by rw[List.map_map];rfl
      have Aj:(Value.slice va (k+1) vc).ownBlock=(Value.slice na k nc).ownBlock\/∀ x,(Value.slice va (k+1) vc).ownBlock=some x->wj.heap.size<=x:=Le.out.imp id fun h x e=>by rw[h]at e;cases e;simp
      have hrow:fM (fun x=>F0 x/\x≠w.heap.size) (w5.setCell ⟨mb,5,none⟩ (.slice va (k+1) vc)) base 3 (.slice xa j xc) (qI.map Int.ofNat).length ((qI.map Int.ofNat).map aF):=by rw[<-e1,List.length_map,U9];exact⟨uF M3.out.blk HNR.out K9 (ax jq.out (by have:=DU.out;omega)) (by decide) (.inl (by decide)),fun x e=>⟨HF0.out x (by have:=(jq.out.lt x e).1;have:=DU.out;omega),by have:=(jq.out.lt x e).1;have:=DU.out;omega⟩⟩
      have MF:=Mk.next M3.out Vt.out.symm K9 (B5.out.set 5 _) ⟨ae WU.out K5 fun x hx=>bI B5.out WU.out (by decide) x hx,fun x e=>by
       rcases Aj with h5 | h5
       ·exact M3.out.rS.2 x (h5.symm.trans e)
       ·exact⟨HF0.out x (by have:=h5 x e;have:=DU.out;omega),by have:=h5 x e;have:=DU.out;omega⟩⟩ hrow Aj
      have K8:aa (fun x=>x<wA.heap.size/\(x<base\/x=w.heap.size\/¬F0 x)) wA (w5.setCell ⟨mb,5,none⟩ (.slice va (k+1) vc)):=K2.out.tr (K9.mono fun x hx=>⟨Nat.lt_of_lt_of_le hx.1 QO,fun e=>by
       rcases hx.2 with h5 | h5 | h5
       ·have:=M3.out.bm;omega
       ·exact aeB (e.symm.trans h5)
       ·exact h5 (by rw[e];exact M3.out.fm.1),fun e=>by
       rcases hx.2 with h5 | h5 | h5
       ·have:=(HNR.out.lt x e).1;omega
       ·exact(M3.out.rS.2 x e).2 h5
       ·exact h5 (M3.out.rS.2 x e).1⟩)
      have hst:cQ f (cE ps ls) ls.length (gh ps) (k+1)=some (fQ,vO++ [qI]):=by rw[Nw HST.out WT.out, <-HLM.out,HR2.out];rfl
      have BJ:k+1<=fQ.length:=by have h5:rows.length<=fQ.length:=RO.out.pre.length_le;have:=zO.out;omega
      go_roundw
      case rel=>
       refine⟨k+1,fQ,vO++ [qI],hst,BJ,by go_num,?_,K8⟩;rw[List.map_append];exact⟨_,_,_,_,_,_,MF⟩
      case measure=>simp[intOf];omega
   ·have hkL:k=L:=by omega
    subst hkL;clear hlt;have ed:¬ ((k:Int)<k):=by omega
    have B0:=hid (BA.out.keeps KO.out ⟨by have:=DU.out;omega,.inr (.inl rfl)⟩);have g0:=B0.out.cell 0;have z0:=B0.out.frozen 0;go_wp2;have K9:aa (fun x=>x<wo.heap.size/\x≠w.heap.size) wo (wo.setCell ⟨w.heap.size,0,none⟩ (.int .i64 0)):=(aa.refl _ wo).setCell (fun h=>h.2 rfl) _;exact Jw _ w.heap.size 0 rfl _ _ (B0.out.set 0 _) ⟨Vq.out wo _ KO.out K9,.inl ⟨rows,vO,QI L8 HST.out (by have:=zO.out;show rows.length=k;omega),rfl,_,_,_,_,_,_,(MO.out.keeps K9 fun x hx h=>⟨hx,h.2⟩).mono fun x _ _=>trivial⟩⟩
 ·have KA:aa (fun x=>x<wA.heap.size/\(x<base\/x=w.heap.size\/¬F0 x)) wA w4:=(aa.ah X3.out fun x hx=>hx.1:aa (fun x=>x<wA.heap.size/\(x<base\/x=w.heap.size\/¬F0 x)) wA w3).tr (hk4.mono fun x hx=>⟨hx.1,Vp hx.2⟩)
  refine rG _ w.heap.size rfl _ w4 (BA.out.keeps KA ⟨by have:=DU.out;omega,.inr (.inl rfl)⟩) fun W' Et=>⟨Vq.out w4 W' KA Et,.inr ⟨?_,rfl⟩⟩
  unfold uE;rw[if_pos (by simpa using h2)]
theorem cd.src {w:World} {v:Value} {l:List BS} (h:cd w v l):wJ w v l.length (aD l):=by
 rcases h with⟨rfl,rfl⟩ | ⟨b,off,cap,rfl,_,hc⟩
 ·exact .inl ⟨rfl,rfl,rfl⟩
 ·refine .inr ⟨⟨b,off,none⟩,cap,rfl,fun j u hj=>?_⟩
  have JS:j<l.length*4:=by rw[<-cr];exact(List.getElem?_eq_some_iff.1 hj).1
  have h1:l[j/4]? =some (l[j/4]'(by omega)):=List.getElem?_eq_getElem (by omega);have h2:=fW l h1 (j:=j%4) (by omega);rw[show j/4*4+j%4=j by omega,hj]at h2;rw[Addr.add_mid,show off+j=off+j/4*4+j%4 by omega,hc _ _ h1 _ (by omega), <-h2]
theorem pO {ps:List PT} {k:Nat} {x:PT} (h:ps[k]? =some x):aL (ps.take (k+1))=aL (ps.take k)++x.nf.az:=by unfold aL;rw[List.take_add_one,h];simp
theorem PT.uH (x:PT):x.ok=true↔x.nf.right=true/\0<=x.mark/\x.mark<=255:=by unfold PT.ok;simp[and_assoc]
theorem zj {ps:List PT} {f:Int} (h:ps.length<=64) {k:Nat} {x:PT} (hx:ps[k]? =some x) (hb:¬x.ok=true):fJ ps f=(⟨[],[],[]⟩,180):=by unfold fJ;rw[if_neg (by omega),if_pos];rw[List.all_eq_false];exact⟨x,List.mem_of_getElem? hx,hb⟩
theorem CD {ps:List PT} {f:Int} (h:64<ps.length):fJ ps f=(⟨[],[],[]⟩,5):=by unfold fJ;rw[if_pos h]
theorem Vu {ps:List PT} (h:∀ (k:Nat) (x:PT),ps[k]? =some x->x.ok=true):ps.all PT.ok=true:=List.all_eq_true.2 fun x hx=>by
 obtain⟨i,hi⟩:=List.getElem?_of_mem hx;exact h i x hi
theorem CG {ps:List PT} {f:Int} (h:ps.length<=64) (ho:ps.all PT.ok=true) (hf:f<0\/4000<f):fJ ps f=(⟨[],[],[]⟩,2):=by unfold fJ;rw[if_neg (by omega),ho,if_neg (by decide),if_pos hf]
theorem rH {α:Type} [DecidableEq α] {fuel:Nat} {g g':Nat->α} {todo:List α} :∀ {k:Nat},(∀ j,j<k->g j=g' j)->bY fuel g todo k=bY fuel g' todo k
 | 0,_=>rfl
 | k+1,h=>by rw[bY,bY,rH fun j hj=>h j (by omega),h k (by omega)]
theorem uI {α:Type} [DecidableEq α] {fuel K:Nat} {f f':α->Nat->α} {p0:α} (h:∀ p j,j<K->f p j=f' p j):∀ n,cQ fuel f K p0 n=cQ fuel f' K p0 n
 | 0=>rfl
 | n+1=>by
  rw[cQ,cQ,uI h n];congr 1;funext st;unfold cV;cases st.1[n]? with
  | none=>rfl
  | some p=>simp only[rH (h p)]
theorem QP {ps:List PT} {f:Nat} {ls:List Nat} (hl:ls.length=(partsOf (aL ps)).length) (h:∀ k,k<ls.length->ls.getD k 0=lb (partsOf (aL ps)) k):uE ps ls f=fD ps f:=by
 unfold uE fD;rw[hl];split
 ·rfl
 ·refine uI (fun p j hj=>?_) f
  unfold cE;rw[h j (by omega)]
theorem NB {ps:List PT} {f:Nat} (h:ps.length<=64) (ho:ps.all PT.ok=true) (hf:f<=4000) (hs:fD ps f=none):fJ ps f=(⟨[],[],[]⟩,181):=by unfold fJ;rw[if_neg (by omega),ho,if_neg (by decide),if_neg (by omega),Int.toNat_natCast,hs]
theorem CQ {ps:List PT} {f:Nat} (h:ps.length<=64) (ho:ps.all PT.ok=true) (hf:f<=4000) {st:List (List (List Int))×List (List Nat)} (hs:fD ps f=some st):fJ ps f=(⟨partsOf (aL ps),st.2.map fun r=>r.map Int.ofNat,st.1.map (bX ps)⟩,0):=by unfold fJ;rw[if_neg (by omega),ho,if_neg (by decide),if_neg (by omega),Int.toNat_natCast,hs]
end Go.Proofs.YtbiboekhakbnpaaGreatDoor
