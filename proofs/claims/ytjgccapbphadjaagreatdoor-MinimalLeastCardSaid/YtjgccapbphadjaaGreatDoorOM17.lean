/- dfa.Of. -/
import Derived.Test.YtjgccapbphadjaaGreatDoorOM16
import Derived.Lib.SlBuf
set_option maxRecDepth 100000
set_option maxHeartbeats 16000000
open Go.Lib (hid)
namespace Go.Proofs.YtjgccapbphadjaaGreatDoor
open Go Go.RowKit Go.Shelf Go.Maps
theorem Jd (p:Addr) (w:World): CallsD Tryz.prog 170 #[.pointer (some p)] .returning w fun e u' w'=>e=.returned (.tuple #[])/\u'=.returning/\w'=w:=by
 refine callsD_of_wpS Tryz.func170 rfl fun acU cs hu=>?_
 apply wpS_seq;apply wpS_region;simp[wpOpsS,go_sem,recoverD,hu,Tryz.ntmps170,Exit.thenS];refine wpS_of_wp ?_;go_wp2;cases acU
 simp_all[bodyPostS,results,Tryz.results170]
theorem uV (p:Addr) (x:Value) (WA:List PanicEntry) (w:World) (hc:w.cell? p=some x) (hz:w.frozen? p=false) (hp:p.block<w.heap.size): CallsD Tryz.prog 170 #[.pointer (some p)] (.panicking ({v:=.iface 265 (.agg #[]),recovered:=false} ::WA)) w fun e u' w'=>
   e=.returned (.tuple #[])/\u'=.panicking ({v:=.iface 265 (.agg #[]),recovered:=true} ::WA)/\∃ w2,aa w w2/\w'=w2.setCell p (.int .i64 181):=by
 refine callsD_of_wpS Tryz.func170 rfl fun acU cs hu=>?_
 apply wpS_seq;apply wpS_region;simp[wpOpsS,go_sem,recoverD,hu,Tryz.ntmps170,Exit.thenS];refine wpS_of_wp ?_;have hta:∀ w:World,(Instr.typeAssert (.iface 265 (.agg #[])) 20 265 true).run Tryz.prog w=.ok (.tuple #[.agg #[],.bool true]) w:=fun _=>by kernel_rfl
 have hK:ae (· <w.heap.size) w (w.alloc (.cells #[] 265)):=ae.ak ((Ext.refl w).alloc _).below fun _ h=>h
 have hc2:(w.alloc (.cells #[] 265)).cell? p=some x:=(hK.cell hp).trans hc;have hz2:(w.alloc (.cells #[] 265)).frozen? p=false:=(hK.frozen hp).trans hz;go_wp2;refine⟨rfl,_,rfl,.tuple #[],?_,rfl,rfl,_,((Ext.refl w).alloc _).below,rfl⟩;simp[results,Tryz.results170]
theorem Nh (n:Nat) (hn:n<=64) (w:World):ah 142 #[.int .u64 1,.int .u64 n] w fun e w'=>e=.returned (.tuple #[.int .u64 0,.int .u64 n])/\w'=w:=by
 have a1:bits .and .u64 (1:Int) 4294967295=1:=by decide
 have a2:bits .and .u64 (n:Int) 4294967295=n:=by
  have h:∀ m:Fin 65,bits .and .u64 ((m.val:Nat):Int) 4294967295=(m.val:Int):=by decide+kernel
  exact h ⟨n,by omega⟩
 go_enter Tryz.func142,Tryz.ntmps142
 have h0:(n:Int)/4294967296=0:=by omega
 have a3:bits .and .u64 (0:Int) 4294967295=0:=by decide
 have a4:IntKind.u64.wrap 0=0:=by decide
 go_wp2;refine bodyPost_ret (v:=.tuple #[.int .u64 0,.int .u64 n]) (by simp[results,Tryz.results142,go_sem]) rfl ⟨rfl,rfl⟩
theorem Va (n:Nat) (hn:n<=64) (w:World):ah 80 #[.int .u64 1,.int .u64 n] w fun e w'=>e=.returned (.tuple #[.int .u64 0,.int .u64 n])/\w'=w:=by
 have CM:=hid (Nh n hn w);go_enter Tryz.func80,Tryz.ntmps80;go_wp2_with fail
 refine CM.out.mono ?_;rintro e w2 ⟨rfl,hw⟩;replace hw:=hw.symm;subst hw;go_wp2;refine bodyPost_ret (v:=.tuple #[.int .u64 0,.int .u64 n]) (by simp[results,Tryz.results80,go_sem]) rfl ⟨rfl,rfl⟩
theorem Je (n:Nat):(madeCells (Value.slice none 0 0).cells (n*1)).toList=List.replicate n (.slice none 0 0):=by
 apply List.ext_getElem?;intro i;simp only[madeCells,Value.cells,Nat.mul_one,Array.toList_map,Array.toList_range,aO,List.getElem?_replicate];rcases Nat.lt_or_ge i n with h | h
 ·rw[List.getElem?_range h,if_pos h];simp[Nat.mod_one]
 ·rw[aX (by simpa using h),if_neg (by omega)];rfl
def nP (n m:Nat) (h:Value):List Value:=List.replicate m h++List.replicate (n-m) (.slice none 0 0)
theorem xq {n m:Nat} (h:Value) (hm:m<=n):(nP n m h).length=n:=by unfold nP;simp;omega
theorem Fy {base g n m k:Nat} {h:Value} {W:World} (h1:h.oneCell'=true) (ho:W.ownsRow base 39 1 (.slice (some ⟨g,0,none⟩) n n) n (nP n m h)) (hk:m+k<=n) (a:Addr) (sl sc:Nat) (hs:∀ j,j<k->W.cell? (a.add j)=some h) (hkk:k=Nat.min sl (n-m)) (ty:TypeId): ∃ W',(Builtin.copy_ #[27,27] ty #[.slice (some ⟨g,m,none⟩) (n-m) (n-m),.slice (some a) sl sc]).run Tryz.prog W=.ok (.int .i64 k) W'/\W'.ownsRow base 39 1 (.slice (some ⟨g,0,none⟩) n n) n (nP n (m+k) h)/\ae (· ≠g) W W':=by
 rcases ho.2 with⟨e,_⟩ | ⟨g',cap,cur,e,hb,hg,hc,hcm,hsz,fD⟩
 ·cases e
 ·cases e
  have Bc:cur.toList=nP n m h:=by rw[<-fD,List.take_of_length_le];simp[hsz]
  refine⟨_,by
         have:=run_copy_row (P:=Tryz.prog) W 27 27 ty 39 g m (n-m) (n-m) a sl sc cur 39 (List.replicate k h) Tryz.underlying27 (by kernel_rfl) hg (by rw[List.length_replicate];exact hkk) (fun j v hj=>by
    rw[List.getElem?_replicate]at hj;split at hj
    ·cases hj;exact hs j (by assumption)
    ·cases hj) (by rw[List.length_replicate,hsz];omega) (fun v hv=>by rw[List.eq_of_mem_replicate hv];exact h1)
         rw[List.length_replicate]at this
         exact this,?_,(ae.refl _ _).setRow (fun h=>h rfl) _⟩
  have Fz:(cur.toList.take m++List.replicate k h++cur.toList.drop (m+k))=nP n (m+k) h:=by rw[Bc];unfold nP;rw[List.take_left' (by simp),List.replicate_append_replicate];congr 1;rw[List.drop_append,List.drop_eq_nil_of_le (by simp),List.length_replicate,List.nil_append,List.drop_replicate];congr 1;omega
  rw[Fz];refine⟨by rw[xq h hk];omega,.inr ⟨g,n,_,rfl,hb,setRow_heap W g cur _ _ _ hg,hc,hcm,by simp[xq h hk],?_⟩⟩;rw[List.take_of_length_le];simp[xq h hk]
theorem Ni {P:Program} {Cl:FuncId->Array Value->World->(Ending->World->Prop)->Prop} {Rd:Nat->FuncId->Array Value->Code->Code->World->(Ending->World->Prop)->Prop} {o:Oper} {a:Act} {W W':World} {post:Value->World->Prop} {v:Value} (d s:Operand) (t1 t2:TypeId) (ho:o.op=.call {callee:=.builtin .copy,args:= #[d,s],argTypes:= #[t1,t2]}) (dv sv:Value) (hd:a.eval d=dv) (hs:a.eval s=sv) (hr:(Builtin.copy_ #[t1,t2] o.type #[dv,sv]).run P W=.ok v W') (h:post v W'):jE Cl Rd post ((execOp a.eval o).run P W):=by unfold execOp;simp only[ho,resolve,invoke,builtin,Sem.run_bind,Sem.run_pure,Result.andThen_ok,List.map_toArray,List.map_cons,List.map_nil,hs,hd,hr];exact h
def Vb (g n m:Nat) (h:Value) (A B:World):Prop:=ae (fun x=>x<A.heap.size/\x≠g) A B/\(A.ownsRow g 39 1 (.slice (some ⟨g,0,none⟩) n n) n (nP n m h)->B.ownsRow g 39 1 (.slice (some ⟨g,0,none⟩) n n) n (nP n m h))
theorem Vb.trans {g n m:Nat} {h:Value} {A B C:World} (h1:Vb g n m h A B) (h2:Vb g n m h B C):Vb g n m h A C:=⟨h1.1.trans h2.1 fun _ hx=>⟨aA hx.1 h1.1.size,hx.2⟩,fun a=>h2.2 (h1.2 a)⟩
theorem Vb.drew {g n m:Nat} {h:Value} {A:World} :Vb g n m h A A.drew:=⟨(ae.refl _ _).drew,fun a=>a⟩
def WC (g n m:Nat) (h v:Value):aZ (Vb g n m h):=⟨fun u=>u=v,fun _ W=>W.ownsRow g 39 1 (.slice (some ⟨g,0,none⟩) n n) n (nP n m h),v,rfl,fun _ _ _ hm _ h=>hm.2 h⟩
theorem Jf (b gb:Nat) (h:Value) (n:Nat) (hn:n<=64) (w:World) (hc:w.cell? ⟨gb,0,none⟩=some h) (hh:w.ownsRow b 3 1 h 1 [aN (-1)]) (hb:b<=w.heap.size): ah 172 #[.slice (some ⟨gb,0,none⟩) 1 1,.int .i64 n] w fun e w'=>∃ u,e=.returned u/\br b w' u (List.replicate n [-1])/\aa w w':=by
 obtain⟨iL,zX,mK,mL,mM⟩:=info_parts Tryz.tR;have CM:=hid (Va n hn);have cv1:IntKind.u64.wrap (n:Int)=n:=by have:=IntWalk.u64_in (n:Int) (by omega);exact this
 have cv2:IntKind.i64.wrap (n:Int)=n:=IntWalk.i64_in _ (by omega);have d1:decide ((n:Int)<0)=false:=decide_eq_false (by omega);have d2:decide ((9223372036854775807:Int)<(n:Int))=false:=decide_eq_false (by omega);have HH:=hid hh;have HCc:=hid hc;have hgb:=World.block_lt_of_cell? _ _ hc;clear hh hc;go_enter Tryz.func172,Tryz.ntmps172;go_wp2_with fail
 refine(CM.out w).mono ?_;rintro e w2 ⟨rfl,hw⟩;replace hw:=hw.symm;subst hw;go_wp2_with (at_make;refine wpList_make_full _ rfl (.tmp 29) (.tmp 29) 27 rfl w.heap.size 39 iL (.slice none 0 0) 1 Tryz.underlying27 zX mK mL .i64 .i64 _ _ n rfl rfl rfl rfl (by rw[mM];omega) (by unfold maxLen;omega) (aD _) ?_;intro w3 hr hg;refine Hid.out ?_);refine hid ?_;have hs3:w.heap.size<w3.heap.size:=by
  rcases hr.2 with⟨h5,_⟩ | ⟨g,c,cur,h5,_,h6,_⟩
  ·cases h5
  ·cases h5;exact(Array.getElem?_eq_some_iff.1 h6).1
 have hb3:aa w w3:=(ae.bw hg fun x hx=>⟨hx,fun e=>by cases e⟩:ae (· <w.heap.size) w w3).below;rw[Je]at hr;have h1h:h.oneCell'=true:=by obtain⟨a,c,rfl⟩:=ownsRow_form HH.out;rfl
 have hr2:w3.ownsRow w.heap.size 39 1 (.slice (some ⟨w.heap.size,0,none⟩) n n) n (nP n 0 h):=by unfold nP;rw[Nat.sub_zero];exact hr
 have hc3:w3.cell? ⟨gb,0,none⟩=some h:=((ae.ak hb3 fun _ h=>h:ae (· <w.heap.size) w w3).cell (p:=⟨gb,0,none⟩) hgb).trans HCc.out
 obtain⟨w4,LU,ho4,hk4⟩:=Fy (k:=Nat.min 1 n) h1h hr2 (by rw[Nat.zero_add];exact Nat.min_le_right _ _) ⟨gb,0,none⟩ 1 1 (fun j hj=>by
  have hj0:j=0:=by have:=aA hj (Nat.min_le_left 1 n);omega
  subst hj0
  exact hc3) (by rw[Nat.sub_zero]) 3
 rw[Nat.sub_zero]at LU;rw[Nat.zero_add]at ho4;obtain⟨k0,lH⟩:=ag (Nat.min 1 n);rw[<-lH]at LU ho4;have Zf:k0<=n/\(n=0\/1<=k0):=by rw[lH];unfold Nat.min;constructor<;>omega
 have HO4:=hid ho4;have X4:Hid (aa w w4):=hid (hb3.trans (hk4.mono fun x hx=>by have h5:x<w.heap.size:=hx;show x≠w.heap.size;omega:ae (· <w.heap.size) w3 w4).below);clear hr hr2 hg hb3 hc3 ho4 hk4 lH CM;go_wp2_with (at_builtin;refine Lib.wpList_copy_run _ rfl (.tmp 31) (.tmp 32) 27 27 rfl _ _ rfl rfl LU ?_;clear LU);go_loopw [8] (fun mv wr=>∃ m:Nat,m<=n/\(n=0\/1<=m)/\mv=.int .i64 m/\wr.ownsRow w.heap.size 39 1 (.slice (some ⟨w.heap.size,0,none⟩) n n) n (nP n m h)/\aa w wr) (fun mv _=>n-(intOf mv).toNat);case atStart=>exact⟨k0,Zf.1,Zf.2,rfl,HO4.out,X4.out⟩
 case round=>
  obtain⟨m,hm,rK,rfl,ho,hx⟩:=hrel;obtain⟨wo,rfl⟩:=ag (wr:World);have HO:=hid ho;have HX:=hid hx;clear ho hx HO4 X4 Zf;by_cases hlt:m<n
  ·have hmi:(m:Int)<n:=by omega
   have hmn:¬ ((n:Int)<m):=by omega
   have sr:(m:Int)<=n:=by omega
   have dml:decide ((m:Int)<=n)=true:=decide_eq_true sr;obtain⟨k,hk⟩:=ag (Nat.min m (n-m));have Ii:m+k<=n/\1<=k/\k<=m:=by rw[hk];unfold Nat.min;refine⟨?_,?_,?_⟩<;>omega
   have GQ:=hid hk;clear hk;go_wp2_with fail
   refine RegQ.bB (Vb w.heap.size n (m+k) h) Vb.drew (fun _ _ _ h k=>h.trans k) (by kernel_rfl) 8 [0,0,0,6,0,0,48,126,255,511] (fun i=>i==7) (by kernel_rfl) (fun i=>if i=7 then WC w.heap.size n (m+k) h (.int .i64 k)else aZ.any _) (fun j W=>(j=7)->W.ownsRow w.heap.size 39 1 (.slice (some ⟨w.heap.size,0,none⟩) n n) n (nP n m h)) (fun _ _ _=>HO.out) ?_;intro C hC hne;have HC:=hid hC;clear hC
   repeat (refine RegQ.au (fun K hK=>?_);first | (refine RegQ.bX rfl ?_;try go_simp;refine hK _ _ ?_;clear hK K) | (refine RegQ.bR rfl rfl ?_;unfold aB;go_simp;refine hK _ _ ?_;clear hK K))
   refine RegQ.au (fun K hK=>?_);refine RegQ.ck rfl rfl (WC w.heap.size n (m+k) h (.int .i64 k)) rfl (fun W hW hD hN=>?_) (fun v hv=>?_)
   ·have hD7:=hD rfl
    clear hW hN hK K hD
    obtain⟨W',e1,e2,e3⟩:=Fy (k:=k) h1h hD7 Ii.1 ⟨w.heap.size,0,none⟩ m n (fun j hj=>by
     have:(⟨w.heap.size,0,none⟩:Addr).add j=⟨w.heap.size,j,none⟩:=by simp[Addr.add];omega
     rw[this,hD7.cellAt j (by omega)];unfold nP
     rw[bJ (by rw[List.length_replicate];omega),List.getElem?_replicate,if_pos (by omega)]) GQ.out 3
    refine Ni (.tmp 41) (.tmp 44) 27 27 rfl _ _ ?_ ?_ e1 ?_
    ·show Value.slice (if n=m then _ else _) _ _=_
     rw[if_neg (by omega)]
    ·rfl
    ·exact⟨⟨⟨e3.mono fun x hx=>hx.2,fun _=>e2⟩,fun j hj _ _ e=>absurd e hj⟩,rfl,e2⟩
   replace hv:v=_:=hv;subst hv;go_simp;refine hK _ _ ?_;clear hK K
   repeat (refine RegQ.au (fun K hK=>?_);first | (refine RegQ.bX rfl ?_;try go_simp;refine hK _ _ ?_;clear hK K) | (refine RegQ.bR rfl rfl ?_;unfold aB;go_simp;refine hK _ _ ?_;clear hK K))
   refine RegQ.bG (fun W hW hH=>?_);have j5:=(HC.out W).1 hW;have NR:Hid (W.ownsRow w.heap.size 39 1 (.slice (some ⟨w.heap.size,0,none⟩) n n) n (nP n (m+k) h)):=hid (hH _ (aw (show _=some _ from rfl:_[0]? =some _)));have XR:Hid (aa w W):=hid (HX.out.trans (j5.1.mono fun x hx=>⟨aA hx HX.out.size,Nat.ne_of_lt hx⟩:ae (· <w.heap.size) wo W).below);clear j5 hW hH HC hne HO HX;go_wp2;go_roundw;case rel=>exact⟨m+k,Ii.1,by omega,by go_num,NR.out,XR.out⟩
   case measure=>simp[intOf];omega
  ·obtain rfl:m=n:=by omega
   have hmn:¬ ((m:Int)<m):=by omega
   go_wp2;go_ret;refine⟨_,rfl,⟨List.replicate m h,by simp,?_,fun i u l hu hl=>?_⟩,HX.out⟩
   ·have h5:=aF HO.out hb
    unfold nP at h5;rw[Nat.sub_self,List.replicate_zero,List.append_nil]at h5;rw[List.length_replicate];exact h5
   ·rw[List.getElem?_replicate]at hu hl
    split at hu
    ·cases hu
     rw[if_pos (by assumption)]at hl;cases hl;exact aj HH.out HX.out
    ·cases hu
theorem Zg {α:Type} [DecidableEq α] {l:List α} {q:α} (h:q∈l):l.idxOf q<l.length:=List.idxOf_lt_length_of_mem h
theorem Zh {base c x:Nat} {F0:Nat->Prop} (h:x<base\/x=c\/¬F0 x):x<base\/¬ (F0 x/\x≠c):=by
 rcases h with h | h | h
 ·exact .inl h
 ·exact .inr fun h2=>h2.2 h
 ·exact .inr fun h2=>h h2.1
theorem acV {base c x:Nat} {F0:Nat->Prop} {q:Prop} (h:x<base\/x=c\/¬F0 x):x<base\/¬ ((F0 x/\x≠c)/\q):=(Zh h).imp id fun h h2=>h h2.1
theorem uq (tmps:Array Value) (c0:Nat) (ht:tmps[4]?.getD undef=.pointer (some ⟨c0,0,none⟩)) (R:Ending->World->Prop) (W:World) (hB:ar W c0 #[.int .i64 0] 32) (h:∀ W',ae (fun x=>x<W.heap.size/\x≠c0) W W'->R (.returned (.int .i64 181)) W'): Leaves Tryz.prog Tryz.f114 tmps R [{target:=.fn (.func 170) #[.pointer (some ⟨c0,0,none⟩)],args:= #[]}] (.panicking [{v:=.iface 265 (.agg #[]),recovered:=false}]) W:=by refine leaves_cons (f:=170) (args:= #[.pointer (some ⟨c0,0,none⟩)]) (by simp) (by simp[go_sem]) ?_;refine(uV ⟨c0,0,none⟩ (.int .i64 0) [] W (hB.cell 0) (hB.frozen 0) hB.lt).mono ?_;rintro e u' w'' ⟨rfl,rfl,w2,hk,rfl⟩;have hB2:=hB.below hk hB.lt;have hB3:=hB2.set 0 (.int .i64 181);have h1:=hB3.cell 0;have K:ae (fun x=>x<W.heap.size/\x≠c0) W (w2.setCell ⟨c0,0,none⟩ (.int .i64 181)):=(ae.ak hk fun x hx=>hx.1:ae (fun x=>x<W.heap.size/\x≠c0) W w2).setCell (fun h=>h.2 rfl) _;have h5:=h _ K;obtain⟨W2,hW2⟩:=ag (w2.setCell ⟨c0,0,none⟩ (.int .i64 181));rw[<-hW2]at h1 h5 ⊢;replace h1:W2.cell? ⟨c0,0,none⟩=some (.int .i64 181):=h1;simp[Leaves,settle,results,Tryz.results114,go_sem,ht,h1];exact h5
theorem Nj (tmps:Array Value) (c0:Nat) (k:Int) (ht:tmps[4]?.getD undef=.pointer (some ⟨c0,0,none⟩)) (R:Ending->World->Prop) (W:World) (hB:ar W c0 #[.int .i64 k] 32) (h:R (.returned (.int .i64 k)) W): Leaves Tryz.prog Tryz.f114 tmps R [{target:=.fn (.func 170) #[.pointer (some ⟨c0,0,none⟩)],args:= #[]}] .returning W:=by refine leaves_cons (f:=170) (args:= #[.pointer (some ⟨c0,0,none⟩)]) (by simp) (by simp[go_sem]) ?_;refine(Jd ⟨c0,0,none⟩ W).mono ?_;rintro e u' w'' ⟨rfl,rfl,rfl⟩;have h1:w''.cell? ⟨c0,0,none⟩=some (.int .i64 k):=hB.cell 0;simp[Leaves,settle,results,Tryz.results114,go_sem,ht,h1];exact h
theorem RD (F0:Nat->Prop) (base mb ob f:Nat) (pv cv lv:Value) (ps:List PT) (ls:List Nat) (ok:Ux ps) (w:World) (hF0:∀ x,w.heap.size<=x->F0 x) (hM:Wi F0 w base mb ob f pv cv ps [] []) (hf:f<=4000) (hls:ls.length<=256) (TF:∀ c∈ls,c<256) (hL:∀ W,ae (fun x=>x<w.heap.size/\(x<base\/¬F0 x)) w W->bZ et W lv ls) (hP:∀ W,Below base w W->iW W pv ps) (hT:∀ W,Below base w W->nE W): ah 114 #[.pointer (some ⟨mb,0,none⟩),lv] w fun e w'=>ae (fun x=>x<w.heap.size/\(x<base\/¬F0 x)) w w'/\((∃ st,xo ps ls f=some st/\e=.returned (.int .i64 0)/\Wi (fun _=>True) w' base mb ob f pv cv ps st.1 (st.2.map fun r=>r.map Int.ofNat))\/(xo ps ls f=none/\e=.returned (.int .i64 181))):=by
 obtain⟨iL,zX,mK,mL,mM⟩:=info_parts Tryz.tR;obtain⟨iI,y7,kJ,kK,kL⟩:=info_parts Tryz.mB;obtain⟨sv,nv,kv,us,ns,ks,M⟩:=hM;obtain⟨pa,pc,rfl⟩:=(hP w (Below.refl _ _)).form;obtain⟨la,lc,rfl⟩:=(hL w (ae.refl _ _)).form;obtain⟨n,Kl⟩:=ag ps.length;obtain⟨m,hlm⟩:=ag ls.length;rw[<-Kl]at M hP ⊢;rw[<-hlm]at hL hls ⊢;have sU:n<=64:=by rw[Kl];exact ok.1
 have rH:base<w.heap.size:=Nat.lt_of_le_of_lt M.bm M.blk.lt;have sy:mb<w.heap.size:=M.blk.lt;have MW:=hid M;have RA:=hid Kl;have HLM:=hid hlm;have HL:=hid hL;have HP:=hid hP;have HT:=hid hT;have OK:=hid ok;have Zi:=hid TF;have HF0:=hid hF0
 have CR:Hid (∀ (b gb:Nat) (h:Value) (W:World),W.cell? ⟨gb,0,none⟩=some h->W.ownsRow b 3 1 h 1 [aN (-1)]->b<=W.heap.size->
  ah 172 #[.slice (some ⟨gb,0,none⟩) 1 1,.int .i64 n] W fun e w'=>∃ u,e=.returned u/\br b w' u (List.replicate n [-1])/\aa W w'):=hid fun b gb h W h1 h2 h3=>Jf b gb h n sU W h1 h2 h3
 have m0:w.cell? ⟨mb,0,none⟩=some (.slice pa n pc):=M.blk.cell 0;clear M Kl hlm hL hP hT ok TF hF0;have hmf:∀ (fn:Fn) (first cap:Array Value) (w:World),(Instr.makeFunc fn first cap).run Tryz.prog w=.ok (.func fn first cap) w:=fun _ _ _ _=>rfl
 go_enter_defers Tryz.func114,Tryz.ntmps114
 have m1:(((w.alloc (.cells #[.int .i64 0] 32)).alloc (.cells #[.int .i64 (-1)] 3)).alloc (.cells #[.slice (some ⟨w.heap.size+1,0,none⟩) 1 1] 39)).cell? ⟨mb,0,none⟩=some (.slice pa n pc):=
  ((ae.ak ((((Ext.refl w).alloc _).alloc _).alloc _).below fun _ h=>h:ae (· <w.heap.size) w _).cell (p:=⟨mb,0,none⟩) sy).trans m0
 go_wp2_with fail
 refine(CR.out (w.heap.size+1) (w.heap.size+1+1) (.slice (some ⟨w.heap.size+1,0,none⟩) 1 1) _ (by go_simp) ?_ (by simp)).mono ?_
 ·have h5:((w.alloc (.cells #[.int .i64 0] 32)).alloc (.cells #[.int .i64 (-1)] 3)).ownsRow (w.heap.size+1) 3 1 (.slice (some ⟨w.heap.size+1,0,none⟩) 1 1) 1 [.int .i64 (-1)]:=by
   have h6:=World.alloc_heap_new (w.alloc (.cells #[.int .i64 0] 32)) (.cells #[.int .i64 (-1)] 3);rw[World.size_alloc]at h6;exact⟨rfl,.inr ⟨w.heap.size+1,1, #[.int .i64 (-1)],rfl,aD _,h6,aD _,by unfold maxLen;omega,rfl,rfl⟩⟩
  exact h5.alloc _
 rintro e w3 ⟨u,rfl,ho3,hk3⟩
 have CA:Hid (∃ wA:World,wA.heap.size=w.heap.size+1/\aa w wA/\ar wA w.heap.size #[.int .i64 0] 32/\aa wA w3):=hid ⟨w.alloc (.cells #[.int .i64 0] 32),World.size_alloc _ _,((Ext.refl w).alloc _).below,ar.new _ _ _,by
  have h5:=(((Ext.refl (w.alloc (.cells #[.int .i64 0] 32))).alloc (.cells #[.int .i64 (-1)] 3)).alloc (.cells #[.slice (some ⟨w.heap.size+1,0,none⟩) 1 1] 39)).below
  exact h5.trans (hk3.mono h5.size)⟩
 have Wt:=hid ho3;clear ho3 hk3 m1 m0 CR;obtain⟨wA,hA1,hA2,hA3,hA4⟩:=CA.out;have GZ:=hid hA1;have XA:=hid hA2;have BA:=hid hA3;have X3:=hid hA4;clear hA1 hA2 hA3 hA4 CA;have MA:Hid (Mk (fun x=>F0 x/\x≠w.heap.size) wA base mb ob f (.slice pa n pc) cv ps [] [] sv nv kv us ns ks):=hid ((MW.out.mono fun x hx h=>⟨h,Nat.ne_of_lt hx⟩).below XA.out);have PB:Hid (Below base w wA):=hid (XA.out.mono (Nat.le_of_lt rH));have Zj:Hid (∀ W W',ae (fun x=>x<wA.heap.size/\(x<base\/x=w.heap.size\/¬F0 x)) wA W->ae (fun x=>x<W.heap.size/\x≠w.heap.size) W W'->ae (fun x=>x<w.heap.size/\(x<base\/¬F0 x)) w W'):=hid fun W W' h1 h2=>by
  have h4:=h1.size;have h5:=GZ.out;exact((ae.ak XA.out fun x hx=>hx.1:ae (fun x=>x<w.heap.size/\(x<base\/¬F0 x)) w wA).tr (h1.mono fun x hx=>⟨by omega,hx.2.imp id .inr⟩)).tr (h2.mono fun x hx=>⟨by omega,by omega⟩)
 clear MW;go_wp2_with fail
 refine(Au (fun x=>F0 x/\x≠w.heap.size) base mb ob f (.slice pa n pc) cv ps [] [] OK.out wA w3 ⟨_,_,_,_,_,_,MA.out⟩ X3.out (fun x hx=>⟨HF0.out x (by have:=GZ.out;omega),by have:=GZ.out;omega⟩) u (lN ps) ?_ (Br ps) List.nodup_nil (fun p hp=>by cases hp) hf (Nat.zero_le _) (fun W hW=>HP.out W (PB.out.trans hW)) (fun W hW=>HT.out W (PB.out.trans hW))).mono ?_
 ·have h5:=Wt.out
  have h6:lN ps=List.replicate n [-1]:=by unfold lN;rw[List.map_const',RA.out]
  rw[h6,GZ.out];exact h5
 rintro e w4 ⟨hk4,hq⟩;rcases hq with⟨h1,_⟩ | ⟨h1,h2,rfl,hM4⟩ | ⟨h1,h2,rfl⟩
 ·cases h1
 ·have KA:Hid (ae (fun x=>x<wA.heap.size/\(x<base\/x=w.heap.size\/¬F0 x)) wA w4):=hid ((ae.ak X3.out fun x hx=>hx.1:ae (fun x=>x<wA.heap.size/\(x<base\/x=w.heap.size\/¬F0 x)) wA w3).tr (hk4.mono fun x hx=>⟨hx.1,Zh hx.2⟩))
  have M4:=hid hM4;have Qo:1<=f:=by simp at h2;omega
  clear hk4 hM4 h1 h2 X3 Wt MA;go_wp2;go_loopw [5] (fun iv wr=>∃ (k:Nat) (rows:List (List (List Int))) (Bl:List (List Nat)),ju f (dy ps ls) ls.length (lN ps) k=some (rows,Bl)/\k<=rows.length/\iv=.int .i64 k/\Wi (fun x=>F0 x/\x≠w.heap.size) wr base mb ob f (.slice pa n pc) cv ps rows (Bl.map fun r=>r.map Int.ofNat)/\ae (fun x=>x<wA.heap.size/\(x<base\/x=w.heap.size\/¬F0 x)) wA wr) (fun iv _=>f-(intOf iv).toNat);case atStart=>exact⟨0,[lN ps],[],rfl,Nat.zero_le _,rfl,M4.out,KA.out⟩
  case round=>
   obtain⟨k,rows,Bl,hst,hk,rfl,hM,hK⟩:=hrel;obtain⟨sv1,nv1,kv1,us1,ns1,ks1,M⟩:=hM;obtain⟨wo,rfl⟩:=ag (wr:World);have IS:=hid (KM Qo hst);obtain⟨L,Zk⟩:=ag rows.length;have Zl:=M.st.1;rw[<-Zk]at Zl hk;obtain⟨sa,sc,rfl⟩:=ownsRow_form Zl;have hLf:L<=f:=by rw[Zk];exact(KM Qo hst).le
   have MO:=hid M;have Dw:=hid Zk;have HST:=hid hst;have KO:=hid hK;have m2:wo.cell? ⟨mb,2,none⟩=some (.slice sa L sc):=M.blk.cell 2;clear hst hK M Zk Zl M4 KA;by_cases hlt:k<L
   ·have eG:(k:Int)<L:=by omega
    obtain⟨p,hp⟩:∃ p,rows[k]? =some p:=⟨_,az (by have:=Dw.out;omega)⟩;have HPp:=hid hp;clear hp;go_wp2;clear m2;go_loopw [6,31] (fun nv2 iv wi=>∃ (j:Nat) (iq:List (List (List Int))) (s8:List Nat),gS f (dy ps ls p) rows j=some (iq,s8)/\j<=m/\iv=.int .i64 j/\wi.ownsRow wA.heap.size 3 1 nv2 j (s8.map fun t:Nat=>.int .i64 t)/\Wi (fun x=>(F0 x/\x≠w.heap.size)/\nv2.ownBlock≠some x) wi base mb ob f (.slice pa n pc) cv ps iq (Bl.map fun r=>r.map Int.ofNat)/\ae (fun x=>x<wA.heap.size/\(x<base\/x=w.heap.size\/¬F0 x)) wA wi) (fun _ iv _=>m-(intOf iv).toNat);case atStart=>exact⟨0,rows,[],rfl,Nat.zero_le _,rfl,World.ownsRow_nil _ _ _ _,⟨_,_,_,_,_,_,MO.out.mono fun x _ hx=>⟨hx,fun e=>by cases e⟩⟩,KO.out⟩
    case round=>
     obtain⟨j,iq,s8,hr2,hj,rfl,Oe,Tv,hK2⟩:=hrel;obtain⟨wj,rfl⟩:=ag (wr:World);have RO:=hid (ri (P:=pC ps) IS.out.nodup IS.out.le IS.out.all j (fun _ _=>ry (IS.out.all p (aw HPp.out)) _) hr2);have HR2:=hid hr2;have j8:=hid Oe;have K2:=hid hK2;have M2:=hid Tv;clear hr2 Oe hK2 Tv;by_cases Hb:j<m
     ·have ki:(j:Int)<m:=by omega
      obtain⟨c,hc⟩:∃ c,ls[j]? =some c:=⟨_,az (by have:=HLM.out;omega)⟩;have kT:c<256:=Zi.out c (aw hc);have HG:Hid (dy ps ls p j=eZ ps p c):=hid (by unfold dy;rw[bh,hc];rfl);have PJ:Hid (Below base w wj):=hid (PB.out.trans (K2.out.mono fun x (hx:x<base)=>⟨by have:=GZ.out;omega,.inl hx⟩:ae (· <base) wA wj).below);obtain⟨lb,lo,rfl,TF,fl⟩:=(HL.out wj ((ae.ak XA.out fun x hx=>hx.1:ae (fun x=>x<w.heap.size/\(x<base\/¬F0 x)) w wA).tr (K2.out.mono fun x hx=>⟨by have:=GZ.out;omega,hx.2.imp id .inr⟩))).elem hc;replace fl:wj.cell? ⟨lb,lo+j,none⟩=some (.int .u8 c):=fl;obtain⟨sv2,nv3,kv2,us2,ns2,ks2,M⟩:=M2.out;obtain⟨L2,hL2⟩:=ag iq.length;have Vc:=M.st.1;rw[<-hL2]at Vc;obtain⟨sa2,sc2,rfl⟩:=ownsRow_form Vc;have anZ:L<=L2:=by have h5:=RO.out.pre.length_le;have h6:=Dw.out;simp only at h5;omega
      have hk2:k<L2:=by omega
      have an0:(0:Int)<=k/\(k:Int)<L2:=by omega
      obtain⟨g,u,rfl,hbg,hgs,hu,fu,hz⟩:=fB Vc hk2;have We:iq[k]? =some p:=by obtain⟨ys,Ue⟩:=RO.out.pre;replace Ue:rows++ys=iq:=Ue;rw[<-Ue,bJ (by have:=Dw.out;omega)];exact HPp.out
      have hLu:=(M.Tp k u p hu We).1.own;obtain⟨ua,uc,rfl⟩:=hLu.form;have HLu:=hid hLu;have f0:wj.cell? ⟨mb,0,none⟩=some (.slice pa n pc):=M.blk.cell 0;have f2:wj.cell? ⟨mb,2,none⟩=some (.slice (some ⟨g,0,none⟩) L2 sc2):=M.blk.cell 2;clear Vc hz hu hc hL2 We hLu;have Vd:wA.heap.size<=wj.heap.size:=K2.out.size;have CS:Hid (∀ (W:World) (v:Value),aa wj W->br wj.heap.size W v (eZ ps p c)->ah 171 #[.pointer (some ⟨mb,0,none⟩),v] W fun e w'=>ae (fun x=>x<wj.heap.size/\(x<base\/¬ ((F0 x/\x≠w.heap.size)/\u6.ownBlock≠some x))) W w'/\((∃ (t:Nat) (KN:List (List (List Int))),t<=4000/\gS f (dy ps ls p) rows (j+1)=some (KN,s8++ [t])/\e=.returned (.int .i64 t)/\Wi (fun x=>(F0 x/\x≠w.heap.size)/\u6.ownBlock≠some x) w' base mb ob f (.slice pa n pc) cv ps KN (Bl.map fun r=>r.map Int.ofNat))\/(xo ps ls f=none/\e=.panicked [{v:=.iface 265 (.agg #[]),recovered:=false}]))):=hid fun W v hW hv=>by
       have zv:iq.length<=f:=RO.out.le;refine(Au (fun x=>(F0 x/\x≠w.heap.size)/\u6.ownBlock≠some x) base mb ob f (.slice pa n pc) cv ps iq (Bl.map fun r=>r.map Int.ofNat) OK.out wj W M2.out hW (fun x hx=>⟨⟨HF0.out x (by have:=GZ.out;omega),by have:=GZ.out;omega⟩,fun e=>by have:=(j8.out.lt x e).2;omega⟩) v (eZ ps p c) hv (ry (IS.out.all p (aw HPp.out)) c) RO.out.nodup RO.out.all hf zv (fun W hW=>HP.out W (PJ.out.trans hW)) (fun W hW=>HT.out W (PJ.out.trans hW))).mono ?_;rintro e w' ⟨hk,hq⟩;refine⟨hk,?_⟩;rcases hq with⟨h1,rfl,h3⟩ | ⟨h1,h2,rfl,h3⟩ | ⟨h1,h2,rfl⟩
       ·refine .inl ⟨Yb iq (eZ ps p c),iq,?_,?_,rfl,h3⟩
        ·have:Yb iq (eZ ps p c)<iq.length:=Zg h1
         omega
        ·rw[gS,HR2.out,HG.out]
         exact U5 h1
       ·refine .inl ⟨iq.length,iq++ [eZ ps p c],by omega,?_,rfl,h3⟩
        rw[gS,HR2.out,HG.out];exact Rx h1 h2
       ·exact .inr ⟨U7 Qo HST.out HPp.out HR2.out (by have:=HLM.out;omega) (by rw[HG.out];exact h1) h2,rfl⟩
      go_wp2_with fail
      refine(Mu mb (.slice pa n pc) (.slice ua p.length uc) ps OK.out p (IS.out.all p (aw HPp.out)) c kT wj f0 (HP.out wj PJ.out) HLu.out.ll).mono ?_;rintro e w2 ⟨v1,rfl,ho3,hk3⟩;have Wt:=hid ho3;have X3:=hid hk3;clear ho3 hk3 f0 f2 fl fu;go_wp2_with fail
      refine(CS.out w2 v1 X3.out Wt.out).mono ?_;rintro e w3 ⟨hk4,hq⟩;have K4:=hid hk4;clear hk4;have Wj:Hid (ae (fun x=>x<wA.heap.size/\(x<base\/x=w.heap.size\/¬F0 x)) wA w3):=hid ((K2.out.tr (ae.ak X3.out fun x hx=>aA hx.1 Vd)).tr (K4.out.mono fun x hx=>⟨aA hx.1 Vd,acV hx.2⟩));rcases hq with⟨t,KN,ht,hr3,rfl,hM3⟩ | ⟨hno,rfl⟩
      ·have RN:Hid (w3.ownsRow wA.heap.size 3 1 u6 j (s8.map fun t:Nat=>.int .i64 t)):=hid (ai j8.out ((ae.ak X3.out fun x hx=>hx.1:ae (fun x=>x<wj.heap.size/\u6.ownBlock=some x) wj w2).tr (K4.out.mono fun x hx=>⟨hx.1,.inr fun h=>h.2 hx.2⟩)) fun x hx=>⟨(j8.out.lt x hx).2,hx⟩)
       have HR3:=hid hr3;have M3:=hid hM3;have Yi:wA.heap.size<=w3.heap.size:=Wj.out.size;clear hr3 hM3 CS;go_wp2_with (at_builtin;refine Hid.out ?_);refine hid ?_;refine wpList_append_own_at _ rfl (.tmp 35) (.tmp 48) 39 rfl wA.heap.size 3 iI (.int .i64 0) 1 8 Tryz.underlying39 y7 kJ kK kL rfl (by decide) u6 j _ rfl (RN.out.alloc _) ⟨w3.heap.size,0,none⟩ 1 1 [.int .i64 t] rfl rfl (eX _ _ _) (by simp[Value.oneCell']) (by unfold maxLen;omega) (by omega) (by simp;omega) ?_;intro v' w5 hown' hgrow hh hat;have Jg:=hid hown';have lF:=hid hgrow;have LL:=hid hat;clear hown' hgrow hh hat;go_wp2;go_roundw;case rel=>
        refine⟨j+1,KN,s8++ [t],HR3.out,by omega,by go_num,?_,?_,?_⟩
        ·rw[List.map_append];exact Jg.out
        ·obtain⟨sv3,nv3,kv3,us3,ns3,ks3,M⟩:=M3.out
         have M4:=M.below ((Ext.refl w3).alloc (.cells #[.int .i64 t] 3)).below
         have M5:=M4.mono (F':=fun x=>((F0 x/\x≠w.heap.size)/\u6.ownBlock≠some x)/\v'.ownBlock≠some x) fun x hx h=>⟨h,fun e=>by
          rcases LL.out with h5 | h5
          ·exact h.2 (by rw[<-h5,e])
          ·rw[h5]at e;cases e;simp at hx⟩
         have M6:=M5.keeps (ae.bw lF.out fun x hx=>⟨hx.1,fun e=>hx.2 e.symm⟩:ae (fun x=>x<(w3.alloc (.cells #[.int .i64 t] 3)).heap.size/\u6.ownBlock≠some x) _ w5) fun x hx h=>⟨hx,h.1.2⟩
         exact⟨_,_,_,_,_,_,M6.mono fun x _ h=>⟨h.1.1,h.2⟩⟩
        ·exact(Wj.out.alloc (fun x hx=>aA hx.1 Yi) _).tr (ae.bw lF.out fun x hx=>⟨by have:=hx.1;simp;omega,fun e=>by have:=(RN.out.lt x e.symm).1;have:=hx.1;omega⟩)
       case measure=>simp[intOf];omega
      ·refine uq _ w.heap.size rfl _ w3 (BA.out.keeps Wj.out ⟨by have:=GZ.out;omega,.inr (.inl rfl)⟩) fun W' GR=>⟨Zj.out w3 W' Wj.out GR,.inr ⟨hno,rfl⟩⟩
     ·have GI:j=m:=by omega
      subst GI;clear Hb hj;have ki:¬ ((j:Int)<j):=by omega
      obtain⟨sv2,nv3,kv2,us2,ns2,ks2,M⟩:=M2.out;have hxf:=j8.out;obtain⟨xa,xc,rfl⟩:=ownsRow_form hxf;have uK:(Bl.map fun r=>r.map Int.ofNat).length=k:=by have h5:=IS.out.len;have h6:=Dw.out;simp only at h5;rw[aQ,h5];omega
      have Ty:=M.uS.1;rw[uK]at Ty;obtain⟨na,nc,rfl⟩:=ownsRow_form Ty;have f5:wj.cell? ⟨mb,5,none⟩=some (.slice na k nc):=M.blk.cell 5;have M3:=hid (M.mono (F':=fun x=>F0 x/\x≠w.heap.size) fun x _ h=>h.1);have HNR:=hid Ty;have Zm:=hid uK;have hbj:base<=wj.heap.size:=Nat.le_trans M.bm (Nat.le_of_lt M.blk.lt);have ag8:mb≠w.heap.size:=M.fm.1.2;clear M hxf uK Ty;go_wp2_with (at_builtin;refine Hid.out ?_);refine hid ?_;refine wpList_append_own_at _ rfl (.tmp 56) (.tmp 58) 27 rfl base 39 iL (.slice none 0 0) 1 24 Tryz.underlying27 zX mK mL mM rfl (by decide) (.slice na k nc) k ns2 rfl (HNR.out.alloc _) ⟨wj.heap.size,0,none⟩ 1 1 [.slice xa j xc] rfl rfl (eX _ _ _) (by simp[Value.oneCell']) (by unfold maxLen;omega) (by omega) (by simp;omega) ?_;intro v' w5 hown' hgrow hh hat;obtain⟨va,vc,rfl⟩:=ownsRow_form hown';have acW:some mb≠(Value.slice na k nc).ownBlock:=fun e=>cm M3.out.blk HNR.out (by decide) mb e.symm rfl
      have B5:=hid ((M3.out.blk.alloc (.cells #[.slice xa j xc] 39)).grown hgrow acW);have Jg:=hid hown';have lF:=hid hgrow;have LL:=hid hat;have g5:=B5.out.cell 5;have z5:=B5.out.frozen 5;clear hown' hgrow hh hat f5 acW;go_wp2;have K9:ae (fun x=>x<wj.heap.size/\x≠mb/\(Value.slice na k nc).ownBlock≠some x) wj (w5.setCell ⟨mb,5,none⟩ (.slice va (k+1) vc)):=(((ae.refl _ wj).alloc (fun x hx=>hx.1) _).tr (ae.bw lF.out fun x hx=>⟨by have:=hx.1;simp;omega,fun e=>hx.2.2 e.symm⟩)).setCell (fun h=>h.2.1 rfl) _;have K5:ae (· ≠mb) w5 (w5.setCell ⟨mb,5,none⟩ (.slice va (k+1) vc)):=(ae.refl _ w5).setCell (fun h=>h rfl) _;have Vd:wA.heap.size<=wj.heap.size:=K2.out.size;have hlr:s8.length=j:=RO.out.len;have e1:s8.map (fun t:Nat=>Value.int .i64 t)=(s8.map Int.ofNat).map aN:=by rw[List.map_map];rfl
      have DU:(Value.slice va (k+1) vc).ownBlock=(Value.slice na k nc).ownBlock\/∀ x,(Value.slice va (k+1) vc).ownBlock=some x->wj.heap.size<=x:=LL.out.imp id fun h x e=>by rw[h]at e;cases e;simp
      have hrow:ik (fun x=>F0 x/\x≠w.heap.size) (w5.setCell ⟨mb,5,none⟩ (.slice va (k+1) vc)) base 3 (.slice xa j xc) (s8.map Int.ofNat).length ((s8.map Int.ofNat).map aN):=by rw[<-e1,aQ,hlr];exact⟨xp M3.out.blk HNR.out K9 (aF j8.out (by have:=GZ.out;omega)) (by decide) (.inl (by decide)),fun x e=>⟨HF0.out x (by have:=(j8.out.lt x e).1;have:=GZ.out;omega),by have:=(j8.out.lt x e).1;have:=GZ.out;omega⟩⟩
      have MF:=Mk.next M3.out Zm.out.symm K9 (B5.out.set 5 _) ⟨ai Jg.out K5 fun x hx=>cm B5.out Jg.out (by decide) x hx,fun x e=>by
       rcases DU with h5 | h5
       ·exact M3.out.uS.2 x (h5.symm.trans e)
       ·exact⟨HF0.out x (by have:=h5 x e;have:=GZ.out;omega),by have:=h5 x e;have:=GZ.out;omega⟩⟩ hrow DU
      have K8:ae (fun x=>x<wA.heap.size/\(x<base\/x=w.heap.size\/¬F0 x)) wA (w5.setCell ⟨mb,5,none⟩ (.slice va (k+1) vc)):=K2.out.tr (K9.mono fun x hx=>⟨aA hx.1 Vd,fun e=>by
       rcases hx.2 with h5 | h5 | h5
       ·have:=M3.out.bm;omega
       ·exact ag8 (e.symm.trans h5)
       ·exact h5 (by rw[e];exact M3.out.fm.1),fun e=>by
       rcases hx.2 with h5 | h5 | h5
       ·have:=(HNR.out.lt x e).1;omega
       ·exact(M3.out.uS.2 x e).2 h5
       ·exact h5 (M3.out.uS.2 x e).1⟩)
      have hst:ju f (dy ps ls) ls.length (lN ps) (k+1)=some (iq,Bl++ [s8]):=by rw[Ry HST.out HPp.out, <-HLM.out,HR2.out];rfl
      have EX:k+1<=iq.length:=by have h5:rows.length<=iq.length:=RO.out.pre.length_le;have:=Dw.out;omega
      go_roundw
      case rel=>
       refine⟨k+1,iq,Bl++ [s8],hst,EX,by go_num,?_,K8⟩;rw[List.map_append];exact⟨_,_,_,_,_,_,MF⟩
      case measure=>simp[intOf];omega
   ·have hkL:k=L:=by omega
    subst hkL;clear hlt;have eG:¬ ((k:Int)<k):=by omega
    have B0:=hid (BA.out.keeps KO.out ⟨by have:=GZ.out;omega,.inr (.inl rfl)⟩);have g0:=B0.out.cell 0;have z0:=B0.out.frozen 0;go_wp2;have K9:ae (fun x=>x<wo.heap.size/\x≠w.heap.size) wo (wo.setCell ⟨w.heap.size,0,none⟩ (.int .i64 0)):=(ae.refl _ wo).setCell (fun h=>h.2 rfl) _;exact Nj _ w.heap.size 0 rfl _ _ (B0.out.set 0 _) ⟨Zj.out wo _ KO.out K9,.inl ⟨rows,Bl,U6 Qo HST.out (by have:=Dw.out;show rows.length=k;omega),rfl,_,_,_,_,_,_,(MO.out.keeps K9 fun x hx h=>⟨hx,h.2⟩).mono fun x _ _=>trivial⟩⟩
 ·have KA:ae (fun x=>x<wA.heap.size/\(x<base\/x=w.heap.size\/¬F0 x)) wA w4:=(ae.ak X3.out fun x hx=>hx.1:ae (fun x=>x<wA.heap.size/\(x<base\/x=w.heap.size\/¬F0 x)) wA w3).tr (hk4.mono fun x hx=>⟨hx.1,Zh hx.2⟩)
  refine uq _ w.heap.size rfl _ w4 (BA.out.keeps KA ⟨by have:=GZ.out;omega,.inr (.inl rfl)⟩) fun W' GR=>⟨Zj.out w4 W' KA GR,.inr ⟨?_,rfl⟩⟩
  unfold xo;rw[if_pos (by simpa using h2)]
theorem cW.src {w:World} {v:Value} {l:List BS} (h:cW w v l):tM w v l.length (aM l):=by
 rcases h with⟨rfl,rfl⟩ | ⟨b,off,cap,rfl,_,hc⟩
 ·exact .inl ⟨rfl,rfl,rfl⟩
 ·refine .inr ⟨⟨b,off,none⟩,cap,rfl,fun j u hj=>?_⟩
  have Dt:j<l.length*4:=by rw[<-cL];exact(List.getElem?_eq_some_iff.1 hj).1
  have h1:l[j/4]? =some (l[j/4]'(by omega)):=az (by omega);have h2:=iA l h1 (j:=j%4) (by omega);rw[show j/4*4+j%4=j by omega,hj]at h2;rw[Addr.add_mid,show off+j=off+j/4*4+j%4 by omega,hc _ _ h1 _ (by omega), <-h2]
theorem rR {ps:List PT} {k:Nat} {x:PT} (h:ps[k]? =some x):cC (ps.take (k+1))=cC (ps.take k)++x.nf.aL:=by unfold cC;rw[List.take_add_one,h];simp
theorem PT.xr (x:PT):x.ok=true↔x.nf.right=true/\0<=x.mark/\x.mark<=255:=by unfold PT.ok;simp[and_assoc]
theorem Cx {ps:List PT} {f:Int} (h:ps.length<=64) {k:Nat} {x:PT} (hx:ps[k]? =some x) (hb:¬x.ok=true):kP ps f=(⟨[],[],[]⟩,180):=by unfold kP;rw[if_neg (by omega),if_pos];rw[List.all_eq_false];exact⟨x,aw hx,hb⟩
theorem RG {ps:List PT} {f:Int} (h:64<ps.length):kP ps f=(⟨[],[],[]⟩,5):=by unfold kP;rw[if_pos h]
theorem Zn {ps:List PT} (h:∀ (k:Nat) (x:PT),ps[k]? =some x->x.ok=true):ps.all PT.ok=true:=List.all_eq_true.2 fun x hx=>by
 obtain⟨i,hi⟩:=List.getElem?_of_mem hx;exact h i x hi
theorem FC {ps:List PT} {f:Int} (h:ps.length<=64) (ho:ps.all PT.ok=true) (hf:f<0\/4000<f):kP ps f=(⟨[],[],[]⟩,2):=by unfold kP;rw[if_neg (by omega),ho,if_neg (by decide),if_pos hf]
theorem uu {α:Type} [DecidableEq α] {fuel:Nat} {g g':Nat->α} {todo:List α} :∀ {k:Nat},(∀ j,j<k->g j=g' j)->gS fuel g todo k=gS fuel g' todo k
 | 0,_=>rfl
 | k+1,h=>by rw[gS,gS,uu fun j hj=>h j (by omega),h k (by omega)]
theorem xw {α:Type} [DecidableEq α] {fuel K:Nat} {f f':α->Nat->α} {p0:α} (h:∀ p j,j<K->f p j=f' p j):∀ n,ju fuel f K p0 n=ju fuel f' K p0 n
 | 0=>rfl
 | n+1=>by
  rw[ju,ju,xw h n];congr 1;funext st;unfold pR;cases st.1[n]? with
  | none=>rfl
  | some p=>simp only[uu (h p)]
theorem Ve {ps:List PT} {f:Nat} {ls:List Nat} (hl:ls.length=(partsOf (cC ps)).length) (h:∀ k,k<ls.length->ls.getD k 0=lb (partsOf (cC ps)) k):xo ps ls f=sO ps f:=by
 unfold xo sO;rw[hl];split
 ·rfl
 ·refine xw (fun p j hj=>?_) f
  unfold dy;rw[h j (by omega)]
theorem RH {ps:List PT} {f:Nat} (h:ps.length<=64) (ho:ps.all PT.ok=true) (hf:f<=4000) (hs:sO ps f=none):kP ps f=(⟨[],[],[]⟩,181):=by unfold kP;rw[if_neg (by omega),ho,if_neg (by decide),if_neg (by omega),Int.toNat_natCast,hs]
theorem RJ {ps:List PT} {f:Nat} (h:ps.length<=64) (ho:ps.all PT.ok=true) (hf:f<=4000) {st:List (List (List Int))×List (List Nat)} (hs:sO ps f=some st):kP ps f=(⟨partsOf (cC ps),st.2.map fun r=>r.map Int.ofNat,st.1.map (dM ps)⟩,0):=by unfold kP;rw[if_neg (by omega),ho,if_neg (by decide),if_neg (by omega),Int.toNat_natCast,hs]
attribute [local go_sem] encS
theorem Nk (v:Value) (ps:List PT) (f:Int) (w:World) (h:iW w v ps) (sm:∀ x∈ps,PZ x.nf) (hT:∀ W,aa w W->nE W): ah 61 #[v,.int .i64 f] w fun e w'=>∃ u,e=.returned (.tuple #[u,.int .i64 (kP ps f).2])/\bA w.heap.size w' u (kP ps f).1/\aa w w':=by
 obtain⟨iS,hiS,MH,MI,MJ⟩:=info_parts Tryz.zE;obtain⟨iB,Ym,IJ,IK,IM⟩:=info_parts Tryz.Hn;obtain⟨pa,pc,rfl⟩:=h.form;obtain⟨n,Kl⟩:=ag ps.length;rw[<-Kl]at h ⊢;have RA:=hid Kl;have HP:=hid h;have SM:=hid sm;have HT:=hid hT;have fin:Hid (∀ (W:World) (code:Int),kP ps f=(⟨[],[],[]⟩,code)->ar W w.heap.size #[.slice none 0 0,.slice none 0 0,.slice none 0 0] 29->aa w W->∃ u,Ending.returned (.tuple #[.agg #[.slice none 0 0,.slice none 0 0,.slice none 0 0],.int .i64 code])=.returned (.tuple #[u,.int .i64 (kP ps f).2])/\bA w.heap.size W u (kP ps f).1/\aa w W):=hid fun W code h1 _ h3=>by
  rw[h1];exact⟨_,rfl,⟨_,_,_,rfl,World.ownsRow_nil _ _ _ _,br.nil _ _,br.nil _ _⟩,h3⟩
 clear h sm hT Kl;by_cases acX:64<n
 ·have hmi:(64:Int)<n:=by omega
  have Oq:=hid (RG (f:=f) (show 64<ps.length by rw[<-RA.out];exact acX));go_enter Tryz.func61,Tryz.ntmps61;go_wp2;refine bu ?_;intro W9 gq;have E9:Hid (ar W9 w.heap.size #[.slice none 0 0,.slice none 0 0,.slice none 0 0] 29/\aa w W9):=by rw[gq];exact hid ⟨ar.new _ _ _,((Ext.refl w).alloc _).below⟩
  clear gq;obtain⟨⟨m0,m1,m2⟩,_⟩:=E9.out.1.three;refine bodyPost_ret (v:=.tuple #[.agg #[.slice none 0 0,.slice none 0 0,.slice none 0 0],.int .i64 5]) (by simp[results,Tryz.results61,go_sem,m0,m1,m2]) rfl (fin.out W9 5 Oq.out E9.out.1 E9.out.2)
 ·have hmi:¬ ((64:Int)<n):=by omega
  have sU:ps.length<=64:=by rw[<-RA.out];omega
  have sw:= @run_makeMap Tryz.prog;go_enter Tryz.func61,Tryz.ntmps61;go_wp2;go_loopw [6,24] (fun av iv wr=>∃ k:Nat,k<=n/\iv=.int .i64 k/\wr.ownsRow (w.heap.size+1) 56 4 av (cC (ps.take k)).length (aM (cC (ps.take k)))/\(cC (ps.take k)).length<=400*k/\(∀ (i:Nat) (x:PT),i<k->ps[i]? =some x->x.ok=true)/\ar wr w.heap.size #[.slice none 0 0,.slice none 0 0,.slice none 0 0] 29/\aa w wr) (fun _ iv _=>n-(intOf iv).toNat);case atStart=>exact⟨0,Nat.zero_le _,rfl,World.ownsRow_nil _ _ _ _,Nat.zero_le _,fun i x h=>absurd h (Nat.not_lt_zero _),ar.new _ _ _,((Ext.refl w).alloc _).below⟩
  case round=>
   obtain⟨k,hk,rfl,ho,nX,hall,hb,hx⟩:=hrel;obtain⟨wo,rfl⟩:=ag (wr:World);have HO:=hid ho;have Cy:=hid hall;have HB:=hid hb;have HX:=hid hx;have HPO:=hid (HP.out.below hx);have Uz:w.heap.size<wo.heap.size:=hb.lt;obtain⟨A,hA⟩:=ag ((cC (ps.take k)).length);rw[<-hA]at HO nX;have HAn:=hid hA;clear ho hall hb hx hA;by_cases hlt:k<n
   ·have eG:(k:Int)<n:=by omega
    obtain⟨x,hx⟩:∃ x,ps[k]? =some x:=⟨_,az (by have:=RA.out;omega)⟩;obtain⟨b,off,v0,v1,v2,v3,rfl,hb,Dx,q0,q1,q2,q3,q4,q5,q6⟩:=HPO.out.elem hx;obtain⟨x0,n0,c0,x1,n1,c1,x2,n2,c2,x3,n3,c3,rfl,rfl,rfl,rfl⟩:=Dx.Qj;have Kp:=hid Dx;have Uy:=hid hx;have SX:Hid (PZ x.nf):=hid (SM.out x (aw hx));clear hx Dx;go_wp2_with fail
    refine aH ?_;intro V hV;have BX:Hid (ar V wo.heap.size #[.slice x0 n0 c0,.slice x1 n1 c1,.slice x2 n2 c2,.slice x3 n3 c3,.bool x.nf.emp,.bool x.zP,.int .i64 x.mark] 124):=hid (by rw[hV];exact ar.new wo _ _);have XV:Hid (aa wo V):=hid (by rw[hV];exact((Ext.refl wo).alloc _).below);clear hV q0 q1 q2 q3 q4 q5 q6;refine(wu (.agg #[.slice x0 n0 c0,.slice x1 n1 c1,.slice x2 n2 c2,.slice x3 n3 c3,.bool x.nf.emp]) x.nf V (Kp.out.below XV.out) SX.out).mono ?_;rintro e w2 ⟨rfl,hx2⟩;have B2:=hid (BX.out.below hx2 BX.out.lt);have X2:=hid (XV.out.trans (hx2.mono XV.out.size));clear hx2 BX XV;have C8:=hid (HB.out.below X2.out Uz);have X9:=hid (HX.out.trans (X2.out.mono HX.out.size));have O2:=hid (aj HO.out X2.out)
    have S2:Hid (cW w2 (.slice x0 n0 c0) x.nf.aL/\n0=x.nf.aL.length):=hid (by
     obtain⟨u0,u1,u2,u3,e,h0,h1,h2,h3⟩:=Kp.out;cases e;obtain⟨a9,c9,e9⟩:=h0.1.form;refine⟨h0.1.below X2.out,?_⟩
     cases e9;rfl)
    have af5:wo.heap.size<=w2.heap.size:=X2.out.size;obtain⟨r0,r1,r2,r3,r4,r5,r6⟩:=B2.out.seven;obtain⟨⟨k0,k1,k2⟩,z0,z1,z2⟩:=C8.out.three;by_cases hr:x.nf.right=true
    ·have Ntx:=(eY _).1 hr
     rw[hr];by_cases ve:x.mark<0
     ·have d1:decide (x.mark<0)=true:=decide_eq_true ve
      have Av:=hid (Cx (f:=f) sU Uy.out (by rw[PT.xr];omega));go_wp2;refine bu ?_;intro W9 gq;have E9:Hid (ar W9 w.heap.size #[.slice none 0 0,.slice none 0 0,.slice none 0 0] 29/\aa w W9):=by rw[gq];exact hid ⟨C8.out.yT,iD X9.out (aD _)⟩
      clear gq z0 z1 z2 k0 k1 k2;obtain⟨⟨m0,m1,m2⟩,_⟩:=E9.out.1.three;refine bodyPost_ret (v:=.tuple #[.agg #[.slice none 0 0,.slice none 0 0,.slice none 0 0],.int .i64 180]) (by simp[results,Tryz.results61,go_sem,m0,m1,m2]) rfl (fin.out W9 180 Av.out E9.out.1 E9.out.2)
     ·have d1:decide (x.mark<0)=false:=decide_eq_false ve
      by_cases rK:255<x.mark
      ·have d2:decide (255<x.mark)=true:=decide_eq_true rK
       have Av:=hid (Cx (f:=f) sU Uy.out (by rw[PT.xr];omega));go_wp2;refine bu ?_;intro W9 gq;have E9:Hid (ar W9 w.heap.size #[.slice none 0 0,.slice none 0 0,.slice none 0 0] 29/\aa w W9):=by rw[gq];exact hid ⟨C8.out.yT,iD X9.out (aD _)⟩
       clear gq z0 z1 z2 k0 k1 k2;obtain⟨⟨m0,m1,m2⟩,_⟩:=E9.out.1.three;refine bodyPost_ret (v:=.tuple #[.agg #[.slice none 0 0,.slice none 0 0,.slice none 0 0],.int .i64 180]) (by simp[results,Tryz.results61,go_sem,m0,m1,m2]) rfl (fin.out W9 180 Av.out E9.out.1 E9.out.2)
      ·have d2:decide (255<x.mark)=false:=decide_eq_false rK
       have hle:=Ntx.le;go_wp2_with (at_builtin;refine Hid.out ?_);refine hid ?_;refine nh rfl (.tmp 43) (.tmp 46) 26 rfl (w.heap.size+1) 56 iS (.agg #[.int .u64 0,.int .u64 0,.int .u64 0,.int .u64 0]) 4 32 Tryz.underlying26 hiS MH MI MJ rfl (by decide) u6 A _ rfl O2.out (.slice x0 n0 c0) x.nf.aL.length (aM x.nf.aL) rfl S2.out.1.src (cL _) (gP _) (by unfold maxLen;omega) (by omega) (by omega) ?_;intro v' w5 hown hgrow;have O5:=hid hown;have X5:Hid (Below (w.heap.size+1) w2 w5):=hid ((Below.refl _ w2).grown hgrow (by omega) (fun c e=>(O2.out.lt c e).1));clear hown hgrow r0 r1 r2 r3 r4 r5 r6;go_wp2;go_roundw;case rel=>
        refine⟨k+1,by omega,by go_num,?_,?_,fun i y hi hy=>?_,C8.out.below X5.out (by omega),X9.out.trans (X5.out.mono (by omega))⟩
        ·rw[rR Uy.out,aG,gO, <-HAn.out]
         exact O5.out
        ·rw[rR Uy.out,aG, <-HAn.out]
         omega
        ·by_cases e:i<k
         ·exact Cy.out i y e hy
         ·obtain rfl:i=k:=by omega
          rw[Uy.out]at hy;cases hy;exact(PT.xr _).2 ⟨hr,by omega,by omega⟩
       case measure=>simp[intOf];omega
    ·rw[Bool.not_eq_true]at hr
     rw[hr];have Av:=hid (Cx (f:=f) sU Uy.out (by rw[PT.xr];rw[hr];simp));go_wp2;refine bu ?_;intro W9 gq;have E9:Hid (ar W9 w.heap.size #[.slice none 0 0,.slice none 0 0,.slice none 0 0] 29/\aa w W9):=by rw[gq];exact hid ⟨C8.out.yT,iD X9.out (aD _)⟩
     clear gq z0 z1 z2 k0 k1 k2;obtain⟨⟨m0,m1,m2⟩,_⟩:=E9.out.1.three;refine bodyPost_ret (v:=.tuple #[.agg #[.slice none 0 0,.slice none 0 0,.slice none 0 0],.int .i64 180]) (by simp[results,Tryz.results61,go_sem,m0,m1,m2]) rfl (fin.out W9 180 Av.out E9.out.1 E9.out.2)
   ·obtain rfl:k=n:=by omega
    clear hlt hk;have eG:¬ ((k:Int)<k):=by omega
    have fD:ps.take k=ps:=by rw[RA.out];exact List.take_length
    have j6:Hid (ps.all PT.ok=true):=hid (Zn fun i x hx=>Cy.out i x (by have:=(List.getElem?_eq_some_iff.1 hx).1;have:=RA.out;omega) hx);rw[fD]at HO HAn;clear fD Cy;by_cases hf0:f<0
    ·have d1:decide (f<0)=true:=decide_eq_true hf0
     obtain⟨⟨k0,k1,k2⟩,z0,z1,z2⟩:=HB.out.three;have Av:=hid (FC (f:=f) sU j6.out (.inl hf0));go_wp2;refine bu ?_;intro W9 gq;have E9:Hid (ar W9 w.heap.size #[.slice none 0 0,.slice none 0 0,.slice none 0 0] 29/\aa w W9):=by rw[gq];exact hid ⟨HB.out.yT,iD HX.out (aD _)⟩
     clear gq z0 z1 z2 k0 k1 k2;obtain⟨⟨m0,m1,m2⟩,_⟩:=E9.out.1.three;refine bodyPost_ret (v:=.tuple #[.agg #[.slice none 0 0,.slice none 0 0,.slice none 0 0],.int .i64 2]) (by simp[results,Tryz.results61,go_sem,m0,m1,m2]) rfl (fin.out W9 2 Av.out E9.out.1 E9.out.2)
    ·have d1:decide (f<0)=false:=decide_eq_false hf0
     by_cases hf4:4000<f
     ·have d2:decide (4000<f)=true:=decide_eq_true hf4
      obtain⟨⟨k0,k1,k2⟩,z0,z1,z2⟩:=HB.out.three;have Av:=hid (FC (f:=f) sU j6.out (.inr hf4));go_wp2;refine bu ?_;intro W9 gq;have E9:Hid (ar W9 w.heap.size #[.slice none 0 0,.slice none 0 0,.slice none 0 0] 29/\aa w W9):=by rw[gq];exact hid ⟨HB.out.yT,iD HX.out (aD _)⟩
      clear gq z0 z1 z2 k0 k1 k2;obtain⟨⟨m0,m1,m2⟩,_⟩:=E9.out.1.three;refine bodyPost_ret (v:=.tuple #[.agg #[.slice none 0 0,.slice none 0 0,.slice none 0 0],.int .i64 2]) (by simp[results,Tryz.results61,go_sem,m0,m1,m2]) rfl (fin.out W9 2 Av.out E9.out.1 E9.out.2)
     ·have d2:decide (4000<f)=false:=decide_eq_false hf4
      obtain⟨P,hP⟩:=ag (partsOf (cC ps));obtain⟨K,hK⟩:=ag P.length;have WD:K<=256:=by rw[hK,hP,(fA _).length_eq];exact eu _
      have Av:=hid hP;have GQ:=hid hK;have CA:Hid (∀ W v,cW W v (cC ps)->ah 110 #[v] W fun e w'=>∃ b,e=.returned (.pointer (some ⟨b,0,none⟩))/\cU w' W.heap.size (.pointer (some ⟨b,0,none⟩)) P/\aa W w'):=hid fun W v h=>by
       have:=lK (cC ps) v W h (by have:=HAn.out;omega);rwa[<-hP]at this
      have CL:Hid (∀ W x bx,cU W bx (.pointer (some ⟨x,0,none⟩)) P->ah 111 #[.pointer (some ⟨x,0,none⟩)] W fun e w'=>e=.returned (.int .i64 K)/\w'=W):=hid fun W x bx h=>by rw[hK];exact J3 _ _ _ _ h
      have CS:Hid (∀ W x bx (k:Nat) s,P[k]? =some s->cU W bx (.pointer (some ⟨x,0,none⟩)) P->ah 112 #[.pointer (some ⟨x,0,none⟩),.int .i64 k] W fun e w'=>e=.returned (.tuple #[.agg (encS s),.bool true])/\Ext W w'):=hid fun W x bx k s hs h=>by
       have:=J5 _ bx P k W h;rw[sJ,hs]at this;exact this
      have CM:Hid (∀ W x bx (k:Nat),k<P.length->cU W bx (.pointer (some ⟨x,0,none⟩)) P->ah 113 #[.pointer (some ⟨x,0,none⟩),.int .i64 k] W fun e w'=>e=.returned (.tuple #[.int .u8 (lb P k),.bool true])/\Ext W w'):=hid fun W x bx k hk h=>by
       have:=zH _ bx P k W h;rw[hP,vZ (by rw[<-hP];exact hk), <-hP]at this;exact this
      have Zi:Hid (∀ k,k<P.length->lb P k<256):=hid fun k hk=>by rw[hP];exact Kd (by rw[<-hP];exact hk)
      clear hP hK;have HS:=hid (jq (by rw[<-HAn.out];exact HO.out:wo.ownsRow (w.heap.size+1) 56 4 u6 (cC ps).length (aM (cC ps))));go_wp2_with fail
      refine(CA.out wo u6 HS.out).mono ?_;rintro e w2 ⟨ba,rfl,ha,hx⟩;obtain⟨bal,acZ⟩:=ag wo.heap.size;rw[<-acZ]at ha;have AL:=hid ha;clear acZ;have B2:=hid (HB.out.below hx Uz);have X2:=hid (HX.out.trans (hx.mono HX.out.size));clear ha hx CA HB HX HPO HO HS;obtain⟨F,rfl⟩:∃ F:Nat,f=F:=⟨f.toNat,by omega⟩;have hF4:F<=4000:=by omega
      go_wp2_with fail
      refine aH ?_;intro V hV;have BM0:ar V (w2.heap.size+1) #[.slice pa k pc,.int .i64 F,.slice none 0 0,.map (some w2.heap.size),.slice none 0 0,.slice none 0 0,.slice none 0 0] 196:=by rw[hV];exact(ar.new (w2.alloc _) _ _).at (by simp)
      have MS0:lp V w2.heap.size []:=by have h5:lp (w2.alloc (.map #[] 0)) w2.heap.size []:=World.alloc_heap_new w2 _;rw[hV];exact h5.below ((Ext.refl _).alloc _).below
      have XV0:aa w2 V:=by rw[hV];exact(((Ext.refl w2).alloc _).alloc _).below
      clear hV;obtain⟨mb,sy⟩:=ag (w2.heap.size+1);rw[<-sy]at BM0 ⊢;have BM:=hid BM0;have MS:=hid MS0;have XV:=hid XV0;have Tz:=hid sy;have AV:=hid (AL.out.below XV0);have A4:Hid (∀ W',ae (fun x=>x<V.heap.size/\x≠mb) V W'->cU W' bal (.pointer (some ⟨ba,0,none⟩)) P):=hid fun W' h=>AL.out.keeps ((ae.ak XV.out fun _ h=>h:ae (· <w2.heap.size) w2 V).tr (h.mono fun x hx=>⟨aA hx XV.out.size,by have h5:x<w2.heap.size:=hx;have:=Tz.out;omega⟩)) fun _ _ h=>h
      clear BM0 MS0 XV0 sy AL;refine(CL.out _ _ _ AV.out).mono ?_;rintro e w' ⟨rfl,hw⟩;replace hw:=hw.symm;subst hw;go_wp2;go_loopw [11,65] (fun lv iv wr=>∃ (j:Nat) (cv:Value),j<=K/\iv=.int .i64 j/\ar wr mb #[.slice pa k pc,.int .i64 F,.slice none 0 0,.map (some w2.heap.size),cv,.slice none 0 0,.slice none 0 0] 196/\wr.ownsRow V.heap.size 56 4 cv j (aM (P.take j))/\wr.ownsRow V.heap.size 5 1 lv j (((List.range j).map (lb P)).map et)/\ae (fun x=>x<V.heap.size/\x≠mb) V wr) (fun _ iv _=>K-(intOf iv).toNat);case atStart=>exact⟨0,_,Nat.zero_le _,rfl,BM.out,World.ownsRow_nil _ _ _ _,World.ownsRow_nil _ _ _ _,ae.refl _ _⟩
      case round=>
       obtain⟨j,c,hj,rfl,hb,hc,ho,hx⟩:=hrel;obtain⟨wo,rfl⟩:=ag (wr:World);have hVo:V.heap.size<=wo.heap.size:=hx.size;have ahf:mb<V.heap.size:=BM.out.lt;have HB:=hid hb;have RM:=hid hc;have HO:=hid ho;have HX:=hid hx;have AJ:=hid (A4.out wo hx);clear hb hc ho hx;by_cases hlt:j<K
       ·obtain⟨s,hs⟩:∃ s,P[j]? =some s:=⟨_,az (by have:=GQ.out;omega)⟩
        have hjp:j<P.length:=by rw[<-GQ.out];exact hlt
        have TF:=Zi.out j hjp;obtain⟨q,hq⟩:=ag (lb P j);rw[<-hq]at TF;have HSs:=hid hs;have ki:(j:Int)<K:=by omega
        clear hs;have CS1:Hid (∀ W',cU W' bal (.pointer (some ⟨ba,0,none⟩)) P->ah 112 #[.pointer (some ⟨ba,0,none⟩),.int .i64 j] W' fun e w'=>e=.returned (.tuple #[.agg (encS s),.bool true])/\Ext W' w'):=hid fun W' h=>CS.out W' ba _ j s HSs.out h
        have Ku:Hid (∀ W',cU W' bal (.pointer (some ⟨ba,0,none⟩)) P->ah 113 #[.pointer (some ⟨ba,0,none⟩),.int .i64 j] W' fun e w'=>e=.returned (.tuple #[.int .u8 q,.bool true])/\Ext W' w'):=hid fun W' h=>by rw[hq];exact CM.out W' ba _ j hjp h
        have HQS:Hid (P.take (j+1)=P.take j++ [s]):=hid (by rw[List.take_add_one,HSs.out];rfl);have HQL:Hid (((List.range (j+1)).map (lb P)).map et=((List.range j).map (lb P)).map et++ [.int .u8 q]):=hid (by rw[List.range_succ,List.map_append,List.map_append,hq];rfl);clear hq TF hjp HSs;go_wp2_with fail
        refine(CS1.out _ AJ.out).mono ?_;rintro e w5 ⟨rfl,hx⟩;have Y5:=hid hx;have hw5:wo.heap.size<=w5.heap.size:=hx.size;clear hx;go_wp2_with fail
        refine aH ?_;intro V3 cT;have S3:Hid (ar V3 w5.heap.size (encS s) 56):=by rw[cT];exact ar.new _ _ _
        have Y6:Hid (Ext wo V3):=by rw[cT];exact Y5.out.alloc _
        clear cT Y5;refine(Ku.out _ (AJ.out.below Y6.out.below)).mono ?_;rintro e w6 ⟨rfl,hx⟩;have S6:=hid (S3.out.ext hx);have Y7:=hid (Y6.out.trans hx);clear hx S3 Y6;have Tn:=hid (aj RM.out Y7.out.below);have j8:=hid (aj HO.out Y7.out.below);have iV:=hid (HB.out.ext Y7.out);have hw6:wo.heap.size<=w6.heap.size:=Y7.out.size;have fK:=hid (HX.out.tr (ae.ak Y7.out.below fun x hx=>aA hx.1 hVo));have L1:=hid fun x e=>(RM.out.lt x e).2
        have L2:=hid fun x e=>(HO.out.lt x e).2
        clear RM HO HB HX;obtain⟨ca,cc,rfl⟩:=ownsRow_form Tn.out;obtain⟨oa,oc,rfl⟩:=ownsRow_form j8.out;have hct:Hid ((Value.slice ca j cc).ownBlock=none\/(Value.slice ca j cc).ownBlock≠(Value.slice oa j oc).ownBlock):=ownBlock_ne (by decide) Tn.out j8.out;have KP:Hid ((Value.slice oa j oc).ownBlock=none\/(Value.slice oa j oc).ownBlock≠(Value.slice ca j cc).ownBlock):=ownBlock_ne (by decide) j8.out Tn.out;obtain⟨XO,hXO⟩:=ag (((List.range j).map (lb P)).map et);rw[<-hXO]at j8;have HXO:=hid hXO;clear hXO;obtain⟨PL,vn⟩:=ag ([⟨56,4,.slice ca j cc,j,aM (P.take j),1,(encS s).toList⟩,⟨5,1,.slice oa j oc,j,XO,1,[.int .u8 q]⟩]:List App);have oT:PL[0]? =some ⟨56,4,.slice ca j cc,j,aM (P.take j),1,(encS s).toList⟩:=by rw[vn];rfl
        have xy:PL[1]? =some ⟨5,1,.slice oa j oc,j,XO,1,[.int .u8 q]⟩:=by rw[vn];rfl
        have OK:Hid (kj w6 PL):=hid ⟨fun p hp x e=>by
          rw[vn]at hp;simp only[List.mem_cons,List.not_mem_nil,or_false]at hp;rcases hp with rfl | rfl
          ·exact(Tn.out.lt x e).2
          ·exact(j8.out.lt x e).2,fun i j p q hi hj mz=>by
          have hl:PL.length=2:=by rw[vn];rfl
          have h1:=(List.getElem?_eq_some_iff.1 hi).1;have h2:=(List.getElem?_eq_some_iff.1 hj).1;rcases(show i=0\/i=1 by omega)with rfl | rfl<;>rcases(show j=0\/j=1 by omega)with rfl | rfl<;>(first | (exact absurd rfl mz) | skip)<;>(first | rw[oT]at hi | rw[xy]at hi)<;>(first | rw[oT]at hj | rw[xy]at hj)<;>cases hi<;>cases hj
          ·exact hct.out
          ·exact KP.out⟩
        clear hct KP;have hsz:V.heap.size<=w6.heap.size:=Nat.le_trans hVo hw6;have Jh:∀ x,x<V.heap.size->¬ ∃ p∈PL,p.v.ownBlock=some x:=fun x hx ⟨p,hp,e⟩=>by
         rw[vn]at hp;simp only[List.mem_cons,List.not_mem_nil,or_false]at hp;rcases hp with rfl | rfl
         ·have:=(Tn.out.lt _ e).1;omega
         ·have:=(j8.out.lt _ e).1;omega
        have Zo:=Jh mb ahf;have HKV:Hid (∀ W',bT V.heap.size w6 PL w6 W'->ae (fun x=>x<V.heap.size/\x≠mb) V W'):=hid fun W' h=>fK.out.tr (h.keeps.mono fun x hx=>⟨aA hx.1 hsz,Jh x hx.1⟩)
        have Oi:¬ ∃ p∈PL,p.v.ownBlock=some w5.heap.size:=fun ⟨p,hp,e⟩=>by
         rw[vn]at hp;simp only[List.mem_cons,List.not_mem_nil,or_false]at hp;rcases hp with rfl | rfl
         ·have:=L1.out _ e;omega
         ·have:=L2.out _ e;omega
        clear vn Jh;go_wp2;refine RegG.bB (bT V.heap.size w6 PL) (bT.drew) (fun _ _ _ h k=>h.trans k) (by kernel_rfl) 13 [0,0,2,6,14,30,0,64,254,0,0,1024,3584,8191,16383,32767,65535,131071] (fun i=>i==7 || i==8 || i==11 || i==12 || i==16) (by kernel_rfl) (fun _=>none) (fun j hj=>(by first | rfl | (have kR:18<=j:=hj;first | exact if_neg (by omega) | (split<;>first | omega | rfl)))) (by kernel_rfl) (fun i=>if i=7 then RegG.aZ.vR V.heap.size w6 PL 1 (encS s) 56 else if i=8 then RegG.aZ.app V.heap.size w6 PL ⟨56,4,.slice ca j cc,j,aM (P.take j),1,(encS s).toList⟩ (aw oT)else if i=11 then RegG.aZ.vR V.heap.size w6 PL 1 #[.int .u8 q] 5 else if i=12 then RegG.aZ.app V.heap.size w6 PL ⟨5,1,.slice oa j oc,j,XO,1,[.int .u8 q]⟩ (aw xy)else RegG.aZ.any _) ?_;intro C hC hne;have HC:=hid hC;have jY:∀ {x:Nat},x<w6.heap.size->(¬ ∃ p∈PL,p.v.ownBlock=some x)->∀ W: {W//C W},W.1.heap[x]? =w6.heap[x]? :=fun {x} h1 h2 W=>((hC W.1).1 W.2).keeps.keep x ⟨h1,h2⟩
        have f4:∀ W: {W//C W},W.1.cell? ⟨mb,4,none⟩=some (.slice ca j cc):=fun W=>((iV.out.same (jY iV.out.lt Zo W)).cell 4)
        have s0:∀ W: {W//C W},W.1.cell? ⟨w5.heap.size,0,none⟩=some (.int .u64 (wd s 0).toNat):=fun W=>(S6.out.same (jY S6.out.lt Oi W)).LH.1
        have s1:∀ W: {W//C W},W.1.cell? ⟨w5.heap.size,1,none⟩=some (.int .u64 (wd s 1).toNat):=fun W=>(S6.out.same (jY S6.out.lt Oi W)).LH.2.1
        have s2:∀ W: {W//C W},W.1.cell? ⟨w5.heap.size,2,none⟩=some (.int .u64 (wd s 2).toNat):=fun W=>(S6.out.same (jY S6.out.lt Oi W)).LH.2.2.1
        have s3:∀ W: {W//C W},W.1.cell? ⟨w5.heap.size,3,none⟩=some (.int .u64 (wd s 3).toNat):=fun W=>(S6.out.same (jY S6.out.lt Oi W)).LH.2.2.2
        clear hC jY
        repeat (refine RegG.au (fun K hK=>?_);first | (refine RegG.bX rfl ?_;try go_simp;refine hK _ _ ?_;clear hK K) | (refine RegG.bR rfl rfl ?_;unfold aB;go_simp;refine hK _ _ ?_;clear hK K))
        refine RegG.au (fun K hK=>?_);refine RegG.ck rfl rfl (RegG.aZ.vR V.heap.size w6 PL 1 (encS s) 56) rfl (fun W hW hN=>?_) (fun v hv=>?_)
        ·have hM:=(HC.out W).1 hW
         clear hW hK K
         (go_simp;exact⟨.below ((Ext.refl _).alloc _).below,⟨_,rfl⟩,fun b hb=>by cases hb;exact⟨ar.new _ _ _,OK.out.fresh hM.size⟩⟩)
        obtain⟨x3,rfl⟩:=hv;go_simp;refine hK _ _ ?_;clear hK K;refine RegG.au (fun K hK=>?_);refine RegG.ck rfl rfl (RegG.aZ.app V.heap.size w6 PL ⟨56,4,.slice ca j cc,j,aM (P.take j),1,(encS s).toList⟩ (aw oT)) rfl (fun W hW hN=>?_) (fun v hv=>?_)
        ·have hM:=(HC.out W).1 hW
         clear hW hK K;refine dI (w0:=w6) (PL:=PL) (p:=⟨56,4,.slice ca j cc,j,aM (P.take j),1,(encS s).toList⟩) (.tmp 85) (.tmp 87) 26 rfl iS _ 32 Tryz.underlying26 hiS MH MI MJ rfl (show(0:Nat)<4 from by decide) OK.out oT rfl (hM.old _ (aw oT) Tn.out) ⟨x3,0,none⟩ 1 rfl rfl (cK (hN.at 0 rfl (by kernel_rfl) x3 rfl).1) (by intro u hu;simp[encS]at hu;rcases hu with rfl | rfl | rfl | rfl<;>rfl) (by show j+1<=maxLen;unfold maxLen;omega) (by show(j+1)*32<=_;omega) (Nat.le_trans hsz hM.size) (show(0:Nat)<1 from by decide) hM.size (fun v W' g1 g2 g3 _=>⟨g1,g2,g3⟩)
        obtain⟨ca2,cc2,rfl⟩:=hv;go_simp;refine hK _ _ ?_;clear hK K
        repeat (refine RegG.au (fun K hK=>?_);first | (refine RegG.bX rfl ?_;try go_simp;refine hK _ _ ?_;clear hK K) | (refine RegG.bR rfl rfl ?_;unfold aB;go_simp;refine hK _ _ ?_;clear hK K))
        refine RegG.au (fun K hK=>?_);refine RegG.ck rfl rfl (RegG.aZ.vR V.heap.size w6 PL 1 #[.int .u8 q] 5) rfl (fun W hW hN=>?_) (fun v hv=>?_)
        ·have hM:=(HC.out W).1 hW
         clear hW hK K
         (go_simp;exact⟨.below ((Ext.refl _).alloc _).below,⟨_,rfl⟩,fun b hb=>by cases hb;exact⟨ar.new _ _ _,OK.out.fresh hM.size⟩⟩)
        obtain⟨WE,rfl⟩:=hv;go_simp;refine hK _ _ ?_;clear hK K;refine RegG.au (fun K hK=>?_);refine RegG.ck rfl rfl (RegG.aZ.app V.heap.size w6 PL ⟨5,1,.slice oa j oc,j,XO,1,[.int .u8 q]⟩ (aw xy)) rfl (fun W hW hN=>?_) (fun v hv=>?_)
        ·have hM:=(HC.out W).1 hW
         clear hW hK K;refine dI (w0:=w6) (PL:=PL) (p:=⟨5,1,.slice oa j oc,j,XO,1,[.int .u8 q]⟩) (.tmp 89) (.tmp 91) 44 rfl iB _ 1 Tryz.underlying44 Ym IJ IK IM rfl (show(0:Nat)<1 from by decide) OK.out xy rfl (hM.old _ (aw xy) j8.out) ⟨WE,0,none⟩ 1 rfl rfl (cK (hN.at 0 rfl (by kernel_rfl) WE rfl).1) (by intro u hu;simp at hu;rw[hu];rfl) (by show j+1<=maxLen;unfold maxLen;omega) (by show(j+1)*1<=_;omega) (Nat.le_trans hsz hM.size) (show(0:Nat)<1 from by decide) hM.size (fun v W2 g1 g2 g3 _=>⟨g1,g2,g3⟩)
        obtain⟨oa2,oc2,rfl⟩:=hv;go_simp;refine hK _ _ ?_;clear hK K;refine RegG.bG (fun W7 hW hH=>?_);have hM:=(HC.out W7).1 hW;have Q0:Hid (After V.heap.size w6 ⟨56,4,.slice ca j cc,j,aM (P.take j),1,(encS s).toList⟩ W7 (.slice ca2 (j+1) cc2)):=hid (hH _ (aw (show _=some _ from rfl:_[2]? =some _)));have Q1:Hid (After V.heap.size w6 ⟨5,1,.slice oa j oc,j,XO,1,[.int .u8 q]⟩ W7 (.slice oa2 (j+1) oc2)):=hid (hH _ (aw (show _=some _ from rfl:_[0]? =some _)));have K7:=hid (HKV.out _ hM);have B7:=hid (iV.out.same (hM.keeps.keep mb ⟨iV.out.lt,Zo⟩));have afw:w6.heap.size<=W7.heap.size:=hM.size
        have R0:Hid (W7.ownsRow V.heap.size 56 4 (.slice ca2 (j+1) cc2) (j+1) (aM (P.take (j+1)))):=hid (by
         have:=Q0.out.1;rw[HQS.out,gO]
         simpa[aM]using this)
        have R1:Hid (W7.ownsRow V.heap.size 5 1 (.slice oa2 (j+1) oc2) (j+1) (((List.range (j+1)).map (lb P)).map et)):=hid (by
         have:=Q1.out.1;rw[HQL.out, <-HXO.out]
         exact this)
        clear hM hW hH HC f4 s0 s1 s2 s3 oT xy OK Zo Oi HKV fK iV S6 Y7 CS1 Ku Q0 Q1 Tn j8 L1 L2;obtain⟨p0,p1,p2,p3,p4,p5,p6⟩:=B7.out.seven;have z4:=B7.out.frozen 4;go_wp2;go_roundw;case rel=>
         have kg:ae (· ≠mb) W7 (W7.setCell ⟨mb,4,none⟩ (.slice ca2 (j+1) cc2)):=(ae.refl _ _).setCell (p:=⟨mb,4,none⟩) (fun h=>h rfl) _;refine⟨j+1,_,by omega,by go_num,B7.out.set 4 _,?_,?_,K7.out.tr (kg.mono fun x hx=>hx.2)⟩
         ·exact eW R0.out kg fun x h1 _ e=>by omega
         ·exact eW R1.out kg fun x h1 _ e=>by omega
        case measure=>simp[intOf];omega
       ·obtain rfl:j=K:=by omega
        clear hlt hj;have ki:¬ ((j:Int)<j):=by omega
        have hkP:P.take j=P:=by rw[GQ.out];exact List.take_length
        rw[hkP]at RM;obtain⟨ca,cc,rfl⟩:=ownsRow_form RM.out;obtain⟨oa,oc,rfl⟩:=ownsRow_form HO.out;have hbase:w.heap.size<=w2.heap.size:=X2.out.size;have aoa:w2.heap.size<=V.heap.size:=XV.out.size;have XX:Hid (aa w wo):=hid ((X2.out.trans (XV.out.mono hbase)).trans (HX.out.mono fun x (hx:x<w.heap.size)=>⟨by omega,by have:=Tz.out;omega⟩:ae (· <w.heap.size) V wo).below);have RP:((List.range j).map (lb P)).length=j:=by simp
        have CK:=hid (RD (fun x=>(Value.slice ca j cc).ownBlock≠some x/\(Value.slice oa j oc).ownBlock≠some x) w2.heap.size mb w2.heap.size F (.slice pa k pc) (.slice ca j cc) (.slice oa j oc) ps ((List.range j).map (lb P))
         ⟨sU,fun x hx=>by
          have h5:=(PT.xr x).1 (List.all_eq_true.1 j6.out x hx)
          exact⟨(eY _).1 h5.1,SM.out x hx,h5.2.1,h5.2.2⟩⟩ wo
         (fun x hx=>⟨fun e=>by have:=(RM.out.lt x e).2;omega,fun e=>by have:=(HO.out.lt x e).2;omega⟩)
         ⟨_,_,_,_,_,_, {blk:=HB.out,map:=MS.out.keeps HX.out ⟨MS.out.lt,by have:=Tz.out;omega⟩,fm:=⟨fun e=>by have:=(RM.out.lt mb e).1;omega,fun e=>by have:=(HO.out.lt mb e).1;omega⟩,fo:=⟨fun e=>by have:=(RM.out.lt _ e).1;have:=Tz.out;omega,fun e=>by have:=(HO.out.lt _ e).1;have:=Tz.out;omega⟩,bm:=by have:=Tz.out;omega,bo:=aD _,st:=ik.nil _ _ _ _,Tp:=fun i u r hu=>by simp at hu,uS:=ik.nil _ _ _ _,Oj:=fun i u r hu=>by simp at hu,uh:=ik.nil _ _ _ _,Ol:=fun i u r hu=>by simp at hu,far:=.inl rfl}⟩ hF4 (by rw[RP];exact WD)
         (fun c hc=>by obtain⟨i,hi,rfl⟩:=List.mem_map.1 hc;exact Zi.out i (by rw[<-GQ.out];exact List.mem_range.1 hi))
         (fun W hW=>dc (e:=5) (base:=V.heap.size) (ai HO.out hW fun x hx=>⟨(HO.out.lt x hx).2,.inr fun h=>h.2 hx⟩) RP.symm)
         (fun W hW=>HP.out.below (XX.out.trans (hW.mono hbase))) (fun W hW=>HT.out W (XX.out.trans (hW.mono hbase))))
        have HST:Hid (xo ps ((List.range j).map (lb P)) F=sO ps F):=hid (Ve (by rw[RP,GQ.out,Av.out]) fun i hi=>by
         rw[RP]at hi
         rw[bh,aO,List.getElem?_range hi, <-Av.out];rfl)
        have B5:=hid ((B2.out.below XV.out (by have:=B2.out.lt;exact this)).keeps HX.out ⟨by have:=B2.out.lt;omega,by have:=B2.out.lt;have:=Tz.out;omega⟩);clear hkP RP CL CS CM;go_wp2_with fail
        refine CK.out.mono ?_;rintro e w9 ⟨Zp,hq⟩;have B9:=hid (B5.out.keeps Zp ⟨B5.out.lt,.inl B2.out.lt⟩);have K9:=hid Zp;have X9:Hid (aa w w9):=hid (XX.out.trans (Zp.mono fun x (hx:x<w.heap.size)=>⟨aA hx XX.out.size,.inl (by omega)⟩:ae (· <w.heap.size) wo w9).below);clear Zp;obtain⟨⟨k0,k1,k2⟩,z0,z1,z2⟩:=B9.out.three;rcases hq with⟨st,hst,rfl,hM⟩ | ⟨hno,rfl⟩
        ·obtain⟨sv9,nv9,kv9,us9,ns9,ks9,M⟩:=hM
         have Ty:=M.uS.1;have EX:=M.uh.1;obtain⟨n9,hn9⟩:=ag ((st.2.map fun r=>r.map Int.ofNat).length);obtain⟨k9,Zp⟩:=ag st.1.length;rw[<-hn9]at Ty;rw[<-Zp]at EX;obtain⟨na,nc,rfl⟩:=ownsRow_form Ty;obtain⟨ma,mc,rfl⟩:=ownsRow_form EX;have M9:=hid M;obtain⟨y0,y1,y2,y3,y4,y5,y6⟩:=M.blk.seven;have HPZ:=hid (RJ (f:=F) sU j6.out hF4 (by rw[<-HST.out];exact hst));clear M hst Ty EX hn9 Zp;go_wp2;refine bu ?_;intro W9 gq;have E9:Hid (ar W9 w.heap.size #[.slice ca j cc,.slice na n9 nc,.slice ma k9 mc] 29/\ae (· ≠w.heap.size) w9 W9):=by rw[gq];exact hid ⟨B9.out.yT,((((ae.refl _ _).setCell (p:=⟨w.heap.size,0,none⟩) (fun h=>h rfl) _).setCell (p:=⟨w.heap.size,1,none⟩) (fun h=>h rfl) _).setCell (p:=⟨w.heap.size,2,none⟩) (fun h=>h rfl) _)⟩
         clear gq z0 z1 z2 k0 k1 k2 y0 y1 y2 y3 y4 y5 y6;obtain⟨⟨m0,m1,m2⟩,_⟩:=E9.out.1.three;refine bodyPost_ret (v:=.tuple #[.agg #[.slice ca j cc,.slice na n9 nc,.slice ma k9 mc],.int .i64 0]) (by simp[results,Tryz.results61,go_sem,m0,m1,m2]) rfl ?_;rw[HPZ.out];have hw2:w.heap.size<w2.heap.size:=B2.out.lt;refine⟨_,rfl,⟨_,_,_,rfl,?_,?_,?_⟩,X9.out.trans (E9.out.2.mono fun x (hx:x<w.heap.size)=>Nat.ne_of_lt hx:ae (· <w.heap.size) w9 W9).below⟩
         ·show W9.ownsRow w.heap.size 56 4 _ (partsOf (cC ps)).length _
          rw[<-Av.out, <-GQ.out];refine aF (base:=V.heap.size) ?_ (by omega);refine ai (ai RM.out K9.out fun x hx=>⟨(RM.out.lt x hx).2,.inr fun h=>h.1 hx⟩) E9.out.2 fun x hx=>by have:=(RM.out.lt x hx).1;show x≠w.heap.size;omega
         ·have h5:br w2.heap.size w9 (.slice na n9 nc) (st.2.map fun r=>r.map Int.ofNat):=MG.own ⟨_,M9.out.uS,M9.out.Oj⟩
          exact(h5.keeps E9.out.2 fun x h1 _=>by show x≠w.heap.size;omega).base hbase
         ·have h5:br w2.heap.size w9 (.slice ma k9 mc) (st.1.map (dM ps)):=MG.own ⟨_,by rw[aQ];exact M9.out.uh,M9.out.Ol⟩
          exact(h5.keeps E9.out.2 fun x h1 _=>by show x≠w.heap.size;omega).base hbase
        ·have HPZ:=hid (RH (f:=F) sU j6.out hF4 (by rw[<-HST.out];exact hno))
         clear hno;go_wp2;refine bu ?_;intro W9 gq;have E9:Hid (ar W9 w.heap.size #[.slice none 0 0,.slice none 0 0,.slice none 0 0] 29/\aa w W9):=by rw[gq];exact hid ⟨B9.out.yT,iD X9.out (aD _)⟩
         clear gq z0 z1 z2 k0 k1 k2;obtain⟨⟨m0,m1,m2⟩,_⟩:=E9.out.1.three;refine bodyPost_ret (v:=.tuple #[.agg #[.slice none 0 0,.slice none 0 0,.slice none 0 0],.int .i64 181]) (by simp[results,Tryz.results61,go_sem,m0,m1,m2]) rfl (fin.out W9 181 HPZ.out E9.out.1 E9.out.2)
end Go.Proofs.YtjgccapbphadjaaGreatDoor
