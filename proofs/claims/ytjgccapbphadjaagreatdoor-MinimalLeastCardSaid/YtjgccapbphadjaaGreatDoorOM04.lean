/- Plain law: an alphabet of the program and that of the reference, which is for each byte the least one of its class. -/
import Derived.Test.YtjgccapbphadjaaGreatDoorOM03
import Derived.Shelf.Bytes.SlEqualAll
import Derived.Lib.SmallJoins
import Derived.Great.BuildSlice
set_option maxRecDepth 100000
set_option maxHeartbeats 16000000
open Go.Lib (hid)
namespace Go.Proofs.YtjgccapbphadjaaGreatDoor
section
open Go Go.RowKit Go.Shelf Go.Maps
attribute [local go_sem] encS
def oo (w:World) (v:Value) (l:List BS):Prop:=cW w v l/\∀ a n cap,v=.slice a n cap->n<=cap
theorem cW.form {w:World} {v:Value} {l:List BS} (h:cW w v l):∃ a cap,v=.slice a l.length cap:=by
 rcases h with⟨h,rfl⟩ | ⟨b,off,cap,hv,_⟩
 ·exact⟨_,_,h⟩
 ·exact⟨_,_,hv⟩
theorem tL (v1 v2:Value) (l1 l2:List Int) (w:World) (h1:bZ aN w v1 l1) (h2:bZ aN w v2 l2) (hn:l1.length<=1000000): ah 33 #[v1,v2] w fun e w'=>e=.returned (.bool (l1==l2))/\Ext w w':=by
 obtain⟨a1,c1,rfl⟩:=h1.form;obtain⟨a2,c2,rfl⟩:=h2.form;obtain⟨n,iY⟩:=ag l1.length;obtain⟨m,sw⟩:=ag l2.length;rw[<-iY]at hn h1 ⊢;rw[<-sw]at h2 ⊢;obtain⟨r,hr⟩:=ag ((l1==l2));rw[<-hr];have H1:=hid h1;have H2:=hid h2;have HN:=hid iY;have HM:=hid sw;have HR:=hid hr;clear h1 h2 iY sw hr;by_cases hnm:n=m
 ·subst hnm
  go_enter Tryz.func33,Tryz.ntmps33
  go_wp2;go_loopw [13] (fun i wr=>∃ k:Nat,k<=n/\i=.int .i64 k/\l1.take k=l2.take k/\Ext w wr) (fun i _=>n-(intOf i).toNat);case atStart=>exact⟨0,by omega,rfl,rfl,Ext.refl _⟩
  case round=>
   obtain⟨k,hk,rfl,ht,hx⟩:=hrel;obtain⟨wo,rfl⟩:=ag (wr:World);by_cases hlt:k<n
   ·obtain⟨x,zI⟩:∃ x,l1[k]? =some x:=⟨_,az (by have:=HN.out;omega)⟩
    obtain⟨y,hyl⟩:∃ y,l2[k]? =some y:=⟨_,az (by have:=HM.out;omega)⟩;obtain⟨g1,o1,rfl,hg1,hc1⟩:=H1.out.elem zI;obtain⟨g2,o2,rfl,hg2,hc2⟩:=H2.out.elem hyl;have d1:wo.cell? ⟨g1,o1+k,none⟩=some (.int .i64 x):=(hx.cell (p:=⟨g1,o1+k,none⟩) hg1).trans hc1;have d2:wo.cell? ⟨g2,o2+k,none⟩=some (.int .i64 y):=(hx.cell (p:=⟨g2,o2+k,none⟩) hg2).trans hc2;have Hu:=hid zI;have Xz:=hid hyl;have HT:=hid ht;have HX:=hid hx;clear zI hyl ht hx hc1 hc2;go_wp2;refine eQ (fun b=>b=g1\/b=g2) (by kernel_rfl) (fun i=>false) (by kernel_rfl) ?_;intro C hC hne W0 zB hblk hsz hx0;have f1:=dm hC (.inl rfl) d1;have f2:=dm hC (.inr rfl) d2;have LJ:=hid hx0;clear hC zB hblk hsz hx0 d1 d2
    repeat (refine bN (fun K hK=>?_);refine dw rfl ?_;unfold aB;go_simp;refine hK _ _ ?_;clear hK K)
    refine nV ?_;by_cases Og:x=y
    ·subst Og
     go_wp2;go_roundw;case rel=>
      refine⟨k+1,by omega,by go_num,?_,HX.out.trans LJ.out⟩;rw[List.take_add_one,List.take_add_one,Hu.out,Xz.out,HT.out]
     case measure=>simp[intOf];omega
    ·have hr:r=false:=by
      rw[HR.out,beq_eq_false_iff_ne];intro e;have h1:=Hu.out;rw[e,Xz.out]at h1;exact Og (Option.some.inj h1).symm
     have ig:=hid hr;clear hr;go_wp2;go_ret;exact⟨by rw[ig.out];rfl,HX.out.trans LJ.out⟩
   ·obtain rfl:k=n:=by omega
    have hr:r=true:=by rw[HR.out,beq_iff_eq, <-List.take_of_length_le (l:=l1) (i:=k) (by have:=HN.out;omega),ht,List.take_of_length_le (by have:=HM.out;omega)]
    have ig:=hid hr;have HX:=hid hx;clear ht hr hx;go_wp2;go_ret;exact⟨by rw[ig.out];rfl,HX.out⟩
 ·have hr:r=false:=by
   rw[HR.out,beq_eq_false_iff_ne];intro e;have h1:=HN.out;have h2:=HM.out;rw[e]at h1;omega
  have ig:=hid hr;clear hr;go_enter Tryz.func33,Tryz.ntmps33;go_wp2;go_ret;exact⟨by rw[ig.out];rfl,Ext.refl _⟩
end
section
open Go Go.RowKit Go.Shelf Go.Maps
theorem zJ {A B:World} (h:Ext A B) (n:Nat):Ext A (B.drewN n):=⟨h.os,h.tape,h.output,Nat.le_add_right_of_le h.drawn,h.size,h.keep⟩
end
section
open Go Go.RowKit Go.WideShapes Go.ChangeShapes Go.ChangeAt Go.Deep
section
variable {H:Type} {enc:TypeId×Value→H} {P:Program}
theorem oZ (hl:laidOutB P=true) {W W':World} {sp:Nat->Bool} :∀ (ts:List TypeId) (vs:List Value) (ds:List (DataW H)) (ps:List MemPlace),(∀ t∈ts,P.readableRec t=true/\t<P.types.size)-> DataW.TrodAll enc P W 0 (fun _=>true) true ts vs ds ps->(∀ p∈ps,W.sameAt W' p)->(∀ p∈ps,sp p.block=true)->DataW.TrodAll enc P W' 0 sp true ts vs ds ps
 | [],vs,ds,ps,_,h,_,_=>by
  obtain⟨rfl,rfl,rfl⟩:=trodAll_nil h;rfl
 | t::ts,vs,ds,ps,ht,h,hs,hsp=>by
  obtain⟨v,vs',d,ds',p,q,rfl,rfl,rfl,h1,h2⟩:=trodAll_cons h
  exact⟨p,q,WideElems.Trod_stays hl (ht t (by simp)).1 (ht t (by simp)).2 h1 (fun x hx=>hs x (by simp[hx])) (fun x hx=>hsp x (by simp[hx])),
   oZ hl ts vs' ds' q (fun t h=>ht t (by simp[h])) h2 (fun x hx=>hs x (by simp[hx])) (fun x hx=>hsp x (by simp[hx])),rfl⟩
theorem Pu (hl:laidOutB P=true) {f:Func} {s:ChangeSpec} {apart fresh handsOn:Bool} {W W':World} {args:Array Value} {ds gs:List (DataW H)} {before:List MemPlace} {tb:TypeId} (VS:s.vars=[]) (LY:∀ t∈f.params.toList,P.readableRec t=true/\t<P.types.size) (hres:f.resultTypes= #[tb]) (htb:P.underlying tb=some .bool) (hfn:s.fn H ds= {results:=[.lit (.bool true)],args:=ds}) (hW:DataW.Whole enc P f.params.toList s.vars apart W args.toList ds gs before) (hb:aa W W'): s.post enc P f apart fresh handsOn false W args (.bool true) W':=by
 have GR:=hW;obtain⟨p,q,hA,hV,rfl,hz,hn⟩:=hW;have hV':=hV;rw[VS]at hV';obtain⟨rfl,rfl⟩:=trodVars_none hV';have hlt:∀ x∈p++ [],x.block<W.heap.size:=fun x hx=>GR.lt x hx
 simp only[List.append_nil]at hlt GR;refine⟨ds,[],p,[],p,[],GR,?_,?_,?_,?_,fun h=>(by cases h)⟩
 ·rw[List.append_nil,hfn,hres]
  exact trodAll_mk1 (shut_bool htb true)
 ·rw[List.append_nil,hfn]
  exact oZ hl _ _ _ _ LY hA (fun x hx=>hb.same (hlt x hx)) (fun x hx=>by simpa using hlt x hx)
 ·rw[List.append_nil,hfn,VS]
  rfl
 ·exact World.keptBut_mono (fun x hx=>⟨hx,Or.inr (.inl hx)⟩) (hb.frame (· ∈p))
end
section
variable {H:Type} {enc:TypeId×Value→H} {W:World} {base:Nat} {sp:Nat→Bool}
end
end
section
open Go Go.ChangeShapes Go.WideShapes Go.ChangeAt Go.RowKit
section
variable {H:Type} {enc:TypeId×Value→H} {W:World}
theorem Pv {n:Int} (h:(Lit.int .u8 n).wf=true):0<=n/\n<256:=by
 simp only[Lit.wf,Bool.and_eq_true,decide_eq_true_eq]at h;have h1:IntKind.u8.min=0:=by decide
 have h2:IntKind.u8.max=255:=by decide
 omega
end
theorem Tryz.own:ownKnob Tryz.prog.godebug=none:=by kernel_rfl
theorem Tryz.laidOut:laidOutB Tryz.prog=true:=by kernel_rfl
end
section
open Go Go.RowKit
def tM (w:World) (x:Value) (m:Nat) (news:List Value):Prop:=(x=.slice none 0 0/\m=0/\news=[])\/∃ ad c,x=.slice (some ad) m c/\∀ j u,news[j]? =some u->w.cell? (ad.add j)=some u
section
variable {P:Program} {ops:Array Oper} {F:Fence} {n:Nat} {C:World→Prop}
theorem jI (w:World) (base:Nat) (t ty e:TypeId) (i:TypeInfo) (z:Value) (size bytes:Nat) (ht:P.underlying t=some (.slice e)) (hi:P.info? e=some i) (hz:i.zero=some z) (hsize:i.size=size) (hby:i.bytes=bytes) (hzs:z.cells.size=size) (hsz:0<size) (v:Value) (k:Nat) (xs:List Value) (hown:w.ownsRow base e size v k xs) (x:Value) (m:Nat) (news:List Value) (hx:tM w x m news) (hl:news.length=m*size) (h1:∀ u∈news,u.oneCell'=true) (h63:k+m<=maxLen) (hbytes:(k+m)*bytes<=140737488355328) (hbase:base<=w.heap.size): ∃ v' w',(Builtin.append_ #[t,t] ty #[v,x]).run P w=.ok v' w'/\w'.ownsRow base e size v' (k+m) (xs++news)/\w.grownBy w' v.ownBlock:=by
 rcases hx with⟨rfl,rfl,rfl⟩ | ⟨ad,c,rfl,hnews⟩
 ·refine⟨v,w,?_,?_,World.grownBy.refl _ _⟩
  ·exact run_append_owned_none (P:=P) (w:=w) base t ty e i size ht hi v k xs hown
  ·rw[List.append_nil];exact hown
 ·obtain⟨v',w',hr,h2,h3,_⟩:=run_append_own_at (P:=P) w base t ty e i z size bytes ht hi hz hsize hby hzs hsz v k xs hown ad m c news hl hnews h1 h63 hbytes hbase
  exact⟨v',w',hr,h2,h3⟩
theorem jJ {Q:Exit->Act->World->Prop} {a:Act} {w:World} {rest:List Oper} {o:Oper} (hw:Region.wanted o (yielded ops a.tmps)=true) (h:∀ K:Act->World->Prop,(∀ a w,wpList P ops Q rest a w->K a w)->o.wp P a w K Q):wpList P ops Q (o::rest) a w:=by unfold wpList;rw[if_pos hw];exact .inl (h _ fun _ _ h=>h)
theorem nh {rest:List Oper} {o:Oper} {a:Act} {w:World} {Q:Exit->Act->World->Prop} (hw:Region.wanted o (yielded ops a.tmps)=true) (s x:Operand) (t:TypeId) (ho:o.op=.call {callee:=.builtin .append,args:= #[s,x],argTypes:= #[t,t]}) (base:Nat) (e:TypeId) (i:TypeInfo) (z:Value) (size bytes:Nat) (ht:P.underlying t=some (.slice e)) (hi:P.info? e=some i) (hz:i.zero=some z) (hsize:i.size=size) (hby:i.bytes=bytes) (hzs:z.cells.size=size) (hsz:0<size) (v:Value) (k:Nat) (xs:List Value) (hs:a.eval s=v) (hown:w.ownsRow base e size v k xs) (xv:Value) (m:Nat) (news:List Value) (hx:a.eval x=xv) (XC:tM w xv m news) (hl:news.length=m*size) (h1:∀ u∈news,u.oneCell'=true) (h63:k+m<=maxLen) (hbytes:(k+m)*bytes<=140737488355328) (hbase:base<=w.heap.size) (h:∀ v' w',w'.ownsRow base e size v' (k+m) (xs++news)->w.grownBy w' v.ownBlock->wpList P ops Q rest (a.put o.dst v') w'): wpList P ops Q (o::rest) a w:=by
 refine jJ hw fun K hK=>?_
 obtain⟨v',w',hr,h2,h3⟩:=jI (P:=P) w base t o.type e i z size bytes ht hi hz hsize hby hzs hsz v k xs hown xv m news XC hl h1 h63 hbytes hbase;unfold Oper.wp execOp;simp only[ho,resolve,invoke,builtin,Sem.run_bind,Sem.run_pure,Result.andThen_ok,List.map_toArray,List.map_cons,List.map_nil,hs,hx,hr];exact hK _ _ (h v' w' h2 h3)
end
theorem kU {base:Nat} {e:TypeId} {size g n cap:Nat} (o0:Nat):∀ (vs:List Value) (o:Nat) (w:World) (xs:List Value),o0<=o->w.ownsRow base e size (.slice (some ⟨g,0,none⟩) n cap) n xs-> ∃ ys,(w.setCells g o vs).ownsRow base e size (.slice (some ⟨g,0,none⟩) n cap) n ys/\ae (· ≠g) w (w.setCells g o vs)
 | [],_,w,xs,_,h=>⟨xs,h,ae.refl _ _⟩
 | v::r,o,w,xs,ho,h=>by
  obtain⟨ys,h1,h2⟩:=kU o0 r (o+1) _ _ (by omega) (h.stored o v).1;exact⟨ys,h1,((ae.refl (· ≠g) w).setCell (p:=⟨g,o,none⟩) (fun h=>h rfl) v).tr h2⟩
end
section
open Go Go.RowKit Go.Shelf Go.Maps
theorem Hv (a b c:BS) (h:(!ltOf aT b a)=true) (k:(!ltOf aT c b)=true):(!ltOf aT c a)=true:=by
 simp only[Bool.not_eq_true']at*;cases XD:ltOf aT c a with
 | false=>rfl
 | true=>
  exfalso;rw[<-Bool.not_eq_true,eU]at h k;rw[eU]at XD;rcases oh a b with e | e | e
  ·subst e;exact k XD
  ·exact k (iz XD e)
  ·exact h e
theorem Hw (a b:BS):((!ltOf aT b a) || (!ltOf aT a b))=true:=by
 cases Xy:ltOf aT b a with
 | false=>rfl
 | true=>
  cases hab:ltOf aT a b with
  | false=>rfl
  | true=>
   rw[eU]at Xy hab;exact absurd (iz Xy hab) (jH b)
theorem vN (l:List BS):(partsOf l).Pairwise fun x y=>(!ltOf aT y x)=true:=List.pairwise_mergeSort Hv Hw _
theorem fA (l:List BS):(partsOf l).Perm (bc l):=List.mergeSort_perm _ _
attribute [local go_sem] encS
theorem Ek {α:Type} {enc:α->Value} {w:World} {B:Nat} {c:Array Value} {t:TypeId} {fr:Nat×Nat} {n cap:Nat} (l:List α) (h:w.heap[B]? =some (.cells c t fr)) (hc:c.toList=l.map enc) (hn:n=l.length) (lL:l.length<=cap):bZ enc w (.slice (some ⟨B,0,none⟩) n cap) l:=by refine .inr ⟨B,0,cap,by rw[hn],(Array.getElem?_eq_some_iff.1 h).1,lL,fun i x hi=>?_⟩;rw[cell_of_row w B (0+i) c t fr h,Nat.zero_add, <-Array.getElem?_toList,hc,aO,hi];rfl
theorem Hy {w:World} {B:Nat} {c:Array Value} {t:TypeId} {n cap:Nat} (l:List BS) (h:ar w B c t) (hc:c.toList=aM l) (hn:n=l.length):cW w (.slice (some ⟨B,0,none⟩) n cap) l:=by refine .inr ⟨B,0,cap,by rw[hn],h.lt,fun i s hi j hj=>?_⟩;rw[h.cell,Nat.zero_add, <-Array.getElem?_toList,hc];have:=iA l hi hj;simpa using this
theorem aj {w w':World} {base n size:Nat} {v:Value} {e:TypeId} {l:List Value} (h:w.ownsRow base e size v n l) (hk:aa w w'):w'.ownsRow base e size v n l:=
 ai h (ae.ak hk fun _ h=>h) (fun k e=>(h.lt k e).2)
end
section
open Go Go.RowKit Go.Shelf Go.Maps
theorem ar.range {w:World} {b:Nat} {c:Array Value} {t:TypeId} (h:ar w b c t):w.rangeAt b 0 c.toList:=fun j v hj=>by
 rw[Nat.zero_add,h.cell j, <-Array.getElem?_toList];exact hj
theorem ar.setRow {w:World} {b:Nat} {c c':Array Value} {t:TypeId} (h:ar w b c t):ar (w.setRow b c') b c' t:=setRow_heap w b c c' t _ h
theorem np {P:Program} {ops:Array Oper} {Q:Exit->Act->World->Prop} {a:Act} {w:World} {rest:List Oper} {o:Oper} (hw:Region.wanted o (yielded ops a.tmps)=true) (h:∀ K:Act->World->Prop,(∀ a w,wpList P ops Q rest a w->K a w)->o.wp P a w K Q):wpList P ops Q (o::rest) a w:=by unfold wpList;rw[if_pos hw];exact .inl (h _ fun _ _ h=>h)
theorem aY {P:Program} {ops:Array Oper} {rest:List Oper} {op:Oper} {a:Act} {w:World} {Q:Exit->Act->World->Prop} (hw:Region.wanted op (yielded ops a.tmps)=true) (ty:TypeId) (x:Operand) (ho:op.op=.load ty x) (b:Nat) (hx:a.eval x=.pointer (some ⟨b,0,none⟩)) (cs:Array Value) (d:TypeDesc) (hc:w.rangeAt b 0 cs.toList) (hu:P.underlying ty=some d) (hd:d.isRow=true) (hi:(P.info? ty).map (·.size)=some cs.size) (h:wpList P ops Q rest (a.put op.dst (.agg cs)) w):wpList P ops Q (op::rest) a w:=
 np hw fun _ hK=>wp_load_mid ty x ho b 0 hx cs.toList d hc hu hd (by rw[Array.length_toList];exact hi) (hK _ _ h)
end
section
open Go Go.RowKit
theorem Pw (o:Nat) (l:List Value):∀ (k:Nat) (X:Array Value) (i:Nat),o+k+l.length<=X.size-> ((l.zipIdx k).foldl (fun a (x:Value×Nat)=>a.setIfInBounds (o+x.2) x.1) X)[i]? =if o+k<=i/\i<o+k+l.length then l[i-(o+k)]? else X[i]? :=by
 induction l with
 | nil=>intro k X i _;simp only[List.zipIdx_nil,List.foldl_nil,List.length_nil];rw[if_neg (by omega)]
 | cons c l ih=>
  intro k X i hs;rw[List.length_cons]at hs;rw[List.zipIdx_cons,List.foldl_cons,ih (k+1) _ i (by simp;omega),List.length_cons];by_cases h1:o+(k+1)<=i/\i<o+(k+1)+l.length
  ·rw[if_pos h1,if_pos (by omega),show i-(o+k)=(i-(o+(k+1)))+1 by omega,List.getElem?_cons_succ]
  ·rw[if_neg h1,Array.getElem?_setIfInBounds]
   by_cases h2:o+k=i
   ·rw[if_pos h2,if_pos (by omega),if_pos (by omega),show i-(o+k)=0 by omega];rfl
   ·rw[if_neg h2,if_neg (by omega)]
theorem pQ {P:Program} {t e:TypeId} {i:TypeInfo} {z:Value} {m:Nat} (ht:P.underlying t=some (.slice e)) (hi:P.info? e=some i) (hz:i.zero=some z) (hsz:i.size=m) (hm:0<m) (tN:m<=16777216) (cs:Array Value) (hc:cs.size=m) (w:World): (Instr.buildSlice t 1 #[(0,.agg cs)]).run P w=.ok (.slice (some ⟨w.heap.size,0,none⟩) 1 1) (w.alloc (.cells cs e)):=by
 have abn:∀ X:Array Value,X.size=m->Instr.fill (fun i=>some (i*m,m)) X [(0,.agg cs)]=some cs:=fun X hX=>by
  have h1:(Value.agg cs).cells=cs:=rfl;unfold Instr.fill;simp only[h1,hc,Nat.zero_mul,Nat.zero_add,hX,ne_eq,not_true,decide_false,Bool.false_or];rw[if_neg (by simp)];unfold Instr.fill;congr 1;rw[<-Array.foldl_toList,Array.toList_zipIdx];apply Array.ext_getElem?;intro j;have:=Pw 0 cs.toList 0 X j (by rw[Array.length_toList];omega);simp only[Nat.zero_add]at this;rw[this,Array.length_toList,Nat.sub_zero];by_cases hj:j<cs.size
  ·rw[if_pos ⟨Nat.zero_le _,hj⟩,Array.getElem?_toList]
  ·rw[if_neg (fun h=>hj h.2),Array.getElem?_eq_none (by omega),Array.getElem?_eq_none (by omega)]
 have hs:∀ w,(sizeOf e).run P w=.ok m w:=fun w=>by simp[sizeOf,typeInfo,hi,hsz]
 have hz':∀ w,(zeroValue e).run P w=.ok z w:=fun w=>by simp[zeroValue,typeInfo,hi,hz]
 unfold Instr.buildSlice;simp only[Sem.run_bind,run_underlying ht,Result.andThen_ok,hs,Nat.one_mul];rw[if_neg (by omega),if_neg (by omega)];simp only[Sem.run_bind,hz',Result.andThen_ok,Sem.run_pure];rw[abn _ (by simp)];rfl
section
variable {F:Fence} {n:Nat} {P:Program} {C:World→Prop}
end
end
section
open Go Go.RowKit Go.Shelf Go.Maps
attribute [local go_sem] encS
end
section
open Go Go.RowKit Go.Shelf Go.Maps
attribute [local go_sem] encS
end
section
open Go Go.RowKit Go.Shelf Go.Maps
def Alike (l:List BS) (c d:Nat):Prop:=∀ s∈l,s.getLsbD c=s.getLsbD d
theorem J7 {s p x:BS} :x∈cut s p↔(x=p&&& s\/x=p&&& ~~~s)/\x≠0:=by unfold cut;simp only[List.mem_filter,List.mem_cons,List.not_mem_nil,or_false,Bool.not_eq_true',beq_eq_false_iff_ne]
theorem kG {s x:BS} {l:List BS} :x∈aU s l↔ ∃ p∈l,(x=p&&& s\/x=p&&& ~~~s)/\x≠0:=by unfold aU;simp only[List.mem_flatMap,J7]
theorem nr (c:Nat):(0:BS).getLsbD c=false:=BitVec.getLsbD_zero
theorem vg (s:BS) {c:Nat} (hc:c<256):(~~~s).getLsbD c= !s.getLsbD c:=by rw[BitVec.getLsbD_not];simp[hc]
theorem J8 {c:Nat} (hc:c<256):(~~~(0:BS)).getLsbD c=true:=by rw[vg _ hc,nr];rfl
theorem vO (l:List BS) (c:Nat) (hc:c<256):∃ q∈bc l,q.getLsbD c=true:=by
 suffices ∀ r:List BS,∃ q∈bc r.reverse,q.getLsbD c=true by have:=this l.reverse;rwa[List.reverse_reverse]at this
 intro r;induction r with
 | nil=>exact⟨~~~0,by simp[bc],J8 hc⟩
 | cons s r ih=>
  obtain⟨q,hq,Px⟩:=ih;rw[List.reverse_cons,iM];cases hs:s.getLsbD c with
  | true=>
   have h:(q&&& s).getLsbD c=true:=by rw[BitVec.getLsbD_and,Px,hs];rfl
   exact⟨q&&& s,kG.2 ⟨q,hq,.inl rfl,fun e=>by rw[e,nr]at h;cases h⟩,h⟩
  | false=>
   have h:(q&&& ~~~s).getLsbD c=true:=by rw[BitVec.getLsbD_and,Px,vg _ hc,hs];rfl
   exact⟨q&&& ~~~s,kG.2 ⟨q,hq,.inr rfl,fun e=>by rw[e,nr]at h;cases h⟩,h⟩
theorem vP (l:List BS) {q:BS} (hq:q∈bc l) {c d:Nat} (hc:c<256) (hd:d<256) (h:q.getLsbD c=true):q.getLsbD d=true↔Alike l c d:=by
 suffices ∀ (r:List BS) (q:BS),q∈bc r.reverse->q.getLsbD c=true->(q.getLsbD d=true↔Alike r.reverse c d) by
  have:=this l.reverse q (by rwa[List.reverse_reverse]) h;rwa[List.reverse_reverse]at this
 intro r;induction r with
 | nil=>
  intro q hq _;have:q= ~~~0:=by simpa[bc]using hq
  rw[this,J8 hd];simp[Alike]
 | cons s r ih=>
  intro q hq Px;rw[List.reverse_cons,iM]at hq;obtain⟨p,hp,hpq,_⟩:=kG.1 hq;have nX:Alike (r.reverse++ [s]) c d↔Alike r.reverse c d/\s.getLsbD c=s.getLsbD d:=by
   unfold Alike;constructor
   ·intro h;exact⟨fun x hx=>h x (by simp only[List.mem_append];exact .inl hx),h s (by simp)⟩
   ·intro⟨h1,h2⟩ x hx
    simp only[List.mem_append,List.mem_singleton]at hx;rcases hx with hx | rfl
    ·exact h1 x hx
    ·exact h2
  rw[List.reverse_cons,nX];rcases hpq with rfl | rfl
  ·rw[BitVec.getLsbD_and,Bool.and_eq_true]at Px ⊢
   rw[ih p hp Px.1,Px.2];exact and_congr_right fun _=>eq_comm
  ·rw[BitVec.getLsbD_and,Bool.and_eq_true]at Px ⊢
   have h2:=Px.2;rw[vg _ hc]at h2;rw[ih p hp Px.1,vg _ hd];have h3:s.getLsbD c=false:=by simpa using h2
   rw[h3];refine and_congr_right fun _=>?_
   cases s.getLsbD d<;>simp
def qY (p q:BS):Prop:=∀ c,¬ (p.getLsbD c=true/\q.getLsbD c=true)
theorem qY.symm {p q:BS} (h:qY p q):qY q p:=fun c ⟨h1,h2⟩=>h c ⟨h2,h1⟩
theorem vh (p q:BS) (c:Nat):(p&&& q).getLsbD c=true↔p.getLsbD c=true/\q.getLsbD c=true:=by rw[BitVec.getLsbD_and,Bool.and_eq_true]
theorem El (s:BS) (c:Nat) (h:(~~~s).getLsbD c=true):s.getLsbD c=false:=by rw[BitVec.getLsbD_not]at h;simp at h;exact h.2
theorem vQ (l:List BS):(bc l).Pairwise qY:=by
 suffices ∀ r:List BS,(bc r.reverse).Pairwise qY by have:=this l.reverse;rwa[List.reverse_reverse]at this
 intro r;induction r with
 | nil=>simp[bc]
 | cons s r ih=>
  rw[List.reverse_cons,iM];unfold aU;rw[List.pairwise_flatMap];refine⟨fun p _=>?_,ih.imp fun {p q} h x hx y hy c ⟨h1,h2⟩=>?_⟩
  ·unfold cut
   refine List.Pairwise.filter _ ?_;refine List.pairwise_cons.2 ⟨fun y hy c ⟨h1,h2⟩=>?_,List.pairwise_singleton _ _⟩;rw[List.mem_singleton.1 hy,vh]at h2;rw[vh]at h1;rw[El s c h2.2]at h1;exact Bool.noConfusion h1.2
  ·have sub:∀ {p x:BS},x∈cut s p->x.getLsbD c=true->p.getLsbD c=true:=fun {p x} hx h=>by
    rcases(J7.1 hx).1 with rfl | rfl
    ·exact((vh _ _ _).1 h).1
    ·exact((vh _ _ _).1 h).1
   exact h c ⟨sub hx h1,sub hy h2⟩
theorem nt {l:List BS} {q:BS} :q∈partsOf l↔q∈bc l:=(fA l).mem_iff
theorem kH (l:List BS):(partsOf l).Pairwise qY:=((fA l).pairwise_iff (fun h=>qY.symm h)).2 (vQ l)
theorem kI (l:List BS) (c:Nat) (hc:c<256):∃ (k:Nat) (q:BS),(partsOf l)[k]? =some q/\q.getLsbD c=true:=by obtain⟨q,h1,h2⟩:=vO l c hc;obtain⟨k,hk⟩:=List.getElem?_of_mem (nt.2 h1);exact⟨k,q,hk,h2⟩
theorem yS (l:List BS) {q:BS} (hq:q∈partsOf l) {c d:Nat} (hc:c<256) (hd:d<256) (h:q.getLsbD c=true):q.getLsbD d=true↔Alike l c d:=vP l (nt.1 hq) hc hd h
theorem tO {p:List BS} (h:p.Pairwise qY) {i j:Nat} {x y:BS} (hi:p[i]? =some x) (hj:p[j]? =some y) {c:Nat} (hx:x.getLsbD c=true) (hy:y.getLsbD c=true):i=j:=by
 have key:∀ {i j:Nat} {x y:BS},p[i]? =some x->p[j]? =some y->x.getLsbD c=true->y.getLsbD c=true->¬i<j:=fun {i j x y} hi hj hx hy hlt=>by
  obtain⟨h1,rfl⟩:=List.getElem?_eq_some_iff.1 hi;obtain⟨h2,rfl⟩:=List.getElem?_eq_some_iff.1 hj;exact(List.pairwise_iff_getElem.1 h i j h1 h2 hlt) c ⟨hx,hy⟩
 have h1:=key hi hj hx hy;have h2:=key hj hi hy hx;omega
theorem iO (l:List BS) {c k:Nat} (hc:c<256):cls (partsOf l) c=k↔ ∃ q:BS,(partsOf l)[k]? =some q/\q.getLsbD c=true:=by
 have h1:∃ q,(partsOf l)[cls (partsOf l) c]? =some q/\q.getLsbD c=true:=by
  rcases sI (partsOf l) c hc with⟨k,s,h1,h2,h3⟩ | ⟨h1,_⟩
  ·rw[Be _ hc]at h3;cases h3;exact⟨s,h1,h2⟩
  ·obtain⟨k,q,h2,h3⟩:=kI l c hc
   rw[h1 q (aw h2)]at h3;cases h3
 constructor
 ·rintro rfl;exact h1
 ·rintro⟨q,h2,h3⟩
  obtain⟨q',h4,h5⟩:=h1;exact tO (kH l) h4 h2 h5 h3
theorem iC (l:List BS) {q:BS} (h:q∈partsOf l):q≠0:=tI l q (nt.1 h)
theorem eo {s:BS} (h:s≠0):(aS s).2=true/\(aS s).1<256/\s.getLsbD (aS s).1=true/\∀ d,d<(aS s).1->s.getLsbD d=false:=by
 rcases qU s with⟨_,h1⟩ | h1
 ·exact absurd h1 h
 ·exact h1
theorem pd (l:List BS) {i j:Nat} {x y:BS} (hi:(partsOf l)[i]? =some x) (hj:(partsOf l)[j]? =some y) (mz:i<j):(aS x).1<(aS y).1:=by
 obtain⟨h1,h2⟩:=List.getElem?_eq_some_iff.1 hi;obtain⟨h3,h4⟩:=List.getElem?_eq_some_iff.1 hj;have hs:=List.pairwise_iff_getElem.1 (vN l) i j h1 h3 mz;have ha:=List.pairwise_iff_getElem.1 (kH l) i j h1 h3 mz;rw[h2,h4]at hs ha;obtain⟨_,x1,x2,x3⟩:=eo (iC l (aw hi));obtain⟨_,y1,y2,y3⟩:=eo (iC l (aw hj));have hne:(aS x).1≠(aS y).1:=fun e=>ha _ ⟨x2,by rw[e];exact y2⟩
 by_cases hlt:(aS x).1<(aS y).1
 ·exact hlt
 ·exfalso
  have hyx:Tg y x:=⟨(aS y).1,y1,fun d hd=>by rw[y3 d hd,x3 d (by omega)],y2,x3 _ (by omega)⟩;rw[<-eU]at hyx;rw[hyx]at hs;exact Bool.noConfusion hs
theorem tP (l:List BS):0<(partsOf l).length:=by obtain⟨k,q,h,_⟩:=kI l 0 (by decide);have:=(List.getElem?_eq_some_iff.1 h).1;omega
theorem uN (l:List BS):(partsOf l).isEmpty=false:=by
 have:=tP l;cases h:partsOf l with
 | nil=>rw[h]at this;simp at this
 | cons=>rfl
structure bS (p:List BS) (R:Nat->Nat->Prop):Prop where
 some:p.isEmpty=false
 apart:p.Pairwise qY
 ne:∀ q∈p,q≠0
 cover:∀ c,c<256->∃ (k:Nat) (q:BS),p[k]? =Option.some q/\q.getLsbD c=true
 alike:∀ q∈p,∀ c d,c<256->d<256->q.getLsbD c=true->(q.getLsbD d=true↔R c d)
 first:∀ (i j:Nat) (x y:BS),p[i]? =Option.some x->p[j]? =Option.some y->i<j->(aS x).1<(aS y).1
theorem bS.jK (l:List BS):bS (partsOf l) (Alike l):=
 ⟨uN l,kH l,fun _ h=>iC l h,kI l,fun _ hq _ _ hc hd h=>yS l hq hc hd h,fun _ _ _ _ h1 h2 h3=>pd l h1 h2 h3⟩
theorem bS.congr {p:List BS} {R S:Nat->Nat->Prop} (h:bS p R) (hrs:∀ c d,c<256->d<256->(R c d↔S c d)):bS p S:=
 ⟨h.some,h.apart,h.ne,h.cover,fun q hq c d hc hd hb=>(h.alike q hq c d hc hd hb).trans (hrs c d hc hd),h.first⟩
theorem bS.iO {p:List BS} {R:Nat->Nat->Prop} (h:bS p R) {c k:Nat} (hc:c<256):cls p c=k↔ ∃ q:BS,p[k]? =Option.some q/\q.getLsbD c=true:=by
 have h1:∃ q,p[cls p c]? =Option.some q/\q.getLsbD c=true:=by
  rcases sI p c hc with⟨k,s,h1,h2,h3⟩ | ⟨h1,_⟩
  ·rw[Be _ hc]at h3;cases h3;exact⟨s,h1,h2⟩
  ·obtain⟨k,q,h2,h3⟩:=h.cover c hc
   rw[h1 q (aw h2)]at h3;cases h3
 constructor
 ·rintro rfl;exact h1
 ·rintro⟨q,h2,h3⟩
  obtain⟨q',h4,h5⟩:=h1;exact tO h.apart h4 h2 h5 h3
theorem bS.nu {p:List BS} {R:Nat->Nat->Prop} (h:bS p R) {c d:Nat} (hc:c<256) (hd:d<256):cls p c=cls p d↔R c d:=by
 obtain⟨q,h1,h2⟩:=(h.iO hc).1 rfl;rw[<-h.alike q (aw h1) c d hc hd h2];constructor
 ·intro e
  obtain⟨q',h3,h4⟩:=(h.iO hd).1 rfl;rw[<-e,h1]at h3;cases h3;exact h4
 ·intro h3;exact((h.iO hd).2 ⟨q,h1,h3⟩).symm
theorem bS.symm {p:List BS} {R:Nat->Nat->Prop} (h:bS p R) {c d:Nat} (hc:c<256) (hd:d<256) (hr:R c d):R d c:=(h.nu hd hc).1 ((h.nu hc hd).2 hr).symm
theorem Bi {s:BS} (h:s≠0):∃ c,c<256/\s.getLsbD c=true:=by obtain⟨_,h1,h2,_⟩:=eo h;exact⟨_,h1,h2⟩
theorem bS.mem_of {p q:List BS} {R S:Nat->Nat->Prop} (hp:bS p R) (hq:bS q S) (h:∀ c d,c<256->d<256->(R c d↔S c d)) {x:BS} (hx:x∈p):x∈q:=by
 obtain⟨c,hc,hxc⟩:=Bi (hp.ne x hx);obtain⟨k,s,hs,hsc⟩:=hq.cover c hc;have:x=s:=BS.ext fun d hd=>by
  rw[Bool.eq_iff_iff,hp.alike x hx c d hc hd hxc,hq.alike s (aw hs) c d hc hd hsc,h c d hc hd]
 rw[this];exact aw hs
theorem bS.sorted {p:List BS} {R:Nat->Nat->Prop} (hp:bS p R):p.Pairwise fun x y=>(aS x).1<(aS y).1:=by rw[List.pairwise_iff_getElem];intro i j hi hj mz;exact hp.first i j _ _ (az hi) (az hj) mz
theorem zK {f:BS->Nat} :∀ (p q:List BS),p.Pairwise (fun x y=>f x<f y)->q.Pairwise (fun x y=>f x<f y)->(∀ x,x∈p↔x∈q)->p=q
 | [],q,_,_,h=>by
  cases q with
  | nil=>rfl
  | cons y q=>have:=(h y).2 (by simp);simp at this
 | x::p,q,hp,hq,h=>by
  cases q with
  | nil=>have:=(h x).1 (by simp);simp at this
  | cons y q=>
   rw[List.pairwise_cons]at hp hq;have Og:x=y:=by
    have h1:=(h x).1 (by simp);have h2:=(h y).2 (by simp);rcases List.mem_cons.1 h1 with e | h1
    ·exact e
    ·rcases List.mem_cons.1 h2 with e | h2
     ·exact e.symm
     ·have a:=hq.1 x h1;have b:=hp.1 y h2;omega
   subst Og;congr 1;refine zK p q hp.2 hq.2 fun z=>?_
   have hz:=h z;simp only[List.mem_cons]at hz;constructor
   ·intro hzp
    rcases hz.1 (.inr hzp)with e | h1
    ·subst e;have:=hp.1 z hzp;omega
    ·exact h1
   ·intro hzq
    rcases hz.2 (.inr hzq)with e | h1
    ·subst e;have:=hq.1 z hzq;omega
    ·exact h1
theorem bS.uniq {p q:List BS} {R S:Nat->Nat->Prop} (hp:bS p R) (hq:bS q S) (h:∀ c d,c<256->d<256->(R c d↔S c d)):p=q:=
 zK p q hp.sorted hq.sorted fun _=>⟨fun hx=>hp.mem_of hq h hx,fun hx=>hq.mem_of hp (fun c d hc hd=>(h c d hc hd).symm) hx⟩
theorem bS.zL {p:List BS} {R:Nat->Nat->Prop} (hp:bS p R) {c d:Nat} (hc:c<256) (hd:d<256):Alike p c d↔R c d:=by
 constructor
 ·intro h
  obtain⟨k,s,hs,hsc⟩:=hp.cover c hc;have:=h s (aw hs);exact(hp.alike s (aw hs) c d hc hd hsc).1 (by rw[<-this];exact hsc)
 ·intro hr s hs
  rw[Bool.eq_iff_iff];exact⟨fun h=>(hp.alike s hs c d hc hd h).2 hr,fun h=>(hp.alike s hs d c hd hc h).2 (hp.symm hc hd hr)⟩
theorem pq (v:Value) (l:List BS) (w:World) (h:oo w v l) (hn:l.length<=1000000): ah 27 #[v] w fun e w'=>∃ u,e=.returned u/\w'.ownsRow w.heap.size 56 4 u l.length (aM l)/\aa w w':=by
 obtain⟨i0,hi,hz0,hz1,hz2⟩:=info_parts Tryz.zE;rcases h.1 with⟨rfl,rfl⟩ | ⟨b,off,cap,rfl,hb,hc⟩
 ·have he:=fun W=>Lib.run_eql_slice_nil (P:=Tryz.prog) W 26 56 none 0 0 0 0 Tryz.underlying26
  clear h;go_enter Tryz.func27,Tryz.ntmps27;go_wp2;go_ret;exact⟨_,rfl,World.ownsRow_nil _ _ _ _,Below.refl _ _⟩
 ·have hnews:∀ j u,(aM l)[j]? =some u->w.cell? ((⟨b,off,none⟩:Addr).add j)=some u:=fun j u hj=>by
   have hj4:j<l.length*4:=by have:=(List.getElem?_eq_some_iff.1 hj).1;rwa[cL]at this
   have hs:l[j/4]? =some (l[j/4]'(by omega)):=az (by omega);have h1:=iA l hs (Nat.mod_lt j (by decide:0<4));rw[show j/4*4+j%4=j by omega,hj]at h1;rw[Addr.add_mid,show off+j=off+j/4*4+j%4 by omega,hc _ _ hs _ (Nat.mod_lt j (by decide))];exact h1.symm
  obtain⟨n,iY⟩:=ag l.length;rw[<-iY]at hn ⊢;have HN:=hid iY;have HNw:=hid hnews;have he:=fun W=>Lib.run_eql_slice_nil (P:=Tryz.prog) W 26 56 (some ⟨b,off,none⟩) n cap 0 0 Tryz.underlying26
  clear h hc hnews iY;go_enter Tryz.func27,Tryz.ntmps27;have o1:(w.alloc (.cells #[] 56 (0,0))).ownsRow w.heap.size 56 4 (.slice (some ⟨w.heap.size,0,none⟩) 0 0) 0 []:=⟨rfl,.inr ⟨w.heap.size,0, #[],rfl,aD _,World.alloc_heap_new _ _,aD _,by simp,rfl,rfl⟩⟩;have J2:=hid o1;clear o1;go_wp2_with (at_builtin;(refine wpList_append_own_at _ rfl (.tmp 5) (.tmp 6) 26 rfl w.heap.size 56 i0 (.agg #[.int .u64 0,.int .u64 0,.int .u64 0,.int .u64 0]) 4 32 Tryz.underlying26 hi hz0 hz1 hz2 rfl (by decide) _ 0 [] rfl J2.out ⟨b,off,none⟩ n cap (aM l) rfl (by rw[cL,HN.out]) (fun j u hj=>(((Ext.refl w).alloc _).cell (p:=(⟨b,off,none⟩:Addr).add j) (by rw[Addr.add_mid];exact hb)).trans (HNw.out j u hj)) (gP l) (by unfold maxLen;omega) (by omega) (by simp) ?_;intro v' w2 ho hg _ _;have j8:=hid ho;have HG:=hid hg;obtain⟨a2,c2,rfl⟩:=ownsRow_form ho;clear ho hg));go_ret;refine⟨_,rfl,?_,?_⟩
  ·have:=j8.out
   rwa[Nat.zero_add,List.nil_append]at this
  ·exact((Below.refl _ _).alloc (aD _) _).grown HG.out (by simp) (fun c e=>(J2.out.lt c e).1)
end
section
open Go Go.RowKit
theorem aC {C:World->Prop} {d:Bool} {T:Nat->Prop} {w:World} (hC:∀ W,C W↔Move d T w W) {p:Addr} {v:Option Value} (hs:p.block<w.heap.size) (ht:¬T p.block) (h:w.cell? p=v):∀ W: {W//C W},W.1.cell? p=v:=fun W=>
 (((hC W.1).1 W.2).keeps.cell ⟨hs,ht⟩).trans h
theorem aH {P:Program} {f:FuncId} {args:Array Value} {w:World} {R:Ending->World->Prop} (h:∀ W,W=w->Calls P f args W R):Calls P f args w R:=h w rfl
end
section
open Go Go.RowKit Go.Shelf Go.Maps
theorem ae.setRow {R:Nat->Prop} {A B:World} (h:ae R A B) {g:Nat} (hp:¬R g) (c:Array Value):ae R A (B.setRow g c):=
 ⟨h.os,h.tape,h.output,Nat.le_trans h.size (by simp),fun k hk=>(setRow_other B g k c (fun e=>hp (e▸hk))).trans (h.keep k hk)⟩
end
section
open Go Go.RowKit
section
variable {P:Program}
theorem gQ (w:World) (base:Nat) (t ty e:TypeId) (i:TypeInfo) (z:Value) (size bytes:Nat) (ht:P.underlying t=some (.slice e)) (hi:P.info? e=some i) (hz:i.zero=some z) (hsize:i.size=size) (hby:i.bytes=bytes) (hzs:z.cells.size=size) (hsz:0<size) (v:Value) (n:Nat) (xs:List Value) (hown:w.ownsRow base e size v n xs) (a:Addr) (m c:Nat) (news:List Value) (hl:news.length=m*size) (hnews:∀ j u,news[j]? =some u->w.cell? (a.add j)=some u) (h1:∀ u∈news,u.oneCell'=true) (h63:n+m<=maxLen) (hbytes:(n+m)*bytes<=140737488355328) (hbase:base<=w.heap.size) (hm:0<m): ∃ v' w',(Builtin.append_ #[t,t] ty #[v,.slice (some a) m c]).run P w=.ok v' w'/\w'.ownsRow base e size v' (n+m) (xs++news)/\ ((∃ g cap cur,v=.slice (some ⟨g,0,none⟩) n cap/\w.heap[g]? =some (.cells cur e (0,0))/\cur.size=cap*size/\n+m<=cap/\v'=.slice (some ⟨g,0,none⟩) (n+m) cap/\ w'=w.setRow g (cur.toList.take (n*size)++news++cur.toList.drop (n*size+news.length)).toArray)\/(aa w w'/\v'.ownBlock=some w.heap.size)):=by
 obtain⟨v',w',hr,ho,hg,_,hb⟩:=run_append_own_at (P:=P) w base t ty e i z size bytes ht hi hz hsize hby hzs hsz v n xs hown a m c news hl hnews h1 h63 hbytes hbase
 have far:∀ g,v.ownBlock=some g->v'.ownBlock=some w.heap.size->w'.heap[g]? =w.heap[g]? ->aa w w':=fun g e1 _ e2=>⟨hg.os,hg.tape,hg.output,hg.size,fun k hk=>by
  by_cases e:k=g
  ·subst e;exact e2
  ·exact hg.block k hk (by rw[e1];intro h;exact e (Option.some.inj h))⟩
 subst hsize;subst hby;have hown':=hown;rcases hown.2 with⟨rfl,rfl⟩ | ⟨g,cap,cur,rfl,hbg,Ua,hnc,hcm,hcs,htake⟩
 ·refine⟨v',w',hr,ho,.inr ⟨⟨hg.os,hg.tape,hg.output,hg.size,fun k hk=>hg.block k hk (by simp[Value.ownBlock])⟩,?_⟩⟩
  rcases hb with hb | hb
  ·exfalso
   rcases ho.2 with⟨_,h⟩ | ⟨g,c,cur,h,_⟩
   ·omega
   ·rw[h]at hb;simp[Value.ownBlock]at hb
  ·exact hb
 ·by_cases hroom:n+m<=cap
  ·have Em:n*i.size+news.length<=cur.size:=by rw[hl,hcs, <-Nat.add_mul];exact Nat.mul_le_mul_right _ hroom
   have hr2:=run_append_room (P:=P) w t ty e i ht hi g n cap cur Ua a m c news hl hnews h1 hroom Em;rw[hr]at hr2;cases hr2;exact⟨_,_,hr,ho,.inl ⟨g,cap,cur,rfl,Ua,hcs,hroom,rfl,rfl⟩⟩
  ·have holds:∀ j u,xs[j]? =some u->w.cell? ((⟨g,0,none⟩:Addr).add j)=some u:=hown'.cells (g:=g) rfl
   have hr2:=run_append_grow (P:=P) w t ty e i z ht hi hz ⟨g,0,none⟩ n cap xs hown'.1 holds a m c news hl hnews (by omega) (by unfold maxLen at h63;omega) (growslice_fits (by omega) hbytes);rw[hr]at hr2;rw[Result.ok.injEq]at hr2;obtain⟨hv,e2⟩:=hr2;have hw:w'.heap[g]? =w.heap[g]? :=by rw[e2];exact heap_alloc_old w.drew _ (Array.getElem?_eq_some_iff.1 Ua).1
   exact⟨v',w',hr,ho,.inr ⟨far g rfl (by rw[hv];rfl) hw,by rw[hv];rfl⟩⟩
end
structure App where
 e:TypeId
 size:Nat
 v:Value
 n:Nat
 xs:List Value
 m:Nat
 news:List Value
def After (base:Nat) (w0:World) (p:App) (W:World) (v:Value):Prop:=
 W.ownsRow base p.e p.size v (p.n+p.m) (p.xs++p.news)/\(v.ownBlock=p.v.ownBlock\/∀ x,v.ownBlock=some x->w0.heap.size<=x)
structure bT (base:Nat) (w0:World) (PL:List App) (A B:World):Prop where
 keeps:ae (fun x=>x<A.heap.size/\¬ ∃ p∈PL,p.v.ownBlock=some x) A B
 old:∀ p∈PL,A.ownsRow base p.e p.size p.v p.n p.xs->B.ownsRow base p.e p.size p.v p.n p.xs
 new:∀ p∈PL,∀ v,After base w0 p A v->After base w0 p B v
section
variable {base:Nat} {w0:World} {PL:List App} {A B C:World}
theorem bT.trans (h:bT base w0 PL A B) (k:bT base w0 PL B C):bT base w0 PL A C:=
 ⟨h.keeps.trans k.keeps fun _ hx=>⟨aA hx.1 h.keeps.size,hx.2⟩,fun p hp ho=>k.old p hp (h.old p hp ho),fun p hp v hv=>k.new p hp v (h.new p hp v hv)⟩
theorem bT.below (h:aa A B):bT base w0 PL A B:=
 ⟨ae.ak h fun _ hx=>hx.1,fun _ _ ho=>ownsRow_keepsA ho h,fun _ _ _ hv=>⟨ownsRow_keepsA hv.1 h,hv.2⟩⟩
where
 ownsRow_keepsA {W W':World} {b:Nat} {e:TypeId} {size:Nat} {v:Value} {n:Nat} {xs:List Value} (h:W.ownsRow b e size v n xs) (hk:aa W W'):W'.ownsRow b e size v n xs:=
  ai h (ae.ak hk (R:=(· <W.heap.size)) fun _ h=>h) fun k e=>(h.lt k e).2
theorem bT.drew:bT base w0 PL A A.drew:=.below (Ext.refl A).drew.below
theorem bT.size (h:bT base w0 PL A B):A.heap.size<=B.heap.size:=h.keeps.size
def kj (w0:World) (PL:List App):Prop:=(∀ p∈PL,∀ x,p.v.ownBlock=some x->x<w0.heap.size)/\∀ (i j:Nat) (p q:App),PL[i]? =some p->PL[j]? =some q->i≠j->p.v.ownBlock=none\/p.v.ownBlock≠q.v.ownBlock
theorem bT.room (ok:kj w0 PL) {i:Nat} {p:App} (hi:PL[i]? =some p) {g cap:Nat} {cur:Array Value} (hv:p.v=.slice (some ⟨g,0,none⟩) p.n cap) (ho:A.ownsRow base p.e p.size p.v p.n p.xs) (hg:A.heap[g]? =some (.cells cur p.e (0,0))) (hl:p.news.length=p.m*p.size) (hcs:cur.size=cap*p.size) (hroom:p.n+p.m<=cap):bT base w0 PL A (A.setRow g (cur.toList.take (p.n*p.size)++p.news++cur.toList.drop (p.n*p.size+p.news.length)).toArray):=by
 have J9:=aw hi;have Tk:p.v.ownBlock=some g:=by rw[hv];rfl
 have hgw:g<w0.heap.size:=ok.1 p J9 g Tk;have VT:∀ c,ae (· ≠g) A (A.setRow g c):=fun c=>(ae.refl _ _).setRow (fun h=>h rfl) c
 have Em:p.n*p.size+p.news.length<=cur.size:=by rw[hl,hcs, <-Nat.add_mul];exact Nat.mul_le_mul_right _ hroom
 have fD:cur.toList.take (p.n*p.size)=p.xs:=by
  rcases ho.2 with⟨h,_⟩ | ⟨g',cap',cur',h,_,Kc,_,_,_,ht⟩
  ·rw[hv]at h;cases h
  ·rw[hv]at h
   cases h
   rw[hg]at Kc;cases Kc;exact ht
 have hlx:p.xs.length=p.n*p.size:=ho.1;generalize hc:(cur.toList.take (p.n*p.size)++p.news++cur.toList.drop (p.n*p.size+p.news.length)).toArray=c;have mA:c.toList=p.xs++p.news++cur.toList.drop (p.n*p.size+p.news.length):=by rw[<-hc,fD]
 have hcz:c.size=cur.size:=by rw[<-Array.length_toList,mA,aG,aG,List.length_drop,Array.length_toList];omega
 have Ua:(A.setRow g c).heap[g]? =some (.cells c p.e (0,0)):=setRow_heap A g cur c p.e _ hg;have far:∀ {e:TypeId} {size:Nat} {v:Value} {n:Nat} {xs:List Value},A.ownsRow base e size v n xs->v.ownBlock≠some g->(A.setRow g c).ownsRow base e size v n xs:=fun h hne=>
  ai h (VT c) fun k e e'=>hne (by rw[e,e'])
 have Ub:∀ {k cap':Nat} {xs:List Value},A.ownsRow base p.e p.size (.slice (some ⟨g,0,none⟩) k cap') k xs->c.toList.take (k*p.size)=xs->(A.setRow g c).ownsRow base p.e p.size (.slice (some ⟨g,0,none⟩) k cap') k xs:=fun {k cap' xs} h ht=>by
  rcases h.2 with⟨h',_⟩ | ⟨g',c',cur',h',hb,Kc,h1,h2,h3,_⟩
  ·cases h'
  ·cases h'
   rw[hg]at Kc;cases Kc;exact⟨h.1,.inr ⟨g,cap',c,rfl,hb,Ua,h1,h2,by rw[hcz];exact h3,ht⟩⟩
 refine⟨(VT c).mono fun x hx e=>hx.2 ⟨p,J9,by rw[Tk,e]⟩,fun q hq XG=>?_,fun q hq v VU=>?_⟩
 ·obtain⟨j,hj⟩:=List.getElem?_of_mem hq
  by_cases e:j=i
  ·subst e
   rw[hi]at hj;cases hj;rw[hv]at XG ⊢;exact Ub XG (by rw[mA,List.append_assoc, <-hlx];exact List.take_left)
  ·refine far XG fun h=>?_
   rcases ok.2 j i q p hj hi e with h' | h'
   ·rw[h']at h;cases h
   ·exact h' (by rw[h,Tk])
 ·obtain⟨j,hj⟩:=List.getElem?_of_mem hq
  refine⟨?_,VU.2⟩;by_cases e:j=i
  ·subst e
   rw[hi]at hj;cases hj;by_cases eb:v.ownBlock=some g
   ·rcases VU.1.2 with⟨h',_⟩ | ⟨g',c',cur',h',_⟩
    ·rw[h']at eb;cases eb
    ·subst h'
     have:g'=g:=by simpa[Value.ownBlock]using eb
     subst this;refine Ub VU.1 ?_;rw[mA,Nat.add_mul, <-hlx, <-hl, <-aG];exact List.take_left
   ·exact far VU.1 eb
  ·refine far VU.1 fun h=>?_
   rcases VU.2 with h2 | h2
   ·rcases ok.2 j i q p hj hi e with h' | h'
    ·rw[h2,h']at h;cases h
    ·exact h' (by rw[<-h2,h,Tk])
   ·have:=h2 g h;omega
theorem dI {P:Program} {Cl:FuncId->Array Value->World->(Ending->World->Prop)->Prop} {Rd:Nat->FuncId->Array Value->Code->Code->World->(Ending->World->Prop)->Prop} {o:Oper} {a:Act} {W:World} {post:Value->World->Prop} (s x:Operand) (t:TypeId) (ho:o.op=.call {callee:=.builtin .append,args:= #[s,x],argTypes:= #[t,t]}) (i:TypeInfo) (z:Value) (bytes:Nat) {p:App} (ht:P.underlying t=some (.slice p.e)) (hi:P.info? p.e=some i) (hz:i.zero=some z) (hsize:i.size=p.size) (hby:i.bytes=bytes) (hzs:z.cells.size=p.size) (hsz:0<p.size) (ok:kj w0 PL) {k:Nat} (hk:PL[k]? =some p) (hs:a.eval s=p.v) (hown:W.ownsRow base p.e p.size p.v p.n p.xs) (ad:Addr) (c:Nat) (hx:a.eval x=.slice (some ad) p.m c) (hl:p.news.length=p.m*p.size) (hnews:∀ j u,p.news[j]? =some u->W.cell? (ad.add j)=some u) (h1:∀ u∈p.news,u.oneCell'=true) (h63:p.n+p.m<=maxLen) (hbytes:(p.n+p.m)*bytes<=140737488355328) (hbase:base<=W.heap.size) (hm:0<p.m) (hw0:w0.heap.size<=W.heap.size) (h:∀ v W',bT base w0 PL W W'->(∃ a c,v=.slice a (p.n+p.m) c)->After base w0 p W' v->(v.ownBlock=p.v.ownBlock\/v.ownBlock=some W.heap.size)->post v W'): jE Cl Rd post ((execOp a.eval o).run P W):=by
 obtain⟨v',w',hr,h2,h3⟩:=gQ (P:=P) W base t o.type p.e i z p.size bytes ht hi hz hsize hby hzs hsz p.v p.n p.xs hown ad p.m c p.news hl hnews h1 h63 hbytes hbase hm;unfold execOp;simp only[ho,resolve,invoke,builtin,Sem.run_bind,Sem.run_pure,Result.andThen_ok,List.map_toArray,List.map_cons,List.map_nil,hs,hx,hr];show post v' w';refine h v' w' ?_ (ownsRow_form h2) ⟨h2,?_⟩ ?_
 ·rcases h3 with⟨g,cap,cur,e1,e2,e3,e4,e5,rfl⟩ | ⟨hb,_⟩
  ·exact bT.room ok hk e1 hown e2 hl e3 e4
  ·exact .below hb
 ·rcases h3 with⟨g,cap,cur,e1,e2,e3,e4,e5,rfl⟩ | ⟨hb,e⟩
  ·left;rw[e5,e1];rfl
  ·right;intro y hy;rw[e]at hy;cases hy;exact hw0
 ·rcases h3 with⟨g,cap,cur,e1,e2,e3,e4,e5,rfl⟩ | ⟨hb,e⟩
  ·left;rw[e5,e1];rfl
  ·right;exact e
end
def py (v y:Value):Prop:=v.ownBlock=none\/v.ownBlock≠y.ownBlock
namespace RegG
def aZ.app (base:Nat) (w0:World) (PL:List App) (p:App) (hp:p∈PL):aZ (bT base w0 PL) where
 P:=fun v=>∃ a c,v=.slice a (p.n+p.m) c
 H:=fun _ v W=>After base w0 p W v
 nW:=.slice none (p.n+p.m) 0
 pw:=⟨none,0,rfl⟩
 st:=fun _ v _ _ hm _ h=>hm.new p hp v h
def aZ.vR (base:Nat) (w0:World) (PL:List App) (n:Nat) (cs:Array Value) (t:TypeId):aZ (bT base w0 PL) where
 P:=fun v=>∃ b,v=.slice (some ⟨b,0,none⟩) n n
 H:=fun _ v W=>∀ b,v=.slice (some ⟨b,0,none⟩) n n->(ar W b cs t/\¬ ∃ p∈PL,p.v.ownBlock=some b)
 nW:=.slice (some ⟨0,0,none⟩) n n
 pw:=⟨_,rfl⟩
 st:=fun _ _ _ _ hm _ h b e=>⟨(h b e).1.keeps hm.keeps ⟨(h b e).1.lt,(h b e).2⟩,(h b e).2⟩
end RegG
theorem kj.fresh {w0:World} {PL:List App} (ok:kj w0 PL) {b:Nat} (h:w0.heap.size<=b):¬ ∃ p∈PL,p.v.ownBlock=some b:=fun ⟨p,hp,e⟩=>by
 have:=ok.1 p hp b e;omega
end
section
open Go Go.RowKit
def mC (n0:Nat) (Φ:Nat->Value->World->Prop) (A B:World):Prop:=ae (fun k=>k<n0/\k<A.heap.size) A B/\∀ i v,Φ i v A->Φ i v B
theorem mC.trans {n0:Nat} {Φ:Nat->Value->World->Prop} {A B C:World} (h:mC n0 Φ A B) (k:mC n0 Φ B C):mC n0 Φ A C:=
 ⟨h.1.trans k.1 fun _ hk=>⟨hk.1,aA hk.2 h.1.size⟩,fun i v x=>k.2 i v (h.2 i v x)⟩
theorem mC.below {n0:Nat} {Φ:Nat->Value->World->Prop} {A B:World} (st:∀ i v A B,aa A B->Φ i v A->Φ i v B) (h:aa A B):mC n0 Φ A B:=
 ⟨ae.ak h fun _ hk=>hk.2,fun i v=>st i v A B h⟩
def aZ.fact (n0:Nat) (Φ:Nat->Value->World->Prop) (i:Nat) (P:Value->Prop) (nW:Value) (pw:P nW):aZ (mC n0 Φ):=⟨P,Φ i,nW,pw,fun v _ _ m _ h=>m.2 i v h⟩
theorem nw {w:World} {base:Nat} {e:TypeId} {size g n m cap:Nat} {xs ys:List Value} (hx:xs.length=n*size) (h:w.ownsRow base e size (.slice (some ⟨g,0,none⟩) (n+m) cap) (n+m) (xs++ys)):w.ownsRow base e size (.slice (some ⟨g,0,none⟩) n cap) n xs:=by
 rcases h.2 with⟨h1,_⟩ | ⟨g',c',cur,h1,h2,h3,h4,h5,h6,h7⟩
 ·cases h1
 ·cases h1
  refine⟨hx,.inr ⟨g,cap,cur,rfl,h2,h3,by omega,h5,h6,?_⟩⟩;have:=congrArg (List.take (n*size)) h7;rw[List.take_take,Nat.min_eq_left (Nat.mul_le_mul_right _ (Nat.le_add_right n m)),List.take_left' hx]at this;exact this
theorem gR {w:World} {b1 b2:Nat} {e:TypeId} {size n1 n2 g:Nat} {v1 v2:Value} {x1 x2:List Value} (hs:0<size) (h1:w.ownsRow b1 e size v1 n1 x1) (h2:w.ownsRow b2 e size v2 n2 x2) (e1:v1.ownBlock=some g) (e2:v2.ownBlock=some g): ∃ cap,v1=.slice (some ⟨g,0,none⟩) n1 cap/\v2=.slice (some ⟨g,0,none⟩) n2 cap/\n1<=cap/\n2<=cap:=by
 rcases h1.2 with⟨rfl,_⟩ | ⟨g1,c1,afH,rfl,_,f1,k1,_,s1,_⟩
 ·cases e1
 ·rcases h2.2 with⟨rfl,_⟩ | ⟨g2,c2,Uc,rfl,_,f2,k2,_,s2,_⟩
  ·cases e2
  ·have a1:g1=g:=by simpa[Value.ownBlock]using e1
   have a2:g2=g:=by simpa[Value.ownBlock]using e2
   subst a1;subst a2;rw[f1]at f2;cases f2;have:c1=c2:=Nat.eq_of_mul_eq_mul_right hs (by omega);subst this;exact⟨c1,rfl,rfl,k1,k2⟩
section
variable {P:Program}
theorem vS (w:World) (base:Nat) (t ty e:TypeId) (i:TypeInfo) (z:Value) (size bytes:Nat) (ht:P.underlying t=some (.slice e)) (hi:P.info? e=some i) (hz:i.zero=some z) (hsize:i.size=size) (hby:i.bytes=bytes) (hzs:z.cells.size=size) (hsz:0<size) (v:Value) (k:Nat) (xs:List Value) (hown:w.ownsRow base e size v k xs) (x:Value) (m:Nat) (news:List Value) (hx:tM w x m news) (hl:news.length=m*size) (h1:∀ u∈news,u.oneCell'=true) (h63:k+m<=maxLen) (hbytes:(k+m)*bytes<=140737488355328) (hbase:base<=w.heap.size): ∃ v' w',(Builtin.append_ #[t,t] ty #[v,x]).run P w=.ok v' w'/\w'.ownsRow base e size v' (k+m) (xs++news)/\w.grownBy w' v.ownBlock/\ (aa w w'\/∃ g cap,v=.slice (some ⟨g,0,none⟩) k cap/\v'=.slice (some ⟨g,0,none⟩) (k+m) cap/\k+m<=cap):=by
 obtain⟨v',w',hr,h2,h3⟩:=jI (P:=P) w base t ty e i z size bytes ht hi hz hsize hby hzs hsz v k xs hown x m news hx hl h1 h63 hbytes hbase;refine⟨v',w',hr,h2,h3,?_⟩;rcases hx with⟨rfl,rfl,rfl⟩ | ⟨ad,c,rfl,hnews⟩
 ·rw[run_append_owned_none (P:=P) (w:=w) base t ty e i size ht hi v k xs hown]at hr
  cases hr
  exact .inl (Below.refl _ _)
 ·rcases hown.2 with⟨rfl,rfl⟩ | ⟨g,cap,cur,rfl,hbg,hg,hnc,hcm,hcs,htake⟩
  ·exact .inl (ae.below (ae.bw h3 fun y hy=>⟨hy,fun e=>by cases e⟩))
  ·by_cases hroom:k+m<=cap
   ·right
    subst hsize;have hr2:=run_append_room (P:=P) w t ty e i ht hi g k cap cur hg ad m c news hl hnews h1 hroom (by rw[hl,hcs, <-Nat.add_mul];exact Nat.mul_le_mul_right _ hroom);rw[hr2]at hr;cases hr;exact⟨g,cap,rfl,rfl,hroom⟩
   ·left
    obtain⟨v2,w2,hr2,_,h4⟩:=gQ (P:=P) w base t ty e i z size bytes ht hi hz hsize hby hzs hsz _ k xs hown ad m c news hl hnews h1 h63 hbytes hbase (by omega);rw[hr]at hr2;cases hr2;rcases h4 with⟨g',cap',cur',e1,_,_,e4,_⟩ | ⟨hb,_⟩
    ·cases e1;omega
    ·exact hb
theorem Bj {Cl:FuncId->Array Value->World->(Ending->World->Prop)->Prop} {Rd:Nat->FuncId->Array Value->Code->Code->World->(Ending->World->Prop)->Prop} {o:Oper} {a:Act} {W:World} {post:Value->World->Prop} (s x:Operand) (t:TypeId) (ho:o.op=.call {callee:=.builtin .append,args:= #[s,x],argTypes:= #[t,t]}) (base:Nat) (e:TypeId) (i:TypeInfo) (z:Value) (size bytes:Nat) (ht:P.underlying t=some (.slice e)) (hi:P.info? e=some i) (hz:i.zero=some z) (hsize:i.size=size) (hby:i.bytes=bytes) (hzs:z.cells.size=size) (hsz:0<size) (v:Value) (k:Nat) (xs:List Value) (hs:a.eval s=v) (hown:W.ownsRow base e size v k xs) (xv:Value) (m:Nat) (news:List Value) (hx:a.eval x=xv) (XC:tM W xv m news) (hl:news.length=m*size) (h1:∀ u∈news,u.oneCell'=true) (h63:k+m<=maxLen) (hbytes:(k+m)*bytes<=140737488355328) (hbase:base<=W.heap.size) (h:∀ v' w',w'.ownsRow base e size v' (k+m) (xs++news)->W.grownBy w' v.ownBlock->(aa W w'\/∃ g cap,v=.slice (some ⟨g,0,none⟩) k cap/\v'=.slice (some ⟨g,0,none⟩) (k+m) cap/\k+m<=cap)->post v' w'): jE Cl Rd post ((execOp a.eval o).run P W):=by obtain⟨v',w',hr,h2,h3,h4⟩:=vS (P:=P) W base t o.type e i z size bytes ht hi hz hsize hby hzs hsz v k xs hown xv m news XC hl h1 h63 hbytes hbase;unfold execOp;simp only[ho,resolve,invoke,builtin,Sem.run_bind,Sem.run_pure,Result.andThen_ok,List.map_toArray,List.map_cons,List.map_nil,hs,hx,hr];exact h v' w' h2 h3 h4
end
def Py (n0:Nat) (e:TypeId) (size Ka Kb:Nat) (L1 L2:List Value):Nat->Value->World->Prop
 | 0,v,W=>W.ownsRow n0 e size v Ka L1
 | 1,v,W=>W.ownsRow n0 e size v (Ka+Kb) (L1++L2)
 | _,_,_=>True
theorem qZ {n0 size Ka Kb g cap:Nat} {e:TypeId} {L1 L2:List Value} {W W':World} (hs:0<size) (ho:W.ownsRow n0 e size (.slice (some ⟨g,0,none⟩) Ka cap) Ka L1) (GH:W'.ownsRow n0 e size (.slice (some ⟨g,0,none⟩) (Ka+Kb) cap) (Ka+Kb) (L1++L2)) (hg:W.grownBy W' (some g)):∀ i v,Py n0 e size Ka Kb L1 L2 i v W->Py n0 e size Ka Kb L1 L2 i v W'
 | 0,v,h=>by
  have h:W.ownsRow n0 e size v Ka L1:=h;show W'.ownsRow n0 e size v Ka L1;by_cases e2:v.ownBlock=some g
  ·obtain⟨c,h1,h2,_⟩:=gR hs h ho e2 rfl
   cases h2
   subst h1;exact nw h.1 GH
  ·exact h.kept hg (.inr e2)
 | 1,v,h=>by
  have h:W.ownsRow n0 e size v (Ka+Kb) (L1++L2):=h;show W'.ownsRow n0 e size v (Ka+Kb) (L1++L2);by_cases e2:v.ownBlock=some g
  ·obtain⟨c,h1,h2,_⟩:=gR hs h ho e2 rfl
   cases h2
   subst h1;exact GH
  ·exact h.kept hg (.inr e2)
 | _+2,_,_=>trivial
end
section
open Go Go.RowKit Go.Shelf Go.Maps
theorem vT:∀ (p q:List Nat),p.Pairwise (· < ·)->q.Pairwise (· < ·)->(∀ x,x∈p↔x∈q)->p=q
 | [],q,_,_,h=>by
  cases q with
  | nil=>rfl
  | cons y q=>have:=(h y).2 (by simp);simp at this
 | x::p,q,hp,hq,h=>by
  cases q with
  | nil=>have:=(h x).1 (by simp);simp at this
  | cons y q=>
   rw[List.pairwise_cons]at hp hq;have Og:x=y:=by
    have h1:=(h x).1 (by simp);have h2:=(h y).2 (by simp);rcases List.mem_cons.1 h1 with e | h1
    ·exact e
    ·rcases List.mem_cons.1 h2 with e | h2
     ·exact e.symm
     ·have a:=hq.1 x h1;have b:=hp.1 y h2;omega
   subst Og;congr 1;refine vT p q hp.2 hq.2 fun z=>?_
   have hz:=h z;simp only[List.mem_cons]at hz;constructor
   ·intro hzp
    rcases hz.1 (.inr hzp)with e | h1
    ·subst e;have:=hp.1 z hzp;omega
    ·exact h1
   ·intro hzq
    rcases hz.2 (.inr hzq)with e | h1
    ·subst e;have:=hq.1 z hzq;omega
    ·exact h1
end
end Go.Proofs.YtjgccapbphadjaaGreatDoor
