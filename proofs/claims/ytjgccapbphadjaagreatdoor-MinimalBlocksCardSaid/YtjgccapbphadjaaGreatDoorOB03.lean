/- Appends in drawn regions once more: what is appended is told by a property alone (a row that the region itself makes). -/
import Derived.Test.YtjgccapbphadjaaGreatDoorOB02
import Derived.Shelf.Bytes.SlEqualAll
import Derived.Lib.SmallJoins
import Derived.Great.BuildSlice
import Derived.Laws.EntriesVeiled
set_option maxRecDepth 100000
set_option maxHeartbeats 16000000
open Go.Lib (hid)
namespace Go.Proofs.YtjgccapbphadjaaGreatDoor
section
open Go Go.RowKit Go.Shelf Go.Maps
attribute [local go_sem] encS
def oB (w:World) (v:Value) (l:List BS):Prop:=cY w v l/\∀ a n cap,v=.slice a n cap->n<=cap
theorem cY.form {w:World} {v:Value} {l:List BS} (h:cY w v l):∃ a cap,v=.slice a l.length cap:=by
 rcases h with⟨h,rfl⟩ | ⟨b,off,cap,hv,_⟩
 ·exact⟨_,_,h⟩
 ·exact⟨_,_,hv⟩
theorem nw (v1 v2:Value) (l1 l2:List Int) (w:World) (h1:bQ aM w v1 l1) (h2:bQ aM w v2 l2) (hn:l1.length<=1000000): ah 33 #[v1,v2] w fun e w'=>e=.returned (.bool (l1==l2))/\Ext w w':=by
 obtain⟨a1,c1,rfl⟩:=h1.form;obtain⟨a2,c2,rfl⟩:=h2.form;obtain⟨n,jB⟩:=ag l1.length;obtain⟨m,qQ⟩:=ag l2.length;rw[<-jB]at hn h1 ⊢;rw[<-qQ]at h2 ⊢;obtain⟨r,hr⟩:=ag ((l1==l2));rw[<-hr];have H1:=hid h1;have H2:=hid h2;have HN:=hid jB;have HM:=hid qQ;have HR:=hid hr;clear h1 h2 jB qQ hr;by_cases hnm:n=m
 ·subst hnm
  go_enter Tryz.func33,Tryz.ntmps33
  go_wp2;go_loopw [13] (fun i wr=>∃ k:Nat,k<=n/\i=.int .i64 k/\l1.take k=l2.take k/\Ext w wr) (fun i _=>n-(intOf i).toNat);case atStart=>exact⟨0,by omega,rfl,rfl,Ext.refl _⟩
  case round=>
   obtain⟨k,hk,rfl,ht,hx⟩:=hrel;obtain⟨wo,rfl⟩:=ag (wr:World);by_cases hlt:k<n
   ·obtain⟨x,zI⟩:∃ x,l1[k]? =some x:=⟨_,az (by have:=HN.out;omega)⟩
    obtain⟨y,hyl⟩:∃ y,l2[k]? =some y:=⟨_,az (by have:=HM.out;omega)⟩;obtain⟨g1,o1,rfl,hg1,hc1⟩:=H1.elem zI;obtain⟨g2,o2,rfl,hg2,hc2⟩:=H2.elem hyl;have d1:wo.cell? ⟨g1,o1+k,none⟩=some (.int .i64 x):=(hx.cell (p:=⟨g1,o1+k,none⟩) hg1).trans hc1;have d2:wo.cell? ⟨g2,o2+k,none⟩=some (.int .i64 y):=(hx.cell (p:=⟨g2,o2+k,none⟩) hg2).trans hc2;have Hz:=hid zI;have Yr:=hid hyl;have HT:=hid ht;have HX:=hid hx;clear zI hyl ht hx hc1 hc2;go_wp2;refine eO (fun b=>b=g1\/b=g2) (by kernel_rfl) (fun i=>false) (by kernel_rfl) ?_;intro C hC hne W0 zB hblk hsz hx0;have f1:=dy hC (.inl rfl) d1;have f2:=dy hC (.inr rfl) d2;have LZ:=hid hx0;clear hC zB hblk hsz hx0 d1 d2
    repeat (refine bR (fun K hK=>?_);refine dE rfl ?_;unfold aF;go_simp;refine hK _ _ ?_;clear hK K)
    refine oq ?_;by_cases OG:x=y
    ·subst OG
     go_wp2;go_roundw;case rel=>
      refine⟨k+1,by omega,by go_num,?_,HX.trans LZ⟩;rw[List.take_add_one,List.take_add_one,Hz.out,Yr.out,HT.out]
     case measure=>simp[intOf];omega
    ·have hr:r=false:=by
      rw[HR.out,beq_eq_false_iff_ne];intro e;have h1:=Hz.out;rw[e,Yr.out]at h1;exact OG (Option.some.inj h1).symm
     have iH:=hid hr;clear hr;go_wp2;go_ret;exact⟨by rw[iH.out];rfl,HX.trans LZ⟩
   ·obtain rfl:k=n:=by omega
    have hr:r=true:=by rw[HR.out,beq_iff_eq, <-List.take_of_length_le (l:=l1) (i:=k) (by have:=HN.out;omega),ht,List.take_of_length_le (by have:=HM.out;omega)]
    have iH:=hid hr;have HX:=hid hx;clear ht hr hx;go_wp2;go_ret;exact⟨by rw[iH.out];rfl,HX⟩
 ·have hr:r=false:=by
   rw[HR.out,beq_eq_false_iff_ne];intro e;have h1:=HN.out;have h2:=HM.out;rw[e]at h1;omega
  have iH:=hid hr;clear hr;go_enter Tryz.func33,Tryz.ntmps33;go_wp2;go_ret;exact⟨by rw[iH.out];rfl,Ext.refl _⟩
end
section
open Go Go.RowKit Go.Shelf Go.Maps
theorem zJ {A B:World} (h:Ext A B) (n:Nat):Ext A (B.drewN n):=⟨h.os,h.tape,h.output,Nat.le_add_right_of_le h.drawn,h.size,h.keep⟩
end
section
open Go Go.RowKit Go.WideShapes Go.ChangeShapes Go.ChangeAt Go.Deep
section
variable {H:Type} {enc:TypeId×Value→H} {P:Program}
theorem pH (hl:laidOutB P=true) {W W':World} {sp:Nat->Bool} :∀ (ts:List TypeId) (vs:List Value) (ds:List (DataW H)) (ps:List MemPlace),(∀ t∈ts,P.readableRec t=true/\t<P.types.size)-> DataW.TrodAll enc P W 0 (fun _=>true) true ts vs ds ps->(∀ p∈ps,W.sameAt W' p)->(∀ p∈ps,sp p.block=true)->DataW.TrodAll enc P W' 0 sp true ts vs ds ps
 | [],vs,ds,ps,_,h,_,_=>by
  obtain⟨rfl,rfl,rfl⟩:=trodAll_nil h;rfl
 | t::ts,vs,ds,ps,ht,h,hs,hsp=>by
  obtain⟨v,vs',d,ds',p,q,rfl,rfl,rfl,h1,h2⟩:=trodAll_cons h
  exact⟨p,q,WideElems.Trod_stays hl (ht t (by simp)).1 (ht t (by simp)).2 h1 (fun x hx=>hs x (by simp[hx])) (fun x hx=>hsp x (by simp[hx])),
   pH hl ts vs' ds' q (fun t h=>ht t (by simp[h])) h2 (fun x hx=>hs x (by simp[hx])) (fun x hx=>hsp x (by simp[hx])),rfl⟩
theorem Qa (hl:laidOutB P=true) {f:Func} {s:ChangeSpec} {apart fresh handsOn:Bool} {W W':World} {args:Array Value} {ds gs:List (DataW H)} {before:List MemPlace} {tb:TypeId} (Wx:s.vars=[]) (Mh:∀ t∈f.params.toList,P.readableRec t=true/\t<P.types.size) (hres:f.resultTypes= #[tb]) (htb:P.underlying tb=some .bool) (hfn:s.fn H ds= {results:=[.lit (.bool true)],args:=ds}) (hW:DataW.Whole enc P f.params.toList s.vars apart W args.toList ds gs before) (hb:aa W W'): s.post enc P f apart fresh handsOn false W args (.bool true) W':=by
 have Mj:=hW;obtain⟨p,q,hA,hV,rfl,hz,hn⟩:=hW;have hV':=hV;rw[Wx]at hV';obtain⟨rfl,rfl⟩:=trodVars_none hV';have hlt:∀ x∈p++ [],x.block<W.heap.size:=fun x hx=>Mj.lt x hx
 simp only[List.append_nil]at hlt Mj;refine⟨ds,[],p,[],p,[],Mj,?_,?_,?_,?_,fun h=>(by cases h)⟩
 ·rw[List.append_nil,hfn,hres]
  exact trodAll_mk1 (shut_bool htb true)
 ·rw[List.append_nil,hfn]
  exact pH hl _ _ _ _ Mh hA (fun x hx=>hb.same (hlt x hx)) (fun x hx=>by simpa using hlt x hx)
 ·rw[List.append_nil,hfn,Wx]
  rfl
 ·exact World.keptBut_mono (fun x hx=>⟨hx,Or.inr (.inl hx)⟩) (hb.frame (· ∈p))
end
section
variable {H:Type} {enc:TypeId×Value→H} {W:World} {base:Nat} {sp:Nat→Bool}
end
end
section
open Go Go.ChangeShapes Go.WideShapes Go.ChangeAt Go.RowKit
section
variable {H:Type} {enc:TypeId×Value→H} {W:World}
theorem Ei {n:Int} (h:(Lit.int .u8 n).wf=true):0<=n/\n<256:=by
 simp only[Lit.wf,Bool.and_eq_true,decide_eq_true_eq]at h;have h1:IntKind.u8.min=0:=by decide
 have h2:IntKind.u8.max=255:=by decide
 omega
end
theorem Tryz.own:ownKnob Tryz.prog.godebug=none:=by kernel_rfl
theorem Tryz.laidOut:laidOutB Tryz.prog=true:=by kernel_rfl
end
section
open Go Go.RowKit
def tS (w:World) (x:Value) (m:Nat) (news:List Value):Prop:=(x=.slice none 0 0/\m=0/\news=[])\/∃ ad c,x=.slice (some ad) m c/\∀ j u,news[j]? =some u->w.cell? (ad.add j)=some u
section
variable {P:Program} {ops:Array Oper} {F:Fence} {n:Nat} {C:World→Prop}
theorem jL (w:World) (base:Nat) (t ty e:TypeId) (i:TypeInfo) (z:Value) (size bytes:Nat) (ht:P.underlying t=some (.slice e)) (hi:P.info? e=some i) (hz:i.zero=some z) (hsize:i.size=size) (hby:i.bytes=bytes) (hzs:z.cells.size=size) (hsz:0<size) (v:Value) (k:Nat) (xs:List Value) (hown:w.ownsRow base e size v k xs) (x:Value) (m:Nat) (news:List Value) (hx:tS w x m news) (hl:news.length=m*size) (h1:∀ u∈news,u.oneCell'=true) (h63:k+m<=maxLen) (hbytes:(k+m)*bytes<=140737488355328) (hbase:base<=w.heap.size): ∃ v' w',(Builtin.append_ #[t,t] ty #[v,x]).run P w=.ok v' w'/\w'.ownsRow base e size v' (k+m) (xs++news)/\w.grownBy w' v.ownBlock:=by
 rcases hx with⟨rfl,rfl,rfl⟩ | ⟨ad,c,rfl,hnews⟩
 ·refine⟨v,w,?_,?_,World.grownBy.refl _ _⟩
  ·exact run_append_owned_none (P:=P) (w:=w) base t ty e i size ht hi v k xs hown
  ·rw[List.append_nil];exact hown
 ·obtain⟨v',w',hr,h2,h3,_⟩:=run_append_own_at (P:=P) w base t ty e i z size bytes ht hi hz hsize hby hzs hsz v k xs hown ad m c news hl hnews h1 h63 hbytes hbase
  exact⟨v',w',hr,h2,h3⟩
theorem jM {Q:Exit->Act->World->Prop} {a:Act} {w:World} {rest:List Oper} {o:Oper} (hw:Region.wanted o (yielded ops a.tmps)=true) (h:∀ K:Act->World->Prop,(∀ a w,wpList P ops Q rest a w->K a w)->o.wp P a w K Q):wpList P ops Q (o::rest) a w:=by unfold wpList;rw[if_pos hw];exact .inl (h _ fun _ _ h=>h)
theorem nz {rest:List Oper} {o:Oper} {a:Act} {w:World} {Q:Exit->Act->World->Prop} (hw:Region.wanted o (yielded ops a.tmps)=true) (s x:Operand) (t:TypeId) (ho:o.op=.call {callee:=.builtin .append,args:= #[s,x],argTypes:= #[t,t]}) (base:Nat) (e:TypeId) (i:TypeInfo) (z:Value) (size bytes:Nat) (ht:P.underlying t=some (.slice e)) (hi:P.info? e=some i) (hz:i.zero=some z) (hsize:i.size=size) (hby:i.bytes=bytes) (hzs:z.cells.size=size) (hsz:0<size) (v:Value) (k:Nat) (xs:List Value) (hs:a.eval s=v) (hown:w.ownsRow base e size v k xs) (xv:Value) (m:Nat) (news:List Value) (hx:a.eval x=xv) (Ys:tS w xv m news) (hl:news.length=m*size) (h1:∀ u∈news,u.oneCell'=true) (h63:k+m<=maxLen) (hbytes:(k+m)*bytes<=140737488355328) (hbase:base<=w.heap.size) (h:∀ v' w',w'.ownsRow base e size v' (k+m) (xs++news)->w.grownBy w' v.ownBlock->wpList P ops Q rest (a.put o.dst v') w'): wpList P ops Q (o::rest) a w:=by
 refine jM hw fun K hK=>?_
 obtain⟨v',w',hr,h2,h3⟩:=jL (P:=P) w base t o.type e i z size bytes ht hi hz hsize hby hzs hsz v k xs hown xv m news Ys hl h1 h63 hbytes hbase;unfold Oper.wp execOp;simp only[ho,resolve,invoke,builtin,Sem.run_bind,Sem.run_pure,Result.andThen_ok,List.map_toArray,List.map_cons,List.map_nil,hs,hx,hr];exact hK _ _ (h v' w' h2 h3)
end
theorem kZ {base:Nat} {e:TypeId} {size g n cap:Nat} (o0:Nat):∀ (vs:List Value) (o:Nat) (w:World) (xs:List Value),o0<=o->w.ownsRow base e size (.slice (some ⟨g,0,none⟩) n cap) n xs-> ∃ ys,(w.setCells g o vs).ownsRow base e size (.slice (some ⟨g,0,none⟩) n cap) n ys/\ae (· ≠g) w (w.setCells g o vs)
 | [],_,w,xs,_,h=>⟨xs,h,ae.refl _ _⟩
 | v::r,o,w,xs,ho,h=>by
  obtain⟨ys,h1,h2⟩:=kZ o0 r (o+1) _ _ (by omega) (h.stored o v).1;exact⟨ys,h1,((ae.refl (· ≠g) w).setCell (p:=⟨g,o,none⟩) (fun h=>h rfl) v).tr h2⟩
end
section
open Go Go.RowKit Go.Shelf Go.Maps
theorem H5 (a b c:BS) (h:(!ltOf aU b a)=true) (k:(!ltOf aU c b)=true):(!ltOf aU c a)=true:=by
 simp only[Bool.not_eq_true']at*;cases Yt:ltOf aU c a with
 | false=>rfl
 | true=>
  exfalso;rw[<-Bool.not_eq_true,eR]at h k;rw[eR]at Yt;rcases oz a b with e | e | e
  ·subst e;exact k Yt
  ·exact k (iw Yt e)
  ·exact h e
theorem H6 (a b:BS):((!ltOf aU b a) || (!ltOf aU a b))=true:=by
 cases Yq:ltOf aU b a with
 | false=>rfl
 | true=>
  cases hab:ltOf aU a b with
  | false=>rfl
  | true=>
   rw[eR]at Yq hab;exact absurd (iw Yq hab) (jG b)
theorem vT (l:List BS):(partsOf l).Pairwise fun x y=>(!ltOf aU y x)=true:=List.pairwise_mergeSort H5 H6 _
theorem fA (l:List BS):(partsOf l).Perm (bh l):=List.mergeSort_perm _ _
attribute [local go_sem] encS
theorem Ej {α:Type} {enc:α->Value} {w:World} {B:Nat} {c:Array Value} {t:TypeId} {fr:Nat×Nat} {n cap:Nat} (l:List α) (h:w.heap[B]? =some (.cells c t fr)) (hc:c.toList=l.map enc) (hn:n=l.length) (mQ:l.length<=cap):bQ enc w (.slice (some ⟨B,0,none⟩) n cap) l:=by refine .inr ⟨B,0,cap,by rw[hn],(Array.getElem?_eq_some_iff.1 h).1,mQ,fun i x hi=>?_⟩;rw[cell_of_row w B (0+i) c t fr h,Nat.zero_add, <-Array.getElem?_toList,hc,aO,hi];rfl
theorem H7 {w:World} {B:Nat} {c:Array Value} {t:TypeId} {n cap:Nat} (l:List BS) (h:ar w B c t) (hc:c.toList=aP l) (hn:n=l.length):cY w (.slice (some ⟨B,0,none⟩) n cap) l:=by refine .inr ⟨B,0,cap,by rw[hn],h.lt,fun i s hi j hj=>?_⟩;rw[h.cell,Nat.zero_add, <-Array.getElem?_toList,hc];have:=iy l hi hj;simpa using this
theorem ak {w w':World} {base n size:Nat} {v:Value} {e:TypeId} {l:List Value} (h:w.ownsRow base e size v n l) (hk:aa w w'):w'.ownsRow base e size v n l:=
 aj h (ae.ai hk fun _ h=>h) (fun k e=>(h.lt k e).2)
end
section
open Go Go.RowKit Go.Shelf Go.Maps
theorem ar.range {w:World} {b:Nat} {c:Array Value} {t:TypeId} (h:ar w b c t):w.rangeAt b 0 c.toList:=fun j v hj=>by
 rw[Nat.zero_add,h.cell j, <-Array.getElem?_toList];exact hj
theorem Below.UB {A B:World} {n:Nat} (h:Below n A B) {g:Nat} (hg:n<=g) (c:Array Value):Below n A (B.setRow g c):=
 ⟨h.os,h.tape,h.output,Nat.le_trans h.size (by simp),fun k hk=>(setRow_other B g k c (by omega)).trans (h.block k hk)⟩
theorem ar.setRow {w:World} {b:Nat} {c c':Array Value} {t:TypeId} (h:ar w b c t):ar (w.setRow b c') b c' t:=setRow_heap w b c c' t _ h
theorem nA {P:Program} {ops:Array Oper} {Q:Exit->Act->World->Prop} {a:Act} {w:World} {rest:List Oper} {o:Oper} (hw:Region.wanted o (yielded ops a.tmps)=true) (h:∀ K:Act->World->Prop,(∀ a w,wpList P ops Q rest a w->K a w)->o.wp P a w K Q):wpList P ops Q (o::rest) a w:=by unfold wpList;rw[if_pos hw];exact .inl (h _ fun _ _ h=>h)
theorem aZ {P:Program} {ops:Array Oper} {rest:List Oper} {op:Oper} {a:Act} {w:World} {Q:Exit->Act->World->Prop} (hw:Region.wanted op (yielded ops a.tmps)=true) (ty:TypeId) (x:Operand) (ho:op.op=.load ty x) (b:Nat) (hx:a.eval x=.pointer (some ⟨b,0,none⟩)) (cs:Array Value) (d:TypeDesc) (hc:w.rangeAt b 0 cs.toList) (hu:P.underlying ty=some d) (hd:d.isRow=true) (hi:(P.info? ty).map (·.size)=some cs.size) (h:wpList P ops Q rest (a.put op.dst (.agg cs)) w):wpList P ops Q (op::rest) a w:=
 nA hw fun _ hK=>wp_load_mid ty x ho b 0 hx cs.toList d hc hu hd (by rw[Array.length_toList];exact hi) (hK _ _ h)
end
section
open Go Go.RowKit
theorem Qb (o:Nat) (l:List Value):∀ (k:Nat) (X:Array Value) (i:Nat),o+k+l.length<=X.size-> ((l.zipIdx k).foldl (fun a (x:Value×Nat)=>a.setIfInBounds (o+x.2) x.1) X)[i]? =if o+k<=i/\i<o+k+l.length then l[i-(o+k)]? else X[i]? :=by
 induction l with
 | nil=>intro k X i _;simp only[List.zipIdx_nil,List.foldl_nil,List.length_nil];rw[if_neg (by omega)]
 | cons c l ih=>
  intro k X i hs;rw[List.length_cons]at hs;rw[List.zipIdx_cons,List.foldl_cons,ih (k+1) _ i (by simp;omega),List.length_cons];by_cases h1:o+(k+1)<=i/\i<o+(k+1)+l.length
  ·rw[if_pos h1,if_pos (by omega),show i-(o+k)=(i-(o+(k+1)))+1 by omega,List.getElem?_cons_succ]
  ·rw[if_neg h1,Array.getElem?_setIfInBounds]
   by_cases h2:o+k=i
   ·rw[if_pos h2,if_pos (by omega),if_pos (by omega),show i-(o+k)=0 by omega];rfl
   ·rw[if_neg h2,if_neg (by omega)]
theorem qf {P:Program} {t e:TypeId} {i:TypeInfo} {z:Value} {m:Nat} (ht:P.underlying t=some (.slice e)) (hi:P.info? e=some i) (hz:i.zero=some z) (hsz:i.size=m) (hm:0<m) (tT:m<=16777216) (cs:Array Value) (hc:cs.size=m) (w:World): (Instr.buildSlice t 1 #[(0,.agg cs)]).run P w=.ok (.slice (some ⟨w.heap.size,0,none⟩) 1 1) (w.alloc (.cells cs e)):=by
 have abY:∀ X:Array Value,X.size=m->Instr.fill (fun i=>some (i*m,m)) X [(0,.agg cs)]=some cs:=fun X hX=>by
  have h1:(Value.agg cs).cells=cs:=rfl;unfold Instr.fill;simp only[h1,hc,Nat.zero_mul,Nat.zero_add,hX,ne_eq,not_true,decide_false,Bool.false_or];rw[if_neg (by simp)];unfold Instr.fill;congr 1;rw[<-Array.foldl_toList,Array.toList_zipIdx];apply Array.ext_getElem?;intro j;have:=Qb 0 cs.toList 0 X j (by rw[Array.length_toList];omega);simp only[Nat.zero_add]at this;rw[this,Array.length_toList,Nat.sub_zero];by_cases hj:j<cs.size
  ·rw[if_pos ⟨Nat.zero_le _,hj⟩,Array.getElem?_toList]
  ·rw[if_neg (fun h=>hj h.2),Array.getElem?_eq_none (by omega),Array.getElem?_eq_none (by omega)]
 have hs:∀ w,(sizeOf e).run P w=.ok m w:=fun w=>by simp[sizeOf,typeInfo,hi,hsz]
 have hz':∀ w,(zeroValue e).run P w=.ok z w:=fun w=>by simp[zeroValue,typeInfo,hi,hz]
 unfold Instr.buildSlice;simp only[Sem.run_bind,run_underlying ht,Result.andThen_ok,hs,Nat.one_mul];rw[if_neg (by omega),if_neg (by omega)];simp only[Sem.run_bind,hz',Result.andThen_ok,Sem.run_pure];rw[abY _ (by simp)];rfl
section
variable {F:Fence} {n:Nat} {P:Program} {C:World→Prop}
end
end
section
open Go Go.RowKit Go.Shelf Go.Maps
attribute [local go_sem] encS
end
section
open Go Go.RowKit Go.Shelf Go.Maps
attribute [local go_sem] encS
end
section
open Go Go.RowKit Go.Shelf Go.Maps
def Alike (l:List BS) (c d:Nat):Prop:=∀ s∈l,s.getLsbD c=s.getLsbD d
theorem Kj {s p x:BS} :x∈cut s p↔(x=p&&& s\/x=p&&& ~~~s)/\x≠0:=by unfold cut;simp only[List.mem_filter,List.mem_cons,List.not_mem_nil,or_false,Bool.not_eq_true',beq_eq_false_iff_ne]
theorem kL {s x:BS} {l:List BS} :x∈aV s l↔ ∃ p∈l,(x=p&&& s\/x=p&&& ~~~s)/\x≠0:=by unfold aV;simp only[List.mem_flatMap,Kj]
theorem nB (c:Nat):(0:BS).getLsbD c=false:=BitVec.getLsbD_zero
theorem vo (s:BS) {c:Nat} (hc:c<256):(~~~s).getLsbD c= !s.getLsbD c:=by rw[BitVec.getLsbD_not];simp[hc]
theorem Kk {c:Nat} (hc:c<256):(~~~(0:BS)).getLsbD c=true:=by rw[vo _ hc,nB];rfl
theorem vU (l:List BS) (c:Nat) (hc:c<256):∃ q∈bh l,q.getLsbD c=true:=by
 suffices ∀ r:List BS,∃ q∈bh r.reverse,q.getLsbD c=true by have:=this l.reverse;rwa[List.reverse_reverse]at this
 intro r;induction r with
 | nil=>exact⟨~~~0,by simp[bh],Kk hc⟩
 | cons s r ih=>
  obtain⟨q,hq,Qc⟩:=ih;rw[List.reverse_cons,iG];cases hs:s.getLsbD c with
  | true=>
   have h:(q&&& s).getLsbD c=true:=by rw[BitVec.getLsbD_and,Qc,hs];rfl
   exact⟨q&&& s,kL.2 ⟨q,hq,.inl rfl,fun e=>by rw[e,nB]at h;cases h⟩,h⟩
  | false=>
   have h:(q&&& ~~~s).getLsbD c=true:=by rw[BitVec.getLsbD_and,Qc,vo _ hc,hs];rfl
   exact⟨q&&& ~~~s,kL.2 ⟨q,hq,.inr rfl,fun e=>by rw[e,nB]at h;cases h⟩,h⟩
theorem vV (l:List BS) {q:BS} (hq:q∈bh l) {c d:Nat} (hc:c<256) (hd:d<256) (h:q.getLsbD c=true):q.getLsbD d=true↔Alike l c d:=by
 suffices ∀ (r:List BS) (q:BS),q∈bh r.reverse->q.getLsbD c=true->(q.getLsbD d=true↔Alike r.reverse c d) by
  have:=this l.reverse q (by rwa[List.reverse_reverse]) h;rwa[List.reverse_reverse]at this
 intro r;induction r with
 | nil=>
  intro q hq _;have:q= ~~~0:=by simpa[bh]using hq
  rw[this,Kk hd];simp[Alike]
 | cons s r ih=>
  intro q hq Qc;rw[List.reverse_cons,iG]at hq;obtain⟨p,hp,hpq,_⟩:=kL.1 hq;have ow:Alike (r.reverse++ [s]) c d↔Alike r.reverse c d/\s.getLsbD c=s.getLsbD d:=by
   unfold Alike;constructor
   ·intro h;exact⟨fun x hx=>h x (by simp only[List.mem_append];exact .inl hx),h s (by simp)⟩
   ·intro⟨h1,h2⟩ x hx
    simp only[List.mem_append,List.mem_singleton]at hx;rcases hx with hx | rfl
    ·exact h1 x hx
    ·exact h2
  rw[List.reverse_cons,ow];rcases hpq with rfl | rfl
  ·rw[BitVec.getLsbD_and,Bool.and_eq_true]at Qc ⊢
   rw[ih p hp Qc.1,Qc.2];exact and_congr_right fun _=>eq_comm
  ·rw[BitVec.getLsbD_and,Bool.and_eq_true]at Qc ⊢
   have h2:=Qc.2;rw[vo _ hc]at h2;rw[ih p hp Qc.1,vo _ hd];have h3:s.getLsbD c=false:=by simpa using h2
   rw[h3];refine and_congr_right fun _=>?_
   cases s.getLsbD d<;>simp
def rD (p q:BS):Prop:=∀ c,¬ (p.getLsbD c=true/\q.getLsbD c=true)
theorem rD.symm {p q:BS} (h:rD p q):rD q p:=fun c ⟨h1,h2⟩=>h c ⟨h2,h1⟩
theorem vq (p q:BS) (c:Nat):(p&&& q).getLsbD c=true↔p.getLsbD c=true/\q.getLsbD c=true:=by rw[BitVec.getLsbD_and,Bool.and_eq_true]
theorem Ek (s:BS) (c:Nat) (h:(~~~s).getLsbD c=true):s.getLsbD c=false:=by rw[BitVec.getLsbD_not]at h;simp at h;exact h.2
theorem vW (l:List BS):(bh l).Pairwise rD:=by
 suffices ∀ r:List BS,(bh r.reverse).Pairwise rD by have:=this l.reverse;rwa[List.reverse_reverse]at this
 intro r;induction r with
 | nil=>simp[bh]
 | cons s r ih=>
  rw[List.reverse_cons,iG];unfold aV;rw[List.pairwise_flatMap];refine⟨fun p _=>?_,ih.imp fun {p q} h x hx y hy c ⟨h1,h2⟩=>?_⟩
  ·unfold cut
   refine List.Pairwise.filter _ ?_;refine List.pairwise_cons.2 ⟨fun y hy c ⟨h1,h2⟩=>?_,List.pairwise_singleton _ _⟩;rw[List.mem_singleton.1 hy,vq]at h2;rw[vq]at h1;rw[Ek s c h2.2]at h1;exact Bool.noConfusion h1.2
  ·have sub:∀ {p x:BS},x∈cut s p->x.getLsbD c=true->p.getLsbD c=true:=fun {p x} hx h=>by
    rcases(Kj.1 hx).1 with rfl | rfl
    ·exact((vq _ _ _).1 h).1
    ·exact((vq _ _ _).1 h).1
   exact h c ⟨sub hx h1,sub hy h2⟩
theorem nC {l:List BS} {q:BS} :q∈partsOf l↔q∈bh l:=(fA l).mem_iff
theorem kM (l:List BS):(partsOf l).Pairwise rD:=((fA l).pairwise_iff (fun h=>rD.symm h)).2 (vW l)
theorem kN (l:List BS) (c:Nat) (hc:c<256):∃ (k:Nat) (q:BS),(partsOf l)[k]? =some q/\q.getLsbD c=true:=by obtain⟨q,h1,h2⟩:=vU l c hc;obtain⟨k,hk⟩:=List.getElem?_of_mem (nC.2 h1);exact⟨k,q,hk,h2⟩
theorem yT (l:List BS) {q:BS} (hq:q∈partsOf l) {c d:Nat} (hc:c<256) (hd:d<256) (h:q.getLsbD c=true):q.getLsbD d=true↔Alike l c d:=vV l (nC.1 hq) hc hd h
theorem tU {p:List BS} (h:p.Pairwise rD) {i j:Nat} {x y:BS} (hi:p[i]? =some x) (hj:p[j]? =some y) {c:Nat} (hx:x.getLsbD c=true) (hy:y.getLsbD c=true):i=j:=by
 have key:∀ {i j:Nat} {x y:BS},p[i]? =some x->p[j]? =some y->x.getLsbD c=true->y.getLsbD c=true->¬i<j:=fun {i j x y} hi hj hx hy hlt=>by
  obtain⟨h1,rfl⟩:=List.getElem?_eq_some_iff.1 hi;obtain⟨h2,rfl⟩:=List.getElem?_eq_some_iff.1 hj;exact(List.pairwise_iff_getElem.1 h i j h1 h2 hlt) c ⟨hx,hy⟩
 have h1:=key hi hj hx hy;have h2:=key hj hi hy hx;omega
theorem iJ (l:List BS) {c k:Nat} (hc:c<256):cls (partsOf l) c=k↔ ∃ q:BS,(partsOf l)[k]? =some q/\q.getLsbD c=true:=by
 have h1:∃ q,(partsOf l)[cls (partsOf l) c]? =some q/\q.getLsbD c=true:=by
  rcases sP (partsOf l) c hc with⟨k,s,h1,h2,h3⟩ | ⟨h1,_⟩
  ·rw[rC _ hc]at h3;cases h3;exact⟨s,h1,h2⟩
  ·obtain⟨k,q,h2,h3⟩:=kN l c hc
   rw[h1 q (aw h2)]at h3;cases h3
 constructor
 ·rintro rfl;exact h1
 ·rintro⟨q,h2,h3⟩
  obtain⟨q',h4,h5⟩:=h1;exact tU (kM l) h4 h2 h5 h3
theorem iz (l:List BS) {q:BS} (h:q∈partsOf l):q≠0:=tP l q (nC.1 h)
theorem et {s:BS} (h:s≠0):(aT s).2=true/\(aT s).1<256/\s.getLsbD (aT s).1=true/\∀ d,d<(aT s).1->s.getLsbD d=false:=by
 rcases ry s with⟨_,h1⟩ | h1
 ·exact absurd h1 h
 ·exact h1
theorem pI (l:List BS) {i j:Nat} {x y:BS} (hi:(partsOf l)[i]? =some x) (hj:(partsOf l)[j]? =some y) (mF:i<j):(aT x).1<(aT y).1:=by
 obtain⟨h1,h2⟩:=List.getElem?_eq_some_iff.1 hi;obtain⟨h3,h4⟩:=List.getElem?_eq_some_iff.1 hj;have hs:=List.pairwise_iff_getElem.1 (vT l) i j h1 h3 mF;have ha:=List.pairwise_iff_getElem.1 (kM l) i j h1 h3 mF;rw[h2,h4]at hs ha;obtain⟨_,x1,x2,x3⟩:=et (iz l (aw hi));obtain⟨_,y1,y2,y3⟩:=et (iz l (aw hj));have hne:(aT x).1≠(aT y).1:=fun e=>ha _ ⟨x2,by rw[e];exact y2⟩
 by_cases hlt:(aT x).1<(aT y).1
 ·exact hlt
 ·exfalso
  have hyx:TJ y x:=⟨(aT y).1,y1,fun d hd=>by rw[y3 d hd,x3 d (by omega)],y2,x3 _ (by omega)⟩;rw[<-eR]at hyx;rw[hyx]at hs;exact Bool.noConfusion hs
theorem tV (l:List BS):0<(partsOf l).length:=by obtain⟨k,q,h,_⟩:=kN l 0 (by decide);have:=(List.getElem?_eq_some_iff.1 h).1;omega
theorem uO (l:List BS):(partsOf l).isEmpty=false:=by
 have:=tV l;cases h:partsOf l with
 | nil=>rw[h]at this;simp at this
 | cons=>rfl
structure bX (p:List BS) (R:Nat->Nat->Prop):Prop where
 some:p.isEmpty=false
 apart:p.Pairwise rD
 ne:∀ q∈p,q≠0
 cover:∀ c,c<256->∃ (k:Nat) (q:BS),p[k]? =Option.some q/\q.getLsbD c=true
 alike:∀ q∈p,∀ c d,c<256->d<256->q.getLsbD c=true->(q.getLsbD d=true↔R c d)
 first:∀ (i j:Nat) (x y:BS),p[i]? =Option.some x->p[j]? =Option.some y->i<j->(aT x).1<(aT y).1
theorem bX.jN (l:List BS):bX (partsOf l) (Alike l):=
 ⟨uO l,kM l,fun _ h=>iz l h,kN l,fun _ hq _ _ hc hd h=>yT l hq hc hd h,fun _ _ _ _ h1 h2 h3=>pI l h1 h2 h3⟩
theorem bX.congr {p:List BS} {R S:Nat->Nat->Prop} (h:bX p R) (hrs:∀ c d,c<256->d<256->(R c d↔S c d)):bX p S:=
 ⟨h.some,h.apart,h.ne,h.cover,fun q hq c d hc hd hb=>(h.alike q hq c d hc hd hb).trans (hrs c d hc hd),h.first⟩
theorem bX.iJ {p:List BS} {R:Nat->Nat->Prop} (h:bX p R) {c k:Nat} (hc:c<256):cls p c=k↔ ∃ q:BS,p[k]? =Option.some q/\q.getLsbD c=true:=by
 have h1:∃ q,p[cls p c]? =Option.some q/\q.getLsbD c=true:=by
  rcases sP p c hc with⟨k,s,h1,h2,h3⟩ | ⟨h1,_⟩
  ·rw[rC _ hc]at h3;cases h3;exact⟨s,h1,h2⟩
  ·obtain⟨k,q,h2,h3⟩:=h.cover c hc
   rw[h1 q (aw h2)]at h3;cases h3
 constructor
 ·rintro rfl;exact h1
 ·rintro⟨q,h2,h3⟩
  obtain⟨q',h4,h5⟩:=h1;exact tU h.apart h4 h2 h5 h3
theorem bX.rE {p:List BS} {R:Nat->Nat->Prop} (h:bX p R) {c d:Nat} (hc:c<256) (hd:d<256):cls p c=cls p d↔R c d:=by
 obtain⟨q,h1,h2⟩:=(h.iJ hc).1 rfl;rw[<-h.alike q (aw h1) c d hc hd h2];constructor
 ·intro e
  obtain⟨q',h3,h4⟩:=(h.iJ hd).1 rfl;rw[<-e,h1]at h3;cases h3;exact h4
 ·intro h3;exact((h.iJ hd).2 ⟨q,h1,h3⟩).symm
theorem bX.symm {p:List BS} {R:Nat->Nat->Prop} (h:bX p R) {c d:Nat} (hc:c<256) (hd:d<256) (hr:R c d):R d c:=(h.rE hd hc).1 ((h.rE hc hd).2 hr).symm
theorem Bi {s:BS} (h:s≠0):∃ c,c<256/\s.getLsbD c=true:=by obtain⟨_,h1,h2,_⟩:=et h;exact⟨_,h1,h2⟩
theorem bX.mem_of {p q:List BS} {R S:Nat->Nat->Prop} (hp:bX p R) (hq:bX q S) (h:∀ c d,c<256->d<256->(R c d↔S c d)) {x:BS} (hx:x∈p):x∈q:=by
 obtain⟨c,hc,hxc⟩:=Bi (hp.ne x hx);obtain⟨k,s,hs,hsc⟩:=hq.cover c hc;have:x=s:=BS.ext fun d hd=>by
  rw[Bool.eq_iff_iff,hp.alike x hx c d hc hd hxc,hq.alike s (aw hs) c d hc hd hsc,h c d hc hd]
 rw[this];exact aw hs
theorem bX.sorted {p:List BS} {R:Nat->Nat->Prop} (hp:bX p R):p.Pairwise fun x y=>(aT x).1<(aT y).1:=by rw[List.pairwise_iff_getElem];intro i j hi hj mF;exact hp.first i j _ _ (az hi) (az hj) mF
theorem zK {f:BS->Nat} :∀ (p q:List BS),p.Pairwise (fun x y=>f x<f y)->q.Pairwise (fun x y=>f x<f y)->(∀ x,x∈p↔x∈q)->p=q
 | [],q,_,_,h=>by
  cases q with
  | nil=>rfl
  | cons y q=>have:=(h y).2 (by simp);simp at this
 | x::p,q,hp,hq,h=>by
  cases q with
  | nil=>have:=(h x).1 (by simp);simp at this
  | cons y q=>
   rw[List.pairwise_cons]at hp hq;have OG:x=y:=by
    have h1:=(h x).1 (by simp);have h2:=(h y).2 (by simp);rcases List.mem_cons.1 h1 with e | h1
    ·exact e
    ·rcases List.mem_cons.1 h2 with e | h2
     ·exact e.symm
     ·have a:=hq.1 x h1;have b:=hp.1 y h2;omega
   subst OG;congr 1;refine zK p q hp.2 hq.2 fun z=>?_
   have hz:=h z;simp only[List.mem_cons]at hz;constructor
   ·intro hzp
    rcases hz.1 (.inr hzp)with e | h1
    ·subst e;have:=hp.1 z hzp;omega
    ·exact h1
   ·intro hzq
    rcases hz.2 (.inr hzq)with e | h1
    ·subst e;have:=hq.1 z hzq;omega
    ·exact h1
theorem bX.uniq {p q:List BS} {R S:Nat->Nat->Prop} (hp:bX p R) (hq:bX q S) (h:∀ c d,c<256->d<256->(R c d↔S c d)):p=q:=
 zK p q hp.sorted hq.sorted fun _=>⟨fun hx=>hp.mem_of hq h hx,fun hx=>hq.mem_of hp (fun c d hc hd=>(h c d hc hd).symm) hx⟩
theorem bX.zL {p:List BS} {R:Nat->Nat->Prop} (hp:bX p R) {c d:Nat} (hc:c<256) (hd:d<256):Alike p c d↔R c d:=by
 constructor
 ·intro h
  obtain⟨k,s,hs,hsc⟩:=hp.cover c hc;have:=h s (aw hs);exact(hp.alike s (aw hs) c d hc hd hsc).1 (by rw[<-this];exact hsc)
 ·intro hr s hs
  rw[Bool.eq_iff_iff];exact⟨fun h=>(hp.alike s hs c d hc hd h).2 hr,fun h=>(hp.alike s hs d c hd hc h).2 (hp.symm hc hd hr)⟩
theorem pJ (v:Value) (l:List BS) (w:World) (h:oB w v l) (hn:l.length<=1000000): ah 27 #[v] w fun e w'=>∃ u,e=.returned u/\w'.ownsRow w.heap.size 56 4 u l.length (aP l)/\aa w w':=by
 obtain⟨i0,hi,hz0,hz1,hz2⟩:=info_parts Tryz.zE;rcases h.1 with⟨rfl,rfl⟩ | ⟨b,off,cap,rfl,hb,hc⟩
 ·have he:=fun W=>Lib.run_eql_slice_nil (P:=Tryz.prog) W 26 56 none 0 0 0 0 Tryz.underlying26
  clear h;go_enter Tryz.func27,Tryz.ntmps27;go_wp2;go_ret;exact⟨_,rfl,World.ownsRow_nil _ _ _ _,Below.refl _ _⟩
 ·have hnews:∀ j u,(aP l)[j]? =some u->w.cell? ((⟨b,off,none⟩:Addr).add j)=some u:=fun j u hj=>by
   have hj4:j<l.length*4:=by have:=(List.getElem?_eq_some_iff.1 hj).1;rwa[cP]at this
   have hs:l[j/4]? =some (l[j/4]'(by omega)):=az (by omega);have h1:=iy l hs (Nat.mod_lt j (by decide:0<4));rw[show j/4*4+j%4=j by omega,hj]at h1;rw[Addr.add_mid,show off+j=off+j/4*4+j%4 by omega,hc _ _ hs _ (Nat.mod_lt j (by decide))];exact h1.symm
  obtain⟨n,jB⟩:=ag l.length;rw[<-jB]at hn ⊢;have HN:=hid jB;have HNw:=hid hnews;have he:=fun W=>Lib.run_eql_slice_nil (P:=Tryz.prog) W 26 56 (some ⟨b,off,none⟩) n cap 0 0 Tryz.underlying26
  clear h hc hnews jB;go_enter Tryz.func27,Tryz.ntmps27;have o1:(w.alloc (.cells #[] 56 (0,0))).ownsRow w.heap.size 56 4 (.slice (some ⟨w.heap.size,0,none⟩) 0 0) 0 []:=⟨rfl,.inr ⟨w.heap.size,0, #[],rfl,aG _,World.alloc_heap_new _ _,aG _,by simp,rfl,rfl⟩⟩;have Ke:=hid o1;clear o1;go_wp2_with (at_builtin;(refine wpList_append_own_at _ rfl (.tmp 5) (.tmp 6) 26 rfl w.heap.size 56 i0 (.agg #[.int .u64 0,.int .u64 0,.int .u64 0,.int .u64 0]) 4 32 Tryz.underlying26 hi hz0 hz1 hz2 rfl (by decide) _ 0 [] rfl Ke ⟨b,off,none⟩ n cap (aP l) rfl (by rw[cP,HN.out]) (fun j u hj=>(((Ext.refl w).alloc _).cell (p:=(⟨b,off,none⟩:Addr).add j) (by rw[Addr.add_mid];exact hb)).trans (HNw j u hj)) (gQ l) (by unfold maxLen;omega) (by omega) (by simp) ?_;intro v' w2 ho hg _ _;have jH:=hid ho;have HG:=hid hg;obtain⟨a2,c2,rfl⟩:=ownsRow_form ho;clear ho hg));go_ret;refine⟨_,rfl,?_,?_⟩
  ·have:=jH.out
   rwa[Nat.zero_add,List.nil_append]at this
  ·exact((Below.refl _ _).alloc (aG _) _).grown HG (by simp) (fun c e=>(Ke.lt c e).1)
end
section
open Go Go.RowKit
theorem aC {C:World->Prop} {d:Bool} {T:Nat->Prop} {w:World} (hC:∀ W,C W↔Move d T w W) {p:Addr} {v:Option Value} (hs:p.block<w.heap.size) (ht:¬T p.block) (h:w.cell? p=v):∀ W: {W//C W},W.1.cell? p=v:=fun W=>
 (((hC W.1).1 W.2).keeps.cell ⟨hs,ht⟩).trans h
theorem aI {P:Program} {f:FuncId} {args:Array Value} {w:World} {R:Ending->World->Prop} (h:∀ W,W=w->Calls P f args W R):Calls P f args w R:=h w rfl
end
section
open Go Go.RowKit Go.Shelf Go.Maps
theorem ae.setRow {R:Nat->Prop} {A B:World} (h:ae R A B) {g:Nat} (hp:¬R g) (c:Array Value):ae R A (B.setRow g c):=
 ⟨h.os,h.tape,h.output,Nat.le_trans h.size (by simp),fun k hk=>(setRow_other B g k c (fun e=>hp (e▸hk))).trans (h.keep k hk)⟩
end
section
open Go Go.RowKit
section
variable {P:Program}
theorem gR (w:World) (base:Nat) (t ty e:TypeId) (i:TypeInfo) (z:Value) (size bytes:Nat) (ht:P.underlying t=some (.slice e)) (hi:P.info? e=some i) (hz:i.zero=some z) (hsize:i.size=size) (hby:i.bytes=bytes) (hzs:z.cells.size=size) (hsz:0<size) (v:Value) (n:Nat) (xs:List Value) (hown:w.ownsRow base e size v n xs) (a:Addr) (m c:Nat) (news:List Value) (hl:news.length=m*size) (hnews:∀ j u,news[j]? =some u->w.cell? (a.add j)=some u) (h1:∀ u∈news,u.oneCell'=true) (h63:n+m<=maxLen) (hbytes:(n+m)*bytes<=140737488355328) (hbase:base<=w.heap.size) (hm:0<m): ∃ v' w',(Builtin.append_ #[t,t] ty #[v,.slice (some a) m c]).run P w=.ok v' w'/\w'.ownsRow base e size v' (n+m) (xs++news)/\ ((∃ g cap cur,v=.slice (some ⟨g,0,none⟩) n cap/\w.heap[g]? =some (.cells cur e (0,0))/\cur.size=cap*size/\n+m<=cap/\v'=.slice (some ⟨g,0,none⟩) (n+m) cap/\ w'=w.setRow g (cur.toList.take (n*size)++news++cur.toList.drop (n*size+news.length)).toArray)\/(aa w w'/\v'.ownBlock=some w.heap.size)):=by
 obtain⟨v',w',hr,ho,hg,_,hb⟩:=run_append_own_at (P:=P) w base t ty e i z size bytes ht hi hz hsize hby hzs hsz v n xs hown a m c news hl hnews h1 h63 hbytes hbase
 have far:∀ g,v.ownBlock=some g->v'.ownBlock=some w.heap.size->w'.heap[g]? =w.heap[g]? ->aa w w':=fun g e1 _ e2=>⟨hg.os,hg.tape,hg.output,hg.size,fun k hk=>by
  by_cases e:k=g
  ·subst e;exact e2
  ·exact hg.block k hk (by rw[e1];intro h;exact e (Option.some.inj h))⟩
 subst hsize;subst hby;have hown':=hown;rcases hown.2 with⟨rfl,rfl⟩ | ⟨g,cap,cur,rfl,hbg,UC,hnc,hcm,hcs,htake⟩
 ·refine⟨v',w',hr,ho,.inr ⟨⟨hg.os,hg.tape,hg.output,hg.size,fun k hk=>hg.block k hk (by simp[Value.ownBlock])⟩,?_⟩⟩
  rcases hb with hb | hb
  ·exfalso
   rcases ho.2 with⟨_,h⟩ | ⟨g,c,cur,h,_⟩
   ·omega
   ·rw[h]at hb;simp[Value.ownBlock]at hb
  ·exact hb
 ·by_cases hroom:n+m<=cap
  ·have El:n*i.size+news.length<=cur.size:=by rw[hl,hcs, <-Nat.add_mul];exact Nat.mul_le_mul_right _ hroom
   have hr2:=run_append_room (P:=P) w t ty e i ht hi g n cap cur UC a m c news hl hnews h1 hroom El;rw[hr]at hr2;cases hr2;exact⟨_,_,hr,ho,.inl ⟨g,cap,cur,rfl,UC,hcs,hroom,rfl,rfl⟩⟩
  ·have holds:∀ j u,xs[j]? =some u->w.cell? ((⟨g,0,none⟩:Addr).add j)=some u:=hown'.cells (g:=g) rfl
   have hr2:=run_append_grow (P:=P) w t ty e i z ht hi hz ⟨g,0,none⟩ n cap xs hown'.1 holds a m c news hl hnews (by omega) (by unfold maxLen at h63;omega) (growslice_fits (by omega) hbytes);rw[hr]at hr2;rw[Result.ok.injEq]at hr2;obtain⟨hv,e2⟩:=hr2;have hw:w'.heap[g]? =w.heap[g]? :=by rw[e2];exact heap_alloc_old w.drew _ (Array.getElem?_eq_some_iff.1 UC).1
   exact⟨v',w',hr,ho,.inr ⟨far g rfl (by rw[hv];rfl) hw,by rw[hv];rfl⟩⟩
end
structure App where
 e:TypeId
 size:Nat
 v:Value
 n:Nat
 xs:List Value
 m:Nat
 news:List Value
def After (base:Nat) (w0:World) (p:App) (W:World) (v:Value):Prop:=
 W.ownsRow base p.e p.size v (p.n+p.m) (p.xs++p.news)/\(v.ownBlock=p.v.ownBlock\/∀ x,v.ownBlock=some x->w0.heap.size<=x)
structure bZ (base:Nat) (w0:World) (PL:List App) (A B:World):Prop where
 keeps:ae (fun x=>x<A.heap.size/\¬ ∃ p∈PL,p.v.ownBlock=some x) A B
 old:∀ p∈PL,A.ownsRow base p.e p.size p.v p.n p.xs->B.ownsRow base p.e p.size p.v p.n p.xs
 new:∀ p∈PL,∀ v,After base w0 p A v->After base w0 p B v
section
variable {base:Nat} {w0:World} {PL:List App} {A B C:World}
theorem bZ.trans (h:bZ base w0 PL A B) (k:bZ base w0 PL B C):bZ base w0 PL A C:=
 ⟨h.keeps.trans k.keeps fun _ hx=>⟨aD hx.1 h.keeps.size,hx.2⟩,fun p hp ho=>k.old p hp (h.old p hp ho),fun p hp v hv=>k.new p hp v (h.new p hp v hv)⟩
theorem bZ.below (h:aa A B):bZ base w0 PL A B:=
 ⟨ae.ai h fun _ hx=>hx.1,fun _ _ ho=>ownsRow_keepsA ho h,fun _ _ _ hv=>⟨ownsRow_keepsA hv.1 h,hv.2⟩⟩
where
 ownsRow_keepsA {W W':World} {b:Nat} {e:TypeId} {size:Nat} {v:Value} {n:Nat} {xs:List Value} (h:W.ownsRow b e size v n xs) (hk:aa W W'):W'.ownsRow b e size v n xs:=
  aj h (ae.ai hk (R:=(· <W.heap.size)) fun _ h=>h) fun k e=>(h.lt k e).2
theorem bZ.drew:bZ base w0 PL A A.drew:=.below (Ext.refl A).drew.below
theorem bZ.size (h:bZ base w0 PL A B):A.heap.size<=B.heap.size:=h.keeps.size
def ky (w0:World) (PL:List App):Prop:=(∀ p∈PL,∀ x,p.v.ownBlock=some x->x<w0.heap.size)/\∀ (i j:Nat) (p q:App),PL[i]? =some p->PL[j]? =some q->i≠j->p.v.ownBlock=none\/p.v.ownBlock≠q.v.ownBlock
theorem bZ.room (ok:ky w0 PL) {i:Nat} {p:App} (hi:PL[i]? =some p) {g cap:Nat} {cur:Array Value} (hv:p.v=.slice (some ⟨g,0,none⟩) p.n cap) (ho:A.ownsRow base p.e p.size p.v p.n p.xs) (hg:A.heap[g]? =some (.cells cur p.e (0,0))) (hl:p.news.length=p.m*p.size) (hcs:cur.size=cap*p.size) (hroom:p.n+p.m<=cap):bZ base w0 PL A (A.setRow g (cur.toList.take (p.n*p.size)++p.news++cur.toList.drop (p.n*p.size+p.news.length)).toArray):=by
 have Kl:=aw hi;have TK:p.v.ownBlock=some g:=by rw[hv];rfl
 have hgw:g<w0.heap.size:=ok.1 p Kl g TK;have Wy:∀ c,ae (· ≠g) A (A.setRow g c):=fun c=>(ae.refl _ _).setRow (fun h=>h rfl) c
 have El:p.n*p.size+p.news.length<=cur.size:=by rw[hl,hcs, <-Nat.add_mul];exact Nat.mul_le_mul_right _ hroom
 have eT:cur.toList.take (p.n*p.size)=p.xs:=by
  rcases ho.2 with⟨h,_⟩ | ⟨g',cap',cur',h,_,Km,_,_,_,ht⟩
  ·rw[hv]at h;cases h
  ·rw[hv]at h
   cases h
   rw[hg]at Km;cases Km;exact ht
 have hlx:p.xs.length=p.n*p.size:=ho.1;generalize hc:(cur.toList.take (p.n*p.size)++p.news++cur.toList.drop (p.n*p.size+p.news.length)).toArray=c;have mG:c.toList=p.xs++p.news++cur.toList.drop (p.n*p.size+p.news.length):=by rw[<-hc,eT]
 have hcz:c.size=cur.size:=by rw[<-Array.length_toList,mG,aJ,aJ,List.length_drop,Array.length_toList];omega
 have UC:(A.setRow g c).heap[g]? =some (.cells c p.e (0,0)):=setRow_heap A g cur c p.e _ hg;have far:∀ {e:TypeId} {size:Nat} {v:Value} {n:Nat} {xs:List Value},A.ownsRow base e size v n xs->v.ownBlock≠some g->(A.setRow g c).ownsRow base e size v n xs:=fun h hne=>
  aj h (Wy c) fun k e e'=>hne (by rw[e,e'])
 have UD:∀ {k cap':Nat} {xs:List Value},A.ownsRow base p.e p.size (.slice (some ⟨g,0,none⟩) k cap') k xs->c.toList.take (k*p.size)=xs->(A.setRow g c).ownsRow base p.e p.size (.slice (some ⟨g,0,none⟩) k cap') k xs:=fun {k cap' xs} h ht=>by
  rcases h.2 with⟨h',_⟩ | ⟨g',c',cur',h',hb,Km,h1,h2,h3,_⟩
  ·cases h'
  ·cases h'
   rw[hg]at Km;cases Km;exact⟨h.1,.inr ⟨g,cap',c,rfl,hb,UC,h1,h2,by rw[hcz];exact h3,ht⟩⟩
 refine⟨(Wy c).mono fun x hx e=>hx.2 ⟨p,Kl,by rw[TK,e]⟩,fun q hq Yu=>?_,fun q hq v Wz=>?_⟩
 ·obtain⟨j,hj⟩:=List.getElem?_of_mem hq
  by_cases e:j=i
  ·subst e
   rw[hi]at hj;cases hj;rw[hv]at Yu ⊢;exact UD Yu (by rw[mG,List.append_assoc, <-hlx];exact List.take_left)
  ·refine far Yu fun h=>?_
   rcases ok.2 j i q p hj hi e with h' | h'
   ·rw[h']at h;cases h
   ·exact h' (by rw[h,TK])
 ·obtain⟨j,hj⟩:=List.getElem?_of_mem hq
  refine⟨?_,Wz.2⟩;by_cases e:j=i
  ·subst e
   rw[hi]at hj;cases hj;by_cases eb:v.ownBlock=some g
   ·rcases Wz.1.2 with⟨h',_⟩ | ⟨g',c',cur',h',_⟩
    ·rw[h']at eb;cases eb
    ·subst h'
     have:g'=g:=by simpa[Value.ownBlock]using eb
     subst this;refine UD Wz.1 ?_;rw[mG,Nat.add_mul, <-hlx, <-hl, <-aJ];exact List.take_left
   ·exact far Wz.1 eb
  ·refine far Wz.1 fun h=>?_
   rcases Wz.2 with h2 | h2
   ·rcases ok.2 j i q p hj hi e with h' | h'
    ·rw[h2,h']at h;cases h
    ·exact h' (by rw[<-h2,h,TK])
   ·have:=h2 g h;omega
theorem dN {P:Program} {Cl:FuncId->Array Value->World->(Ending->World->Prop)->Prop} {Rd:Nat->FuncId->Array Value->Code->Code->World->(Ending->World->Prop)->Prop} {o:Oper} {a:Act} {W:World} {post:Value->World->Prop} (s x:Operand) (t:TypeId) (ho:o.op=.call {callee:=.builtin .append,args:= #[s,x],argTypes:= #[t,t]}) (i:TypeInfo) (z:Value) (bytes:Nat) {p:App} (ht:P.underlying t=some (.slice p.e)) (hi:P.info? p.e=some i) (hz:i.zero=some z) (hsize:i.size=p.size) (hby:i.bytes=bytes) (hzs:z.cells.size=p.size) (hsz:0<p.size) (ok:ky w0 PL) {k:Nat} (hk:PL[k]? =some p) (hs:a.eval s=p.v) (hown:W.ownsRow base p.e p.size p.v p.n p.xs) (ad:Addr) (c:Nat) (hx:a.eval x=.slice (some ad) p.m c) (hl:p.news.length=p.m*p.size) (hnews:∀ j u,p.news[j]? =some u->W.cell? (ad.add j)=some u) (h1:∀ u∈p.news,u.oneCell'=true) (h63:p.n+p.m<=maxLen) (hbytes:(p.n+p.m)*bytes<=140737488355328) (hbase:base<=W.heap.size) (hm:0<p.m) (hw0:w0.heap.size<=W.heap.size) (h:∀ v W',bZ base w0 PL W W'->(∃ a c,v=.slice a (p.n+p.m) c)->After base w0 p W' v->(v.ownBlock=p.v.ownBlock\/v.ownBlock=some W.heap.size)->post v W'): jD Cl Rd post ((execOp a.eval o).run P W):=by
 obtain⟨v',w',hr,h2,h3⟩:=gR (P:=P) W base t o.type p.e i z p.size bytes ht hi hz hsize hby hzs hsz p.v p.n p.xs hown ad p.m c p.news hl hnews h1 h63 hbytes hbase hm;unfold execOp;simp only[ho,resolve,invoke,builtin,Sem.run_bind,Sem.run_pure,Result.andThen_ok,List.map_toArray,List.map_cons,List.map_nil,hs,hx,hr];show post v' w';refine h v' w' ?_ (ownsRow_form h2) ⟨h2,?_⟩ ?_
 ·rcases h3 with⟨g,cap,cur,e1,e2,e3,e4,e5,rfl⟩ | ⟨hb,_⟩
  ·exact bZ.room ok hk e1 hown e2 hl e3 e4
  ·exact .below hb
 ·rcases h3 with⟨g,cap,cur,e1,e2,e3,e4,e5,rfl⟩ | ⟨hb,e⟩
  ·left;rw[e5,e1];rfl
  ·right;intro y hy;rw[e]at hy;cases hy;exact hw0
 ·rcases h3 with⟨g,cap,cur,e1,e2,e3,e4,e5,rfl⟩ | ⟨hb,e⟩
  ·left;rw[e5,e1];rfl
  ·right;exact e
end
def pK (v y:Value):Prop:=v.ownBlock=none\/v.ownBlock≠y.ownBlock
namespace RegG
def aX.app (base:Nat) (w0:World) (PL:List App) (p:App) (hp:p∈PL):aX (bZ base w0 PL) where
 P:=fun v=>∃ a c,v=.slice a (p.n+p.m) c
 H:=fun _ v W=>After base w0 p W v
 ot:=.slice none (p.n+p.m) 0
 pw:=⟨none,0,rfl⟩
 st:=fun _ v _ _ hm _ h=>hm.new p hp v h
def aX.vX (base:Nat) (w0:World) (PL:List App) (n:Nat) (cs:Array Value) (t:TypeId):aX (bZ base w0 PL) where
 P:=fun v=>∃ b,v=.slice (some ⟨b,0,none⟩) n n
 H:=fun _ v W=>∀ b,v=.slice (some ⟨b,0,none⟩) n n->(ar W b cs t/\¬ ∃ p∈PL,p.v.ownBlock=some b)
 ot:=.slice (some ⟨0,0,none⟩) n n
 pw:=⟨_,rfl⟩
 st:=fun _ _ _ _ hm _ h b e=>⟨(h b e).1.keeps hm.keeps ⟨(h b e).1.lt,(h b e).2⟩,(h b e).2⟩
end RegG
theorem ky.fresh {w0:World} {PL:List App} (ok:ky w0 PL) {b:Nat} (h:w0.heap.size<=b):¬ ∃ p∈PL,p.v.ownBlock=some b:=fun ⟨p,hp,e⟩=>by
 have:=ok.1 p hp b e;omega
end
section
open Go Go.RowKit
def mI (n0:Nat) (Φ:Nat->Value->World->Prop) (A B:World):Prop:=ae (fun k=>k<n0/\k<A.heap.size) A B/\∀ i v,Φ i v A->Φ i v B
theorem mI.trans {n0:Nat} {Φ:Nat->Value->World->Prop} {A B C:World} (h:mI n0 Φ A B) (k:mI n0 Φ B C):mI n0 Φ A C:=
 ⟨h.1.trans k.1 fun _ hk=>⟨hk.1,aD hk.2 h.1.size⟩,fun i v x=>k.2 i v (h.2 i v x)⟩
theorem mI.below {n0:Nat} {Φ:Nat->Value->World->Prop} {A B:World} (st:∀ i v A B,aa A B->Φ i v A->Φ i v B) (h:aa A B):mI n0 Φ A B:=
 ⟨ae.ai h fun _ hk=>hk.2,fun i v=>st i v A B h⟩
def aX.fact (n0:Nat) (Φ:Nat->Value->World->Prop) (i:Nat) (P:Value->Prop) (ot:Value) (pw:P ot):aX (mI n0 Φ):=⟨P,Φ i,ot,pw,fun v _ _ m _ h=>m.2 i v h⟩
theorem nD {w:World} {base:Nat} {e:TypeId} {size g n m cap:Nat} {xs ys:List Value} (hx:xs.length=n*size) (h:w.ownsRow base e size (.slice (some ⟨g,0,none⟩) (n+m) cap) (n+m) (xs++ys)):w.ownsRow base e size (.slice (some ⟨g,0,none⟩) n cap) n xs:=by
 rcases h.2 with⟨h1,_⟩ | ⟨g',c',cur,h1,h2,h3,h4,h5,h6,h7⟩
 ·cases h1
 ·cases h1
  refine⟨hx,.inr ⟨g,cap,cur,rfl,h2,h3,by omega,h5,h6,?_⟩⟩;have:=congrArg (List.take (n*size)) h7;rw[List.take_take,Nat.min_eq_left (Nat.mul_le_mul_right _ (Nat.le_add_right n m)),List.take_left' hx]at this;exact this
theorem gS {w:World} {b1 b2:Nat} {e:TypeId} {size n1 n2 g:Nat} {v1 v2:Value} {x1 x2:List Value} (hs:0<size) (h1:w.ownsRow b1 e size v1 n1 x1) (h2:w.ownsRow b2 e size v2 n2 x2) (e1:v1.ownBlock=some g) (e2:v2.ownBlock=some g): ∃ cap,v1=.slice (some ⟨g,0,none⟩) n1 cap/\v2=.slice (some ⟨g,0,none⟩) n2 cap/\n1<=cap/\n2<=cap:=by
 rcases h1.2 with⟨rfl,_⟩ | ⟨g1,c1,agz,rfl,_,f1,k1,_,s1,_⟩
 ·cases e1
 ·rcases h2.2 with⟨rfl,_⟩ | ⟨g2,c2,UE,rfl,_,f2,k2,_,s2,_⟩
  ·cases e2
  ·have a1:g1=g:=by simpa[Value.ownBlock]using e1
   have a2:g2=g:=by simpa[Value.ownBlock]using e2
   subst a1;subst a2;rw[f1]at f2;cases f2;have:c1=c2:=Nat.eq_of_mul_eq_mul_right hs (by omega);subst this;exact⟨c1,rfl,rfl,k1,k2⟩
section
variable {P:Program}
theorem vY (w:World) (base:Nat) (t ty e:TypeId) (i:TypeInfo) (z:Value) (size bytes:Nat) (ht:P.underlying t=some (.slice e)) (hi:P.info? e=some i) (hz:i.zero=some z) (hsize:i.size=size) (hby:i.bytes=bytes) (hzs:z.cells.size=size) (hsz:0<size) (v:Value) (k:Nat) (xs:List Value) (hown:w.ownsRow base e size v k xs) (x:Value) (m:Nat) (news:List Value) (hx:tS w x m news) (hl:news.length=m*size) (h1:∀ u∈news,u.oneCell'=true) (h63:k+m<=maxLen) (hbytes:(k+m)*bytes<=140737488355328) (hbase:base<=w.heap.size): ∃ v' w',(Builtin.append_ #[t,t] ty #[v,x]).run P w=.ok v' w'/\w'.ownsRow base e size v' (k+m) (xs++news)/\w.grownBy w' v.ownBlock/\ (aa w w'\/∃ g cap,v=.slice (some ⟨g,0,none⟩) k cap/\v'=.slice (some ⟨g,0,none⟩) (k+m) cap/\k+m<=cap):=by
 obtain⟨v',w',hr,h2,h3⟩:=jL (P:=P) w base t ty e i z size bytes ht hi hz hsize hby hzs hsz v k xs hown x m news hx hl h1 h63 hbytes hbase;refine⟨v',w',hr,h2,h3,?_⟩;rcases hx with⟨rfl,rfl,rfl⟩ | ⟨ad,c,rfl,hnews⟩
 ·rw[run_append_owned_none (P:=P) (w:=w) base t ty e i size ht hi v k xs hown]at hr
  cases hr
  exact .inl (Below.refl _ _)
 ·rcases hown.2 with⟨rfl,rfl⟩ | ⟨g,cap,cur,rfl,hbg,hg,hnc,hcm,hcs,htake⟩
  ·exact .inl (ae.below (ae.bB h3 fun y hy=>⟨hy,fun e=>by cases e⟩))
  ·by_cases hroom:k+m<=cap
   ·right
    subst hsize;have hr2:=run_append_room (P:=P) w t ty e i ht hi g k cap cur hg ad m c news hl hnews h1 hroom (by rw[hl,hcs, <-Nat.add_mul];exact Nat.mul_le_mul_right _ hroom);rw[hr2]at hr;cases hr;exact⟨g,cap,rfl,rfl,hroom⟩
   ·left
    obtain⟨v2,w2,hr2,_,h4⟩:=gR (P:=P) w base t ty e i z size bytes ht hi hz hsize hby hzs hsz _ k xs hown ad m c news hl hnews h1 h63 hbytes hbase (by omega);rw[hr]at hr2;cases hr2;rcases h4 with⟨g',cap',cur',e1,_,_,e4,_⟩ | ⟨hb,_⟩
    ·cases e1;omega
    ·exact hb
theorem Bj {Cl:FuncId->Array Value->World->(Ending->World->Prop)->Prop} {Rd:Nat->FuncId->Array Value->Code->Code->World->(Ending->World->Prop)->Prop} {o:Oper} {a:Act} {W:World} {post:Value->World->Prop} (s x:Operand) (t:TypeId) (ho:o.op=.call {callee:=.builtin .append,args:= #[s,x],argTypes:= #[t,t]}) (base:Nat) (e:TypeId) (i:TypeInfo) (z:Value) (size bytes:Nat) (ht:P.underlying t=some (.slice e)) (hi:P.info? e=some i) (hz:i.zero=some z) (hsize:i.size=size) (hby:i.bytes=bytes) (hzs:z.cells.size=size) (hsz:0<size) (v:Value) (k:Nat) (xs:List Value) (hs:a.eval s=v) (hown:W.ownsRow base e size v k xs) (xv:Value) (m:Nat) (news:List Value) (hx:a.eval x=xv) (Ys:tS W xv m news) (hl:news.length=m*size) (h1:∀ u∈news,u.oneCell'=true) (h63:k+m<=maxLen) (hbytes:(k+m)*bytes<=140737488355328) (hbase:base<=W.heap.size) (h:∀ v' w',w'.ownsRow base e size v' (k+m) (xs++news)->W.grownBy w' v.ownBlock->(aa W w'\/∃ g cap,v=.slice (some ⟨g,0,none⟩) k cap/\v'=.slice (some ⟨g,0,none⟩) (k+m) cap/\k+m<=cap)->post v' w'): jD Cl Rd post ((execOp a.eval o).run P W):=by obtain⟨v',w',hr,h2,h3,h4⟩:=vY (P:=P) W base t o.type e i z size bytes ht hi hz hsize hby hzs hsz v k xs hown xv m news Ys hl h1 h63 hbytes hbase;unfold execOp;simp only[ho,resolve,invoke,builtin,Sem.run_bind,Sem.run_pure,Result.andThen_ok,List.map_toArray,List.map_cons,List.map_nil,hs,hx,hr];exact h v' w' h2 h3 h4
end
def Qd (n0:Nat) (e:TypeId) (size Ka Kb:Nat) (L1 L2:List Value):Nat->Value->World->Prop
 | 0,v,W=>W.ownsRow n0 e size v Ka L1
 | 1,v,W=>W.ownsRow n0 e size v (Ka+Kb) (L1++L2)
 | _,_,_=>True
theorem rF {n0 size Ka Kb g cap:Nat} {e:TypeId} {L1 L2:List Value} {W W':World} (hs:0<size) (ho:W.ownsRow n0 e size (.slice (some ⟨g,0,none⟩) Ka cap) Ka L1) (GJ:W'.ownsRow n0 e size (.slice (some ⟨g,0,none⟩) (Ka+Kb) cap) (Ka+Kb) (L1++L2)) (hg:W.grownBy W' (some g)):∀ i v,Qd n0 e size Ka Kb L1 L2 i v W->Qd n0 e size Ka Kb L1 L2 i v W'
 | 0,v,h=>by
  have h:W.ownsRow n0 e size v Ka L1:=h;show W'.ownsRow n0 e size v Ka L1;by_cases e2:v.ownBlock=some g
  ·obtain⟨c,h1,h2,_⟩:=gS hs h ho e2 rfl
   cases h2
   subst h1;exact nD h.1 GJ
  ·exact h.kept hg (.inr e2)
 | 1,v,h=>by
  have h:W.ownsRow n0 e size v (Ka+Kb) (L1++L2):=h;show W'.ownsRow n0 e size v (Ka+Kb) (L1++L2);by_cases e2:v.ownBlock=some g
  ·obtain⟨c,h1,h2,_⟩:=gS hs h ho e2 rfl
   cases h2
   subst h1;exact GJ
  ·exact h.kept hg (.inr e2)
 | _+2,_,_=>trivial
end
section
open Go Go.RowKit Go.Shelf Go.Maps
theorem vZ:∀ (p q:List Nat),p.Pairwise (· < ·)->q.Pairwise (· < ·)->(∀ x,x∈p↔x∈q)->p=q
 | [],q,_,_,h=>by
  cases q with
  | nil=>rfl
  | cons y q=>have:=(h y).2 (by simp);simp at this
 | x::p,q,hp,hq,h=>by
  cases q with
  | nil=>have:=(h x).1 (by simp);simp at this
  | cons y q=>
   rw[List.pairwise_cons]at hp hq;have OG:x=y:=by
    have h1:=(h x).1 (by simp);have h2:=(h y).2 (by simp);rcases List.mem_cons.1 h1 with e | h1
    ·exact e
    ·rcases List.mem_cons.1 h2 with e | h2
     ·exact e.symm
     ·have a:=hq.1 x h1;have b:=hp.1 y h2;omega
   subst OG;congr 1;refine vZ p q hp.2 hq.2 fun z=>?_
   have hz:=h z;simp only[List.mem_cons]at hz;constructor
   ·intro hzp
    rcases hz.1 (.inr hzp)with e | h1
    ·subst e;have:=hp.1 z hzp;omega
    ·exact h1
   ·intro hzq
    rcases hz.2 (.inr hzq)with e | h1
    ·subst e;have:=hq.1 z hzq;omega
    ·exact h1
end
section
open Go Go.RowKit
structure DF where
 cl:List BS
 nx:List (List Int)
 mr:List (List Int)
def nE (l:List Int) (k:Nat):Int:=if k=0 then-1 else l.getD (k-1) 0
def tW (l:List Int) (k:Nat):Bool:=decide (nE l k<l.getD k 0)&&decide (l.getD k 0<=255)
def rG (l:List Int):Bool:=(List.range l.length).all (tW l)
def TL (n:Nat) (t:Int):Bool:=decide (0<=t)&&decide (t<n)
def DF.iX (d:DF) (s:Nat):Bool:=decide ((d.nx.getD s []).length=d.cl.length)&&(d.nx.getD s []).all (TL d.nx.length)&&rG (d.mr.getD s [])
def DF.right (d:DF):Bool:=decide (1<=d.nx.length)&&decide (d.nx.length<=4000)&&decide (d.mr.length=d.nx.length)&&(partsOf d.cl==d.cl)&&(List.range d.nx.length).all d.iX
structure Rt (d:DF):Prop where
 pos:1<=d.nx.length
 le:d.nx.length<=4000
 mr:d.mr.length=d.nx.length
 cl:partsOf d.cl=d.cl
 len:∀ s,s<d.nx.length->(d.nx.getD s []).length=d.cl.length
 iV:∀ s,s<d.nx.length->∀ t∈d.nx.getD s [],0<=t/\t<d.nx.length
 TM:∀ s,s<d.nx.length->rG (d.mr.getD s [])=true
theorem dF (d:DF):d.right=true↔Rt d:=by
 unfold DF.right DF.iX TL;simp only[Bool.and_eq_true,decide_eq_true_eq,beq_iff_eq,List.all_eq_true,List.mem_range];constructor
 ·rintro⟨⟨⟨⟨h1,h2⟩,h3⟩,h4⟩,h5⟩
  exact⟨h1,h2,h3,h4,fun s hs=>(h5 s hs).1.1,fun s hs t ht=>(h5 s hs).1.2 t ht,fun s hs=>(h5 s hs).2⟩
 ·intro h
  exact⟨⟨⟨⟨h.pos,h.le⟩,h.mr⟩,h.cl⟩,fun s hs=>⟨⟨h.len s hs,h.iV s hs⟩,h.TM s hs⟩⟩
theorem Rt.part {d:DF} (h:Rt d):bX d.cl (Alike d.cl):=by have:=bX.jN d.cl;rwa[h.cl]at this
theorem Rt.Qe {d:DF} (h:Rt d):0<d.cl.length:=by have:=tV d.cl;rwa[h.cl]at this
theorem Rt.Bk {d:DF} (h:Rt d):d.cl.length<=256:=by
 have:(partsOf d.cl).length<=256:=by rw[(fA d.cl).length_eq];exact ey d.cl
 rwa[h.cl]at this
def en (d:DF) (s k:Nat):Nat:=((d.nx.getD s []).getD k 0).toNat
def acc (d:DF) (s:Nat):Bool:= !(d.mr.getD s []).isEmpty
theorem getD_some {α:Type} {l:List α} {i:Nat} {x d:α} (h:l[i]? =some x):l.getD i d=x:=by rw[bu,h];rfl
theorem aW {α:Type} {l:List α} {i:Nat} (d:α) (h:i<l.length):l[i]? =some (l.getD i d):=by rw[bu,az h];rfl
theorem Rt.iY {d:DF} (h:Rt d) {s k:Nat} (hs:s<d.nx.length) (hk:k<d.cl.length):en d s k<d.nx.length:=by have h1:=h.len s hs;have h2:=h.iV s hs _ (aw (aW (l:=d.nx.getD s []) 0 (i:=k) (by omega)));unfold en;omega
theorem Rt.Qf {d:DF} (h:Rt d) {s k:Nat} (hs:s<d.nx.length) (hk:k<d.cl.length):(d.nx.getD s [])[k]? =some ((en d s k:Nat):Int):=by have h1:=h.len s hs;rw[aW (l:=d.nx.getD s []) 0 (i:=k) (by omega)];have h2:=h.iV s hs _ (aw (aW (l:=d.nx.getD s []) 0 (i:=k) (by omega)));unfold en;rw[Int.toNat_of_nonneg h2.1]
/-! The states of a product, found one by one. -/
section
variable {α:Type} [DecidableEq α]
def uP (fuel:Nat) (st:List α×List Nat) (q:α):Option (List α×List Nat):=
 if st.1.idxOf q=st.1.length then(if st.1.length=fuel then none else some (st.1++ [q],st.2++ [st.1.length]))else some (st.1,st.2++ [st.1.idxOf q])
def gT (fuel:Nat) (g:Nat->α) (todo:List α):Nat->Option (List α×List Nat)
 | 0=>some (todo,[])
 | k+1=>(gT fuel g todo k).bind fun st=>uP fuel st (g k)
def qg (fuel:Nat) (f:α->Nat->α) (K:Nat) (n:Nat) (st:List α×List (List Nat)):Option (List α×List (List Nat)):=
 match st.1[n]? with
 | none=>some st
 | some p=>(gT fuel (f p) st.1 K).map fun r=>(r.1,st.2++ [r.2])
def jq (fuel:Nat) (f:α->Nat->α) (K:Nat) (p0:α):Nat->Option (List α×List (List Nat))
 | 0=>some ([p0],[])
 | n+1=>(jq fuel f K p0 n).bind (qg fuel f K n)
theorem H8 {fuel:Nat} {g:Nat->α} {todo:List α} {k:Nat} (h:gT fuel g todo k=none):∀ j,k<=j->gT fuel g todo j=none:=by
 intro j hj;induction j with
 | zero=>rwa[show k=0 by omega]at h
 | succ j ih=>
  by_cases e:k=j+1
  ·rwa[<-e]
  ·rw[gT,ih (by omega)];rfl
theorem Ml {fuel:Nat} {f:α->Nat->α} {K:Nat} {p0:α} {n:Nat} (h:jq fuel f K p0 n=none):∀ j,n<=j->jq fuel f K p0 j=none:=by
 intro j hj;induction j with
 | zero=>rwa[show n=0 by omega]at h
 | succ j ih=>
  by_cases e:n=j+1
  ·rwa[<-e]
  ·rw[jq,ih (by omega)];rfl
theorem Qg {fuel:Nat} {f:α->Nat->α} {K:Nat} {p0:α} {n:Nat} {st:List α×List (List Nat)} (h:jq fuel f K p0 n=some st) (hn:st.1.length<=n):∀ j,n<=j->jq fuel f K p0 j=some st:=by
 intro j hj;induction j with
 | zero=>rwa[show n=0 by omega]at h
 | succ j ih=>
  by_cases e:n=j+1
  ·rwa[<-e]
  ·rw[jq,ih (by omega)]
   show qg fuel f K j st=some st;unfold qg;rw[aS (by omega)]
structure Qh (fuel:Nat) (P:α->Prop) (t0:List α) (k:Nat) (st:List α×List Nat):Prop where
 pre:t0<+:st.1
 nodup:st.1.Nodup
 le:st.1.length<=fuel
 all:∀ p∈st.1,P p
 len:st.2.length=k
 iV:∀ t∈st.2,t<st.1.length
theorem UF {fuel:Nat} {P:α->Prop} {t0:List α} {k:Nat} {st st':List α×List Nat} {q:α} (h:Qh fuel P t0 k st) (hq:P q) (ha:uP fuel st q=some st'):Qh fuel P t0 (k+1) st':=by
 unfold uP at ha;split at ha
 ·rename_i he
  split at ha
  ·cases ha
  ·rename_i hf
   cases ha
   have hn:q∉st.1:=fun hm=>by have:=List.idxOf_lt_length_of_mem hm;omega
   exact⟨h.pre.trans (List.prefix_append _ _),by
     rw[List.nodup_append];exact⟨h.nodup,by simp,fun a ha b hb e=>by simp at hb;subst hb;subst e;exact hn ha⟩,
    by have:=h.le;simp;omega,fun p hp=>by
     rcases List.mem_append.1 hp with hp | hp
     ·exact h.all p hp
     ·simp at hp;subst hp;exact hq,
    by simp[h.len],fun t ht=>by
     rcases List.mem_append.1 ht with ht | ht
     ·have:=h.iV t ht;simp;omega
     ·simp at ht;simp;omega⟩
 ·rename_i he
  cases ha
  have hlt:st.1.idxOf q<st.1.length:=by have:=List.idxOf_le_length (a:=q) (l:=st.1);omega
  exact⟨h.pre,h.nodup,h.le,h.all,by simp[h.len],fun t ht=>by
   rcases List.mem_append.1 ht with ht | ht
   ·exact h.iV t ht
   ·simp at ht;subst ht;exact hlt⟩
theorem rH {fuel:Nat} {P:α->Prop} {g:Nat->α} {todo:List α} (hn:todo.Nodup) (hl:todo.length<=fuel) (hp:∀ p∈todo,P p):∀ (k:Nat) {st:List α×List Nat},(∀ j,j<k->P (g j))->gT fuel g todo k=some st->Qh fuel P todo k st
 | 0,st,_,h=>by
  cases h
  exact⟨List.prefix_refl _,hn,hl,hp,rfl,fun t ht=>by cases ht⟩
 | k+1,st,hg,h=>by
  rw[gT]at h;obtain⟨s1,h1,h2⟩:=Option.bind_eq_some_iff.1 h;exact UF (rH hn hl hp k (fun j hj=>hg j (by omega)) h1) (hg k (by omega)) h2
structure Yv (fuel K:Nat) (P:α->Prop) (p0:α) (n:Nat) (st:List α×List (List Nat)):Prop where
 head:st.1[0]? =some p0
 nodup:st.1.Nodup
 le:st.1.length<=fuel
 all:∀ p∈st.1,P p
 len:st.2.length=min n st.1.length
 rows:∀ r∈st.2,r.length=K/\∀ t∈r,t<st.1.length
theorem Bl {fuel K:Nat} {P:α->Prop} {f:α->Nat->α} {p0:α} (hf:1<=fuel) (h0:P p0) (hP:∀ p k,P p->k<K->P (f p k)):∀ (n:Nat) {st:List α×List (List Nat)},jq fuel f K p0 n=some st->Yv fuel K P p0 n st
 | 0,st,h=>by
  cases h
  exact⟨rfl,by simp,by simpa using hf,by simpa using h0,by simp,fun r hr=>by cases hr⟩
 | n+1,st,h=>by
  rw[jq]at h;obtain⟨s1,h1,h2⟩:=Option.bind_eq_some_iff.1 h;have I:=Bl hf h0 hP n h1;unfold qg at h2;split at h2
  ·rename_i he
   have e:=Option.some.inj h2;subst e;have hl:s1.1.length<=n:=by simpa using he
   exact⟨I.head,I.nodup,I.le,I.all,by have:=I.len;omega,I.rows⟩
  ·rename_i p he
   obtain⟨r,h3,rfl⟩:=Option.map_eq_some_iff.1 h2;have hlt:n<s1.1.length:=(List.getElem?_eq_some_iff.1 he).1;have R:=rH (P:=P) I.nodup I.le I.all K (fun j hj=>hP p j (I.all p (aw he)) hj) h3;obtain⟨ys,UG⟩:=R.pre;have Wm:s1.1.length<=r.1.length:=by rw[<-UG];simp
   refine⟨?_,R.nodup,R.le,R.all,?_,?_⟩
   ·show r.1[0]? =some p0
    rw[<-UG,bK (by omega)];exact I.head
   ·have:=I.len
    simp only[aJ,List.length_cons,List.length_nil];omega
   ·intro x hx
    rcases List.mem_append.1 hx with hx | hx
    ·exact⟨(I.rows x hx).1,fun t ht=>by have:=(I.rows x hx).2 t ht;show t<r.1.length;omega⟩
    ·simp at hx;subst hx;exact⟨R.len,R.iV⟩
end
def lb (p:List BS) (k:Nat):Nat:=(aT (p.getD k 0)).1
def rI (a b:DF) (p:Nat×Nat) (k:Nat):Nat×Nat:=
 (en a p.1 (cls a.cl (lb (partsOf (a.cl++b.cl)) k)),en b p.2 (cls b.cl (lb (partsOf (a.cl++b.cl)) k)))
theorem bX.dB {p:List BS} {R:Nat->Nat->Prop} (h:bX p R) {c:Nat} (hc:c<256):cls p c<p.length:=by obtain⟨q,hq,_⟩:=(h.iJ hc).1 rfl;exact(List.getElem?_eq_some_iff.1 hq).1
theorem Ko {l:List BS} {k:Nat} (hk:k<(partsOf l).length):lb (partsOf l) k<256:=by have h1:=aW (l:=partsOf l) 0 hk;exact(et (iz l (aw h1))).2.1
theorem mJ (l:List BS):partsOf (partsOf l)=partsOf l:=
 bX.uniq (bX.jN (partsOf l)) (bX.jN l) fun _ _ hc hd=>(bX.jN l).zL hc hd
def fT (a b:DF) (p:Nat×Nat):Prop:=p.1<a.nx.length/\p.2<b.nx.length
theorem wh {a b:DF} (ha:Rt a) (hb:Rt b) (p:Nat×Nat) (k:Nat) (hp:fT a b p) (hk:k<(partsOf (a.cl++b.cl)).length):fT a b (rI a b p k):=
 ⟨ha.iY hp.1 (ha.part.dB (Ko hk)),hb.iY hp.2 (hb.part.dB (Ko hk))⟩
end
section
open Go Go.RowKit Go.Shelf Go.Maps
def jO {α:Type} (enc:α->Value) (w:World) (v:Value) (l:List α):Prop:=bQ enc w v l\/(l=[]/\∃ a:Addr,v=.slice (some a) 0 0)
theorem jO.below {α:Type} {enc:α->Value} {w w':World} {v:Value} {l:List α} (h:jO enc w v l) (hk:aa w w'):jO enc w' v l:=h.imp (fun h=>h.below hk) id
theorem jO.form {α:Type} {enc:α->Value} {w:World} {v:Value} {l:List α} (h:jO enc w v l):∃ a cap,v=.slice a l.length cap:=by
 rcases h with h | ⟨rfl,a,rfl⟩
 ·exact h.form
 ·exact⟨_,_,rfl⟩
theorem wk (v:Value) (l:List Int) (w:World) (h:jO aM w v l) (hn:l.length<=1000000): ah 22 #[v] w fun e w'=>∃ u,e=.returned u/\w'.ownsRow w.heap.size 3 1 u l.length (l.map aM)/\aa w w':=by
 obtain⟨i0,hi,hz0,hz1,hz2⟩:=info_parts Tryz.mH;have h':(v=.slice none 0 0/\l=[])\/∃ (a:Addr) (cap:Nat),v=.slice (some a) l.length cap/\∀ o j u,(l.map aM)[j]? =some u->(w.alloc o).cell? (a.add j)=some u:=by
  rcases h with(h | ⟨b,off,cap,rfl,hb,_,hc⟩) | ⟨rfl,a,rfl⟩
  ·exact .inl h
  ·refine .inr ⟨⟨b,off,none⟩,cap,rfl,fun o j u hj=>?_⟩
   refine(((Ext.refl w).alloc o).cell (p:=(⟨b,off,none⟩:Addr).add j) (by rw[Addr.add_mid];exact hb)).trans ?_;rw[aO]at hj;cases hx:l[j]? with
   | none=>rw[hx]at hj;cases hj
   | some x=>
    rw[hx]at hj;rw[Addr.add_mid,hc j x hx];exact hj
  ·exact .inr ⟨a,0,rfl,fun o j u hj=>by simp at hj⟩
 clear h;rcases h' with⟨rfl,rfl⟩ | ⟨ad,cap,rfl,hnews⟩
 ·have he:=fun W=>Lib.run_eql_slice_nil (P:=Tryz.prog) W 39 3 none 0 0 0 0 Tryz.underlying39
  go_enter Tryz.func22,Tryz.ntmps22
  go_wp2;go_ret;exact⟨_,rfl,World.ownsRow_nil _ _ _ _,Below.refl _ _⟩
 ·obtain⟨n,jB⟩:=ag l.length
  rw[<-jB]at hn ⊢;have HN:=hid jB;have HNw:=hid hnews;have he:=fun W=>Lib.run_eql_slice_nil (P:=Tryz.prog) W 39 3 (some ad) n cap 0 0 Tryz.underlying39
  clear hnews jB;go_enter Tryz.func22,Tryz.ntmps22;have o1:(w.alloc (.cells #[] 3 (0,0))).ownsRow w.heap.size 3 1 (.slice (some ⟨w.heap.size,0,none⟩) 0 0) 0 []:=⟨rfl,.inr ⟨w.heap.size,0, #[],rfl,aG _,World.alloc_heap_new _ _,aG _,by simp,rfl,rfl⟩⟩;have Ke:=hid o1;clear o1;go_wp2_with (at_builtin;(refine wpList_append_own_at _ rfl (.tmp 5) (.tmp 6) 39 rfl w.heap.size 3 i0 (.int .i64 0) 1 8 Tryz.underlying39 hi hz0 hz1 hz2 rfl (by decide) _ 0 [] rfl Ke ad n cap (l.map aM) rfl (by rw[aQ,HN.out,Nat.mul_one]) (fun j u hj=>HNw _ j u hj) (fun u hu=>by obtain⟨x,_,rfl⟩:=List.mem_map.1 hu;rfl) (by unfold maxLen;omega) (by omega) (by simp) ?_;intro v' w2 ho hg _ _;have jH:=hid ho;have HG:=hid hg;obtain⟨a2,c2,rfl⟩:=ownsRow_form ho;clear ho hg));go_ret;refine⟨_,rfl,?_,?_⟩
  ·have:=jH.out
   rwa[Nat.zero_add,List.nil_append]at this
  ·exact((Below.refl _ _).alloc (aG _) _).grown HG (by simp) (fun c e=>(Ke.lt c e).1)
theorem kO (v:Value) (l:List Int) (w:World) (h:bQ aM w v l) (hn:l.length<=1000000): ah 22 #[v] w fun e w'=>∃ u,e=.returned u/\w'.ownsRow w.heap.size 3 1 u l.length (l.map aM)/\aa w w':=wk v l w (.inl h) hn
theorem wq (v:Value) (l:List Nat) (w:World) (h:bQ cU w v l) (hn:l.length<=1000000): ah 124 #[v] w fun e w'=>∃ u,e=.returned u/\w'.ownsRow w.heap.size 5 1 u l.length (l.map cU)/\aa w w':=by
 obtain⟨i0,hi,hz0,hz1,hz2⟩:=info_parts Tryz.Hr;rcases h with⟨rfl,rfl⟩ | ⟨b,off,cap,rfl,hb,_,hc⟩
 ·have he:=fun W=>Lib.run_eql_slice_nil (P:=Tryz.prog) W 44 5 none 0 0 0 0 Tryz.underlying44
  go_enter Tryz.func124,Tryz.ntmps124
  go_wp2;go_ret;exact⟨_,rfl,World.ownsRow_nil _ _ _ _,Below.refl _ _⟩
 ·have hnews:∀ j u,(l.map cU)[j]? =some u->w.cell? ((⟨b,off,none⟩:Addr).add j)=some u:=fun j u hj=>by
   rw[aO]at hj;cases hx:l[j]? with
   | none=>rw[hx]at hj;cases hj
   | some x=>
    rw[hx]at hj;rw[Addr.add_mid,hc j x hx];exact hj
  obtain⟨n,jB⟩:=ag l.length;rw[<-jB]at hn ⊢;have HN:=hid jB;have HNw:=hid hnews;have he:=fun W=>Lib.run_eql_slice_nil (P:=Tryz.prog) W 44 5 (some ⟨b,off,none⟩) n cap 0 0 Tryz.underlying44
  clear hc hnews jB;go_enter Tryz.func124,Tryz.ntmps124;have o1:(w.alloc (.cells #[] 5 (0,0))).ownsRow w.heap.size 5 1 (.slice (some ⟨w.heap.size,0,none⟩) 0 0) 0 []:=⟨rfl,.inr ⟨w.heap.size,0, #[],rfl,aG _,World.alloc_heap_new _ _,aG _,by simp,rfl,rfl⟩⟩;have Ke:=hid o1;clear o1;go_wp2_with (at_builtin;(refine wpList_append_own_at _ rfl (.tmp 5) (.tmp 6) 44 rfl w.heap.size 5 i0 (.int .u8 0) 1 1 Tryz.underlying44 hi hz0 hz1 hz2 rfl (by decide) _ 0 [] rfl Ke ⟨b,off,none⟩ n cap (l.map cU) rfl (by rw[aQ,HN.out,Nat.mul_one]) (fun j u hj=>(((Ext.refl w).alloc _).cell (p:=(⟨b,off,none⟩:Addr).add j) (by rw[Addr.add_mid];exact hb)).trans (HNw j u hj)) (fun u hu=>by obtain⟨x,_,rfl⟩:=List.mem_map.1 hu;rfl) (by unfold maxLen;omega) (by omega) (by simp) ?_;intro v' w2 ho hg _ _;have jH:=hid ho;have HG:=hid hg;obtain⟨a2,c2,rfl⟩:=ownsRow_form ho;clear ho hg));go_ret;refine⟨_,rfl,?_,?_⟩
  ·have:=jH.out
   rwa[Nat.zero_add,List.nil_append]at this
  ·exact((Below.refl _ _).alloc (aG _) _).grown HG (by simp) (fun c e=>(Ke.lt c e).1)
structure Sp where
 H:World->Prop
 st:∀ W W':World,aa W W'->H W->H W'
section
variable {L:List Sp} {W:World}
end
theorem Tryz.tX:(Tryz.prog.info? 39).map (fun i=>(i.zero,i.size,i.bytes))=some (some (.slice none 0 0),1,24):=by kernel_rfl
def iZ (w:World) (v:Value) (ll:List (List Int)):Prop:=∃ us:List Value,us.length=ll.length/\bQ (fun u:Value=>u) w v us/\∀ (i:Nat) (u:Value) (l:List Int),us[i]? =some u->ll[i]? =some l->bQ aM w u l
theorem iZ.below {w w':World} {v:Value} {ll:List (List Int)} (h:iZ w v ll) (hk:aa w w'):iZ w' v ll:=by obtain⟨us,h1,h2,h3⟩:=h;exact⟨us,h1,h2.below hk,fun i u l hu hl=>(h3 i u l hu hl).below hk⟩
theorem iZ.form {w:World} {v:Value} {ll:List (List Int)} (h:iZ w v ll):∃ a cap,v=.slice a ll.length cap:=by obtain⟨us,h1,h2,h3⟩:=h;obtain⟨a,cap,h4⟩:=h2.form;exact⟨a,cap,by rw[h4,h1]⟩
theorem iZ.elem {w:World} {a:Option Addr} {n cap:Nat} {ll:List (List Int)} (h:iZ w (.slice a n cap) ll) {i:Nat} {l:List Int} (hi:ll[i]? =some l): ∃ b off a' c',a=some ⟨b,off,none⟩/\b<w.heap.size/\w.cell? ⟨b,off+i,none⟩=some (.slice a' l.length c')/\bQ aM w (.slice a' l.length c') l:=by obtain⟨us,h1,h2,h3⟩:=h;have gJ:=(List.getElem?_eq_some_iff.1 hi).1;have hu:us[i]? =some (us[i]'(by omega)):=az (by omega);obtain⟨b,off,e1,e2,e3⟩:=h2.elem hu;have h4:=h3 i _ l hu hi;obtain⟨a',c',e4⟩:=h4.form;rw[e4]at h4 e3;exact⟨b,off,a',c',e1,e2,e3,h4⟩
def nG (w:World) (v:Value) (ll:List (List Int)):Prop:=∃ us:List Value,us.length=ll.length/\bQ (fun u:Value=>u) w v us/\∀ (i:Nat) (u:Value) (l:List Int),us[i]? =some u->ll[i]? =some l->jO aM w u l
theorem iZ.e {w:World} {v:Value} {ll:List (List Int)} (h:iZ w v ll):nG w v ll:=by obtain⟨us,h1,h2,h3⟩:=h;exact⟨us,h1,h2,fun i u l hu hl=>.inl (h3 i u l hu hl)⟩
theorem nG.below {w w':World} {v:Value} {ll:List (List Int)} (h:nG w v ll) (hk:aa w w'):nG w' v ll:=by obtain⟨us,h1,h2,h3⟩:=h;exact⟨us,h1,h2.below hk,fun i u l hu hl=>(h3 i u l hu hl).below hk⟩
theorem nG.form {w:World} {v:Value} {ll:List (List Int)} (h:nG w v ll):∃ a cap,v=.slice a ll.length cap:=by obtain⟨us,h1,h2,h3⟩:=h;obtain⟨a,cap,h4⟩:=h2.form;exact⟨a,cap,by rw[h4,h1]⟩
theorem nG.elem {w:World} {a:Option Addr} {n cap:Nat} {ll:List (List Int)} (h:nG w (.slice a n cap) ll) {i:Nat} {l:List Int} (hi:ll[i]? =some l): ∃ b off a' c',a=some ⟨b,off,none⟩/\b<w.heap.size/\w.cell? ⟨b,off+i,none⟩=some (.slice a' l.length c')/\jO aM w (.slice a' l.length c') l:=by obtain⟨us,h1,h2,h3⟩:=h;have gJ:=(List.getElem?_eq_some_iff.1 hi).1;have hu:us[i]? =some (us[i]'(by omega)):=az (by omega);obtain⟨b,off,e1,e2,e3⟩:=h2.elem hu;have h4:=h3 i _ l hu hi;obtain⟨a',c',e4⟩:=h4.form;rw[e4]at h4 e3;exact⟨b,off,a',c',e1,e2,e3,h4⟩
def bw (base:Nat) (w:World) (v:Value) (ll:List (List Int)):Prop:=∃ us:List Value,us.length=ll.length/\w.ownsRow base 39 1 v us.length us/\∀ (i:Nat) (u:Value) (l:List Int),us[i]? =some u->ll[i]? =some l->w.ownsRow base 3 1 u l.length (l.map aM)
theorem bw.nil (base:Nat) (w:World):bw base w (.slice none 0 0) []:=⟨[],rfl,World.ownsRow_nil _ _ _ _,fun i u l h=>by simp at h⟩
theorem bw.base {base base':Nat} {w:World} {v:Value} {ll:List (List Int)} (h:bw base w v ll) (hb:base'<=base):bw base' w v ll:=by obtain⟨us,h1,h2,h3⟩:=h;exact⟨us,h1,aH h2 hb,fun i u l hu hl=>aH (h3 i u l hu hl) hb⟩
theorem bw.below {base:Nat} {w w':World} {v:Value} {ll:List (List Int)} (h:bw base w v ll) (hk:aa w w'):bw base w' v ll:=by obtain⟨us,h1,h2,h3⟩:=h;exact⟨us,h1,ak h2 hk,fun i u l hu hl=>ak (h3 i u l hu hl) hk⟩
theorem eV {w w':World} {base:Nat} {e:TypeId} {size:Nat} {v:Value} {n:Nat} {xs:List Value} (h:w.ownsRow base e size v n xs) {R:Nat->Prop} (hk:ae R w w') (hr:∀ k,base<=k->k<w.heap.size->R k):w'.ownsRow base e size v n xs:=
 aj h hk fun k e=>hr k (h.lt k e).1 (h.lt k e).2
theorem bw.keeps {base:Nat} {w w':World} {v:Value} {ll:List (List Int)} (h:bw base w v ll) {R:Nat->Prop} (hk:ae R w w') (hr:∀ k,base<=k->k<w.heap.size->R k):bw base w' v ll:=by obtain⟨us,h1,h2,h3⟩:=h;exact⟨us,h1,eV h2 hk hr,fun i u l hu hl=>eV (h3 i u l hu hl) hk hr⟩
theorem bw.form {base:Nat} {w:World} {v:Value} {ll:List (List Int)} (h:bw base w v ll):∃ a cap,v=.slice a ll.length cap:=by obtain⟨us,h1,h2,h3⟩:=h;obtain⟨a,c,h4⟩:=ownsRow_form h2;exact⟨a,c,by rw[h4,h1]⟩
theorem bw.ll {base:Nat} {w:World} {v:Value} {ll:List (List Int)} (h:bw base w v ll):iZ w v ll:=by obtain⟨us,h1,h2,h3⟩:=h;refine⟨us,h1,cZ (e:=39) (base:=base) (by simpa using h2) rfl,fun i u l hu hl=>cZ (h3 i u l hu hl) rfl⟩
theorem ownBlock_ne {w:World} {b1 b2:Nat} {e1 e2:TypeId} {s1 s2 n1 n2:Nat} {v1 v2:Value} {x1 x2:List Value} (he:e1≠e2) (h1:w.ownsRow b1 e1 s1 v1 n1 x1) (h2:w.ownsRow b2 e2 s2 v2 n2 x2):v1.ownBlock=none\/v1.ownBlock≠v2.ownBlock:=by
 rcases h1.2 with⟨rfl,_⟩ | ⟨g,c,cur,rfl,_,hg,_⟩
 ·exact .inl rfl
 ·right
  rcases h2.2 with⟨rfl,_⟩ | ⟨g',c',cur',rfl,_,Km,_⟩
  ·simp[Value.ownBlock]
  ·intro e
   have e':g=g':=by simpa[Value.ownBlock]using e
   subst e';rw[hg]at Km;exact he (by injection Km with h;injection h)
theorem bw.snoc {base:Nat} {w w':World} {v v' u:Value} {ll:List (List Int)} {l:List Int} {us:List Value} (h1:us.length=ll.length) (ho:w.ownsRow base 39 1 v us.length us) (h3:∀ (i:Nat) (u:Value) (l:List Int),us[i]? =some u->ll[i]? =some l->w.ownsRow base 3 1 u l.length (l.map aM)) (hu:w.ownsRow base 3 1 u l.length (l.map aM)) (hg:w.grownBy w' v.ownBlock) (GJ:w'.ownsRow base 39 1 v' (us.length+1) (us++ [u])):bw base w' v' (ll++ [l]):=by
 have ne:(3:Nat)≠39:=by decide
 refine⟨us++ [u],by simp[h1],by simpa using GJ,fun i x y hx hy=>?_⟩;by_cases hi:i<us.length
 ·rw[bK hi]at hx
  rw[bK (by omega)]at hy;have hr:=h3 i x y hx hy;exact hr.kept hg (ownBlock_ne ne hr ho)
 ·have gJ:=(List.getElem?_eq_some_iff.1 hx).1
  simp at gJ;obtain rfl:i=us.length:=by omega
  simp at hx;subst hx;rw[h1]at hy;simp at hy;subst hy;exact hu.kept hg (ownBlock_ne ne hu ho)
def dr (w:World) (v:Value) (d:DF):Prop:=∃ v0 v1 v2,v=.agg #[v0,v1,v2]/\oB w v0 d.cl/\iZ w v1 d.nx/\iZ w v2 d.mr
theorem dr.below {w w':World} {v:Value} {d:DF} (h:dr w v d) (hk:aa w w'):dr w' v d:=by obtain⟨v0,v1,v2,e,h0,h1,h2⟩:=h;exact⟨v0,v1,v2,e,⟨h0.1.below hk,h0.2⟩,h1.below hk,h2.below hk⟩
def Kp (w:World) (v:Value) (d:DF):Prop:=∃ v0 v1 v2,v=.agg #[v0,v1,v2]/\oB w v0 d.cl/\nG w v1 d.nx/\nG w v2 d.mr
theorem dr.e {w:World} {v:Value} {d:DF} (h:dr w v d):Kp w v d:=by obtain⟨v0,v1,v2,e,h0,h1,h2⟩:=h;exact⟨v0,v1,v2,e,h0,h1.e,h2.e⟩
def bN (base:Nat) (w:World) (v:Value) (d:DF):Prop:=∃ v0 v1 v2,v=.agg #[v0,v1,v2]/\w.ownsRow base 56 4 v0 d.cl.length (aP d.cl)/\bw base w v1 d.nx/\bw base w v2 d.mr
theorem bN.below {base:Nat} {w w':World} {v:Value} {d:DF} (h:bN base w v d) (hk:aa w w'):bN base w' v d:=by obtain⟨v0,v1,v2,e,h0,h1,h2⟩:=h;exact⟨v0,v1,v2,e,ak h0 hk,h1.below hk,h2.below hk⟩
theorem bN.base {base base':Nat} {w:World} {v:Value} {d:DF} (h:bN base w v d) (hb:base'<=base):bN base' w v d:=by obtain⟨v0,v1,v2,e,h0,h1,h2⟩:=h;exact⟨v0,v1,v2,e,aH h0 hb,h1.base hb,h2.base hb⟩
theorem bN.keeps {base:Nat} {w w':World} {v:Value} {d:DF} (h:bN base w v d) {R:Nat->Prop} (hk:ae R w w') (hr:∀ k,base<=k->k<w.heap.size->R k):bN base w' v d:=by obtain⟨v0,v1,v2,e,h0,h1,h2⟩:=h;exact⟨v0,v1,v2,e,eV h0 hk hr,h1.keeps hk hr,h2.keeps hk hr⟩
theorem fK {w:World} {base:Nat} {v:Value} {l:List BS} (h:w.ownsRow base 56 4 v l.length (aP l)):oB w v l:=by
 refine⟨jn h,fun a n cap e=>?_⟩;subst e;rcases h.2 with⟨h1,h2⟩ | ⟨g,c,cur,h1,_,_,h2,_⟩
 ·injection h1 with _ h3 h4;omega
 ·injection h1 with _ h3 h4;omega
theorem bN.df {base:Nat} {w:World} {v:Value} {d:DF} (h:bN base w v d):dr w v d:=by obtain⟨v0,v1,v2,e,h0,h1,h2⟩:=h;exact⟨v0,v1,v2,e,fK h0,h1.ll,h2.ll⟩
structure Sm (d:DF):Prop where
 cl:d.cl.length<=1000000
 nx:d.nx.length<=1000000
 mr:d.mr.length<=1000000
 Bn:∀ l∈d.nx,l.length<=1000000
 Yw:∀ l∈d.mr,l.length<=1000000
section
variable {L:List Sp} {W:World}
end
theorem cY.elem {w:World} {a:Option Addr} {n cap:Nat} {l:List BS} (h:cY w (.slice a n cap) l) {i:Nat} {s:BS} (hi:l[i]? =some s): ∃ b off,a=some ⟨b,off,none⟩/\b<w.heap.size/\w.cell? ⟨b,off+i*4,none⟩=some (.int .u64 (wd s 0).toNat)/\w.cell? ⟨b,off+i*4+1,none⟩=some (.int .u64 (wd s 1).toNat)/\w.cell? ⟨b,off+i*4+2,none⟩=some (.int .u64 (wd s 2).toNat)/\w.cell? ⟨b,off+i*4+3,none⟩=some (.int .u64 (wd s 3).toNat):=by
 rcases h with⟨_,e⟩ | ⟨b,off,cap',e1,hb,hcc⟩
 ·rw[e]at hi;simp at hi
 ·injection e1 with e1 _ _
  exact⟨b,off,e1,hb,hcc i s hi 0 (by decide),hcc i s hi 1 (by decide),hcc i s hi 2 (by decide),hcc i s hi 3 (by decide)⟩
theorem eF (w:World) (x:Value) (t:TypeId):∀ j u,[x][j]? =some u->(w.alloc (.cells #[x] t)).cell? ((⟨w.heap.size,0,none⟩:Addr).add j)=some u:=fun j u h=>by
 have hj:j=0:=by
  rcases Nat.eq_zero_or_pos j with h' | h'
  ·exact h'
  ·rw[aS (by simp;omega)]at h;cases h
 subst hj;have hx:x=u:=by simpa using h
 rw[<-hx];exact(ar.new w #[x] t).cell 0
attribute [local go_sem] encS
theorem jO.elem {α:Type} {enc:α->Value} {w:World} {a:Option Addr} {n cap:Nat} {l:List α} (h:jO enc w (.slice a n cap) l) {i:Nat} {x:α} (hi:l[i]? =some x):∃ b off,a=some ⟨b,off,none⟩/\b<w.heap.size/\w.cell? ⟨b,off+i,none⟩=some (enc x):=by
 rcases h with h | ⟨rfl,_⟩
 ·exact h.elem hi
 ·simp at hi
def fU {α:Type} (f:α->Bool) (l:List α):Int:=match l.findIdx? f with | some k=>k | none=> -1
theorem qh {α:Type} (f:α->Bool) (l:List α):decide (0<=fU f l)=l.any f:=by
 unfold fU;cases h:l.findIdx? f with
 | none=>
  rw[List.findIdx?_eq_none_iff]at h;have:l.any f=false:=by rw[List.any_eq_false];intro x hx;rw[h x hx];decide
  rw[this];rfl
 | some k=>
  rw[List.findIdx?_eq_some_iff_getElem]at h;obtain⟨h1,h2,_⟩:=h;have:l.any f=true:=by rw[List.any_eq_true];exact⟨l[k],List.getElem_mem h1,h2⟩
  rw[this];simp
theorem nH {α:Type} {f:α->Bool} {l:List α} {k:Nat} {x:α} (hx:l[k]? =some x) (hf:f x=true) (hn:∀ y∈l.take k,f y=false):fU f l=k:=by
 have h1:l.findIdx? f=some k:=by
  rw[List.findIdx?_eq_some_iff_getElem];have AZ:=(List.getElem?_eq_some_iff.1 hx).1;refine⟨AZ,?_,fun j hj=>?_⟩
  ·rw[(List.getElem?_eq_some_iff.1 hx).2];exact hf
  ·have:=hn l[j] (List.mem_take_iff_getElem.2 ⟨j,by omega,rfl⟩)
   rw[this];decide
 rw[fU,h1]
theorem nI {α:Type} {f:α->Bool} {l:List α} (hn:∀ y∈l,f y=false):fU f l= -1:=by
 have h1:l.findIdx? f=none:=by rw[List.findIdx?_eq_none_iff];intro x hx;rw[hn x hx]
 rw[fU,h1]
theorem sR {α:Type} {f:α->Bool} {l:List α} {k:Nat} {x:α} (hx:l[k]? =some x) (hf:f x=false) (hn:∀ y∈l.take k,f y=false):∀ y∈l.take (k+1),f y=false:=fun y hy=>by
 rw[List.take_add_one,hx]at hy;rcases List.mem_append.1 hy with hy | hy
 ·exact hn y hy
 ·rw[show y=x from by simpa using hy];exact hf
theorem wu (g:Nat) (lb:Array Value) (f:Int->Bool) (v:Value) (l:List Int) (w:World) (h:jO aM w v l) (hn:l.length<=1000000) (eg:∀ args w,(callFunc g args).run Tryz.prog w=.ok (.enter g args) w) (hf:∀ s W,aa w W->ah g (#[.int .i64 s]++lb) W fun e w'=>e=.returned (.bool (f s))/\w'=W): ah 120 #[v,.func (.func g) #[] lb] w fun e w'=>e=.returned (.int .i64 (fU f l))/\w'=w:=by
 obtain⟨a,cap,rfl⟩:=h.form;obtain⟨n,jB⟩:=ag l.length;rw[<-jB]at h hn ⊢;have H:=hid h;have HN:=hid jB;have HF:=hid fun s=>hf s w (Below.refl _ _)
 obtain⟨r,hr⟩:=ag (fU f l);rw[<-hr];have HR:=hid hr;clear h jB hf hr;go_enter Tryz.func120,Tryz.ntmps120;go_wp2
 go_loop [8] (fun i=>∃ k:Nat,k<=n/\i=.int .i64 k/\(∀ s∈l.take k,f s=false)) (fun i=>n-(intOf i).toNat)
 case atStart=>exact⟨0,by omega,rfl,fun s hs=>by simp at hs⟩
 case round=>
  obtain⟨k,hk,rfl,ha⟩:=hrel;by_cases hlt:k<n
  ·obtain⟨s,hs⟩:∃ s,l[k]? =some s:=⟨_,az (by have:=HN.out;omega)⟩
   obtain⟨b,off,rfl,hb,d0⟩:=H.elem hs;have d0':w.cell? ⟨b,off+k,none⟩=some (.int .i64 s):=d0;have TN:=hid (HF.out s);have HA:=hid ha;have HS:=hid hs;clear ha hs d0;obtain⟨b1,hb1⟩:=ag (f s);rw[<-hb1]at TN;have sN:=hid hb1;clear hb1;cases b1 with
   | true=>
    have iH:=hid (HR.trans (nH HS sN.symm HA));go_wp2;refine TN.mono ?_;rintro e w2 ⟨rfl,hw⟩;replace hw:=hw.symm;subst hw;go_wp2;go_ret;exact⟨by rw[iH.out];rfl,rfl⟩
   | false=>
    go_wp2;refine TN.mono ?_;rintro e w2 ⟨rfl,hw⟩;replace hw:=hw.symm;subst hw;go_wp2
    go_round
    case rel=>exact⟨k+1,by omega,by go_num,sR HS sN.symm HA⟩
    case measure=>simp[intOf];omega
  ·obtain rfl:k=n:=by omega
   have iH:=hid (HR.trans (nI fun y hy=>ha y (by rw[HN.out,List.take_length];exact hy)));clear ha;go_wp2;go_ret;exact⟨by rw[iH.out];rfl,rfl⟩
theorem rJ (g:Nat) (lb:Array Value) (f:Int->Bool) (v:Value) (l:List Int) (w:World) (h:jO aM w v l) (hn:l.length<=1000000) (eg:∀ args w,(callFunc g args).run Tryz.prog w=.ok (.enter g args) w) (hf:∀ s W,aa w W->ah g (#[.int .i64 s]++lb) W fun e w'=>e=.returned (.bool (f s))/\w'=W): ah 65 #[v,.func (.func g) #[] lb] w fun e w'=>e=.returned (.bool (l.any f))/\w'=w:=by have HI:=hid (wu g lb f v l w h hn eg hf);rw[<-qh];obtain⟨a,cap,rfl⟩:=h.form;clear h hf eg;generalize fU f l=z at HI ⊢;go_enter Tryz.func65,Tryz.ntmps65;go_wp2_with (go_at_call 120;refine HI.mono ?_;rintro e w2 ⟨rfl,hw⟩;replace hw:=hw.symm;subst hw);go_ret;exact⟨rfl,rfl⟩
theorem H9 (x:Int) (n:Nat) (B:Nat) (W:World) (hB:W.cell? ⟨B,0,none⟩=some (.int .i64 n)): ah 66 #[.int .i64 x,.pointer (some ⟨B,0,none⟩)] W fun e w'=>e=.returned (.bool (!TL n x))/\w'=W:=by
 unfold TL;by_cases h1:x<0
 ·have d1:decide (x<0)=true:=decide_eq_true h1
  have d2:decide (0<=x)=false:=decide_eq_false (by omega);go_enter Tryz.func66,Tryz.ntmps66;go_wp2;go_ret;exact⟨by rw[d2];rfl,rfl⟩
 ·have d1:decide (x<0)=false:=decide_eq_false h1
  have d2:decide (0<=x)=true:=decide_eq_true (by omega);by_cases h2:(n:Int)<=x
  ·have d3:decide ((n:Int)<=x)=true:=decide_eq_true h2
   have d4:decide (x<(n:Int))=false:=decide_eq_false (by omega);go_enter Tryz.func66,Tryz.ntmps66;go_wp2;go_ret;exact⟨rfl,rfl⟩
  ·have d3:decide ((n:Int)<=x)=false:=decide_eq_false h2
   have d4:decide (x<(n:Int))=true:=decide_eq_true (by omega);go_enter Tryz.func66,Tryz.ntmps66;go_wp2;go_ret;exact⟨rfl,rfl⟩
theorem Mm:∀ args w,(callFunc 66 args).run Tryz.prog w=.ok (.enter 66 args) w:=fun args w=>by kernel_rfl
theorem UH {α:Type} [BEq α] [LawfulBEq α] {l m:List α} {k:Nat} {x y:α} (hx:l[k]? =some x) (hy:m[k]? =some y) (h:x≠y):(l==m)=false:=by rw[beq_eq_false_iff_ne];intro e;subst e;rw[hx]at hy;exact h (Option.some.inj hy)
theorem Ib {α:Type} [BEq α] [LawfulBEq α] {l m:List α} {n:Nat} (h1:l.length=n) (h2:m.length=n) (h:∀ i x y,i<n->l[i]? =some x->m[i]? =some y->x=y):(l==m)=true:=by
 rw[beq_iff_eq];refine List.ext_getElem (by omega) fun i a b=>?_
 exact h i _ _ (by omega) (az a) (az b)
theorem Em {α:Type} [BEq α] [LawfulBEq α] {l m:List α} (h:l.length≠m.length):(l==m)=false:=by rw[beq_eq_false_iff_ne];intro e;rw[e]at h;exact h rfl
theorem wy (v1 v2:Value) (l1 l2:List BS) (w:World) (h1:cY w v1 l1) (h2:cY w v2 l2) (hn:l1.length<=1000000): ah 63 #[v1,v2] w fun e w'=>e=.returned (.bool (l1==l2))/\Ext w w':=by
 obtain⟨a1,c1,rfl⟩:=h1.form;obtain⟨a2,c2,rfl⟩:=h2.form;obtain⟨n,jB⟩:=ag l1.length;obtain⟨m,qQ⟩:=ag l2.length;rw[<-jB]at h1 hn ⊢;rw[<-qQ]at h2 ⊢;have HN:=hid jB;have HM:=hid qQ;have H1:=hid h1;have H2:=hid h2;have HE:=hid fun s t W=>iu s t W
 by_cases hnm:n=m
 ·subst hnm
  obtain⟨r,hr⟩:=ag ((l1==l2));rw[<-hr];have HR:=hid hr;clear h1 h2 jB qQ hr;go_enter Tryz.func63,Tryz.ntmps63;go_wp2;go_loopw [13] (fun i wr=>∃ k:Nat,k<=n/\i=.int .i64 k/\(∀ i x y,i<k->l1[i]? =some x->l2[i]? =some y->x=y)/\Ext w wr) (fun i _=>n-(intOf i).toNat);case atStart=>exact⟨0,by omega,rfl,fun i x y hi=>by omega,Ext.refl _⟩
  case round=>
   obtain⟨k,hk,rfl,ha,hx⟩:=hrel;obtain⟨wo,rfl⟩:=ag (wr:World);have HX:=hid hx;have HA:=hid ha;clear ha;by_cases hlt:k<n
   ·obtain⟨s,hs⟩:∃ s,l1[k]? =some s:=⟨_,az (by have:=HN.out;omega)⟩
    obtain⟨t,ht⟩:∃ t,l2[k]? =some t:=⟨_,az (by have:=HM.out;omega)⟩;obtain⟨b,off,rfl,hb,d0,d1,d2,d3⟩:=(H1.below hx.below).elem hs;obtain⟨b',off',rfl,hb',e0,e1,e2,e3⟩:=(H2.below hx.below).elem ht;have eE:(k:Int)<n:=by omega
    have HS:=hid hs;have HT:=hid ht;obtain⟨q,hq⟩:=ag ((s==t));have heq:∀ W,(Op.equalIn 10000 56 (.agg #[.int .u64 (wd s 0).toNat,.int .u64 (wd s 1).toNat,.int .u64 (wd s 2).toNat,.int .u64 (wd s 3).toNat]) (.agg #[.int .u64 (wd t 0).toNat,.int .u64 (wd t 1).toNat,.int .u64 (wd t 2).toNat,.int .u64 (wd t 3).toNat])).run Tryz.prog W=.ok q W:=fun W=>by
     have h1:=HE.out s t W;rw[<-hq]at h1;exact h1
    have HQ:=hid hq;clear hs ht hx hq;cases q with
    | true=>
     go_wp2
     go_quiet (fail)
     go_wp2
     exact⟨⟨k+1,by omega,by go_num,fun i x y hi hx hy=>by
      by_cases e:i=k
      ·subst e
       rw[HS.out]at hx;rw[HT.out]at hy;cases hx;cases hy;exact beq_iff_eq.1 HQ.symm
      ·exact HA i x y (by omega) hx hy,zJ HX nq⟩,by simp[intOf];omega⟩
    | false=>
     have iH:=hid (HR.trans (UH HS HT (beq_eq_false_iff_ne.1 HQ.symm)));go_wp2
     go_quiet (fail)
     go_wp2;go_ret;exact⟨by rw[iH.out];rfl,zJ HX nq⟩
   ·obtain rfl:k=n:=by omega
    have iH:=hid (HR.trans (Ib HN.symm HM.symm HA));clear hx;go_wp2;go_ret;exact⟨by rw[iH.out];rfl,HX⟩
 ·have e1:(l1==l2)=false:=Em (by omega)
  have d1:decide ((n:Int)=m)=false:=decide_eq_false (by omega);rw[e1];clear h1 h2 jB qQ e1 d1;have d2:((n:Int)==(m:Int))=false:=by rw[beq_eq_false_iff_ne];omega
  have d3:((n:Int) != (m:Int))=true:=by simp;omega
  have d4:(n==m)=false:=by rw[beq_eq_false_iff_ne];exact hnm
  go_enter Tryz.func63,Tryz.ntmps63
  go_wp2;go_ret;exact⟨rfl,Ext.refl _⟩
end
section
open Go Go.RowKit Go.Shelf Go.Maps
theorem oC {d:DF} {s:Nat} (hs:s<d.nx.length) (h:d.iX s=false):d.right=false:=by
 unfold DF.right;have:(List.range d.nx.length).all d.iX=false:=by
  rw[List.all_eq_false];exact⟨s,by simpa using hs,by rw[h];decide⟩
 rw[this,Bool.and_false]
theorem Mn {d:DF} (h1:1<=d.nx.length) (h2:d.nx.length<=4000) (h3:d.mr.length=d.nx.length) (h4:(partsOf d.cl==d.cl)=true) (h:∀ s,s<d.nx.length->d.iX s=true):d.right=true:=by
 unfold DF.right;have:(List.range d.nx.length).all d.iX=true:=by
  rw[List.all_eq_true];intro s hs;exact h s (by simpa using hs)
 rw[this,decide_eq_true h1,decide_eq_true h2,decide_eq_true h3,h4];rfl
theorem rK {d:DF} (h:d.nx.length<1\/4000<d.nx.length\/d.mr.length≠d.nx.length\/(partsOf d.cl==d.cl)=false):d.right=false:=by
 unfold DF.right;rcases h with h | h | h | h
 ·rw[show decide (1<=d.nx.length)=false from decide_eq_false (by omega)];simp
 ·rw[show decide (d.nx.length<=4000)=false from decide_eq_false (by omega)];simp
 ·rw[show decide (d.mr.length=d.nx.length)=false from decide_eq_false h];simp
 ·rw[h];simp
theorem UI {d:DF} {s:Nat} (h:(d.nx.getD s []).length≠d.cl.length):d.iX s=false:=by unfold DF.iX;rw[show decide ((d.nx.getD s []).length=d.cl.length)=false from decide_eq_false h];simp
theorem UJ {d:DF} {s:Nat} (h:(d.nx.getD s []).any (fun x=> !TL d.nx.length x)=true):d.iX s=false:=by
 unfold DF.iX;have:(d.nx.getD s []).all (TL d.nx.length)=false:=by
  rw[List.all_eq_false];obtain⟨x,hx,hn⟩:=List.any_eq_true.1 h;exact⟨x,hx,by simpa using hn⟩
 rw[this];simp
theorem Kq {d:DF} {s:Nat} (h:rG (d.mr.getD s [])=false):d.iX s=false:=by unfold DF.iX;rw[h,Bool.and_false]
theorem UK {d:DF} {s:Nat} (h1:(d.nx.getD s []).length=d.cl.length) (h2:(d.nx.getD s []).any (fun x=> !TL d.nx.length x)=false) (h3:rG (d.mr.getD s [])=true):d.iX s=true:=by
 unfold DF.iX;have:(d.nx.getD s []).all (TL d.nx.length)=true:=by
  rw[List.all_eq_true];intro x hx;have:=List.any_eq_false.1 h2 x hx;simpa using this
 rw[this,h3,decide_eq_true h1];rfl
theorem Qi {l:List Int} {k:Nat} (hk:k<l.length) (h:tW l k=false):rG l=false:=by unfold rG;rw[List.all_eq_false];exact⟨k,by simpa using hk,by rw[h];decide⟩
theorem UL {l:List Int} (h:∀ k,k<l.length->tW l k=true):rG l=true:=by unfold rG;rw[List.all_eq_true];intro k hk;exact h k (by simpa using hk)
theorem Qj {l:List Int} {k:Nat} {x:Int} (hx:l[k]? =some x):tW l k=(decide (nE l k<x)&&decide (x<=255)):=by unfold tW;rw[getD_some hx]
theorem En {l:List Int} {k:Nat} {x:Int} (hx:l[k]? =some x):nE l (k+1)=x:=by unfold nE;rw[if_neg (by omega),Nat.add_sub_cancel,getD_some hx]
def aX.row (base:Nat) (e:TypeId) (size n:Nat) (xs:List Value):aX (Move false (fun _=>False)) where
 P:=fun v=>∃ a c,v=.slice a n c
 H:=fun v W=>W.ownsRow base e size v n xs
 ot:=.slice none n 0
 pw:=⟨none,0,rfl⟩
 st:=fun _ _ _ hm _ h=>ak h hm.below
theorem Ic (v:Value) (d:DF) (w:World) (h:Kp w v d) (sm:Sm d): ah 16 #[v] w fun e w'=>e=.returned (.bool d.right)/\aa w w':=by
 obtain⟨v0,v1,v2,rfl,h0,h1,h2⟩:=h;obtain⟨a0,c0,rfl⟩:=h0.1.form;obtain⟨a1,c1,rfl⟩:=h1.form;obtain⟨a2,c2,rfl⟩:=h2.form;obtain⟨n0,dw⟩:=ag d.cl.length;obtain⟨n1,fH⟩:=ag d.nx.length;obtain⟨n2,jg⟩:=ag d.mr.length;obtain⟨r,hr⟩:=ag d.right;obtain⟨q,hq⟩:=ag ((partsOf d.cl==d.cl));have l0:=sm.cl;have l1:=sm.nx;have l2:=sm.mr;rw[<-dw]at h0 l0 ⊢;rw[<-fH]at h1 l1 ⊢;rw[<-jg]at h2 l2 ⊢;rw[<-hr];have zM:=hid dw;have sH:=hid fH;have uN:=hid jg;have HR:=hid hr;have HQ:=hid hq;have H0:=hid h0;have H1:=hid h1;have H2:=hid h2;have SM:=hid sm;obtain⟨pl,hpl⟩:=ag (partsOf d.cl);have CP:Hid (∀ W,cY W (.slice a0 n0 c0) d.cl->ah 64 #[.slice a0 n0 c0] W fun e w'=>∃ v,e=.returned v/\w'.ownsRow W.heap.size 56 4 v pl.length (aP pl)/\aa W w'):=fun W h=>by rw[hpl];exact zF d.cl _ W h (by have:=SM.cl;omega)
 have CE:Hid (∀ W u,cY W u pl->cY W (.slice a0 n0 c0) d.cl->ah 63 #[u,.slice a0 n0 c0] W fun e w'=>e=.returned (.bool q)/\Ext W w'):=fun W u h k=>by
  rw[hq];rw[hpl]at h;exact wy _ _ _ _ W h k (by rw[(fA d.cl).length_eq];have:=ey d.cl;omega)
 clear h0 h1 h2 dw fH jg hr hq sm hpl;go_enter Tryz.func16,Tryz.ntmps16;go_wp2;refine aA ?_;intro V hV;have hB1:ar V w.heap.size #[.slice a0 n0 c0,.slice a1 n1 c1,.slice a2 n2 c2] 29:=by rw[hV];exact(ar.new w _ _).alloc _
 have hB2:ar V (w.heap.size+1) #[.int .i64 n1] 3:=by rw[hV];exact(ar.new (w.alloc _) _ _).at (by simp)
 have hx:aa w V:=by rw[hV];exact(((Ext.refl w).alloc _).alloc _).below
 have sN:=hid hB1;have iQ:=hid hB2;have HX:=hid hx;clear hV hB1 hB2 hx;by_cases q1:n1<1
 ·have d1:decide ((n1:Int)<1)=true:=decide_eq_true (by omega)
  have d1':decide (n1<1)=true:=decide_eq_true q1;refine aL false (fun _=>False) (by kernel_rfl) 22 [0,1,3,7,15,31,63,127,255,511,127,2047,4095,8191,16383,32767,65535,16383,147455,524287,1048575,2097151] (fun i=>i==16 || i==19) (by kernel_rfl) (fun i=>if i=16 then aX.row w.heap.size 56 4 pl.length (aP pl)else if i=19 then aX.yw _ (.bool q)else aX.any _) ?_;intro C hC hne;have HC:=hid hC;have f0:=aC hC (p:=⟨w.heap.size,0,none⟩) (by have:=sN.lt;exact this) (fun h=>h) (sN.cell 0);have f2:=aC hC (p:=⟨w.heap.size,2,none⟩) (by have:=sN.lt;exact this) (fun h=>h) (sN.cell 2);have f3:=aC hC (p:=⟨w.heap.size+1,0,none⟩) (by have:=iQ.lt;exact this) (fun h=>h) (iQ.cell 0);clear hC
  repeat (refine au (fun K hK=>?_);first | (refine cg rfl ?_;try go_simp;refine hK _ _ ?_;clear hK K) | (refine bV rfl rfl ?_;unfold aF;go_simp;refine hK _ _ ?_;clear hK K))
  refine bM (fun W hW hH=>?_);have hM:=(HC.out W).1 hW;have iH:=hid (HR.trans (rK (.inl (by rw[<-sH.out];exact q1))));clear hW hH f0 f2 f3;go_wp2;go_ret;exact⟨by rw[iH.out];rfl,HX.trans (hM.below.mono HX.size)⟩
 ·have d1:decide ((n1:Int)<1)=false:=decide_eq_false (by omega)
  have d1':decide (n1<1)=false:=decide_eq_false q1;by_cases q2:4000<n1
  ·have d2:decide ((4000:Int)<n1)=true:=decide_eq_true (by omega)
   have d2':decide (4000<n1)=true:=decide_eq_true q2;refine aL false (fun _=>False) (by kernel_rfl) 22 [0,1,3,7,15,31,63,127,255,511,127,2047,4095,8191,16383,32767,65535,16383,147455,524287,1048575,2097151] (fun i=>i==16 || i==19) (by kernel_rfl) (fun i=>if i=16 then aX.row w.heap.size 56 4 pl.length (aP pl)else if i=19 then aX.yw _ (.bool q)else aX.any _) ?_;intro C hC hne;have HC:=hid hC;have f0:=aC hC (p:=⟨w.heap.size,0,none⟩) (by have:=sN.lt;exact this) (fun h=>h) (sN.cell 0);have f2:=aC hC (p:=⟨w.heap.size,2,none⟩) (by have:=sN.lt;exact this) (fun h=>h) (sN.cell 2);have f3:=aC hC (p:=⟨w.heap.size+1,0,none⟩) (by have:=iQ.lt;exact this) (fun h=>h) (iQ.cell 0);clear hC
   repeat (refine au (fun K hK=>?_);first | (refine cg rfl ?_;try go_simp;refine hK _ _ ?_;clear hK K) | (refine bV rfl rfl ?_;unfold aF;go_simp;refine hK _ _ ?_;clear hK K))
   refine bM (fun W hW hH=>?_);have hM:=(HC.out W).1 hW;have iH:=hid (HR.trans (rK (.inr (.inl (by rw[<-sH.out];exact q2)))));clear hW hH f0 f2 f3;go_wp2;go_ret;exact⟨by rw[iH.out];rfl,HX.trans (hM.below.mono HX.size)⟩
  ·have d2:decide ((4000:Int)<n1)=false:=decide_eq_false (by omega)
   have d2':decide (4000<n1)=false:=decide_eq_false q2;by_cases q3:n2=n1
   ·obtain rfl:n1=n2:=q3.symm
    clear q3;refine aL false (fun _=>False) (by kernel_rfl) 22 [0,1,3,7,15,31,63,127,255,511,127,2047,4095,8191,16383,32767,65535,16383,147455,524287,1048575,2097151] (fun i=>i==16 || i==19) (by kernel_rfl) (fun i=>if i=16 then aX.row w.heap.size 56 4 pl.length (aP pl)else if i=19 then aX.yw _ (.bool q)else aX.any _) ?_;intro C hC hne;have HC:=hid hC;have f0:=aC hC (p:=⟨w.heap.size,0,none⟩) (by have:=sN.lt;exact this) (fun h=>h) (sN.cell 0);have f2:=aC hC (p:=⟨w.heap.size,2,none⟩) (by have:=sN.lt;exact this) (fun h=>h) (sN.cell 2);have f3:=aC hC (p:=⟨w.heap.size+1,0,none⟩) (by have:=iQ.lt;exact this) (fun h=>h) (iQ.cell 0);clear hC
    repeat (refine au (fun K hK=>?_);first | (refine cg rfl ?_;try go_simp;refine hK _ _ ?_;clear hK K) | (refine bV rfl rfl ?_;unfold aF;go_simp;refine hK _ _ ?_;clear hK K))
    refine au (fun K hK=>?_);refine ct rfl rfl (aX.row w.heap.size 56 4 pl.length (aP pl)) rfl (fun W hW hN=>?_) (fun v hv=>?_)
    ·have hM:=(HC.out W).1 hW
     clear hW;go_simp;refine bI ((CP _ ((H0.1.below HX).below hM.below)).mono ?_);rintro e w2 ⟨vp,rfl,ho,hx⟩;exact⟨_,rfl,Move.ai hx,ownsRow_form ho,aH ho (Nat.le_trans HX.size hM.size)⟩
    obtain⟨ap,cp,rfl⟩:=hv;go_simp;refine hK _ _ ?_;clear hK K
    repeat (refine au (fun K hK=>?_);first | (refine cg rfl ?_;try go_simp;refine hK _ _ ?_;clear hK K) | (refine bV rfl rfl ?_;unfold aF;go_simp;refine hK _ _ ?_;clear hK K))
    refine au (fun K hK=>?_);refine ct rfl rfl (aX.yw _ (.bool q)) rfl (fun W hW hN=>?_) (fun v hv=>?_)
    ·have hM:=(HC.out W).1 hW
     clear hW;go_simp;refine bI ((CE _ _ (jn (hN.at 0 rfl (by kernel_rfl))) ((H0.1.below HX).below hM.below)).mono ?_);rintro e w2 ⟨rfl,hx⟩;exact⟨_,rfl,Move.XT hx,rfl,trivial⟩
    replace hv:v=_:=hv;subst hv;go_simp;refine hK _ _ ?_;clear hK K
    repeat (refine au (fun K hK=>?_);first | (refine cg rfl ?_;try go_simp;refine hK _ _ ?_;clear hK K) | (refine bV rfl rfl ?_;unfold aF;go_simp;refine hK _ _ ?_;clear hK K))
    refine bM (fun W hW hH=>?_);have hM:=(HC.out W).1 hW;have XB1:=hid (sN.below hM.below sN.lt);have XB2:=hid (iQ.below hM.below iQ.lt);have XX:=hid (HX.trans (hM.below.mono HX.size));clear hM hW hH f0 f2 f3 HC sN iQ HX CP CE d1 d1' d2 d2';cases q with
    | false=>
     have iH:=hid (HR.trans (rK (.inr (.inr (.inr HQ.symm)))));go_wp2;go_ret;exact⟨by rw[iH.out];rfl,XX⟩
    | true=>
     have b0:=XB1.cell 0;have b1:=XB1.cell 1;have b2:=XB1.cell 2;have b3:=XB2.cell 0;simp only[List.getElem?_toArray,List.getElem?_cons_zero,List.getElem?_cons_succ]at b0 b1 b2 b3;have H1':=hid (H1.below XX);have H2':=hid (H2.below XX);clear H1 H2 H0;go_wp2
     go_loop [37] (fun i=>∃ s:Nat,s<=n1/\i=.int .i64 s/\∀ j,j<s->d.iX j=true) (fun i=>n1-(intOf i).toNat)
     case atStart=>exact⟨0,by omega,rfl,fun j hj=>by omega⟩
     case round=>
      obtain⟨s,hs,rfl,ha⟩:=hrel;have HA:=hid ha;clear ha;by_cases hlt:s<n1
      ·obtain⟨l,hl⟩:∃ l,d.nx[s]? =some l:=⟨_,az (by have:=sH.out;omega)⟩
       obtain⟨m,hm⟩:∃ m,d.mr[s]? =some m:=⟨_,az (by have:=uN.out;omega)⟩;obtain⟨g1,o1,e1,k1,rfl,hg1,x1,y1⟩:=H1'.elem hl;obtain⟨g2,o2,e2,k2,rfl,hg2,x2,y2⟩:=H2'.elem hm;have gl:=getD_some (d:=([]:List Int)) hl;have gm:=getD_some (d:=([]:List Int)) hm;have ll:=SM.Bn l (aw hl);have lm:=SM.Yw m (aw hm);have hs1:s<d.nx.length:=by have:=sH.out;omega
       have Hs1:=hid hs1;have eE:(s:Int)<n1:=by omega
       obtain⟨j,hj⟩:=ag l.length;obtain⟨k,hk⟩:=ag m.length;rw[<-hj]at x1 y1 ll;rw[<-hk]at x2 y2 lm;have HJ:=hid hj;have HK:=hid hk;have GL:=hid gl;have GM:=hid gm;have Y1:=hid y1;have Y2:=hid y2;clear hl hm hj hk gl gm y1 y2 hs1;by_cases hj0:j=n0
       ·subst hj0
        obtain⟨z,hz⟩:=ag (l.any (fun x=> !TL n1 x))
        have CC:Hid (ah 65 #[.slice e1 j k1,.func (.func 66) #[] #[.pointer (some ⟨w.heap.size+1,0,none⟩)]] W fun e w'=>e=.returned (.bool z)/\w'=W):=hid (by
         rw[hz]
         exact rJ _ _ (fun x=> !TL n1 x) _ l W Y1 (by rw[<-HJ.out];exact ll) Mm (fun x W' Mj=>H9 x n1 _ W' ((XB2.below Mj XB2.lt).cell 0)))
        have HZ:=hid hz;clear hz;cases z with
        | true=>
         have iH:=hid (HR.trans (oC Hs1 (UJ (by rw[GL.out, <-sH.out];exact HZ.symm))));go_wp2_with fail
         refine(CC).mono ?_;rintro e w' ⟨rfl,hw⟩;replace hw:=hw.symm;subst hw;go_wp2;go_ret;exact⟨by rw[iH.out];rfl,XX⟩
        | false=>
         go_wp2_with fail
         refine(CC).mono ?_;rintro e w' ⟨rfl,hw⟩;replace hw:=hw.symm;subst hw;go_wp2
         go_loop [59,6] (fun i p=>∃ c:Nat,c<=k/\i=.int .i64 c/\p=.int .i64 (nE m c)/\∀ i,i<c->tW m i=true) (fun i _=>k-(intOf i).toNat)
         case atStart=>exact⟨0,by omega,rfl,rfl,fun i hi=>by omega⟩
         case round=>
          obtain⟨c,hc,rfl,rfl,hc2⟩:=hrel;have TP:=hid hc2;clear hc2;by_cases Yx:c<k
          ·obtain⟨x,hx⟩:∃ x,m[c]? =some x:=⟨_,az (by have:=HK.out;omega)⟩
           obtain⟨g3,o3,rfl,hg3,x3⟩:=Y2.elem hx;have x3':W.cell? ⟨g3,o3+c,none⟩=some (.int .i64 x):=x3;have hci:(c:Int)<k:=by omega
           have WA:=hid (Qj hx);have HPS:=hid (En hx);have HXM:=hid hx;clear hx x3;generalize nE m c=pv at WA ⊢;by_cases h1:x<=pv
           ·have d1:decide (x<=pv)=true:=decide_eq_true h1
            have iH:=hid (HR.trans (oC Hs1 (Kq (by rw[GM.out];exact Qi (by rw[<-HK.out];exact Yx) (by rw[WA.out,show decide (pv<x)=false from decide_eq_false (by omega)];rfl)))));go_wp2;go_ret;exact⟨by rw[iH.out];rfl,XX⟩
           ·have d1:decide (x<=pv)=false:=decide_eq_false h1
            by_cases h2:255<x
            ·have d2:decide (255<x)=true:=decide_eq_true h2
             have iH:=hid (HR.trans (oC Hs1 (Kq (by rw[GM.out];exact Qi (by rw[<-HK.out];exact Yx) (by rw[WA.out,show decide (x<=255)=false from decide_eq_false (by omega),Bool.and_false])))));go_wp2;go_ret;exact⟨by rw[iH.out];rfl,XX⟩
            ·have d2:decide (255<x)=false:=decide_eq_false h2
             go_wp2
             go_round
             case rel=>exact⟨c+1,by omega,by go_num,by rw[HPS.out],fun i hi=>by
              by_cases e:i=c
              ·subst e;rw[WA.out,decide_eq_true (show pv<x by omega),decide_eq_true (show x<=255 by omega)];rfl
              ·exact TP i (by omega)⟩
             case measure=>simp[intOf];omega
          ·obtain rfl:c=k:=by omega
           go_wp2
           go_round
           case rel=>
            have hrow:∀ j',j'<s+1->d.iX j'=true:=fun j' hj'=>by
             by_cases e:j'=s
             ·rw[e]
              exact UK (by rw[GL.out, <-HJ.out];exact zM) (by rw[GL.out, <-sH.out];exact HZ.symm) (by rw[GM.out];exact UL fun i hi=>TP i (by rw[HK.out];exact hi))
             ·exact HA j' (by omega)
            exact⟨_,_,_,_,_,_,⟨s+1,by omega,by go_num,hrow⟩,rfl,rfl,rfl,rfl,rfl,rfl⟩
           case measure=>simp[intOf];omega
       ·have d3:((j:Int)==(n0:Int))=false:=by rw[beq_eq_false_iff_ne];omega
        have d3':((j:Int) != (n0:Int))=true:=by simp;omega
        have agC:(j==n0)=false:=by rw[beq_eq_false_iff_ne];exact hj0
        have iH:=hid (HR.trans (oC Hs1 (UI (by rw[GL.out, <-HJ.out, <-zM.out];exact hj0))));go_wp2;go_ret;exact⟨by rw[iH.out];rfl,XX⟩
      ·obtain rfl:s=n1:=by omega
       have iH:=hid (HR.trans (Mn (by rw[<-sH.out];omega) (by rw[<-sH.out];omega) (by rw[<-sH.out, <-uN.out]) HQ.symm (fun j hj=>HA j (by rw[sH.out];exact hj))));go_wp2;go_ret;exact⟨by rw[iH.out];rfl,XX⟩
   ·have d3:((n2:Int)==(n1:Int))=false:=by rw[beq_eq_false_iff_ne];omega
    have d3':((n2:Int) != (n1:Int))=true:=by simp;omega
    have agC:(n2==n1)=false:=by rw[beq_eq_false_iff_ne];exact q3
    refine aL false (fun _=>False) (by kernel_rfl) 22 [0,1,3,7,15,31,63,127,255,511,127,2047,4095,8191,16383,32767,65535,16383,147455,524287,1048575,2097151] (fun i=>i==16 || i==19) (by kernel_rfl) (fun i=>if i=16 then aX.row w.heap.size 56 4 pl.length (aP pl)else if i=19 then aX.yw _ (.bool q)else aX.any _) ?_;intro C hC hne;have HC:=hid hC;have f0:=aC hC (p:=⟨w.heap.size,0,none⟩) (by have:=sN.lt;exact this) (fun h=>h) (sN.cell 0);have f2:=aC hC (p:=⟨w.heap.size,2,none⟩) (by have:=sN.lt;exact this) (fun h=>h) (sN.cell 2);have f3:=aC hC (p:=⟨w.heap.size+1,0,none⟩) (by have:=iQ.lt;exact this) (fun h=>h) (iQ.cell 0);clear hC
    repeat (refine au (fun K hK=>?_);first | (refine cg rfl ?_;try go_simp;refine hK _ _ ?_;clear hK K) | (refine bV rfl rfl ?_;unfold aF;go_simp;refine hK _ _ ?_;clear hK K))
    refine bM (fun W hW hH=>?_);have hM:=(HC.out W).1 hW;have iH:=hid (HR.trans (rK (.inr (.inr (.inl (by rw[<-sH.out, <-uN.out];exact q3))))));clear hW hH f0 f2 f3;go_wp2;go_ret;exact⟨by rw[iH.out];rfl,HX.trans (hM.below.mono HX.size)⟩
theorem oD (v:Value) (d:DF) (w:World) (h:dr w v d) (sm:Sm d): ah 16 #[v] w fun e w'=>e=.returned (.bool d.right)/\aa w w':=Ic v d w h.e sm
theorem ar.three {w:World} {b:Nat} {x y z:Value} {t:TypeId} (h:ar w b #[x,y,z] t):(w.cell? ⟨b,0,none⟩=some x/\w.cell? ⟨b,1,none⟩=some y/\w.cell? ⟨b,2,none⟩=some z)/\w.frozen? ⟨b,0,none⟩=false/\w.frozen? ⟨b,1,none⟩=false/\w.frozen? ⟨b,2,none⟩=false:=
 ⟨⟨h.cell 0,h.cell 1,h.cell 2⟩,h.frozen 0,h.frozen 1,h.frozen 2⟩
theorem ar.yU {w:World} {b:Nat} {x y z x' y' z':Value} {t:TypeId} (h:ar w b #[x,y,z] t):ar (((w.setCell ⟨b,0,none⟩ x').setCell ⟨b,1,none⟩ y').setCell ⟨b,2,none⟩ z') b #[x',y',z'] t:=((h.set 0 x').set 1 y').set 2 z'
theorem iA {w W:World} {n b:Nat} {x y z:Value} (h:Below n w W) (hb:n<=b):Below n w (((W.setCell ⟨b,0,none⟩ x).setCell ⟨b,1,none⟩ y).setCell ⟨b,2,none⟩ z):=
 ((h.setCell (by simpa using hb) _).setCell (by simpa using hb) _).setCell (by simpa using hb) _
theorem Eo {P:Program} {Cl:FuncId->Array Value->World->(Ending->World->Prop)->Prop} {Rd:Nat->FuncId->Array Value->Code->Code->World->(Ending->World->Prop)->Prop} {o:Oper} {a:Act} {W:World} {post:Value->World->Prop} (t e:TypeId) (x:Operand) (ho:o.op=.buildSlice t 1 #[(0,x)]) {i:TypeInfo} {z:Value} {m:Nat} (ht:P.underlying t=some (.slice e)) (hi:P.info? e=some i) (hz:i.zero=some z) (hsz:i.size=m) (hm:0<m) (tT:m<=16777216) (cs:Array Value) (hx:a.eval x=.agg cs) (hc:cs.size=m) (h:post (.slice (some ⟨W.heap.size,0,none⟩) 1 1) (W.alloc (.cells cs e))):jD Cl Rd post ((execOp a.eval o).run P W):=by
 unfold execOp;have e1:(#[((0:Nat),x)].map fun p=>(p.1,a.eval p.2))= #[(0,.agg cs)]:=by rw[<-hx];simp
 simp only[ho,Sem.run_bind,e1,qf ht hi hz hsz hm tT cs hc W,Result.andThen_ok,Sem.run_pure];exact h
def aX.Kr (base n:Nat) (xs:List Value):aX (Move false (fun _=>False)) where
 P:=fun v=>∃ b,v=.slice (some ⟨b,0,none⟩) 1 1
 H:=fun v W=>∀ b,v=.slice (some ⟨b,0,none⟩) 1 1->∃ u,ar W b #[u] 39/\W.ownsRow base 3 1 u n xs
 ot:=.slice (some ⟨0,0,none⟩) 1 1
 pw:=⟨0,rfl⟩
 st:=fun _ _ _ hm _ h b hb=>by
  obtain⟨u,h1,h2⟩:=h b hb;exact⟨u,h1.below hm.below h1.lt,ak h2 hm.below⟩
theorem ar.WC {w:World} {b:Nat} {u:Value} {t:TypeId} (h:ar w b #[u] t):∀ j x,[u][j]? =some x->w.cell? ((⟨b,0,none⟩:Addr).add j)=some x:=cO h
theorem Qk:∀ args w,(callFunc 33 args).run Tryz.prog w=.ok (.enter 33 args) w:=fun args w=>by kernel_rfl
theorem tS.own {w:World} {base n:Nat} {e:TypeId} {v:Value} {xs:List Value} (h:w.ownsRow base e 1 v n xs):tS w v n xs:=by
 rcases h.2 with⟨rfl,rfl⟩ | ⟨g,c,cur,rfl,_⟩
 ·exact .inl ⟨rfl,rfl,by have:=h.1;simpa using this⟩
 ·exact .inr ⟨_,c,rfl,h.cells rfl⟩
theorem sS (n:Nat):(madeCells (Value.int .i64 0).cells (n*1)).toList=(List.replicate n (0:Int)).map aM:=by
 apply List.ext_getElem?;intro k;simp only[madeCells,Value.cells,Nat.mul_one,Array.toList_map,Array.toList_range,List.map_replicate,aO,List.getElem?_replicate];by_cases h:k<n
 ·rw[List.getElem?_range h,if_pos h];simp[aM,Nat.mod_one]
 ·rw[aS (by simpa using h),if_neg h];rfl
theorem Ie (n:Nat):(madeCells (Value.slice none 0 0).cells (n*1)).toList=List.replicate n (Value.slice none 0 0):=by
 apply List.ext_getElem?;intro k;simp only[madeCells,Value.cells,Nat.mul_one,Array.toList_map,Array.toList_range,aO,List.getElem?_replicate];by_cases h:k<n
 ·rw[List.getElem?_range h,if_pos h];simp[Nat.mod_one]
 ·rw[aS (by simpa using Nat.le_of_not_lt h),if_neg h];rfl
theorem tY:∀ n,aP (List.replicate n 0)=List.replicate (n*4) (Value.int .u64 0)
 | 0=>rfl
 | n+1=>by
  rw[List.replicate_succ];show(encS 0).toList++aP (List.replicate n 0)=_;rw[tY n,show(n+1)*4=4+n*4 by omega, <-List.replicate_append_replicate];rfl
theorem Ig (n:Nat):(madeCells (Value.agg #[.int .u64 0,.int .u64 0,.int .u64 0,.int .u64 0]).cells (n*4)).toList=aP (List.replicate n 0):=by
 rw[tY];apply List.ext_getElem?;intro k;simp only[madeCells,Value.cells,Array.toList_map,Array.toList_range,aO,List.getElem?_replicate];by_cases h:k<n*4
 ·rw[List.getElem?_range h,if_pos h]
  have h4:k%4=0\/k%4=1\/k%4=2\/k%4=3:=by omega
  rcases h4 with e | e | e | e<;>simp[e]
 ·rw[aS (by simpa using Nat.le_of_not_lt h),if_neg h];rfl
theorem fB {w:World} {base n cap:Nat} {e:TypeId} {ad:Option Addr} {xs:List Value} (h:w.ownsRow base e 1 (.slice ad n cap) n xs) {i:Nat} (hi:i<n):∃ g u,ad=some ⟨g,0,none⟩/\base<=g/\g<w.heap.size/\xs[i]? =some u/\w.cell? ⟨g,i,none⟩=some u/\w.frozen? ⟨g,i,none⟩=false:=by
 have hl:=h.1;have hu:xs[i]? =some (xs[i]'(by omega)):=az (by omega);obtain⟨a,c,e1⟩:=ownsRow_form h;rcases h.2 with⟨_,e2⟩ | ⟨g,c',cur,e2,_⟩
 ·omega
 ·injection e2 with e2 _ _
  subst e2;have hlt:=h.lt g rfl;exact⟨g,_,rfl,hlt.1,hlt.2,hu,by have:=h.cells (g:=g) rfl _ _ hu;rw[Addr.add_mid]at this;simpa using this,h.frozenAt _⟩
attribute [local go_sem] encS
theorem wz {l:List BS} {k:Nat} (hk:k<(partsOf l).length):leastOf (partsOf l) k=(lb (partsOf l) k,true):=by have h1:=aW (l:=partsOf l) 0 hk;have h2:=et (iz l (aw h1));unfold leastOf;rw[sQ,h1];show aT _=_;unfold lb;rw[show aT ((partsOf l).getD k 0)=((aT ((partsOf l).getD k 0)).1,(aT ((partsOf l).getD k 0)).2) from rfl,h2.1]
def aX.UM (base:Nat) (p:List BS):aX (Move false (fun _=>False)) where
 P:=fun v=>∃ b,v=.pointer (some ⟨b,0,none⟩)
 H:=fun v W=>cQ W base v p
 ot:=.pointer (some ⟨0,0,none⟩)
 pw:=⟨0,rfl⟩
 st:=fun _ _ _ hm _ h=>h.below hm.below
theorem bA {P:Program} {fn:Func} {R:Ending->World->Prop} {x:Exit} {a:Act} {w:World} (h:∀ W,W=w->bodyPost P fn R x a W):bodyPost P fn R x a w:=h w rfl
theorem ar.rL {w:World} {b:Nat} {c:Array Value} {t:TypeId} (h:ar w b c t) (k:Nat) (v:Value) {c':Array Value} (e:c.setIfInBounds k v=c'):ar (w.setCell ⟨b,k,none⟩ v) b c' t:=e▸h.set k v
theorem pK.symm {v y:Value} (h:pK v y):pK y v:=by
 unfold pK at*;by_cases e:y.ownBlock=none
 ·exact .inl e
 ·right
  rcases h with h | h
  ·intro h';exact e (h'.trans h)
  ·exact fun h'=>h h'.symm
end
section
open Go Go.RowKit Go.Shelf Go.Maps
open Go.WideMaps (KeyLaw)
open Go.ChangeMaps (setBlock heap_setBlock_same)
def eu (p:Nat×Nat):Value:=.agg #[.int .i64 p.1,.int .i64 p.2]
theorem zN {p q:Nat×Nat} (h:eu p=eu q):p=q:=by
 unfold eu at h;injection h with h
 have h1:=congrArg (fun a:Array Value=>a.toList) h;simp at h1;exact Prod.ext (by omega) (by omega)
theorem Tryz.Ql:Tryz.prog.cellsOf 3=1:=by kernel_rfl
theorem Tryz.Qm:∃ n,Tryz.prog.types.size=n+1:=⟨Tryz.prog.types.size-1,by have:=of_decide_eq_true (show decide (0<Tryz.prog.types.size)=true by kernel_rfl);omega⟩
theorem Yy (n:Nat) (x:Nat) (hx:x<=4000):Tryz.prog.keyLits (n+1) 3 [.int .i64 x]=some [.int .i64 x]:=by unfold Program.keyLits;rw[Tryz.underlying3];have:(Lit.int .i64 (x:Int)).wf=true:=WalkArith.wf_i64 (by omega);simp[this]
end
end Go.Proofs.YtjgccapbphadjaaGreatDoor
namespace Go.Proofs.YtjgccapbphadjaaGreatDoor.ij
open Go Go.RowKit Go.Proofs.YtjgccapbphadjaaGreatDoor
structure App where
 e:TypeId
 size:Nat
 v:Value
 n:Nat
 xs:List Value
 m:Nat
 lo:Nat
 ok:List Value->World->Prop
 st:∀ ns A B,ae (fun x=>lo<=x/\x<A.heap.size) A B->ok ns A->ok ns B
def After (base:Nat) (w0:World) (p:App) (W:World) (v:Value):Prop:=
 (∃ ns,W.ownsRow base p.e p.size v (p.n+p.m) (p.xs++ns)/\p.ok ns W)/\(v.ownBlock=p.v.ownBlock\/∀ x,v.ownBlock=some x->w0.heap.size<=x)
structure bZ (base:Nat) (w0:World) (PL:List App) (A B:World):Prop where
 keeps:ae (fun x=>x<A.heap.size/\¬ ∃ p∈PL,p.v.ownBlock=some x) A B
 old:∀ p∈PL,A.ownsRow base p.e p.size p.v p.n p.xs->B.ownsRow base p.e p.size p.v p.n p.xs
 new:∀ p∈PL,∀ v,After base w0 p A v->After base w0 p B v
section
variable {base:Nat} {w0:World} {PL:List App} {A B C:World}
theorem bZ.trans (h:bZ base w0 PL A B) (k:bZ base w0 PL B C):bZ base w0 PL A C:=
 ⟨h.keeps.trans k.keeps fun _ hx=>⟨aD hx.1 h.keeps.size,hx.2⟩,fun p hp ho=>k.old p hp (h.old p hp ho),fun p hp v hv=>k.new p hp v (h.new p hp v hv)⟩
theorem bZ.below (h:aa A B):bZ base w0 PL A B:=
 ⟨ae.ai h fun _ hx=>hx.1,fun _ _ ho=>ownsRow_keepsA ho h,fun p _ _ ⟨⟨ns,h1,h2⟩,h3⟩=>⟨⟨ns,ownsRow_keepsA h1 h,p.st ns _ _ (ae.ai h fun _ hx=>hx.2) h2⟩,h3⟩⟩
where
 ownsRow_keepsA {W W':World} {b:Nat} {e:TypeId} {size:Nat} {v:Value} {n:Nat} {xs:List Value} (h:W.ownsRow b e size v n xs) (hk:aa W W'):W'.ownsRow b e size v n xs:=
  aj h (ae.ai hk (R:=(· <W.heap.size)) fun _ h=>h) fun k e=>(h.lt k e).2
theorem bZ.drew:bZ base w0 PL A A.drew:=.below (Ext.refl A).drew.below
theorem bZ.size (h:bZ base w0 PL A B):A.heap.size<=B.heap.size:=h.keeps.size
def ky (w0:World) (PL:List App):Prop:=(∀ p∈PL,w0.heap.size<=p.lo)/\(∀ p∈PL,∀ x,p.v.ownBlock=some x->x<w0.heap.size)/\∀ (i j:Nat) (p q:App),PL[i]? =some p->PL[j]? =some q->i≠j->p.v.ownBlock=none\/p.v.ownBlock≠q.v.ownBlock
theorem bZ.room (ok:ky w0 PL) {i:Nat} {p:App} (hi:PL[i]? =some p) {g cap:Nat} {cur:Array Value} (hv:p.v=.slice (some ⟨g,0,none⟩) p.n cap) (ho:A.ownsRow base p.e p.size p.v p.n p.xs) (hg:A.heap[g]? =some (.cells cur p.e (0,0))) (news:List Value) (pE:p.ok news A) (hl:news.length=p.m*p.size) (hcs:cur.size=cap*p.size) (hroom:p.n+p.m<=cap):bZ base w0 PL A (A.setRow g (cur.toList.take (p.n*p.size)++news++cur.toList.drop (p.n*p.size+news.length)).toArray):=by
 have Kl:=aw hi;have TK:p.v.ownBlock=some g:=by rw[hv];rfl
 have hgw:g<w0.heap.size:=ok.2.1 p Kl g TK;have Wy:∀ c,ae (· ≠g) A (A.setRow g c):=fun c=>(ae.refl _ _).setRow (fun h=>h rfl) c
 have El:p.n*p.size+news.length<=cur.size:=by rw[hl,hcs, <-Nat.add_mul];exact Nat.mul_le_mul_right _ hroom
 have eT:cur.toList.take (p.n*p.size)=p.xs:=by
  rcases ho.2 with⟨h,_⟩ | ⟨g',cap',cur',h,_,Km,_,_,_,ht⟩
  ·rw[hv]at h;cases h
  ·rw[hv]at h
   cases h
   rw[hg]at Km;cases Km;exact ht
 have hlx:p.xs.length=p.n*p.size:=ho.1;generalize hc:(cur.toList.take (p.n*p.size)++news++cur.toList.drop (p.n*p.size+news.length)).toArray=c;have mG:c.toList=p.xs++news++cur.toList.drop (p.n*p.size+news.length):=by rw[<-hc,eT]
 have hcz:c.size=cur.size:=by rw[<-Array.length_toList,mG,aJ,aJ,List.length_drop,show cur.toList.length=cur.size from Array.length_toList];omega
 have kst:∀ q∈PL,∀ ns,q.ok ns A->q.ok ns (A.setRow g c):=fun q hq ns=>q.st ns _ _ ((Wy c).mono fun x hx e=>by have:=ok.1 q hq;have:=hx.1;omega)
 have UC:(A.setRow g c).heap[g]? =some (.cells c p.e (0,0)):=setRow_heap A g cur c p.e _ hg;have far:∀ {e:TypeId} {size:Nat} {v:Value} {n:Nat} {xs:List Value},A.ownsRow base e size v n xs->v.ownBlock≠some g->(A.setRow g c).ownsRow base e size v n xs:=fun h hne=>
  aj h (Wy c) fun k e e'=>hne (by rw[e,e'])
 have UD:∀ {k cap':Nat} {xs:List Value},A.ownsRow base p.e p.size (.slice (some ⟨g,0,none⟩) k cap') k xs->c.toList.take (k*p.size)=xs->(A.setRow g c).ownsRow base p.e p.size (.slice (some ⟨g,0,none⟩) k cap') k xs:=fun {k cap' xs} h ht=>by
  rcases h.2 with⟨h',_⟩ | ⟨g',c',cur',h',hb,Km,h1,h2,h3,_⟩
  ·cases h'
  ·cases h'
   rw[hg]at Km;cases Km;exact⟨h.1,.inr ⟨g,cap',c,rfl,hb,UC,h1,h2,by rw[hcz];exact h3,ht⟩⟩
 refine⟨(Wy c).mono fun x hx e=>hx.2 ⟨p,Kl,by rw[TK,e]⟩,fun q hq Yu=>?_,fun q hq v Wz=>?_⟩
 ·obtain⟨j,hj⟩:=List.getElem?_of_mem hq
  by_cases e:j=i
  ·subst e
   rw[hi]at hj;cases hj;rw[hv]at Yu ⊢;exact UD Yu (by rw[mG,List.append_assoc, <-hlx];exact List.take_left)
  ·refine far Yu fun h=>?_
   rcases ok.2.2 j i q p hj hi e with h' | h'
   ·rw[h']at h;cases h
   ·exact h' (by rw[h,TK])
 ·obtain⟨j,hj⟩:=List.getElem?_of_mem hq
  obtain⟨⟨ns,hns,ab7⟩,hv2⟩:=Wz;refine⟨?_,hv2⟩;by_cases e:j=i
  ·subst e
   rw[hi]at hj;cases hj;by_cases eb:v.ownBlock=some g
   ·rcases hns.2 with⟨h',_⟩ | ⟨g',c',cur',h',_⟩
    ·rw[h']at eb;cases eb
    ·subst h'
     have:g'=g:=by simpa[Value.ownBlock]using eb
     subst this;refine⟨news,?_,kst p Kl news pE⟩;have hl2:(p.xs++ns).length=(p.n+p.m)*p.size:=hns.1;rcases hns.2 with⟨h9,_⟩ | ⟨g9,c9,amZ,h9,hb9,hg9,i1,i2,i3,_⟩
     ·cases h9
     ·cases h9
      rw[hg]at hg9;cases hg9;refine⟨by rw[aJ,hl,hlx,Nat.add_mul],.inr ⟨_,_,c,rfl,hb9,UC,i1,i2,by rw[hcz];exact i3,?_⟩⟩;rw[mG,Nat.add_mul, <-hlx, <-hl, <-aJ];exact List.take_left
   ·exact⟨ns,far hns eb,kst p Kl ns ab7⟩
  ·refine⟨ns,far hns fun h=>?_,kst q hq ns ab7⟩
   rcases hv2 with h2 | h2
   ·rcases ok.2.2 j i q p hj hi e with h' | h'
    ·rw[h2,h']at h;cases h
    ·exact h' (by rw[<-h2,h,TK])
   ·have:=h2 g h;omega
theorem dN {P:Program} {Cl:FuncId->Array Value->World->(Ending->World->Prop)->Prop} {Rd:Nat->FuncId->Array Value->Code->Code->World->(Ending->World->Prop)->Prop} {o:Oper} {a:Act} {W:World} {post:Value->World->Prop} (s x:Operand) (t:TypeId) (ho:o.op=.call {callee:=.builtin .append,args:= #[s,x],argTypes:= #[t,t]}) (i:TypeInfo) (z:Value) (bytes:Nat) {p:App} (ht:P.underlying t=some (.slice p.e)) (hi:P.info? p.e=some i) (hz:i.zero=some z) (hsize:i.size=p.size) (hby:i.bytes=bytes) (hzs:z.cells.size=p.size) (hsz:0<p.size) (ok:ky w0 PL) {k:Nat} (hk:PL[k]? =some p) (hs:a.eval s=p.v) (hown:W.ownsRow base p.e p.size p.v p.n p.xs) (ad:Addr) (c:Nat) (hx:a.eval x=.slice (some ad) p.m c) (news:List Value) (pE:p.ok news W) (hl:news.length=p.m*p.size) (hnews:∀ j u,news[j]? =some u->W.cell? (ad.add j)=some u) (h1:∀ u∈news,u.oneCell'=true) (h63:p.n+p.m<=maxLen) (hbytes:(p.n+p.m)*bytes<=140737488355328) (hbase:base<=W.heap.size) (hm:0<p.m) (hw0:w0.heap.size<=W.heap.size) (h:∀ v W',bZ base w0 PL W W'->(∃ a c,v=.slice a (p.n+p.m) c)->After base w0 p W' v->(v.ownBlock=p.v.ownBlock\/v.ownBlock=some W.heap.size)->post v W'): jD Cl Rd post ((execOp a.eval o).run P W):=by
 obtain⟨v',w',hr,h2,h3⟩:=gR (P:=P) W base t o.type p.e i z p.size bytes ht hi hz hsize hby hzs hsz p.v p.n p.xs hown ad p.m c news hl hnews h1 h63 hbytes hbase hm;unfold execOp;simp only[ho,resolve,invoke,builtin,Sem.run_bind,Sem.run_pure,Result.andThen_ok,List.map_toArray,List.map_cons,List.map_nil,hs,hx,hr];show post v' w';have Pp:bZ base w0 PL W w':=by
  rcases h3 with⟨g,cap,cur,e1,e2,e3,e4,e5,rfl⟩ | ⟨hb,_⟩
  ·exact bZ.room ok hk e1 hown e2 news pE hl e3 e4
  ·exact .below hb
 refine h v' w' Pp (ownsRow_form h2) ⟨⟨news,h2,p.st news _ _ (Pp.keeps.mono fun x hx=>⟨hx.2,fun ⟨q,hq,Mo⟩=>?_⟩) pE⟩,?_⟩ ?_
 ·have h5:=ok.2.1 q hq x Mo
  have h6:=ok.1 p (aw hk);have:=hx.1;omega
 ·rcases h3 with⟨g,cap,cur,e1,e2,e3,e4,e5,rfl⟩ | ⟨hb,e⟩
  ·left;rw[e5,e1];rfl
  ·right;intro y hy;rw[e]at hy;cases hy;exact hw0
 ·rcases h3 with⟨g,cap,cur,e1,e2,e3,e4,e5,rfl⟩ | ⟨hb,e⟩
  ·left;rw[e5,e1];rfl
  ·right;exact e
end
open Go.Proofs.YtjgccapbphadjaaGreatDoor.RegG (aX)
def ie.app (base:Nat) (w0:World) (PL:List App) (p:App) (hp:p∈PL):RegG.aX (bZ base w0 PL) where
 P:=fun v=>∃ a c,v=.slice a (p.n+p.m) c
 H:=fun _ v W=>After base w0 p W v
 ot:=.slice none (p.n+p.m) 0
 pw:=⟨none,0,rfl⟩
 st:=fun _ v _ _ hm _ h=>hm.new p hp v h
def ie.Bo (base:Nat) (w0:World) (PL:List App) (p:App) (hp:p∈PL):RegG.aX (bZ base w0 PL) where
 P:=fun v=>∃ a c,v=.slice a (p.n+p.m) c
 H:=fun y v W=>After base w0 p W v/\(v.ownBlock=p.v.ownBlock\/pK v y)
 ot:=.slice none (p.n+p.m) 0
 pw:=⟨none,0,rfl⟩
 st:=fun _ v _ _ hm _ h=>⟨hm.new p hp v h.1,h.2⟩
def ie.vX (base:Nat) (w0:World) (PL:List App) (n:Nat) (cs:Array Value) (t:TypeId):RegG.aX (bZ base w0 PL) where
 P:=fun v=>∃ b,v=.slice (some ⟨b,0,none⟩) n n
 H:=fun _ v W=>∀ b,v=.slice (some ⟨b,0,none⟩) n n->(ar W b cs t/\¬ ∃ p∈PL,p.v.ownBlock=some b)
 ot:=.slice (some ⟨0,0,none⟩) n n
 pw:=⟨_,rfl⟩
 st:=fun _ _ _ _ hm _ h b e=>⟨(h b e).1.keeps hm.keeps ⟨(h b e).1.lt,(h b e).2⟩,(h b e).2⟩
def ie.UN (base:Nat) (w0:World) (PL:List App) (t:TypeId) (H:World->Value->Prop) (hH:∀ W W' u,bZ base w0 PL W W'->H W u->H W' u):RegG.aX (bZ base w0 PL) where
 P:=fun v=>∃ b,v=.slice (some ⟨b,0,none⟩) 1 1
 H:=fun _ v W=>∀ b,v=.slice (some ⟨b,0,none⟩) 1 1->(∃ u,ar W b #[u] t/\H W u)/\¬ ∃ p∈PL,p.v.ownBlock=some b
 ot:=.slice (some ⟨0,0,none⟩) 1 1
 pw:=⟨_,rfl⟩
 st:=fun _ _ _ _ hm _ h b e=>by
  obtain⟨⟨u,h1,h2⟩,h3⟩:=h b e;exact⟨⟨u,h1.keeps hm.keeps ⟨h1.lt,h3⟩,hH _ _ u hm h2⟩,h3⟩
def ie.row (base:Nat) (w0:World) (PL:List App) (ok:ky w0 PL) (lo:Nat) (AY:w0.heap.size<=lo) (e:TypeId) (size n:Nat) (xs:List Value):RegG.aX (bZ base w0 PL) where
 P:=fun v=>∃ a c,v=.slice a n c
 H:=fun _ v W=>W.ownsRow lo e size v n xs
 ot:=.slice none n 0
 pw:=⟨none,0,rfl⟩
 st:=fun A v _ B hm _ h=>aj h hm.keeps fun x hx=>⟨(h.lt x hx).2,fun ⟨q,hq,Mo⟩=>by have h5:=ok.2.1 q hq x Mo;have:=(h.lt x hx).1;omega⟩
theorem ky.fresh {w0:World} {PL:List App} (ok:ky w0 PL) {b:Nat} (h:w0.heap.size<=b):¬ ∃ p∈PL,p.v.ownBlock=some b:=fun ⟨p,hp,e⟩=>by
 have:=ok.2.1 p hp b e;omega
end Go.Proofs.YtjgccapbphadjaaGreatDoor.ij
