/- dfa.Right; slices.ContainsFunc at ints; slices.Equal at sets, whatever they are. -/
import Derived.Test.YtpcmhjbehdgdbaaGreatDoorOI02
import Derived.Shelf.Bytes.SlEqualAll
import Derived.Lib.SmallJoins
import Derived.Great.BuildSlice
set_option maxRecDepth 100000
set_option maxHeartbeats 16000000
open Go.Lib (hid)
namespace Go.Proofs.YtpcmhjbehdgdbaaGreatDoor
section
open Go Go.RowKit Go.Shelf Go.Maps
attribute [local go_sem] encS
def uA (w:World) (v:Value) (l:List BS):Prop:=dn w v l/\∀ a n cap,v=.slice a n cap->n<=cap
theorem dn.form {w:World} {v:Value} {l:List BS} (h:dn w v l):∃ a cap,v=.slice a l.length cap:=by
 rcases h with⟨h,rfl⟩ | ⟨b,off,cap,hv,_⟩
 ·exact⟨_,_,h⟩
 ·exact⟨_,_,hv⟩
end
section
open Go Go.RowKit Go.Shelf Go.Maps
theorem yA {A B:World} (h:Ext A B) (n:Nat):Ext A (B.drewN n):=⟨h.os,h.tape,h.output,Nat.le_add_right_of_le h.drawn,h.size,h.keep⟩
end
section
open Go Go.RowKit Go.WideShapes Go.ChangeShapes Go.ChangeAt Go.Deep
section
variable {H:Type} {enc:TypeId×Value→H} {P:Program}
theorem oH (hl:laidOutB P=true) {W W':World} {sp:Nat->Bool} :∀ (ts:List TypeId) (vs:List Value) (ds:List (DataW H)) (ps:List MemPlace),(∀ t∈ts,P.readableRec t=true/\t<P.types.size)-> DataW.TrodAll enc P W 0 (fun _=>true) true ts vs ds ps->(∀ p∈ps,W.sameAt W' p)->(∀ p∈ps,sp p.block=true)->DataW.TrodAll enc P W' 0 sp true ts vs ds ps
 | [],vs,ds,ps,_,h,_,_=>by
  obtain⟨rfl,rfl,rfl⟩:=trodAll_nil h;rfl
 | t::ts,vs,ds,ps,ht,h,hs,hsp=>by
  obtain⟨v,vs',d,ds',p,q,rfl,rfl,rfl,h1,h2⟩:=trodAll_cons h
  exact⟨p,q,WideElems.Trod_stays hl (ht t (by simp)).1 (ht t (by simp)).2 h1 (fun x hx=>hs x (by simp[hx])) (fun x hx=>hsp x (by simp[hx])),
   oH hl ts vs' ds' q (fun t h=>ht t (by simp[h])) h2 (fun x hx=>hs x (by simp[hx])) (fun x hx=>hsp x (by simp[hx])),rfl⟩
theorem NP (hl:laidOutB P=true) {f:Func} {s:ChangeSpec} {apart fresh handsOn:Bool} {W W':World} {args:Array Value} {ds gs:List (DataW H)} {before:List MemPlace} {tb:TypeId} (Ut:s.vars=[]) (Mt:∀ t∈f.params.toList,P.readableRec t=true/\t<P.types.size) (hres:f.resultTypes= #[tb]) (htb:P.underlying tb=some .bool) (hfn:s.fn H ds= {results:=[.lit (.bool true)],args:=ds}) (hW:DataW.Whole enc P f.params.toList s.vars apart W args.toList ds gs before) (hb:aa W W'): s.post enc P f apart fresh handsOn false W args (.bool true) W':=by
 have NQ:=hW;obtain⟨p,q,hA,hV,rfl,hz,hn⟩:=hW;have hV':=hV;rw[Ut]at hV';obtain⟨rfl,rfl⟩:=trodVars_none hV';have hlt:∀ x∈p++ [],x.block<W.heap.size:=fun x hx=>NQ.lt x hx
 simp only[List.append_nil]at hlt NQ;refine⟨ds,[],p,[],p,[],NQ,?_,?_,?_,?_,fun h=>(by cases h)⟩
 ·rw[List.append_nil,hfn,hres]
  exact trodAll_mk1 (shut_bool htb true)
 ·rw[List.append_nil,hfn]
  exact oH hl _ _ _ _ Mt hA (fun x hx=>hb.same (hlt x hx)) (fun x hx=>by simpa using hlt x hx)
 ·rw[List.append_nil,hfn,Ut]
  rfl
 ·exact World.keptBut_mono (fun x hx=>⟨hx,Or.inr (.inl hx)⟩) (hb.frame (· ∈p))
end
section
variable {H:Type} {enc:TypeId×Value→H} {W:World} {base:Nat} {sp:Nat→Bool}
theorem Ge {P:Program} {r:Reach} {t e:TypeId} {a:Addr} {len cap:Nat} (ht:P.underlying t=some (.slice e)) (h:Value.okWide P W r base t (.slice (some a) len cap)):a.spot=none/\a.block<W.heap.size:=by
 simp only[Value.okWide,ht,Cell.okWide,Cell.ok]at h;obtain⟨_,_,_,hs,row,cells,hsh,_⟩:=h;refine⟨hs,?_⟩;unfold World.shape? at hsh;cases hh:W.heap[a.block]? with
 | none=>simp[hh]at hsh
 | some o=>exact(Array.getElem?_eq_some_iff.1 hh).1
end
end
section
open Go Go.ChangeShapes Go.WideShapes Go.ChangeAt Go.RowKit
section
variable {H:Type} {enc:TypeId×Value→H} {W:World}
theorem De {n:Int} (h:(Lit.int .u8 n).wf=true):0<=n/\n<256:=by
 simp only[Lit.wf,Bool.and_eq_true,decide_eq_true_eq]at h;have h1:IntKind.u8.min=0:=by decide
 have h2:IntKind.u8.max=255:=by decide
 omega
theorem Sj {r:Reach} {v:Value} {d:DataW H} {p:List MemPlace} {b0:Nat} (ry:Value.okWide Tryz.prog W r b0 5 v) (h:DataW.Trod enc Tryz.prog W 0 (fun _=>true) true 5 v d p):∃ n:Nat,v=.int .u8 n/\n<256:=by obtain⟨n,rfl,_,_,hw⟩:=open_int Tryz.underlying5 ry h;have:=De hw;exact⟨n.toNat,by rw[Int.toNat_of_nonneg this.1],by omega⟩
end
theorem Tryz.own:ownKnob Tryz.prog.godebug=none:=by kernel_rfl
theorem Tryz.laidOut:laidOutB Tryz.prog=true:=by kernel_rfl
end
section
open Go Go.RowKit
def uX (w:World) (x:Value) (m:Nat) (news:List Value):Prop:=(x=.slice none 0 0/\m=0/\news=[])\/∃ ad c,x=.slice (some ad) m c/\∀ j u,news[j]? =some u->w.cell? (ad.add j)=some u
section
variable {P:Program} {ops:Array Oper} {F:Fence} {n:Nat} {C:World→Prop}
theorem mN (w:World) (base:Nat) (t ty e:TypeId) (i:TypeInfo) (z:Value) (size bytes:Nat) (ht:P.underlying t=some (.slice e)) (hi:P.info? e=some i) (hz:i.zero=some z) (hsize:i.size=size) (hby:i.bytes=bytes) (hzs:z.cells.size=size) (hsz:0<size) (v:Value) (k:Nat) (xs:List Value) (hown:w.ownsRow base e size v k xs) (x:Value) (m:Nat) (news:List Value) (hx:uX w x m news) (hl:news.length=m*size) (h1:∀ u∈news,u.oneCell'=true) (h63:k+m<=maxLen) (hbytes:(k+m)*bytes<=140737488355328) (hbase:base<=w.heap.size): ∃ v' w',(Builtin.append_ #[t,t] ty #[v,x]).run P w=.ok v' w'/\w'.ownsRow base e size v' (k+m) (xs++news)/\w.grownBy w' v.ownBlock:=by
 rcases hx with⟨rfl,rfl,rfl⟩ | ⟨ad,c,rfl,hnews⟩
 ·refine⟨v,w,?_,?_,World.grownBy.refl _ _⟩
  ·exact run_append_owned_none (P:=P) (w:=w) base t ty e i size ht hi v k xs hown
  ·rw[List.append_nil];exact hown
 ·obtain⟨v',w',hr,h2,h3,_⟩:=run_append_own_at (P:=P) w base t ty e i z size bytes ht hi hz hsize hby hzs hsz v k xs hown ad m c news hl hnews h1 h63 hbytes hbase
  exact⟨v',w',hr,h2,h3⟩
theorem jt {Q:Exit->Act->World->Prop} {a:Act} {w:World} {rest:List Oper} {o:Oper} (hw:Region.wanted o (yielded ops a.tmps)=true) (h:∀ K:Act->World->Prop,(∀ a w,wpList P ops Q rest a w->K a w)->o.wp P a w K Q):wpList P ops Q (o::rest) a w:=by unfold wpList;rw[if_pos hw];exact .inl (h _ fun _ _ h=>h)
theorem ju {rest:List Oper} {o:Oper} {a:Act} {w:World} {Q:Exit->Act->World->Prop} (hw:Region.wanted o (yielded ops a.tmps)=true) (s x:Operand) (t:TypeId) (ho:o.op=.call {callee:=.builtin .append,args:= #[s,x],argTypes:= #[t,t]}) (base:Nat) (e:TypeId) (i:TypeInfo) (z:Value) (size bytes:Nat) (ht:P.underlying t=some (.slice e)) (hi:P.info? e=some i) (hz:i.zero=some z) (hsize:i.size=size) (hby:i.bytes=bytes) (hzs:z.cells.size=size) (hsz:0<size) (v:Value) (k:Nat) (xs:List Value) (hs:a.eval s=v) (hown:w.ownsRow base e size v k xs) (xv:Value) (m:Nat) (news:List Value) (hx:a.eval x=xv) (aeT:uX w xv m news) (hl:news.length=m*size) (h1:∀ u∈news,u.oneCell'=true) (h63:k+m<=maxLen) (hbytes:(k+m)*bytes<=140737488355328) (hbase:base<=w.heap.size) (h:∀ v' w',w'.ownsRow base e size v' (k+m) (xs++news)->w.grownBy w' v.ownBlock->wpList P ops Q rest (a.put o.dst v') w'): wpList P ops Q (o::rest) a w:=by
 refine jt hw fun K hK=>?_
 obtain⟨v',w',hr,h2,h3⟩:=mN (P:=P) w base t o.type e i z size bytes ht hi hz hsize hby hzs hsz v k xs hown xv m news aeT hl h1 h63 hbytes hbase;unfold Oper.wp execOp;simp only[ho,resolve,invoke,builtin,Sem.run_bind,Sem.run_pure,Result.andThen_ok,List.map_toArray,List.map_cons,List.map_nil,hs,hx,hr];exact hK _ _ (h v' w' h2 h3)
end
theorem kH {base:Nat} {e:TypeId} {size g n cap:Nat} (o0:Nat):∀ (vs:List Value) (o:Nat) (w:World) (xs:List Value),o0<=o->w.ownsRow base e size (.slice (some ⟨g,0,none⟩) n cap) n xs-> ∃ ys,(w.setCells g o vs).ownsRow base e size (.slice (some ⟨g,0,none⟩) n cap) n ys/\ae (· ≠g) w (w.setCells g o vs)
 | [],_,w,xs,_,h=>⟨xs,h,ae.refl _ _⟩
 | v::r,o,w,xs,ho,h=>by
  obtain⟨ys,h1,h2⟩:=kH o0 r (o+1) _ _ (by omega) (h.stored o v).1;exact⟨ys,h1,((ae.refl (· ≠g) w).setCell (p:=⟨g,o,none⟩) (fun h=>h rfl) v).tr h2⟩
end
section
open Go Go.RowKit Go.Shelf Go.Maps
theorem Gf (a b c:BS) (h:(!ltOf aW b a)=true) (k:(!ltOf aW c b)=true):(!ltOf aW c a)=true:=by
 simp only[Bool.not_eq_true']at*;cases VS:ltOf aW c a with
 | false=>rfl
 | true=>
  exfalso;rw[<-Bool.not_eq_true,fh]at h k;rw[fh]at VS;rcases nI a b with e | e | e
  ·subst e;exact k VS
  ·exact k (ij VS e)
  ·exact h e
theorem Gg (a b:BS):((!ltOf aW b a) || (!ltOf aW a b))=true:=by
 cases Gd:ltOf aW b a with
 | false=>rfl
 | true=>
  cases hab:ltOf aW a b with
  | false=>rfl
  | true=>
   rw[fh]at Gd hab;exact absurd (ij Gd hab) (jr b)
theorem uY (l:List BS):(partsOf l).Pairwise fun x y=>(!ltOf aW y x)=true:=List.pairwise_mergeSort Gf Gg _
theorem eA (l:List BS):(partsOf l).Perm (bh l):=List.mergeSort_perm _ _
attribute [local go_sem] encS
theorem ay {w w':World} {base n size:Nat} {v:Value} {e:TypeId} {l:List Value} (h:w.ownsRow base e size v n l) (hk:aa w w'):w'.ownsRow base e size v n l:=
 au h (ae.ai hk fun _ h=>h) (fun k e=>(h.lt k e).2)
end
section
open Go Go.RowKit Go.Shelf Go.Maps
theorem aq.range {w:World} {b:Nat} {c:Array Value} {t:TypeId} (h:aq w b c t):w.rangeAt b 0 c.toList:=fun j v hj=>by
 rw[Nat.zero_add,h.cell j, <-Array.getElem?_toList];exact hj
theorem aq.setRow {w:World} {b:Nat} {c c':Array Value} {t:TypeId} (h:aq w b c t):aq (w.setRow b c') b c' t:=setRow_heap w b c c' t _ h
theorem mO {P:Program} {ops:Array Oper} {Q:Exit->Act->World->Prop} {a:Act} {w:World} {rest:List Oper} {o:Oper} (hw:Region.wanted o (yielded ops a.tmps)=true) (h:∀ K:Act->World->Prop,(∀ a w,wpList P ops Q rest a w->K a w)->o.wp P a w K Q):wpList P ops Q (o::rest) a w:=by unfold wpList;rw[if_pos hw];exact .inl (h _ fun _ _ h=>h)
theorem aJ {P:Program} {ops:Array Oper} {rest:List Oper} {op:Oper} {a:Act} {w:World} {Q:Exit->Act->World->Prop} (hw:Region.wanted op (yielded ops a.tmps)=true) (ty:TypeId) (x:Operand) (ho:op.op=.load ty x) (b:Nat) (hx:a.eval x=.pointer (some ⟨b,0,none⟩)) (cs:Array Value) (d:TypeDesc) (hc:w.rangeAt b 0 cs.toList) (hu:P.underlying ty=some d) (hd:d.isRow=true) (hi:(P.info? ty).map (·.size)=some cs.size) (h:wpList P ops Q rest (a.put op.dst (.agg cs)) w):wpList P ops Q (op::rest) a w:=
 mO hw fun _ hK=>wp_load_mid ty x ho b 0 hx cs.toList d hc hu hd (by rw[Array.length_toList];exact hi) (hK _ _ h)
end
section
open Go Go.RowKit
theorem Df (o:Nat) (l:List Value):∀ (k:Nat) (X:Array Value) (i:Nat),o+k+l.length<=X.size-> ((l.zipIdx k).foldl (fun a (x:Value×Nat)=>a.setIfInBounds (o+x.2) x.1) X)[i]? =if o+k<=i/\i<o+k+l.length then l[i-(o+k)]? else X[i]? :=by
 induction l with
 | nil=>intro k X i _;simp only[List.zipIdx_nil,List.foldl_nil,List.length_nil];rw[if_neg (by omega)]
 | cons c l ih=>
  intro k X i hs;rw[List.length_cons]at hs;rw[List.zipIdx_cons,List.foldl_cons,ih (k+1) _ i (by simp;omega),List.length_cons];by_cases h1:o+(k+1)<=i/\i<o+(k+1)+l.length
  ·rw[if_pos h1,if_pos (by omega),show i-(o+k)=(i-(o+(k+1)))+1 by omega,List.getElem?_cons_succ]
  ·rw[if_neg h1,Array.getElem?_setIfInBounds]
   by_cases h2:o+k=i
   ·rw[if_pos h2,if_pos (by omega),if_pos (by omega),show i-(o+k)=0 by omega];rfl
   ·rw[if_neg h2,if_neg (by omega)]
theorem pd {P:Program} {t e:TypeId} {i:TypeInfo} {z:Value} {m:Nat} (ht:P.underlying t=some (.slice e)) (hi:P.info? e=some i) (hz:i.zero=some z) (hsz:i.size=m) (hm:0<m) (yB:m<=16777216) (cs:Array Value) (hc:cs.size=m) (w:World): (Instr.buildSlice t 1 #[(0,.agg cs)]).run P w=.ok (.slice (some ⟨w.heap.size,0,none⟩) 1 1) (w.alloc (.cells cs e)):=by
 have aaa:∀ X:Array Value,X.size=m->Instr.fill (fun i=>some (i*m,m)) X [(0,.agg cs)]=some cs:=fun X hX=>by
  have h1:(Value.agg cs).cells=cs:=rfl;unfold Instr.fill;simp only[h1,hc,Nat.zero_mul,Nat.zero_add,hX,ne_eq,not_true,decide_false,Bool.false_or];rw[if_neg (by simp)];unfold Instr.fill;congr 1;rw[<-Array.foldl_toList,Array.toList_zipIdx];apply Array.ext_getElem?;intro j;have:=Df 0 cs.toList 0 X j (by rw[Array.length_toList];omega);simp only[Nat.zero_add]at this;rw[this,Array.length_toList,Nat.sub_zero];by_cases hj:j<cs.size
  ·rw[if_pos ⟨Nat.zero_le _,hj⟩,Array.getElem?_toList]
  ·rw[if_neg (fun h=>hj h.2),Array.getElem?_eq_none (by omega),Array.getElem?_eq_none (by omega)]
 have hs:∀ w,(sizeOf e).run P w=.ok m w:=fun w=>by simp[sizeOf,typeInfo,hi,hsz]
 have hz':∀ w,(zeroValue e).run P w=.ok z w:=fun w=>by simp[zeroValue,typeInfo,hi,hz]
 unfold Instr.buildSlice;simp only[Sem.run_bind,run_underlying ht,Result.andThen_ok,hs,Nat.one_mul];rw[if_neg (by omega),if_neg (by omega)];simp only[Sem.run_bind,hz',Result.andThen_ok,Sem.run_pure];rw[aaa _ (by simp)];rfl
section
variable {F:Fence} {n:Nat} {P:Program} {C:World→Prop}
end
end
section
open Go Go.RowKit Go.Shelf Go.Maps
attribute [local go_sem] encS
end
section
open Go Go.RowKit Go.Shelf Go.Maps
attribute [local go_sem] encS
end
section
open Go Go.RowKit Go.Shelf Go.Maps
def Alike (l:List BS) (c d:Nat):Prop:=∀ s∈l,s.getLsbD c=s.getLsbD d
theorem IE {s p x:BS} :x∈cut s p↔(x=p&&& s\/x=p&&& ~~~s)/\x≠0:=by unfold cut;simp only[List.mem_filter,List.mem_cons,List.not_mem_nil,or_false,Bool.not_eq_true',beq_eq_false_iff_ne]
theorem km {s x:BS} {l:List BS} :x∈aX s l↔ ∃ p∈l,(x=p&&& s\/x=p&&& ~~~s)/\x≠0:=by unfold aX;simp only[List.mem_flatMap,IE]
theorem mP (c:Nat):(0:BS).getLsbD c=false:=BitVec.getLsbD_zero
theorem uB (s:BS) {c:Nat} (hc:c<256):(~~~s).getLsbD c= !s.getLsbD c:=by rw[BitVec.getLsbD_not];simp[hc]
theorem IG {c:Nat} (hc:c<256):(~~~(0:BS)).getLsbD c=true:=by rw[uB _ hc,mP];rfl
theorem uZ (l:List BS) (c:Nat) (hc:c<256):∃ q∈bh l,q.getLsbD c=true:=by
 suffices ∀ r:List BS,∃ q∈bh r.reverse,q.getLsbD c=true by have:=this l.reverse;rwa[List.reverse_reverse]at this
 intro r;induction r with
 | nil=>exact⟨~~~0,by simp[bh],IG hc⟩
 | cons s r ih=>
  obtain⟨q,hq,zZ⟩:=ih;rw[List.reverse_cons,iz];cases hs:s.getLsbD c with
  | true=>
   have h:(q&&& s).getLsbD c=true:=by rw[BitVec.getLsbD_and,zZ,hs];rfl
   exact⟨q&&& s,km.2 ⟨q,hq,.inl rfl,fun e=>by rw[e,mP]at h;cases h⟩,h⟩
  | false=>
   have h:(q&&& ~~~s).getLsbD c=true:=by rw[BitVec.getLsbD_and,zZ,uB _ hc,hs];rfl
   exact⟨q&&& ~~~s,km.2 ⟨q,hq,.inr rfl,fun e=>by rw[e,mP]at h;cases h⟩,h⟩
theorem vd (l:List BS) {q:BS} (hq:q∈bh l) {c d:Nat} (hc:c<256) (hd:d<256) (h:q.getLsbD c=true):q.getLsbD d=true↔Alike l c d:=by
 suffices ∀ (r:List BS) (q:BS),q∈bh r.reverse->q.getLsbD c=true->(q.getLsbD d=true↔Alike r.reverse c d) by
  have:=this l.reverse q (by rwa[List.reverse_reverse]) h;rwa[List.reverse_reverse]at this
 intro r;induction r with
 | nil=>
  intro q hq _;have:q= ~~~0:=by simpa[bh]using hq
  rw[this,IG hd];simp[Alike]
 | cons s r ih=>
  intro q hq zZ;rw[List.reverse_cons,iz]at hq;obtain⟨p,hp,hpq,_⟩:=km.1 hq;have mq:Alike (r.reverse++ [s]) c d↔Alike r.reverse c d/\s.getLsbD c=s.getLsbD d:=by
   unfold Alike;constructor
   ·intro h;exact⟨fun x hx=>h x (by simp only[List.mem_append];exact .inl hx),h s (by simp)⟩
   ·intro⟨h1,h2⟩ x hx
    simp only[List.mem_append,List.mem_singleton]at hx;rcases hx with hx | rfl
    ·exact h1 x hx
    ·exact h2
  rw[List.reverse_cons,mq];rcases hpq with rfl | rfl
  ·rw[BitVec.getLsbD_and,Bool.and_eq_true]at zZ ⊢
   rw[ih p hp zZ.1,zZ.2];exact and_congr_right fun _=>eq_comm
  ·rw[BitVec.getLsbD_and,Bool.and_eq_true]at zZ ⊢
   have h2:=zZ.2;rw[uB _ hc]at h2;rw[ih p hp zZ.1,uB _ hd];have h3:s.getLsbD c=false:=by simpa using h2
   rw[h3];refine and_congr_right fun _=>?_
   cases s.getLsbD d<;>simp
def qC (p q:BS):Prop:=∀ c,¬ (p.getLsbD c=true/\q.getLsbD c=true)
theorem qC.symm {p q:BS} (h:qC p q):qC q p:=fun c ⟨h1,h2⟩=>h c ⟨h2,h1⟩
theorem uC (p q:BS) (c:Nat):(p&&& q).getLsbD c=true↔p.getLsbD c=true/\q.getLsbD c=true:=by rw[BitVec.getLsbD_and,Bool.and_eq_true]
theorem Dg (s:BS) (c:Nat) (h:(~~~s).getLsbD c=true):s.getLsbD c=false:=by rw[BitVec.getLsbD_not]at h;simp at h;exact h.2
theorem ve (l:List BS):(bh l).Pairwise qC:=by
 suffices ∀ r:List BS,(bh r.reverse).Pairwise qC by have:=this l.reverse;rwa[List.reverse_reverse]at this
 intro r;induction r with
 | nil=>simp[bh]
 | cons s r ih=>
  rw[List.reverse_cons,iz];unfold aX;rw[List.pairwise_flatMap];refine⟨fun p _=>?_,ih.imp fun {p q} h x hx y hy c ⟨h1,h2⟩=>?_⟩
  ·unfold cut
   refine List.Pairwise.filter _ ?_;refine List.pairwise_cons.2 ⟨fun y hy c ⟨h1,h2⟩=>?_,List.pairwise_singleton _ _⟩;rw[List.mem_singleton.1 hy,uC]at h2;rw[uC]at h1;rw[Dg s c h2.2]at h1;exact Bool.noConfusion h1.2
  ·have sub:∀ {p x:BS},x∈cut s p->x.getLsbD c=true->p.getLsbD c=true:=fun {p x} hx h=>by
    rcases(IE.1 hx).1 with rfl | rfl
    ·exact((uC _ _ _).1 h).1
    ·exact((uC _ _ _).1 h).1
   exact h c ⟨sub hx h1,sub hy h2⟩
theorem mQ {l:List BS} {q:BS} :q∈partsOf l↔q∈bh l:=(eA l).mem_iff
theorem ko (l:List BS):(partsOf l).Pairwise qC:=((eA l).pairwise_iff (fun h=>qC.symm h)).2 (ve l)
theorem kp (l:List BS) (c:Nat) (hc:c<256):∃ (k:Nat) (q:BS),(partsOf l)[k]? =some q/\q.getLsbD c=true:=by obtain⟨q,h1,h2⟩:=uZ l c hc;obtain⟨k,hk⟩:=List.getElem?_of_mem (mQ.2 h1);exact⟨k,q,hk,h2⟩
theorem xP (l:List BS) {q:BS} (hq:q∈partsOf l) {c d:Nat} (hc:c<256) (hd:d<256) (h:q.getLsbD c=true):q.getLsbD d=true↔Alike l c d:=vd l (mQ.1 hq) hc hd h
theorem sU {p:List BS} (h:p.Pairwise qC) {i j:Nat} {x y:BS} (hi:p[i]? =some x) (hj:p[j]? =some y) {c:Nat} (hx:x.getLsbD c=true) (hy:y.getLsbD c=true):i=j:=by
 have key:∀ {i j:Nat} {x y:BS},p[i]? =some x->p[j]? =some y->x.getLsbD c=true->y.getLsbD c=true->¬i<j:=fun {i j x y} hi hj hx hy hlt=>by
  obtain⟨h1,rfl⟩:=List.getElem?_eq_some_iff.1 hi;obtain⟨h2,rfl⟩:=List.getElem?_eq_some_iff.1 hj;exact(List.pairwise_iff_getElem.1 h i j h1 h2 hlt) c ⟨hx,hy⟩
 have h1:=key hi hj hx hy;have h2:=key hj hi hy hx;omega
theorem lz (l:List BS) {c k:Nat} (hc:c<256):cls (partsOf l) c=k↔ ∃ q:BS,(partsOf l)[k]? =some q/\q.getLsbD c=true:=by
 have h1:∃ q,(partsOf l)[cls (partsOf l) c]? =some q/\q.getLsbD c=true:=by
  rcases rL (partsOf l) c hc with⟨k,s,h1,h2,h3⟩ | ⟨h1,_⟩
  ·rw[zU _ hc]at h3;cases h3;exact⟨s,h1,h2⟩
  ·obtain⟨k,q,h2,h3⟩:=kp l c hc
   rw[h1 q (aA h2)]at h3;cases h3
 constructor
 ·rintro rfl;exact h1
 ·rintro⟨q,h2,h3⟩
  obtain⟨q',h4,h5⟩:=h1;exact sU (ko l) h4 h2 h5 h3
theorem il (l:List BS) {q:BS} (h:q∈partsOf l):q≠0:=sR l q (mQ.1 h)
theorem gj {s:BS} (h:s≠0):(aZ s).2=true/\(aZ s).1<256/\s.getLsbD (aZ s).1=true/\∀ d,d<(aZ s).1->s.getLsbD d=false:=by
 rcases qw s with⟨_,h1⟩ | h1
 ·exact absurd h1 h
 ·exact h1
theorem oI (l:List BS) {i j:Nat} {x y:BS} (hi:(partsOf l)[i]? =some x) (hj:(partsOf l)[j]? =some y) (oY:i<j):(aZ x).1<(aZ y).1:=by
 obtain⟨h1,h2⟩:=List.getElem?_eq_some_iff.1 hi;obtain⟨h3,h4⟩:=List.getElem?_eq_some_iff.1 hj;have hs:=List.pairwise_iff_getElem.1 (uY l) i j h1 h3 oY;have ha:=List.pairwise_iff_getElem.1 (ko l) i j h1 h3 oY;rw[h2,h4]at hs ha;obtain⟨_,x1,x2,x3⟩:=gj (il l (aA hi));obtain⟨_,y1,y2,y3⟩:=gj (il l (aA hj));have hne:(aZ x).1≠(aZ y).1:=fun e=>ha _ ⟨x2,by rw[e];exact y2⟩
 by_cases hlt:(aZ x).1<(aZ y).1
 ·exact hlt
 ·exfalso
  have hyx:Rh y x:=⟨(aZ y).1,y1,fun d hd=>by rw[y3 d hd,x3 d (by omega)],y2,x3 _ (by omega)⟩;rw[<-fh]at hyx;rw[hyx]at hs;exact Bool.noConfusion hs
theorem sV (l:List BS):0<(partsOf l).length:=by obtain⟨k,q,h,_⟩:=kp l 0 (by decide);have:=(List.getElem?_eq_some_iff.1 h).1;omega
theorem tT (l:List BS):(partsOf l).isEmpty=false:=by
 have:=sV l;cases h:partsOf l with
 | nil=>rw[h]at this;simp at this
 | cons=>rfl
structure cT (p:List BS) (R:Nat->Nat->Prop):Prop where
 some:p.isEmpty=false
 apart:p.Pairwise qC
 ne:∀ q∈p,q≠0
 cover:∀ c,c<256->∃ (k:Nat) (q:BS),p[k]? =Option.some q/\q.getLsbD c=true
 alike:∀ q∈p,∀ c d,c<256->d<256->q.getLsbD c=true->(q.getLsbD d=true↔R c d)
 first:∀ (i j:Nat) (x y:BS),p[i]? =Option.some x->p[j]? =Option.some y->i<j->(aZ x).1<(aZ y).1
theorem cT.qD (l:List BS):cT (partsOf l) (Alike l):=
 ⟨tT l,ko l,fun _ h=>il l h,kp l,fun _ hq _ _ hc hd h=>xP l hq hc hd h,fun _ _ _ _ h1 h2 h3=>oI l h1 h2 h3⟩
theorem cT.lz {p:List BS} {R:Nat->Nat->Prop} (h:cT p R) {c k:Nat} (hc:c<256):cls p c=k↔ ∃ q:BS,p[k]? =Option.some q/\q.getLsbD c=true:=by
 have h1:∃ q,p[cls p c]? =Option.some q/\q.getLsbD c=true:=by
  rcases rL p c hc with⟨k,s,h1,h2,h3⟩ | ⟨h1,_⟩
  ·rw[zU _ hc]at h3;cases h3;exact⟨s,h1,h2⟩
  ·obtain⟨k,q,h2,h3⟩:=h.cover c hc
   rw[h1 q (aA h2)]at h3;cases h3
 constructor
 ·rintro rfl;exact h1
 ·rintro⟨q,h2,h3⟩
  obtain⟨q',h4,h5⟩:=h1;exact sU h.apart h4 h2 h5 h3
theorem cT.Dh {p:List BS} {R:Nat->Nat->Prop} (h:cT p R) {c d:Nat} (hc:c<256) (hd:d<256):cls p c=cls p d↔R c d:=by
 obtain⟨q,h1,h2⟩:=(h.lz hc).1 rfl;rw[<-h.alike q (aA h1) c d hc hd h2];constructor
 ·intro e
  obtain⟨q',h3,h4⟩:=(h.lz hd).1 rfl;rw[<-e,h1]at h3;cases h3;exact h4
 ·intro h3;exact((h.lz hd).2 ⟨q,h1,h3⟩).symm
theorem cT.symm {p:List BS} {R:Nat->Nat->Prop} (h:cT p R) {c d:Nat} (hc:c<256) (hd:d<256) (hr:R c d):R d c:=(h.Dh hd hc).1 ((h.Dh hc hd).2 hr).symm
theorem Aa {s:BS} (h:s≠0):∃ c,c<256/\s.getLsbD c=true:=by obtain⟨_,h1,h2,_⟩:=gj h;exact⟨_,h1,h2⟩
theorem cT.mem_of {p q:List BS} {R S:Nat->Nat->Prop} (hp:cT p R) (hq:cT q S) (h:∀ c d,c<256->d<256->(R c d↔S c d)) {x:BS} (hx:x∈p):x∈q:=by
 obtain⟨c,hc,hxc⟩:=Aa (hp.ne x hx);obtain⟨k,s,hs,hsc⟩:=hq.cover c hc;have:x=s:=BS.ext fun d hd=>by
  rw[Bool.eq_iff_iff,hp.alike x hx c d hc hd hxc,hq.alike s (aA hs) c d hc hd hsc,h c d hc hd]
 rw[this];exact aA hs
theorem cT.sorted {p:List BS} {R:Nat->Nat->Prop} (hp:cT p R):p.Pairwise fun x y=>(aZ x).1<(aZ y).1:=by rw[List.pairwise_iff_getElem];intro i j hi hj oY;exact hp.first i j _ _ (aC hi) (aC hj) oY
theorem yC {f:BS->Nat} :∀ (p q:List BS),p.Pairwise (fun x y=>f x<f y)->q.Pairwise (fun x y=>f x<f y)->(∀ x,x∈p↔x∈q)->p=q
 | [],q,_,_,h=>by
  cases q with
  | nil=>rfl
  | cons y q=>have:=(h y).2 (by simp);simp at this
 | x::p,q,hp,hq,h=>by
  cases q with
  | nil=>have:=(h x).1 (by simp);simp at this
  | cons y q=>
   rw[List.pairwise_cons]at hp hq;have hxy:x=y:=by
    have h1:=(h x).1 (by simp);have h2:=(h y).2 (by simp);rcases List.mem_cons.1 h1 with e | h1
    ·exact e
    ·rcases List.mem_cons.1 h2 with e | h2
     ·exact e.symm
     ·have a:=hq.1 x h1;have b:=hp.1 y h2;omega
   subst hxy;congr 1;refine yC p q hp.2 hq.2 fun z=>?_
   have hz:=h z;simp only[List.mem_cons]at hz;constructor
   ·intro hzp
    rcases hz.1 (.inr hzp)with e | h1
    ·subst e;have:=hp.1 z hzp;omega
    ·exact h1
   ·intro hzq
    rcases hz.2 (.inr hzq)with e | h1
    ·subst e;have:=hq.1 z hzq;omega
    ·exact h1
theorem cT.uniq {p q:List BS} {R S:Nat->Nat->Prop} (hp:cT p R) (hq:cT q S) (h:∀ c d,c<256->d<256->(R c d↔S c d)):p=q:=
 yC p q hp.sorted hq.sorted fun _=>⟨fun hx=>hp.mem_of hq h hx,fun hx=>hq.mem_of hp (fun c d hc hd=>(h c d hc hd).symm) hx⟩
theorem cT.JU {p:List BS} {R:Nat->Nat->Prop} (hp:cT p R) {c d:Nat} (hc:c<256) (hd:d<256):Alike p c d↔R c d:=by
 constructor
 ·intro h
  obtain⟨k,s,hs,hsc⟩:=hp.cover c hc;have:=h s (aA hs);exact(hp.alike s (aA hs) c d hc hd hsc).1 (by rw[<-this];exact hsc)
 ·intro hr s hs
  rw[Bool.eq_iff_iff];exact⟨fun h=>(hp.alike s hs c d hc hd h).2 hr,fun h=>(hp.alike s hs d c hd hc h).2 (hp.symm hc hd hr)⟩
end
section
open Go Go.RowKit
theorem aF {C:World->Prop} {d:Bool} {T:Nat->Prop} {w:World} (hC:∀ W,C W↔Move d T w W) {p:Addr} {v:Option Value} (hs:p.block<w.heap.size) (ht:¬T p.block) (h:w.cell? p=v):∀ W: {W//C W},W.1.cell? p=v:=fun W=>
 (((hC W.1).1 W.2).keeps.cell ⟨hs,ht⟩).trans h
theorem aK {P:Program} {f:FuncId} {args:Array Value} {w:World} {R:Ending->World->Prop} (h:∀ W,W=w->Calls P f args W R):Calls P f args w R:=h w rfl
end
section
open Go Go.RowKit Go.Shelf Go.Maps
theorem ae.setRow {R:Nat->Prop} {A B:World} (h:ae R A B) {g:Nat} (hp:¬R g) (c:Array Value):ae R A (B.setRow g c):=
 ⟨h.os,h.tape,h.output,Nat.le_trans h.size (by simp),fun k hk=>(setRow_other B g k c (fun e=>hp (e▸hk))).trans (h.keep k hk)⟩
end
section
open Go Go.RowKit
section
variable {P:Program}
theorem jv (w:World) (base:Nat) (t ty e:TypeId) (i:TypeInfo) (z:Value) (size bytes:Nat) (ht:P.underlying t=some (.slice e)) (hi:P.info? e=some i) (hz:i.zero=some z) (hsize:i.size=size) (hby:i.bytes=bytes) (hzs:z.cells.size=size) (hsz:0<size) (v:Value) (n:Nat) (xs:List Value) (hown:w.ownsRow base e size v n xs) (a:Addr) (m c:Nat) (news:List Value) (hl:news.length=m*size) (hnews:∀ j u,news[j]? =some u->w.cell? (a.add j)=some u) (h1:∀ u∈news,u.oneCell'=true) (h63:n+m<=maxLen) (hbytes:(n+m)*bytes<=140737488355328) (hbase:base<=w.heap.size) (hm:0<m): ∃ v' w',(Builtin.append_ #[t,t] ty #[v,.slice (some a) m c]).run P w=.ok v' w'/\w'.ownsRow base e size v' (n+m) (xs++news)/\ ((∃ g cap cur,v=.slice (some ⟨g,0,none⟩) n cap/\w.heap[g]? =some (.cells cur e (0,0))/\cur.size=cap*size/\n+m<=cap/\v'=.slice (some ⟨g,0,none⟩) (n+m) cap/\ w'=w.setRow g (cur.toList.take (n*size)++news++cur.toList.drop (n*size+news.length)).toArray)\/(aa w w'/\v'.ownBlock=some w.heap.size)):=by
 obtain⟨v',w',hr,ho,hg,_,hb⟩:=run_append_own_at (P:=P) w base t ty e i z size bytes ht hi hz hsize hby hzs hsz v n xs hown a m c news hl hnews h1 h63 hbytes hbase
 have far:∀ g,v.ownBlock=some g->v'.ownBlock=some w.heap.size->w'.heap[g]? =w.heap[g]? ->aa w w':=fun g e1 _ e2=>⟨hg.os,hg.tape,hg.output,hg.size,fun k hk=>by
  by_cases e:k=g
  ·subst e;exact e2
  ·exact hg.block k hk (by rw[e1];intro h;exact e (Option.some.inj h))⟩
 subst hsize;subst hby;have hown':=hown;rcases hown.2 with⟨rfl,rfl⟩ | ⟨g,cap,cur,rfl,hbg,Uu,hnc,hcm,hcs,htake⟩
 ·refine⟨v',w',hr,ho,.inr ⟨⟨hg.os,hg.tape,hg.output,hg.size,fun k hk=>hg.block k hk (by simp[Value.ownBlock])⟩,?_⟩⟩
  rcases hb with hb | hb
  ·exfalso
   rcases ho.2 with⟨_,h⟩ | ⟨g,c,cur,h,_⟩
   ·omega
   ·rw[h]at hb;simp[Value.ownBlock]at hb
  ·exact hb
 ·by_cases hroom:n+m<=cap
  ·have Di:n*i.size+news.length<=cur.size:=by rw[hl,hcs, <-Nat.add_mul];exact Nat.mul_le_mul_right _ hroom
   have hr2:=run_append_room (P:=P) w t ty e i ht hi g n cap cur Uu a m c news hl hnews h1 hroom Di;rw[hr]at hr2;cases hr2;exact⟨_,_,hr,ho,.inl ⟨g,cap,cur,rfl,Uu,hcs,hroom,rfl,rfl⟩⟩
  ·have holds:∀ j u,xs[j]? =some u->w.cell? ((⟨g,0,none⟩:Addr).add j)=some u:=hown'.cells (g:=g) rfl
   have hr2:=run_append_grow (P:=P) w t ty e i z ht hi hz ⟨g,0,none⟩ n cap xs hown'.1 holds a m c news hl hnews (by omega) (by unfold maxLen at h63;omega) (growslice_fits (by omega) hbytes);rw[hr]at hr2;rw[Result.ok.injEq]at hr2;obtain⟨hv,e2⟩:=hr2;have hw:w'.heap[g]? =w.heap[g]? :=by rw[e2];exact heap_alloc_old w.drew _ (Array.getElem?_eq_some_iff.1 Uu).1
   exact⟨v',w',hr,ho,.inr ⟨far g rfl (by rw[hv];rfl) hw,by rw[hv];rfl⟩⟩
end
structure App where
 e:TypeId
 size:Nat
 v:Value
 n:Nat
 xs:List Value
 m:Nat
 news:List Value
def After (base:Nat) (w0:World) (p:App) (W:World) (v:Value):Prop:=
 W.ownsRow base p.e p.size v (p.n+p.m) (p.xs++p.news)/\(v.ownBlock=p.v.ownBlock\/∀ x,v.ownBlock=some x->w0.heap.size<=x)
structure bX (base:Nat) (w0:World) (PL:List App) (A B:World):Prop where
 keeps:ae (fun x=>x<A.heap.size/\¬ ∃ p∈PL,p.v.ownBlock=some x) A B
 old:∀ p∈PL,A.ownsRow base p.e p.size p.v p.n p.xs->B.ownsRow base p.e p.size p.v p.n p.xs
 new:∀ p∈PL,∀ v,After base w0 p A v->After base w0 p B v
section
variable {base:Nat} {w0:World} {PL:List App} {A B C:World}
theorem bX.trans (h:bX base w0 PL A B) (k:bX base w0 PL B C):bX base w0 PL A C:=
 ⟨h.keeps.trans k.keeps fun _ hx=>⟨aw hx.1 h.keeps.size,hx.2⟩,fun p hp ho=>k.old p hp (h.old p hp ho),fun p hp v hv=>k.new p hp v (h.new p hp v hv)⟩
theorem bX.below (h:aa A B):bX base w0 PL A B:=
 ⟨ae.ai h fun _ hx=>hx.1,fun _ _ ho=>ownsRow_keepsA ho h,fun _ _ _ hv=>⟨ownsRow_keepsA hv.1 h,hv.2⟩⟩
where
 ownsRow_keepsA {W W':World} {b:Nat} {e:TypeId} {size:Nat} {v:Value} {n:Nat} {xs:List Value} (h:W.ownsRow b e size v n xs) (hk:aa W W'):W'.ownsRow b e size v n xs:=
  au h (ae.ai hk (R:=(· <W.heap.size)) fun _ h=>h) fun k e=>(h.lt k e).2
theorem bX.drew:bX base w0 PL A A.drew:=.below (Ext.refl A).drew.below
theorem bX.size (h:bX base w0 PL A B):A.heap.size<=B.heap.size:=h.keeps.size
def kI (w0:World) (PL:List App):Prop:=(∀ p∈PL,∀ x,p.v.ownBlock=some x->x<w0.heap.size)/\∀ (i j:Nat) (p q:App),PL[i]? =some p->PL[j]? =some q->i≠j->p.v.ownBlock=none\/p.v.ownBlock≠q.v.ownBlock
theorem bX.room (ok:kI w0 PL) {i:Nat} {p:App} (hi:PL[i]? =some p) {g cap:Nat} {cur:Array Value} (hv:p.v=.slice (some ⟨g,0,none⟩) p.n cap) (ho:A.ownsRow base p.e p.size p.v p.n p.xs) (hg:A.heap[g]? =some (.cells cur p.e (0,0))) (hl:p.news.length=p.m*p.size) (hcs:cur.size=cap*p.size) (hroom:p.n+p.m<=cap):bX base w0 PL A (A.setRow g (cur.toList.take (p.n*p.size)++p.news++cur.toList.drop (p.n*p.size+p.news.length)).toArray):=by
 have NS:=aA hi;have Sk:p.v.ownBlock=some g:=by rw[hv];rfl
 have hgw:g<w0.heap.size:=ok.1 p NS g Sk;have YJ:∀ c,ae (· ≠g) A (A.setRow g c):=fun c=>(ae.refl _ _).setRow (fun h=>h rfl) c
 have Di:p.n*p.size+p.news.length<=cur.size:=by rw[hl,hcs, <-Nat.add_mul];exact Nat.mul_le_mul_right _ hroom
 have dT:cur.toList.take (p.n*p.size)=p.xs:=by
  rcases ho.2 with⟨h,_⟩ | ⟨g',cap',cur',h,_,II,_,_,_,ht⟩
  ·rw[hv]at h;cases h
  ·rw[hv]at h
   cases h
   rw[hg]at II;cases II;exact ht
 have hlx:p.xs.length=p.n*p.size:=ho.1;generalize hc:(cur.toList.take (p.n*p.size)++p.news++cur.toList.drop (p.n*p.size+p.news.length)).toArray=c;have oG:c.toList=p.xs++p.news++cur.toList.drop (p.n*p.size+p.news.length):=by rw[<-hc,dT]
 have Mu:c.size=cur.size:=by rw[<-Array.length_toList,oG,aQ,aQ,List.length_drop,Array.length_toList];omega
 have Uu:(A.setRow g c).heap[g]? =some (.cells c p.e (0,0)):=setRow_heap A g cur c p.e _ hg;have far:∀ {e:TypeId} {size:Nat} {v:Value} {n:Nat} {xs:List Value},A.ownsRow base e size v n xs->v.ownBlock≠some g->(A.setRow g c).ownsRow base e size v n xs:=fun h hne=>
  au h (YJ c) fun k e e'=>hne (by rw[e,e'])
 have Sl:∀ {k cap':Nat} {xs:List Value},A.ownsRow base p.e p.size (.slice (some ⟨g,0,none⟩) k cap') k xs->c.toList.take (k*p.size)=xs->(A.setRow g c).ownsRow base p.e p.size (.slice (some ⟨g,0,none⟩) k cap') k xs:=fun {k cap' xs} h ht=>by
  rcases h.2 with⟨h',_⟩ | ⟨g',c',cur',h',hb,II,h1,h2,h3,_⟩
  ·cases h'
  ·cases h'
   rw[hg]at II;cases II;exact⟨h.1,.inr ⟨g,cap',c,rfl,hb,Uu,h1,h2,by rw[Mu];exact h3,ht⟩⟩
 refine⟨(YJ c).mono fun x hx e=>hx.2 ⟨p,NS,by rw[Sk,e]⟩,fun q hq VT=>?_,fun q hq v Uv=>?_⟩
 ·obtain⟨j,hj⟩:=List.getElem?_of_mem hq
  by_cases e:j=i
  ·subst e
   rw[hi]at hj;cases hj;rw[hv]at VT ⊢;exact Sl VT (by rw[oG,List.append_assoc, <-hlx];exact List.take_left)
  ·refine far VT fun h=>?_
   rcases ok.2 j i q p hj hi e with h' | h'
   ·rw[h']at h;cases h
   ·exact h' (by rw[h,Sk])
 ·obtain⟨j,hj⟩:=List.getElem?_of_mem hq
  refine⟨?_,Uv.2⟩;by_cases e:j=i
  ·subst e
   rw[hi]at hj;cases hj;by_cases eb:v.ownBlock=some g
   ·rcases Uv.1.2 with⟨h',_⟩ | ⟨g',c',cur',h',_⟩
    ·rw[h']at eb;cases eb
    ·subst h'
     have:g'=g:=by simpa[Value.ownBlock]using eb
     subst this;refine Sl Uv.1 ?_;rw[oG,Nat.add_mul, <-hlx, <-hl, <-aQ];exact List.take_left
   ·exact far Uv.1 eb
  ·refine far Uv.1 fun h=>?_
   rcases Uv.2 with h2 | h2
   ·rcases ok.2 j i q p hj hi e with h' | h'
    ·rw[h2,h']at h;cases h
    ·exact h' (by rw[<-h2,h,Sk])
   ·have:=h2 g h;omega
theorem dL {P:Program} {Cl:FuncId->Array Value->World->(Ending->World->Prop)->Prop} {Rd:Nat->FuncId->Array Value->Code->Code->World->(Ending->World->Prop)->Prop} {o:Oper} {a:Act} {W:World} {post:Value->World->Prop} (s x:Operand) (t:TypeId) (ho:o.op=.call {callee:=.builtin .append,args:= #[s,x],argTypes:= #[t,t]}) (i:TypeInfo) (z:Value) (bytes:Nat) {p:App} (ht:P.underlying t=some (.slice p.e)) (hi:P.info? p.e=some i) (hz:i.zero=some z) (hsize:i.size=p.size) (hby:i.bytes=bytes) (hzs:z.cells.size=p.size) (hsz:0<p.size) (ok:kI w0 PL) {k:Nat} (hk:PL[k]? =some p) (hs:a.eval s=p.v) (hown:W.ownsRow base p.e p.size p.v p.n p.xs) (ad:Addr) (c:Nat) (hx:a.eval x=.slice (some ad) p.m c) (hl:p.news.length=p.m*p.size) (hnews:∀ j u,p.news[j]? =some u->W.cell? (ad.add j)=some u) (h1:∀ u∈p.news,u.oneCell'=true) (h63:p.n+p.m<=maxLen) (hbytes:(p.n+p.m)*bytes<=140737488355328) (hbase:base<=W.heap.size) (hm:0<p.m) (hw0:w0.heap.size<=W.heap.size) (h:∀ v W',bX base w0 PL W W'->(∃ a c,v=.slice a (p.n+p.m) c)->After base w0 p W' v->(v.ownBlock=p.v.ownBlock\/v.ownBlock=some W.heap.size)->post v W'): jo Cl Rd post ((execOp a.eval o).run P W):=by
 obtain⟨v',w',hr,h2,h3⟩:=jv (P:=P) W base t o.type p.e i z p.size bytes ht hi hz hsize hby hzs hsz p.v p.n p.xs hown ad p.m c p.news hl hnews h1 h63 hbytes hbase hm;unfold execOp;simp only[ho,resolve,invoke,builtin,Sem.run_bind,Sem.run_pure,Result.andThen_ok,List.map_toArray,List.map_cons,List.map_nil,hs,hx,hr];show post v' w';refine h v' w' ?_ (ownsRow_form h2) ⟨h2,?_⟩ ?_
 ·rcases h3 with⟨g,cap,cur,e1,e2,e3,e4,e5,rfl⟩ | ⟨hb,_⟩
  ·exact bX.room ok hk e1 hown e2 hl e3 e4
  ·exact .below hb
 ·rcases h3 with⟨g,cap,cur,e1,e2,e3,e4,e5,rfl⟩ | ⟨hb,e⟩
  ·left;rw[e5,e1];rfl
  ·right;intro y hy;rw[e]at hy;cases hy;exact hw0
 ·rcases h3 with⟨g,cap,cur,e1,e2,e3,e4,e5,rfl⟩ | ⟨hb,e⟩
  ·left;rw[e5,e1];rfl
  ·right;exact e
end
def oJ (v y:Value):Prop:=v.ownBlock=none\/v.ownBlock≠y.ownBlock
namespace RegG
def aR.app (base:Nat) (w0:World) (PL:List App) (p:App) (hp:p∈PL):aR (bX base w0 PL) where
 P:=fun v=>∃ a c,v=.slice a (p.n+p.m) c
 H:=fun _ v W=>After base w0 p W v
 mo:=.slice none (p.n+p.m) 0
 pw:=⟨none,0,rfl⟩
 st:=fun _ v _ _ hm _ h=>hm.new p hp v h
def aR.vg (base:Nat) (w0:World) (PL:List App) (p:App) (hp:p∈PL):aR (bX base w0 PL) where
 P:=fun v=>∃ a c,v=.slice a (p.n+p.m) c
 H:=fun y v W=>After base w0 p W v/\(v.ownBlock=p.v.ownBlock\/oJ v y)
 mo:=.slice none (p.n+p.m) 0
 pw:=⟨none,0,rfl⟩
 st:=fun _ v _ _ hm _ h=>⟨hm.new p hp v h.1,h.2⟩
def aR.rN (base:Nat) (w0:World) (PL:List App) (n:Nat) (cs:Array Value) (t:TypeId):aR (bX base w0 PL) where
 P:=fun v=>∃ b,v=.slice (some ⟨b,0,none⟩) n n
 H:=fun _ v W=>∀ b,v=.slice (some ⟨b,0,none⟩) n n->(aq W b cs t/\¬ ∃ p∈PL,p.v.ownBlock=some b)
 mo:=.slice (some ⟨0,0,none⟩) n n
 pw:=⟨_,rfl⟩
 st:=fun _ _ _ _ hm _ h b e=>⟨(h b e).1.keeps hm.keeps ⟨(h b e).1.lt,(h b e).2⟩,(h b e).2⟩
end RegG
theorem kI.fresh {w0:World} {PL:List App} (ok:kI w0 PL) {b:Nat} (h:w0.heap.size<=b):¬ ∃ p∈PL,p.v.ownBlock=some b:=fun ⟨p,hp,e⟩=>by
 have:=ok.1 p hp b e;omega
end
section
open Go Go.RowKit
theorem vh {w:World} {base:Nat} {e:TypeId} {size g n m cap:Nat} {xs ys:List Value} (hx:xs.length=n*size) (h:w.ownsRow base e size (.slice (some ⟨g,0,none⟩) (n+m) cap) (n+m) (xs++ys)):w.ownsRow base e size (.slice (some ⟨g,0,none⟩) n cap) n xs:=by
 rcases h.2 with⟨h1,_⟩ | ⟨g',c',cur,h1,h2,h3,h4,h5,h6,h7⟩
 ·cases h1
 ·cases h1
  refine⟨hx,.inr ⟨g,cap,cur,rfl,h2,h3,by omega,h5,h6,?_⟩⟩;have:=congrArg (List.take (n*size)) h7;rw[List.take_take,Nat.min_eq_left (Nat.mul_le_mul_right _ (Nat.le_add_right n m)),List.take_left' hx]at this;exact this
theorem lA {w:World} {b1 b2:Nat} {e:TypeId} {size n1 n2 g:Nat} {v1 v2:Value} {x1 x2:List Value} (hs:0<size) (h1:w.ownsRow b1 e size v1 n1 x1) (h2:w.ownsRow b2 e size v2 n2 x2) (e1:v1.ownBlock=some g) (e2:v2.ownBlock=some g): ∃ cap,v1=.slice (some ⟨g,0,none⟩) n1 cap/\v2=.slice (some ⟨g,0,none⟩) n2 cap/\n1<=cap/\n2<=cap:=by
 rcases h1.2 with⟨rfl,_⟩ | ⟨g1,c1,cur1,rfl,_,f1,k1,_,s1,_⟩
 ·cases e1
 ·rcases h2.2 with⟨rfl,_⟩ | ⟨g2,c2,cur2,rfl,_,f2,k2,_,s2,_⟩
  ·cases e2
  ·have a1:g1=g:=by simpa[Value.ownBlock]using e1
   have a2:g2=g:=by simpa[Value.ownBlock]using e2
   subst a1;subst a2;rw[f1]at f2;cases f2;have:c1=c2:=Nat.eq_of_mul_eq_mul_right hs (by omega);subst this;exact⟨c1,rfl,rfl,k1,k2⟩
end
section
open Go Go.RowKit Go.Shelf Go.Maps
theorem vk:∀ (p q:List Nat),p.Pairwise (· < ·)->q.Pairwise (· < ·)->(∀ x,x∈p↔x∈q)->p=q
 | [],q,_,_,h=>by
  cases q with
  | nil=>rfl
  | cons y q=>have:=(h y).2 (by simp);simp at this
 | x::p,q,hp,hq,h=>by
  cases q with
  | nil=>have:=(h x).1 (by simp);simp at this
  | cons y q=>
   rw[List.pairwise_cons]at hp hq;have hxy:x=y:=by
    have h1:=(h x).1 (by simp);have h2:=(h y).2 (by simp);rcases List.mem_cons.1 h1 with e | h1
    ·exact e
    ·rcases List.mem_cons.1 h2 with e | h2
     ·exact e.symm
     ·have a:=hq.1 x h1;have b:=hp.1 y h2;omega
   subst hxy;congr 1;refine vk p q hp.2 hq.2 fun z=>?_
   have hz:=h z;simp only[List.mem_cons]at hz;constructor
   ·intro hzp
    rcases hz.1 (.inr hzp)with e | h1
    ·subst e;have:=hp.1 z hzp;omega
    ·exact h1
   ·intro hzq
    rcases hz.2 (.inr hzq)with e | h1
    ·subst e;have:=hq.1 z hzq;omega
    ·exact h1
def aR.box (n:Nat) (cs:Array Value) (t:TypeId):aR (Move false (fun _=>False)) where
 P:=fun v=>∃ b,v=.slice (some ⟨b,0,none⟩) n n
 H:=fun v W=>∀ b,v=.slice (some ⟨b,0,none⟩) n n->aq W b cs t
 mo:=.slice (some ⟨0,0,none⟩) n n
 pw:=⟨0,rfl⟩
 st:=fun _ _ _ hm _ h b hb=>(h b hb).below hm.below (h b hb).lt
end
section
open Go Go.RowKit
structure DF where
 cl:List BS
 nx:List (List Int)
 mr:List (List Int)
def mR (l:List Int) (k:Nat):Int:=if k=0 then-1 else l.getD (k-1) 0
def sW (l:List Int) (k:Nat):Bool:=decide (mR l k<l.getD k 0)&&decide (l.getD k 0<=255)
def mS (l:List Int):Bool:=(List.range l.length).all (sW l)
def Rk (n:Nat) (t:Int):Bool:=decide (0<=t)&&decide (t<n)
def DF.oq (d:DF) (s:Nat):Bool:=decide ((d.nx.getD s []).length=d.cl.length)&&(d.nx.getD s []).all (Rk d.nx.length)&&mS (d.mr.getD s [])
def DF.right (d:DF):Bool:=decide (1<=d.nx.length)&&decide (d.nx.length<=4000)&&decide (d.mr.length=d.nx.length)&&(partsOf d.cl==d.cl)&&(List.range d.nx.length).all d.oq
structure Rt (d:DF):Prop where
 pos:1<=d.nx.length
 le:d.nx.length<=4000
 mr:d.mr.length=d.nx.length
 cl:partsOf d.cl=d.cl
 len:∀ s,s<d.nx.length->(d.nx.getD s []).length=d.cl.length
 kJ:∀ s,s<d.nx.length->∀ t∈d.nx.getD s [],0<=t/\t<d.nx.length
 ris:∀ s,s<d.nx.length->mS (d.mr.getD s [])=true
theorem aP (d:DF):d.right=true↔Rt d:=by
 unfold DF.right DF.oq Rk;simp only[Bool.and_eq_true,decide_eq_true_eq,beq_iff_eq,List.all_eq_true,List.mem_range];constructor
 ·rintro⟨⟨⟨⟨h1,h2⟩,h3⟩,h4⟩,h5⟩
  exact⟨h1,h2,h3,h4,fun s hs=>(h5 s hs).1.1,fun s hs t ht=>(h5 s hs).1.2 t ht,fun s hs=>(h5 s hs).2⟩
 ·intro h
  exact⟨⟨⟨⟨h.pos,h.le⟩,h.mr⟩,h.cl⟩,fun s hs=>⟨⟨h.len s hs,h.kJ s hs⟩,h.ris s hs⟩⟩
theorem Rt.part {d:DF} (h:Rt d):cT d.cl (Alike d.cl):=by have:=cT.qD d.cl;rwa[h.cl]at this
theorem Rt.qE {d:DF} (h:Rt d):0<d.cl.length:=by have:=sV d.cl;rwa[h.cl]at this
theorem Rt.Sn {d:DF} (h:Rt d):d.cl.length<=256:=by
 have:(partsOf d.cl).length<=256:=by rw[(eA d.cl).length_eq];exact dK d.cl
 rwa[h.cl]at this
def jh (d:DF) (s k:Nat):Nat:=((d.nx.getD s []).getD k 0).toNat
def acc (d:DF) (s:Nat):Bool:= !(d.mr.getD s []).isEmpty
theorem getD_some {α:Type} {l:List α} {i:Nat} {x d:α} (h:l[i]? =some x):l.getD i d=x:=by rw[cq,h];rfl
theorem bB {α:Type} {l:List α} {i:Nat} (d:α) (h:i<l.length):l[i]? =some (l.getD i d):=by rw[cq,aC h];rfl
theorem Rt.gM {d:DF} (h:Rt d) {s k:Nat} (hs:s<d.nx.length) (hk:k<d.cl.length):jh d s k<d.nx.length:=by have h1:=h.len s hs;have h2:=h.kJ s hs _ (aA (bB (l:=d.nx.getD s []) 0 (i:=k) (by omega)));unfold jh;omega
theorem Rt.vn {d:DF} (h:Rt d) {s k:Nat} (hs:s<d.nx.length) (hk:k<d.cl.length):(d.nx.getD s [])[k]? =some ((jh d s k:Nat):Int):=by have h1:=h.len s hs;rw[bB (l:=d.nx.getD s []) 0 (i:=k) (by omega)];have h2:=h.kJ s hs _ (aA (bB (l:=d.nx.getD s []) 0 (i:=k) (by omega)));unfold jh;rw[Int.toNat_of_nonneg h2.1]
/-! The states of a product, found one by one. -/
section
variable {α:Type} [DecidableEq α]
def lB (fuel:Nat) (st:List α×List Nat) (q:α):Option (List α×List Nat):=
 if st.1.idxOf q=st.1.length then(if st.1.length=fuel then none else some (st.1++ [q],st.2++ [st.1.length]))else some (st.1,st.2++ [st.1.idxOf q])
def dr (fuel:Nat) (g:Nat->α) (todo:List α):Nat->Option (List α×List Nat)
 | 0=>some (todo,[])
 | k+1=>(dr fuel g todo k).bind fun st=>lB fuel st (g k)
def fK (fuel:Nat) (f:α->Nat->α) (K:Nat) (n:Nat) (st:List α×List (List Nat)):Option (List α×List (List Nat)):=
 match st.1[n]? with
 | none=>some st
 | some p=>(dr fuel (f p) st.1 K).map fun r=>(r.1,st.2++ [r.2])
def dQ (fuel:Nat) (f:α->Nat->α) (K:Nat) (p0:α):Nat->Option (List α×List (List Nat))
 | 0=>some ([p0],[])
 | n+1=>(dQ fuel f K p0 n).bind (fK fuel f K n)
theorem vo {fuel:Nat} {g:Nat->α} {todo:List α} {k:Nat} (h:dr fuel g todo k=none):∀ j,k<=j->dr fuel g todo j=none:=by
 intro j hj;induction j with
 | zero=>rwa[show k=0 by omega]at h
 | succ j ih=>
  by_cases e:k=j+1
  ·rwa[<-e]
  ·rw[dr,ih (by omega)];rfl
theorem nK {fuel:Nat} {f:α->Nat->α} {K:Nat} {p0:α} {n:Nat} (h:dQ fuel f K p0 n=none):∀ j,n<=j->dQ fuel f K p0 j=none:=by
 intro j hj;induction j with
 | zero=>rwa[show n=0 by omega]at h
 | succ j ih=>
  by_cases e:n=j+1
  ·rwa[<-e]
  ·rw[dQ,ih (by omega)];rfl
theorem jw {fuel:Nat} {f:α->Nat->α} {K:Nat} {p0:α} {n:Nat} {st:List α×List (List Nat)} (h:dQ fuel f K p0 n=some st) (hn:st.1.length<=n):∀ j,n<=j->dQ fuel f K p0 j=some st:=by
 intro j hj;induction j with
 | zero=>rwa[show n=0 by omega]at h
 | succ j ih=>
  by_cases e:n=j+1
  ·rwa[<-e]
  ·rw[dQ,ih (by omega)]
   show fK fuel f K j st=some st;unfold fK;rw[dD (by omega)]
structure NT (fuel:Nat) (P:α->Prop) (t0:List α) (k:Nat) (st:List α×List Nat):Prop where
 pre:t0<+:st.1
 nodup:st.1.Nodup
 le:st.1.length<=fuel
 all:∀ p∈st.1,P p
 len:st.2.length=k
 kJ:∀ t∈st.2,t<st.1.length
theorem Sq {fuel:Nat} {P:α->Prop} {t0:List α} {k:Nat} {st kK:List α×List Nat} {q:α} (h:NT fuel P t0 k st) (hq:P q) (ha:lB fuel st q=some kK):NT fuel P t0 (k+1) kK:=by
 unfold lB at ha;split at ha
 ·rename_i he
  split at ha
  ·cases ha
  ·rename_i hf
   cases ha
   have hn:q∉st.1:=fun hm=>by have:=List.idxOf_lt_length_of_mem hm;omega
   exact⟨h.pre.trans (List.prefix_append _ _),by
     rw[List.nodup_append];exact⟨h.nodup,by simp,fun a ha b hb e=>by simp at hb;subst hb;subst e;exact hn ha⟩,
    by have:=h.le;simp;omega,fun p hp=>by
     rcases List.mem_append.1 hp with hp | hp
     ·exact h.all p hp
     ·simp at hp;subst hp;exact hq,
    by simp[h.len],fun t ht=>by
     rcases List.mem_append.1 ht with ht | ht
     ·have:=h.kJ t ht;simp;omega
     ·simp at ht;simp;omega⟩
 ·rename_i he
  cases ha
  have hlt:st.1.idxOf q<st.1.length:=by have:=List.idxOf_le_length (a:=q) (l:=st.1);omega
  exact⟨h.pre,h.nodup,h.le,h.all,by simp[h.len],fun t ht=>by
   rcases List.mem_append.1 ht with ht | ht
   ·exact h.kJ t ht
   ·simp at ht;subst ht;exact hlt⟩
theorem mU {fuel:Nat} {P:α->Prop} {g:Nat->α} {todo:List α} (hn:todo.Nodup) (hl:todo.length<=fuel) (hp:∀ p∈todo,P p):∀ (k:Nat) {st:List α×List Nat},(∀ j,j<k->P (g j))->dr fuel g todo k=some st->NT fuel P todo k st
 | 0,st,_,h=>by
  cases h
  exact⟨List.prefix_refl _,hn,hl,hp,rfl,fun t ht=>by cases ht⟩
 | k+1,st,hg,h=>by
  rw[dr]at h;obtain⟨s1,h1,h2⟩:=Option.bind_eq_some_iff.1 h;exact Sq (mU hn hl hp k (fun j hj=>hg j (by omega)) h1) (hg k (by omega)) h2
structure NU (fuel K:Nat) (P:α->Prop) (p0:α) (n:Nat) (st:List α×List (List Nat)):Prop where
 head:st.1[0]? =some p0
 nodup:st.1.Nodup
 le:st.1.length<=fuel
 all:∀ p∈st.1,P p
 len:st.2.length=min n st.1.length
 rows:∀ r∈st.2,r.length=K/\∀ t∈r,t<st.1.length
theorem nL {fuel K:Nat} {P:α->Prop} {f:α->Nat->α} {p0:α} (hf:1<=fuel) (h0:P p0) (hP:∀ p k,P p->k<K->P (f p k)):∀ (n:Nat) {st:List α×List (List Nat)},dQ fuel f K p0 n=some st->NU fuel K P p0 n st
 | 0,st,h=>by
  cases h
  exact⟨rfl,by simp,by simpa using hf,by simpa using h0,by simp,fun r hr=>by cases hr⟩
 | n+1,st,h=>by
  rw[dQ]at h;obtain⟨s1,h1,h2⟩:=Option.bind_eq_some_iff.1 h;have I:=nL hf h0 hP n h1;unfold fK at h2;split at h2
  ·rename_i he
   have e:=Option.some.inj h2;subst e;have hl:s1.1.length<=n:=by simpa using he
   exact⟨I.head,I.nodup,I.le,I.all,by have:=I.len;omega,I.rows⟩
  ·rename_i p he
   obtain⟨r,h3,rfl⟩:=Option.map_eq_some_iff.1 h2;have hlt:n<s1.1.length:=(List.getElem?_eq_some_iff.1 he).1;have R:=mU (P:=P) I.nodup I.le I.all K (fun j hj=>hP p j (I.all p (aA he)) hj) h3;obtain⟨ys,JV⟩:=R.pre;have Um:s1.1.length<=r.1.length:=by rw[<-JV];simp
   refine⟨?_,R.nodup,R.le,R.all,?_,?_⟩
   ·show r.1[0]? =some p0
    rw[<-JV,bJ (by omega)];exact I.head
   ·have:=I.len
    simp only[aQ,List.length_cons,List.length_nil];omega
   ·intro x hx
    rcases List.mem_append.1 hx with hx | hx
    ·exact⟨(I.rows x hx).1,fun t ht=>by have:=(I.rows x hx).2 t ht;show t<r.1.length;omega⟩
    ·simp at hx;subst hx;exact⟨R.len,R.kJ⟩
end
def NV (op:Int) (a b:Bool):Bool:=if op=1 then a&&b else if op=2 then a || b else if op=3 then a&& !b else a != b
def lb (p:List BS) (k:Nat):Nat:=(aZ (p.getD k 0)).1
def l6 (a b:DF) (p:Nat×Nat) (k:Nat):Nat×Nat:=
 (jh a p.1 (cls a.cl (lb (partsOf (a.cl++b.cl)) k)),jh b p.2 (cls b.cl (lb (partsOf (a.cl++b.cl)) k)))
def eB (a b:DF) (op:Int) (p:Nat×Nat):List Int:=if NV op (acc a p.1) (acc b p.2)then [0]else []
def fT (a b:DF) (op:Int) (fuel:Nat):Option DF:=
 (dQ fuel (l6 a b) (partsOf (a.cl++b.cl)).length (0,0) fuel).map fun st=>⟨partsOf (a.cl++b.cl),st.2.map fun r=>r.map Int.ofNat,st.1.map (eB a b op)⟩
theorem cT.kj {p:List BS} {R:Nat->Nat->Prop} (h:cT p R) {c:Nat} (hc:c<256):cls p c<p.length:=by obtain⟨q,hq,_⟩:=(h.lz hc).1 rfl;exact(List.getElem?_eq_some_iff.1 hq).1
theorem Dj {l:List BS} {k:Nat} (hk:k<(partsOf l).length):lb (partsOf l) k<256:=by have h1:=bB (l:=partsOf l) 0 hk;exact(gj (il l (aA h1))).2.1
theorem l7 (l:List BS):partsOf (partsOf l)=partsOf l:=
 cT.uniq (cT.qD (partsOf l)) (cT.qD l) fun _ _ hc hd=>(cT.qD l).JU hc hd
def iH (a b:DF) (p:Nat×Nat):Prop:=p.1<a.nx.length/\p.2<b.nx.length
theorem Dk {a b:DF} (ha:Rt a) (hb:Rt b) (p:Nat×Nat) (k:Nat) (hp:iH a b p) (hk:k<(partsOf (a.cl++b.cl)).length):iH a b (l6 a b p k):=
 ⟨ha.gM hp.1 (ha.part.kj (Dj hk)),hb.gM hp.2 (hb.part.kj (Dj hk))⟩
theorem JW:mS [0]=true:=by decide
theorem NW:mS []=true:=rfl
theorem qF {a b:DF} (ha:Rt a) (hb:Rt b) {fuel n:Nat} (hf:1<=fuel) {st:List (Nat×Nat)×List (List Nat)} (h:dQ fuel (l6 a b) (partsOf (a.cl++b.cl)).length (0,0) n=some st):NU fuel (partsOf (a.cl++b.cl)).length (iH a b) (0,0) n st:=
 nL hf ⟨ha.pos,hb.pos⟩ (fun p k hp hk=>Dk ha hb p k hp hk) n h
theorem vq {a b d:DF} (ha:Rt a) (hb:Rt b) {op:Int} {fuel:Nat} (hf:1<=fuel) (hf2:fuel<=4000) (h:fT a b op fuel=some d):Rt d:=by
 unfold fT at h;obtain⟨st,h1,rfl⟩:=Option.map_eq_some_iff.1 h;have I:=qF ha hb hf h1;have hlen:st.2.length=st.1.length:=by have:=I.len;have:=I.le;omega
 have hrow:∀ s,s<st.2.length->((st.2.map fun r=>r.map Int.ofNat).getD s [])=(st.2.getD s []).map Int.ofNat/\(st.2.getD s [])∈st.2:=fun s hs=>by
  have e:=bB (l:=st.2) [] hs;refine⟨?_,aA e⟩;rw[cq,bH,e];rfl
 refine⟨?_,?_,?_,l7 _,?_,?_,?_⟩
 ·show 1<=(st.2.map fun r=>r.map Int.ofNat).length
  have:=(List.getElem?_eq_some_iff.1 I.head).1;simp;omega
 ·show(st.2.map fun r=>r.map Int.ofNat).length<=4000
  have:=I.le;simp;omega
 ·simp[hlen]
 ·intro s hs
  rw[bp]at hs;obtain⟨e,hm⟩:=hrow s hs;show((st.2.map fun r=>r.map Int.ofNat).getD s []).length=_;rw[e,bp];exact(I.rows _ hm).1
 ·intro s hs t ht
  rw[bp]at hs;obtain⟨e,hm⟩:=hrow s hs;replace ht:t∈((st.2.map fun r=>r.map Int.ofNat).getD s []):=ht;rw[e]at ht;obtain⟨u,hu,rfl⟩:=List.mem_map.1 ht;have:=(I.rows _ hm).2 u hu;show 0<=Int.ofNat u/\Int.ofNat u<((st.2.map fun r=>r.map Int.ofNat).length:Int);rw[bp];simp;omega
 ·intro s hs
  rw[bp]at hs;show mS ((st.1.map (eB a b op)).getD s [])=true;rw[cq,bH,bB (l:=st.1) (0,0) (by omega)];show mS (eB a b op _)=true;unfold eB;split
  ·exact JW
  ·exact NW
end
section
open Go Go.RowKit Go.Shelf Go.Maps
def mV {α:Type} (enc:α->Value) (w:World) (v:Value) (l:List α):Prop:=cR enc w v l\/(l=[]/\∃ a:Addr,v=.slice (some a) 0 0)
theorem mV.below {α:Type} {enc:α->Value} {w w':World} {v:Value} {l:List α} (h:mV enc w v l) (hk:aa w w'):mV enc w' v l:=h.imp (fun h=>h.below hk) id
theorem mV.form {α:Type} {enc:α->Value} {w:World} {v:Value} {l:List α} (h:mV enc w v l):∃ a cap,v=.slice a l.length cap:=by
 rcases h with h | ⟨rfl,a,rfl⟩
 ·exact h.form
 ·exact⟨_,_,rfl⟩
structure Sp where
 H:World->Prop
 st:∀ W W':World,aa W W'->H W->H W'
section
variable {L:List Sp} {W:World}
end
theorem Tryz.yD:(Tryz.prog.info? 51).map (fun i=>(i.zero,i.size,i.bytes))=some (some (.slice none 0 0),1,24):=by kernel_rfl
def lC (w:World) (v:Value) (ll:List (List Int)):Prop:=∃ us:List Value,us.length=ll.length/\cR (fun u:Value=>u) w v us/\∀ (i:Nat) (u:Value) (l:List Int),us[i]? =some u->ll[i]? =some l->cR aV w u l
theorem lC.below {w w':World} {v:Value} {ll:List (List Int)} (h:lC w v ll) (hk:aa w w'):lC w' v ll:=by obtain⟨us,h1,h2,h3⟩:=h;exact⟨us,h1,h2.below hk,fun i u l hu hl=>(h3 i u l hu hl).below hk⟩
theorem lC.form {w:World} {v:Value} {ll:List (List Int)} (h:lC w v ll):∃ a cap,v=.slice a ll.length cap:=by obtain⟨us,h1,h2,h3⟩:=h;obtain⟨a,cap,h4⟩:=h2.form;exact⟨a,cap,by rw[h4,h1]⟩
theorem lC.elem {w:World} {a:Option Addr} {n cap:Nat} {ll:List (List Int)} (h:lC w (.slice a n cap) ll) {i:Nat} {l:List Int} (hi:ll[i]? =some l): ∃ b off a' c',a=some ⟨b,off,none⟩/\b<w.heap.size/\w.cell? ⟨b,off+i,none⟩=some (.slice a' l.length c')/\cR aV w (.slice a' l.length c') l:=by obtain⟨us,h1,h2,h3⟩:=h;have iR:=(List.getElem?_eq_some_iff.1 hi).1;have hu:us[i]? =some (us[i]'(by omega)):=aC (by omega);obtain⟨b,off,e1,e2,e3⟩:=h2.elem hu;have h4:=h3 i _ l hu hi;obtain⟨a',c',e4⟩:=h4.form;rw[e4]at h4 e3;exact⟨b,off,a',c',e1,e2,e3,h4⟩
def oK (w:World) (v:Value) (ll:List (List Int)):Prop:=∃ us:List Value,us.length=ll.length/\cR (fun u:Value=>u) w v us/\∀ (i:Nat) (u:Value) (l:List Int),us[i]? =some u->ll[i]? =some l->mV aV w u l
theorem lC.e {w:World} {v:Value} {ll:List (List Int)} (h:lC w v ll):oK w v ll:=by obtain⟨us,h1,h2,h3⟩:=h;exact⟨us,h1,h2,fun i u l hu hl=>.inl (h3 i u l hu hl)⟩
theorem oK.below {w w':World} {v:Value} {ll:List (List Int)} (h:oK w v ll) (hk:aa w w'):oK w' v ll:=by obtain⟨us,h1,h2,h3⟩:=h;exact⟨us,h1,h2.below hk,fun i u l hu hl=>(h3 i u l hu hl).below hk⟩
theorem oK.form {w:World} {v:Value} {ll:List (List Int)} (h:oK w v ll):∃ a cap,v=.slice a ll.length cap:=by obtain⟨us,h1,h2,h3⟩:=h;obtain⟨a,cap,h4⟩:=h2.form;exact⟨a,cap,by rw[h4,h1]⟩
theorem oK.elem {w:World} {a:Option Addr} {n cap:Nat} {ll:List (List Int)} (h:oK w (.slice a n cap) ll) {i:Nat} {l:List Int} (hi:ll[i]? =some l): ∃ b off a' c',a=some ⟨b,off,none⟩/\b<w.heap.size/\w.cell? ⟨b,off+i,none⟩=some (.slice a' l.length c')/\mV aV w (.slice a' l.length c') l:=by obtain⟨us,h1,h2,h3⟩:=h;have iR:=(List.getElem?_eq_some_iff.1 hi).1;have hu:us[i]? =some (us[i]'(by omega)):=aC (by omega);obtain⟨b,off,e1,e2,e3⟩:=h2.elem hu;have h4:=h3 i _ l hu hi;obtain⟨a',c',e4⟩:=h4.form;rw[e4]at h4 e3;exact⟨b,off,a',c',e1,e2,e3,h4⟩
def bI (base:Nat) (w:World) (v:Value) (ll:List (List Int)):Prop:=∃ us:List Value,us.length=ll.length/\w.ownsRow base 51 1 v us.length us/\∀ (i:Nat) (u:Value) (l:List Int),us[i]? =some u->ll[i]? =some l->w.ownsRow base 3 1 u l.length (l.map aV)
theorem bI.nil (base:Nat) (w:World):bI base w (.slice none 0 0) []:=⟨[],rfl,World.ownsRow_nil _ _ _ _,fun i u l h=>by simp at h⟩
theorem bI.base {base base':Nat} {w:World} {v:Value} {ll:List (List Int)} (h:bI base w v ll) (hb:base'<=base):bI base' w v ll:=by obtain⟨us,h1,h2,h3⟩:=h;exact⟨us,h1,aG h2 hb,fun i u l hu hl=>aG (h3 i u l hu hl) hb⟩
theorem bI.below {base:Nat} {w w':World} {v:Value} {ll:List (List Int)} (h:bI base w v ll) (hk:aa w w'):bI base w' v ll:=by obtain⟨us,h1,h2,h3⟩:=h;exact⟨us,h1,ay h2 hk,fun i u l hu hl=>ay (h3 i u l hu hl) hk⟩
theorem aS {w w':World} {base:Nat} {e:TypeId} {size:Nat} {v:Value} {n:Nat} {xs:List Value} (h:w.ownsRow base e size v n xs) {R:Nat->Prop} (hk:ae R w w') (hr:∀ k,base<=k->k<w.heap.size->R k):w'.ownsRow base e size v n xs:=
 au h hk fun k e=>hr k (h.lt k e).1 (h.lt k e).2
theorem bI.keeps {base:Nat} {w w':World} {v:Value} {ll:List (List Int)} (h:bI base w v ll) {R:Nat->Prop} (hk:ae R w w') (hr:∀ k,base<=k->k<w.heap.size->R k):bI base w' v ll:=by obtain⟨us,h1,h2,h3⟩:=h;exact⟨us,h1,aS h2 hk hr,fun i u l hu hl=>aS (h3 i u l hu hl) hk hr⟩
theorem bI.form {base:Nat} {w:World} {v:Value} {ll:List (List Int)} (h:bI base w v ll):∃ a cap,v=.slice a ll.length cap:=by obtain⟨us,h1,h2,h3⟩:=h;obtain⟨a,c,h4⟩:=ownsRow_form h2;exact⟨a,c,by rw[h4,h1]⟩
theorem bI.ll {base:Nat} {w:World} {v:Value} {ll:List (List Int)} (h:bI base w v ll):lC w v ll:=by obtain⟨us,h1,h2,h3⟩:=h;refine⟨us,h1,dP (e:=51) (base:=base) (by simpa using h2) rfl,fun i u l hu hl=>dP (h3 i u l hu hl) rfl⟩
theorem ownBlock_ne {w:World} {b1 b2:Nat} {e1 e2:TypeId} {s1 s2 n1 n2:Nat} {v1 v2:Value} {x1 x2:List Value} (he:e1≠e2) (h1:w.ownsRow b1 e1 s1 v1 n1 x1) (h2:w.ownsRow b2 e2 s2 v2 n2 x2):v1.ownBlock=none\/v1.ownBlock≠v2.ownBlock:=by
 rcases h1.2 with⟨rfl,_⟩ | ⟨g,c,cur,rfl,_,hg,_⟩
 ·exact .inl rfl
 ·right
  rcases h2.2 with⟨rfl,_⟩ | ⟨g',c',cur',rfl,_,II,_⟩
  ·simp[Value.ownBlock]
  ·intro e
   have e':g=g':=by simpa[Value.ownBlock]using e
   subst e';rw[hg]at II;exact he (by injection II with h;injection h)
theorem bI.snoc {base:Nat} {w w':World} {v v' u:Value} {ll:List (List Int)} {l:List Int} {us:List Value} (h1:us.length=ll.length) (ho:w.ownsRow base 51 1 v us.length us) (h3:∀ (i:Nat) (u:Value) (l:List Int),us[i]? =some u->ll[i]? =some l->w.ownsRow base 3 1 u l.length (l.map aV)) (hu:w.ownsRow base 3 1 u l.length (l.map aV)) (hg:w.grownBy w' v.ownBlock) (Mo:w'.ownsRow base 51 1 v' (us.length+1) (us++ [u])):bI base w' v' (ll++ [l]):=by
 have ne:(3:Nat)≠51:=by decide
 refine⟨us++ [u],by simp[h1],by simpa using Mo,fun i x y hx hy=>?_⟩;by_cases hi:i<us.length
 ·rw[bJ hi]at hx
  rw[bJ (by omega)]at hy;have hr:=h3 i x y hx hy;exact hr.kept hg (ownBlock_ne ne hr ho)
 ·have iR:=(List.getElem?_eq_some_iff.1 hx).1
  simp at iR;obtain rfl:i=us.length:=by omega
  simp at hx;subst hx;rw[h1]at hy;simp at hy;subst hy;exact hu.kept hg (ownBlock_ne ne hu ho)
def iJ (w:World) (v:Value) (d:DF):Prop:=∃ v0 v1 v2,v=.agg #[v0,v1,v2]/\uA w v0 d.cl/\lC w v1 d.nx/\lC w v2 d.mr
theorem iJ.below {w w':World} {v:Value} {d:DF} (h:iJ w v d) (hk:aa w w'):iJ w' v d:=by obtain⟨v0,v1,v2,e,h0,h1,h2⟩:=h;exact⟨v0,v1,v2,e,⟨h0.1.below hk,h0.2⟩,h1.below hk,h2.below hk⟩
def Uw (w:World) (v:Value) (d:DF):Prop:=∃ v0 v1 v2,v=.agg #[v0,v1,v2]/\uA w v0 d.cl/\oK w v1 d.nx/\oK w v2 d.mr
theorem iJ.e {w:World} {v:Value} {d:DF} (h:iJ w v d):Uw w v d:=by obtain⟨v0,v1,v2,e,h0,h1,h2⟩:=h;exact⟨v0,v1,v2,e,h0,h1.e,h2.e⟩
def dM (base:Nat) (w:World) (v:Value) (d:DF):Prop:=∃ v0 v1 v2,v=.agg #[v0,v1,v2]/\w.ownsRow base 37 4 v0 d.cl.length (aN d.cl)/\bI base w v1 d.nx/\bI base w v2 d.mr
theorem dM.below {base:Nat} {w w':World} {v:Value} {d:DF} (h:dM base w v d) (hk:aa w w'):dM base w' v d:=by obtain⟨v0,v1,v2,e,h0,h1,h2⟩:=h;exact⟨v0,v1,v2,e,ay h0 hk,h1.below hk,h2.below hk⟩
theorem dM.base {base base':Nat} {w:World} {v:Value} {d:DF} (h:dM base w v d) (hb:base'<=base):dM base' w v d:=by obtain⟨v0,v1,v2,e,h0,h1,h2⟩:=h;exact⟨v0,v1,v2,e,aG h0 hb,h1.base hb,h2.base hb⟩
theorem dM.keeps {base:Nat} {w w':World} {v:Value} {d:DF} (h:dM base w v d) {R:Nat->Prop} (hk:ae R w w') (hr:∀ k,base<=k->k<w.heap.size->R k):dM base w' v d:=by obtain⟨v0,v1,v2,e,h0,h1,h2⟩:=h;exact⟨v0,v1,v2,e,aS h0 hk hr,h1.keeps hk hr,h2.keeps hk hr⟩
theorem oL {w:World} {base:Nat} {v:Value} {l:List BS} (h:w.ownsRow base 37 4 v l.length (aN l)):uA w v l:=by
 refine⟨iV h,fun a n cap e=>?_⟩;subst e;rcases h.2 with⟨h1,h2⟩ | ⟨g,c,cur,h1,_,_,h2,_⟩
 ·injection h1 with _ h3 h4;omega
 ·injection h1 with _ h3 h4;omega
theorem dM.df {base:Nat} {w:World} {v:Value} {d:DF} (h:dM base w v d):iJ w v d:=by obtain⟨v0,v1,v2,e,h0,h1,h2⟩:=h;exact⟨v0,v1,v2,e,oL h0,h1.ll,h2.ll⟩
structure Sm (d:DF):Prop where
 cl:d.cl.length<=1000000
 nx:d.nx.length<=1000000
 mr:d.mr.length<=1000000
 Ca:∀ l∈d.nx,l.length<=1000000
 mks:∀ l∈d.mr,l.length<=1000000
section
variable {L:List Sp} {W:World}
end
theorem dn.elem {w:World} {a:Option Addr} {n cap:Nat} {l:List BS} (h:dn w (.slice a n cap) l) {i:Nat} {s:BS} (hi:l[i]? =some s): ∃ b off,a=some ⟨b,off,none⟩/\b<w.heap.size/\w.cell? ⟨b,off+i*4,none⟩=some (.int .u64 (wd s 0).toNat)/\w.cell? ⟨b,off+i*4+1,none⟩=some (.int .u64 (wd s 1).toNat)/\w.cell? ⟨b,off+i*4+2,none⟩=some (.int .u64 (wd s 2).toNat)/\w.cell? ⟨b,off+i*4+3,none⟩=some (.int .u64 (wd s 3).toNat):=by
 rcases h with⟨_,e⟩ | ⟨b,off,cap',e1,hb,hcc⟩
 ·rw[e]at hi;simp at hi
 ·injection e1 with e1 _ _
  exact⟨b,off,e1,hb,hcc i s hi 0 (by decide),hcc i s hi 1 (by decide),hcc i s hi 2 (by decide),hcc i s hi 3 (by decide)⟩
theorem jx (w:World) (x:Value) (t:TypeId):∀ j u,[x][j]? =some u->(w.alloc (.cells #[x] t)).cell? ((⟨w.heap.size,0,none⟩:Addr).add j)=some u:=fun j u h=>by
 have hj:j=0:=by
  rcases Nat.eq_zero_or_pos j with h' | h'
  ·exact h'
  ·rw[dD (by simp;omega)]at h;cases h
 subst hj;have hx:x=u:=by simpa using h
 rw[<-hx];exact(aq.new w #[x] t).cell 0
attribute [local go_sem] encS
theorem mV.elem {α:Type} {enc:α->Value} {w:World} {a:Option Addr} {n cap:Nat} {l:List α} (h:mV enc w (.slice a n cap) l) {i:Nat} {x:α} (hi:l[i]? =some x):∃ b off,a=some ⟨b,off,none⟩/\b<w.heap.size/\w.cell? ⟨b,off+i,none⟩=some (enc x):=by
 rcases h with h | ⟨rfl,_⟩
 ·exact h.elem hi
 ·simp at hi
def dW {α:Type} (f:α->Bool) (l:List α):Int:=match l.findIdx? f with | some k=>k | none=> -1
theorem lD {α:Type} (f:α->Bool) (l:List α):decide (0<=dW f l)=l.any f:=by
 unfold dW;cases h:l.findIdx? f with
 | none=>
  rw[List.findIdx?_eq_none_iff]at h;have:l.any f=false:=by rw[List.any_eq_false];intro x hx;rw[h x hx];decide
  rw[this];rfl
 | some k=>
  rw[List.findIdx?_eq_some_iff_getElem]at h;obtain⟨h1,h2,_⟩:=h;have:l.any f=true:=by rw[List.any_eq_true];exact⟨l[k],List.getElem_mem h1,h2⟩
  rw[this];simp
theorem j4 {α:Type} {f:α->Bool} {l:List α} {k:Nat} {x:α} (hx:l[k]? =some x) (hf:f x=true) (hn:∀ y∈l.take k,f y=false):dW f l=k:=by
 have h1:l.findIdx? f=some k:=by
  rw[List.findIdx?_eq_some_iff_getElem];have Ct:=(List.getElem?_eq_some_iff.1 hx).1;refine⟨Ct,?_,fun j hj=>?_⟩
  ·rw[(List.getElem?_eq_some_iff.1 hx).2];exact hf
  ·have:=hn l[j] (List.mem_take_iff_getElem.2 ⟨j,by omega,rfl⟩)
   rw[this];decide
 rw[dW,h1]
theorem j5 {α:Type} {f:α->Bool} {l:List α} (hn:∀ y∈l,f y=false):dW f l= -1:=by
 have h1:l.findIdx? f=none:=by rw[List.findIdx?_eq_none_iff];intro x hx;rw[hn x hx]
 rw[dW,h1]
theorem nM {α:Type} {f:α->Bool} {l:List α} {k:Nat} {x:α} (hx:l[k]? =some x) (hf:f x=false) (hn:∀ y∈l.take k,f y=false):∀ y∈l.take (k+1),f y=false:=fun y hy=>by
 rw[List.take_add_one,hx]at hy;rcases List.mem_append.1 hy with hy | hy
 ·exact hn y hy
 ·rw[show y=x from by simpa using hy];exact hf
theorem vr (g:Nat) (lb:Array Value) (f:Int->Bool) (v:Value) (l:List Int) (w:World) (h:mV aV w v l) (hn:l.length<=1000000) (eg:∀ args w,(callFunc g args).run Tryz.prog w=.ok (.enter g args) w) (hf:∀ s W,aa w W->ag g (#[.int .i64 s]++lb) W fun e w'=>e=.returned (.bool (f s))/\w'=W): ag 109 #[v,.func (.func g) #[] lb] w fun e w'=>e=.returned (.int .i64 (dW f l))/\w'=w:=by
 obtain⟨a,cap,rfl⟩:=h.form;obtain⟨n,ot⟩:=ah l.length;rw[<-ot]at h hn ⊢;have H:=hid h;have HN:=hid ot;have HF:=hid fun s=>hf s w (Below.refl _ _)
 obtain⟨r,hr⟩:=ah (dW f l);rw[<-hr];have HR:=hid hr;clear h ot hf hr;go_enter Tryz.func109,Tryz.ntmps109;go_wp2
 go_loop [8] (fun i=>∃ k:Nat,k<=n/\i=.int .i64 k/\(∀ s∈l.take k,f s=false)) (fun i=>n-(intOf i).toNat)
 case atStart=>exact⟨0,by omega,rfl,fun s hs=>by simp at hs⟩
 case round=>
  obtain⟨k,hk,rfl,ha⟩:=hrel;by_cases hlt:k<n
  ·obtain⟨s,hs⟩:∃ s,l[k]? =some s:=⟨_,aC (by have:=HN.out;omega)⟩
   obtain⟨b,off,rfl,hb,d0⟩:=H.elem hs;have d0':w.cell? ⟨b,off+k,none⟩=some (.int .i64 s):=d0;have Mv:=hid (HF.out s);have HA:=hid ha;have HS:=hid hs;clear ha hs d0;obtain⟨b1,hb1⟩:=ah (f s);rw[<-hb1]at Mv;have pV:=hid hb1;clear hb1;cases b1 with
   | true=>
    have gN:=hid (HR.trans (j4 HS pV.symm HA));go_wp2;refine Mv.mono ?_;rintro e w2 ⟨rfl,hw⟩;replace hw:=hw.symm;subst hw;go_wp2;go_ret;exact⟨by rw[gN.out];rfl,rfl⟩
   | false=>
    go_wp2;refine Mv.mono ?_;rintro e w2 ⟨rfl,hw⟩;replace hw:=hw.symm;subst hw;go_wp2
    go_round
    case rel=>exact⟨k+1,by omega,by go_num,nM HS pV.symm HA⟩
    case measure=>simp[intOf];omega
  ·obtain rfl:k=n:=by omega
   have gN:=hid (HR.trans (j5 fun y hy=>ha y (by rw[HN.out,List.take_length];exact hy)));clear ha;go_wp2;go_ret;exact⟨by rw[gN.out];rfl,rfl⟩
theorem qG (g:Nat) (lb:Array Value) (f:Int->Bool) (v:Value) (l:List Int) (w:World) (h:mV aV w v l) (hn:l.length<=1000000) (eg:∀ args w,(callFunc g args).run Tryz.prog w=.ok (.enter g args) w) (hf:∀ s W,aa w W->ag g (#[.int .i64 s]++lb) W fun e w'=>e=.returned (.bool (f s))/\w'=W): ag 77 #[v,.func (.func g) #[] lb] w fun e w'=>e=.returned (.bool (l.any f))/\w'=w:=by have HI:=hid (vr g lb f v l w h hn eg hf);rw[<-lD];obtain⟨a,cap,rfl⟩:=h.form;clear h hf eg;generalize dW f l=z at HI ⊢;go_enter Tryz.func77,Tryz.ntmps77;go_wp2_with (go_at_call 109;refine HI.mono ?_;rintro e w2 ⟨rfl,hw⟩;replace hw:=hw.symm;subst hw);go_ret;exact⟨rfl,rfl⟩
theorem Gh (x:Int) (n:Nat) (B:Nat) (W:World) (hB:W.cell? ⟨B,0,none⟩=some (.int .i64 n)): ag 78 #[.int .i64 x,.pointer (some ⟨B,0,none⟩)] W fun e w'=>e=.returned (.bool (!Rk n x))/\w'=W:=by
 unfold Rk;by_cases h1:x<0
 ·have d1:decide (x<0)=true:=decide_eq_true h1
  have d2:decide (0<=x)=false:=decide_eq_false (by omega);go_enter Tryz.func78,Tryz.ntmps78;go_wp2;go_ret;exact⟨by rw[d2];rfl,rfl⟩
 ·have d1:decide (x<0)=false:=decide_eq_false h1
  have d2:decide (0<=x)=true:=decide_eq_true (by omega);by_cases h2:(n:Int)<=x
  ·have d3:decide ((n:Int)<=x)=true:=decide_eq_true h2
   have d4:decide (x<(n:Int))=false:=decide_eq_false (by omega);go_enter Tryz.func78,Tryz.ntmps78;go_wp2;go_ret;exact⟨rfl,rfl⟩
  ·have d3:decide ((n:Int)<=x)=false:=decide_eq_false h2
   have d4:decide (x<(n:Int))=true:=decide_eq_true (by omega);go_enter Tryz.func78,Tryz.ntmps78;go_wp2;go_ret;exact⟨rfl,rfl⟩
theorem JX:∀ args w,(callFunc 78 args).run Tryz.prog w=.ok (.enter 78 args) w:=fun args w=>by kernel_rfl
theorem Sr {α:Type} [BEq α] [LawfulBEq α] {l m:List α} {k:Nat} {x y:α} (hx:l[k]? =some x) (hy:m[k]? =some y) (h:x≠y):(l==m)=false:=by rw[beq_eq_false_iff_ne];intro e;subst e;rw[hx]at hy;exact h (Option.some.inj hy)
theorem Gi {α:Type} [BEq α] [LawfulBEq α] {l m:List α} {n:Nat} (h1:l.length=n) (h2:m.length=n) (h:∀ i x y,i<n->l[i]? =some x->m[i]? =some y->x=y):(l==m)=true:=by
 rw[beq_iff_eq];refine List.ext_getElem (by omega) fun i a b=>?_
 exact h i _ _ (by omega) (aC a) (aC b)
theorem Dl {α:Type} [BEq α] [LawfulBEq α] {l m:List α} (h:l.length≠m.length):(l==m)=false:=by rw[beq_eq_false_iff_ne];intro e;rw[e]at h;exact h rfl
theorem Gj (v1 v2:Value) (l1 l2:List BS) (w:World) (h1:dn w v1 l1) (h2:dn w v2 l2) (hn:l1.length<=1000000): ag 75 #[v1,v2] w fun e w'=>e=.returned (.bool (l1==l2))/\Ext w w':=by
 obtain⟨a1,c1,rfl⟩:=h1.form;obtain⟨a2,c2,rfl⟩:=h2.form;obtain⟨n,ot⟩:=ah l1.length;obtain⟨m,NY⟩:=ah l2.length;rw[<-ot]at h1 hn ⊢;rw[<-NY]at h2 ⊢;have HN:=hid ot;have HM:=hid NY;have H1:=hid h1;have H2:=hid h2;have HE:=hid fun s t W=>jf s t W
 by_cases hnm:n=m
 ·subst hnm
  obtain⟨r,hr⟩:=ah ((l1==l2));rw[<-hr];have HR:=hid hr;clear h1 h2 ot NY hr;go_enter Tryz.func75,Tryz.ntmps75;go_wp2;go_loopw [13] (fun i wr=>∃ k:Nat,k<=n/\i=.int .i64 k/\(∀ i x y,i<k->l1[i]? =some x->l2[i]? =some y->x=y)/\Ext w wr) (fun i _=>n-(intOf i).toNat);case atStart=>exact⟨0,by omega,rfl,fun i x y hi=>by omega,Ext.refl _⟩
  case round=>
   obtain⟨k,hk,rfl,ha,hx⟩:=hrel;obtain⟨wo,rfl⟩:=ah (wr:World);have HX:=hid hx;have HA:=hid ha;clear ha;by_cases hlt:k<n
   ·obtain⟨s,hs⟩:∃ s,l1[k]? =some s:=⟨_,aC (by have:=HN.out;omega)⟩
    obtain⟨t,ht⟩:∃ t,l2[k]? =some t:=⟨_,aC (by have:=HM.out;omega)⟩;obtain⟨b,off,rfl,hb,d0,d1,d2,d3⟩:=(H1.below hx.below).elem hs;obtain⟨b',off',rfl,hb',e0,e1,e2,e3⟩:=(H2.below hx.below).elem ht;have eT:(k:Int)<n:=by omega
    have HS:=hid hs;have HT:=hid ht;obtain⟨q,hq⟩:=ah ((s==t));have heq:∀ W,(Op.equalIn 10000 37 (.agg #[.int .u64 (wd s 0).toNat,.int .u64 (wd s 1).toNat,.int .u64 (wd s 2).toNat,.int .u64 (wd s 3).toNat]) (.agg #[.int .u64 (wd t 0).toNat,.int .u64 (wd t 1).toNat,.int .u64 (wd t 2).toNat,.int .u64 (wd t 3).toNat])).run Tryz.prog W=.ok q W:=fun W=>by
     have h1:=HE.out s t W;rw[<-hq]at h1;exact h1
    have HQ:=hid hq;clear hs ht hx hq;cases q with
    | true=>
     go_wp2
     go_quiet (fail)
     go_wp2
     exact⟨⟨k+1,by omega,by go_num,fun i x y hi hx hy=>by
      by_cases e:i=k
      ·subst e
       rw[HS.out]at hx;rw[HT.out]at hy;cases hx;cases hy;exact beq_iff_eq.1 HQ.symm
      ·exact HA i x y (by omega) hx hy,yA HX nq⟩,by simp[intOf];omega⟩
    | false=>
     have gN:=hid (HR.trans (Sr HS HT (beq_eq_false_iff_ne.1 HQ.symm)));go_wp2
     go_quiet (fail)
     go_wp2;go_ret;exact⟨by rw[gN.out];rfl,yA HX nq⟩
   ·obtain rfl:k=n:=by omega
    have gN:=hid (HR.trans (Gi HN.symm HM.symm HA));clear hx;go_wp2;go_ret;exact⟨by rw[gN.out];rfl,HX⟩
 ·have e1:(l1==l2)=false:=Dl (by omega)
  have d1:decide ((n:Int)=m)=false:=decide_eq_false (by omega);rw[e1];clear h1 h2 ot NY e1 d1;have d2:((n:Int)==(m:Int))=false:=by rw[beq_eq_false_iff_ne];omega
  have d3:((n:Int) != (m:Int))=true:=by simp;omega
  have d4:(n==m)=false:=by rw[beq_eq_false_iff_ne];exact hnm
  go_enter Tryz.func75,Tryz.ntmps75
  go_wp2;go_ret;exact⟨rfl,Ext.refl _⟩
end
end Go.Proofs.YtpcmhjbehdgdbaaGreatDoor
