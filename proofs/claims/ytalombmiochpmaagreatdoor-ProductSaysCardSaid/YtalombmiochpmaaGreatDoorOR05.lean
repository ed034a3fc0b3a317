/- Walks of the reference of layer 16: Together. -/
import Derived.Shelf.Bytes.SlEqualAll
import Derived.Test.YtalombmiochpmaaGreatDoorOR04
import Derived.Lib.SmallJoins
import Derived.Great.BuildSlice
set_option maxRecDepth 100000
set_option maxHeartbeats 16000000
open Go.Lib (hid)
namespace Go.Proofs
open Go.Shelf
def Tryz.G9:Go.Shelf.Ren:=⟨fun | 115=>29 | n=>n,fun | 37=>23 | 4=>4 | 9=>9 | 5=>5 | n=>n,fun | n=>n⟩
theorem Tryz.VS:Go.Proofs.Lays.nb115 Tryz.prog Tryz.G9:= {
 mixed:=by kernel_rfl
 f115:=Tryz.func29.trans (congrArg some (by kernel_rfl))
 t4:=Tryz.underlying4
 a4:=Tryz.isAgg4
 z4:=Tryz.sizeOf4
 v4:=Tryz.zeroValue4
 t9:=Tryz.underlying9
 a9:=Tryz.isAgg9
 z9:=Tryz.sizeOf9
 v9:=Tryz.zeroValue9
 t37:=Tryz.underlying23
 a37:=Tryz.isAgg23
 z37:=Tryz.sizeOf23
 v37:=Tryz.zeroValue23
 t5:=Tryz.underlying5
 a5:=Tryz.isAgg5
 z5:=Tryz.sizeOf5
 v5:=Tryz.zeroValue5}
end Go.Proofs
namespace Go.Proofs.YtalombmiochpmaaGreatDoor
section
open Go Go.RowKit Go.Shelf Go.Maps
attribute [local go_sem] encS
def qO (w:World) (v:Value) (l:List BS):Prop:=dm w v l/\∀ a n cap,v=.slice a n cap->n<=cap
theorem dm.form {w:World} {v:Value} {l:List BS} (h:dm w v l):∃ a cap,v=.slice a l.length cap:=by
 rcases h with⟨h,rfl⟩ | ⟨b,off,cap,hv,_⟩
 ·exact⟨_,_,h⟩
 ·exact⟨_,_,hv⟩
end
section
open Go Go.RowKit Go.Shelf Go.Maps
theorem Ce {A B:World} (h:Ext A B) (n:Nat):Ext A (B.drewN n):=⟨h.os,h.tape,h.output,Nat.le_add_right_of_le h.drawn,h.size,h.keep⟩
theorem yo {w:World} {a:Option Addr} {n cap:Nat} {l:List Nat} (h:aZ bu w (.slice a n cap) l) (hn:n=l.length):Lib.BytesIn w a n (l.map Int.ofNat):=by intro h0;obtain⟨x,hx⟩:∃ x,l[0]? =some x:=⟨_,List.getElem?_eq_getElem (by omega)⟩;obtain⟨b,off,rfl,_,_⟩:=h.elem hx;refine⟨b,off,rfl,fun i hi=>?_⟩;obtain⟨y,hy⟩:∃ y,l[i]? =some y:=⟨_,List.getElem?_eq_getElem (by omega)⟩;obtain⟨b',off',h1,_,h2⟩:=h.elem hy;cases h1;rw[h2];simp[bu,hy]
theorem vQ (l:List Nat):Lib.bytesOf (l.map Int.ofNat)=l.map fun n=>UInt8.ofNat n:=by unfold Lib.bytesOf;rw[List.map_map];rfl
theorem Ha (l1 l2:List Nat) (h1:∀ c∈l1,c<256) (h2:∀ c∈l2,c<256):(Lib.bytesOf (l1.map Int.ofNat)==Lib.bytesOf (l2.map Int.ofNat))=(l1==l2):=by
 rw[vQ,vQ,Bool.eq_iff_iff,beq_iff_eq,beq_iff_eq];refine⟨fun h=>?_,fun h=>by rw[h]⟩;have back:∀ l:List Nat,(∀ c∈l,c<256)->(l.map fun n=>UInt8.ofNat n).map UInt8.toNat=l:=fun l hl=>by
  rw[List.map_map]
  conv=>rhs;rw[<-List.map_id l]
  refine List.map_congr_left fun c hc=>?_
  have:=hl c hc;simp[UInt8.toNat_ofNat'];omega
 rw[<-back l1 h1, <-back l2 h2,h]
theorem Hb (v1 v2:Value) (l1 l2:List Nat) (w:World) (h1:aZ bu w v1 l1) (h2:aZ bu w v2 l2) (hb1:∀ c∈l1,c<256) (hb2:∀ c∈l2,c<256): Calls Tryz.prog 29 #[v1,v2] w fun e w'=>e=.returned (.bool (l1==l2))/\w'=w:=by obtain⟨a1,c1,rfl⟩:=h1.form;obtain⟨a2,c2,rfl⟩:=h2.form;rw[<-Ha l1 l2 hb1 hb2];exact Any.bytes_Equal_all Tryz.VS a1 a2 l1.length c1 l2.length c2 _ _ w (by simp) (by simp) (yo h1 rfl) (yo h2 rfl)
end
section
open Go Go.RowKit Go.WideShapes Go.ChangeShapes Go.ChangeAt Go.Deep
section
variable {H:Type} {enc:TypeId×Value→H} {P:Program}
theorem rH (hl:laidOutB P=true) {W W':World} {sp:Nat->Bool} :∀ (ts:List TypeId) (vs:List Value) (ds:List (DataW H)) (ps:List MemPlace),(∀ t∈ts,P.readableRec t=true/\t<P.types.size)-> DataW.TrodAll enc P W 0 (fun _=>true) true ts vs ds ps->(∀ p∈ps,W.sameAt W' p)->(∀ p∈ps,sp p.block=true)->DataW.TrodAll enc P W' 0 sp true ts vs ds ps
 | [],vs,ds,ps,_,h,_,_=>by
  obtain⟨rfl,rfl,rfl⟩:=trodAll_nil h;rfl
 | t::ts,vs,ds,ps,ht,h,hs,hsp=>by
  obtain⟨v,vs',d,ds',p,q,rfl,rfl,rfl,h1,h2⟩:=trodAll_cons h
  exact⟨p,q,WideElems.Trod_stays hl (ht t (by simp)).1 (ht t (by simp)).2 h1 (fun x hx=>hs x (by simp[hx])) (fun x hx=>hsp x (by simp[hx])),
   rH hl ts vs' ds' q (fun t h=>ht t (by simp[h])) h2 (fun x hx=>hs x (by simp[hx])) (fun x hx=>hsp x (by simp[hx])),rfl⟩
theorem pE (hl:laidOutB P=true) {f:Func} {s:ChangeSpec} {apart fresh handsOn:Bool} {W W':World} {args:Array Value} {ds gs:List (DataW H)} {before:List MemPlace} {tb:TypeId} (Yo:s.vars=[]) (U5:∀ t∈f.params.toList,P.readableRec t=true/\t<P.types.size) (hres:f.resultTypes= #[tb]) (htb:P.underlying tb=some .bool) (hfn:s.fn H ds= {results:=[.lit (.bool true)],args:=ds}) (hW:DataW.Whole enc P f.params.toList s.vars apart W args.toList ds gs before) (hb:Below W.heap.size W W'): s.post enc P f apart fresh handsOn false W args (.bool true) W':=by
 have Et:=hW;obtain⟨p,q,hA,hV,rfl,hz,hn⟩:=hW;have hV':=hV;rw[Yo]at hV';obtain⟨rfl,rfl⟩:=trodVars_none hV';have hlt:∀ x∈p++ [],x.block<W.heap.size:=fun x hx=>Et.lt x hx
 simp only[List.append_nil]at hlt Et;refine⟨ds,[],p,[],p,[],Et,?_,?_,?_,?_,fun h=>(by cases h)⟩
 ·rw[List.append_nil,hfn,hres]
  exact trodAll_mk1 (shut_bool htb true)
 ·rw[List.append_nil,hfn]
  exact rH hl _ _ _ _ U5 hA (fun x hx=>hb.same (hlt x hx)) (fun x hx=>by simpa using hlt x hx)
 ·rw[List.append_nil,hfn,Yo]
  rfl
 ·exact World.keptBut_mono (fun x hx=>⟨hx,Or.inr (.inl hx)⟩) (hb.frame (· ∈p))
end
section
variable {H:Type} {enc:TypeId×Value→H} {W:World} {base:Nat} {sp:Nat→Bool}
end
end
section
open Go Go.ChangeShapes Go.WideShapes Go.ChangeAt Go.RowKit
section
variable {H:Type} {enc:TypeId×Value→H} {W:World}
theorem jx {n:Int} (h:(Lit.int .u8 n).wf=true):0<=n/\n<256:=by
 simp only[Lit.wf,Bool.and_eq_true,decide_eq_true_eq]at h;have h1:IntKind.u8.min=0:=by decide
 have h2:IntKind.u8.max=255:=by decide
 omega
end
theorem Tryz.own:ownKnob Tryz.prog.godebug=none:=by kernel_rfl
theorem Tryz.laidOut:laidOutB Tryz.prog=true:=by kernel_rfl
end
section
open Go Go.RowKit
def mE (w:World) (x:Value) (m:Nat) (news:List Value):Prop:=(x=.slice none 0 0/\m=0/\news=[])\/∃ ad c,x=.slice (some ad) m c/\∀ j u,news[j]? =some u->w.cell? (ad.add j)=some u
section
variable {P:Program} {ops:Array Oper} {F:Fence} {n:Nat} {C:World→Prop}
theorem ky (w:World) (base:Nat) (t ty e:TypeId) (i:TypeInfo) (z:Value) (size bytes:Nat) (ht:P.underlying t=some (.slice e)) (hi:P.info? e=some i) (hz:i.zero=some z) (hsize:i.size=size) (hby:i.bytes=bytes) (hzs:z.cells.size=size) (hsz:0<size) (v:Value) (k:Nat) (xs:List Value) (hown:w.ownsRow base e size v k xs) (x:Value) (m:Nat) (news:List Value) (hx:mE w x m news) (hl:news.length=m*size) (h1:∀ u∈news,u.oneCell'=true) (h63:k+m<=maxLen) (hbytes:(k+m)*bytes<=140737488355328) (hbase:base<=w.heap.size): ∃ v' w',(Builtin.append_ #[t,t] ty #[v,x]).run P w=.ok v' w'/\w'.ownsRow base e size v' (k+m) (xs++news)/\w.grownBy w' v.ownBlock:=by
 rcases hx with⟨rfl,rfl,rfl⟩ | ⟨ad,c,rfl,hnews⟩
 ·refine⟨v,w,?_,?_,World.grownBy.refl _ _⟩
  ·exact run_append_owned_none (P:=P) (w:=w) base t ty e i size ht hi v k xs hown
  ·rw[List.append_nil];exact hown
 ·obtain⟨v',w',hr,h2,h3,_⟩:=run_append_own_at (P:=P) w base t ty e i z size bytes ht hi hz hsize hby hzs hsz v k xs hown ad m c news hl hnews h1 h63 hbytes hbase
  exact⟨v',w',hr,h2,h3⟩
theorem kz {Q:Exit->Act->World->Prop} {a:Act} {w:World} {rest:List Oper} {o:Oper} (hw:Region.wanted o (yielded ops a.tmps)=true) (h:∀ K:Act->World->Prop,(∀ a w,wpList P ops Q rest a w->K a w)->o.wp P a w K Q):wpList P ops Q (o::rest) a w:=by unfold wpList;rw[if_pos hw];exact .inl (h _ fun _ _ h=>h)
theorem kA {rest:List Oper} {o:Oper} {a:Act} {w:World} {Q:Exit->Act->World->Prop} (hw:Region.wanted o (yielded ops a.tmps)=true) (s x:Operand) (t:TypeId) (ho:o.op=.call {callee:=.builtin .append,args:= #[s,x],argTypes:= #[t,t]}) (base:Nat) (e:TypeId) (i:TypeInfo) (z:Value) (size bytes:Nat) (ht:P.underlying t=some (.slice e)) (hi:P.info? e=some i) (hz:i.zero=some z) (hsize:i.size=size) (hby:i.bytes=bytes) (hzs:z.cells.size=size) (hsz:0<size) (v:Value) (k:Nat) (xs:List Value) (hs:a.eval s=v) (hown:w.ownsRow base e size v k xs) (xv:Value) (m:Nat) (news:List Value) (hx:a.eval x=xv) (wV:mE w xv m news) (hl:news.length=m*size) (h1:∀ u∈news,u.oneCell'=true) (h63:k+m<=maxLen) (hbytes:(k+m)*bytes<=140737488355328) (hbase:base<=w.heap.size) (h:∀ v' w',w'.ownsRow base e size v' (k+m) (xs++news)->w.grownBy w' v.ownBlock->wpList P ops Q rest (a.put o.dst v') w'): wpList P ops Q (o::rest) a w:=by
 refine kz hw fun K hK=>?_
 obtain⟨v',w',hr,h2,h3⟩:=ky (P:=P) w base t o.type e i z size bytes ht hi hz hsize hby hzs hsz v k xs hown xv m news wV hl h1 h63 hbytes hbase;unfold Oper.wp execOp;simp only[ho,resolve,invoke,builtin,Sem.run_bind,Sem.run_pure,Result.andThen_ok,List.map_toArray,List.map_cons,List.map_nil,hs,hx,hr];exact hK _ _ (h v' w' h2 h3)
end
theorem mG {base:Nat} {e:TypeId} {size g n cap:Nat} (o0:Nat):∀ (vs:List Value) (o:Nat) (w:World) (xs:List Value),o0<=o->w.ownsRow base e size (.slice (some ⟨g,0,none⟩) n cap) n xs-> ∃ ys,(w.setCells g o vs).ownsRow base e size (.slice (some ⟨g,0,none⟩) n cap) n ys/\aa (· ≠g) w (w.setCells g o vs)
 | [],_,w,xs,_,h=>⟨xs,h,aa.refl _ _⟩
 | v::r,o,w,xs,ho,h=>by
  obtain⟨ys,h1,h2⟩:=mG o0 r (o+1) _ _ (by omega) (h.stored o v).1;exact⟨ys,h1,((aa.refl (· ≠g) w).setCell (p:=⟨g,o,none⟩) (fun h=>h rfl) v).tr h2⟩
end
section
open Go Go.RowKit Go.Shelf Go.Maps
theorem Kg (a b c:BS) (h:(!ltOf bM b a)=true) (k:(!ltOf bM c b)=true):(!ltOf bM c a)=true:=by
 simp only[Bool.not_eq_true']at*;cases hca:ltOf bM c a with
 | false=>rfl
 | true=>
  exfalso;rw[<-Bool.not_eq_true,jw]at h k;rw[jw]at hca;rcases uP a b with e | e | e
  ·subst e;exact k hca
  ·exact k (mD hca e)
  ·exact h e
theorem Kh (a b:BS):((!ltOf bM b a) || (!ltOf bM a b))=true:=by
 cases hba:ltOf bM b a with
 | false=>rfl
 | true=>
  cases hab:ltOf bM a b with
  | false=>rfl
  | true=>
   rw[jw]at hba hab;exact absurd (mD hba hab) (nC b)
theorem pF (l:List BS):(partsOf l).Pairwise fun x y=>(!ltOf bM y x)=true:=List.pairwise_mergeSort Kg Kh _
theorem dX (l:List BS):(partsOf l).Perm (bp l):=List.mergeSort_perm _ _
theorem rU {l L:List BS} (hp:(bp l).Perm L) (hs:L.Pairwise fun x y=>(!ltOf bM y x)=true):partsOf l=L:=
 List.Perm.eq_of_pairwise (fun a b _ _ h k=>adM a b (by simpa using k) (by simpa using h)) (pF l) hs ((dX l).trans hp)
attribute [local go_sem] encS
theorem pG {α:Type} {enc:α->Value} {w:World} {B:Nat} {c:Array Value} {t:TypeId} {fr:Nat×Nat} {n cap:Nat} (l:List α) (h:w.heap[B]? =some (.cells c t fr)) (hc:c.toList=l.map enc) (hn:n=l.length) (lZ:l.length<=cap):aZ enc w (.slice (some ⟨B,0,none⟩) n cap) l:=by refine .inr ⟨B,0,cap,by rw[hn],(Array.getElem?_eq_some_iff.1 h).1,lZ,fun i x hi=>?_⟩;rw[cell_of_row w B (0+i) c t fr h,Nat.zero_add, <-Array.getElem?_toList,hc,List.getElem?_map,hi];rfl
theorem yq {w:World} {B:Nat} {c:Array Value} {t:TypeId} {n cap:Nat} (l:List BS) (h:ah w B c t) (hc:c.toList=aN l) (hn:n=l.length):dm w (.slice (some ⟨B,0,none⟩) n cap) l:=by refine .inr ⟨B,0,cap,by rw[hn],h.lt,fun i s hi j hj=>?_⟩;rw[h.cell,Nat.zero_add, <-Array.getElem?_toList,hc];have:=ji l hi hj;simpa using this
theorem aq {w w':World} {base n size:Nat} {v:Value} {e:TypeId} {l:List Value} (h:w.ownsRow base e size v n l) (hk:Below w.heap.size w w'):w'.ownsRow base e size v n l:=
 aj h (aa.ag hk fun _ h=>h) (fun k e=>(h.lt k e).2)
end
section
open Go Go.RowKit Go.Shelf Go.Maps
theorem ah.range {w:World} {b:Nat} {c:Array Value} {t:TypeId} (h:ah w b c t):w.rangeAt b 0 c.toList:=fun j v hj=>by
 rw[Nat.zero_add,h.cell j, <-Array.getElem?_toList];exact hj
theorem Below.VT {A B:World} {n:Nat} (h:Below n A B) {g:Nat} (hg:n<=g) (c:Array Value):Below n A (B.setRow g c):=
 ⟨h.os,h.tape,h.output,Nat.le_trans h.size (by simp),fun k hk=>(setRow_other B g k c (by omega)).trans (h.block k hk)⟩
theorem ah.setRow {w:World} {b:Nat} {c c':Array Value} {t:TypeId} (h:ah w b c t):ah (w.setRow b c') b c' t:=setRow_heap w b c c' t _ h
theorem pH {P:Program} {ops:Array Oper} {Q:Exit->Act->World->Prop} {a:Act} {w:World} {rest:List Oper} {o:Oper} (hw:Region.wanted o (yielded ops a.tmps)=true) (h:∀ K:Act->World->Prop,(∀ a w,wpList P ops Q rest a w->K a w)->o.wp P a w K Q):wpList P ops Q (o::rest) a w:=by unfold wpList;rw[if_pos hw];exact .inl (h _ fun _ _ h=>h)
theorem bD {P:Program} {ops:Array Oper} {rest:List Oper} {op:Oper} {a:Act} {w:World} {Q:Exit->Act->World->Prop} (hw:Region.wanted op (yielded ops a.tmps)=true) (ty:TypeId) (x:Operand) (ho:op.op=.load ty x) (b:Nat) (hx:a.eval x=.pointer (some ⟨b,0,none⟩)) (cs:Array Value) (d:TypeDesc) (hc:w.rangeAt b 0 cs.toList) (hu:P.underlying ty=some d) (hd:d.isRow=true) (hi:(P.info? ty).map (·.size)=some cs.size) (h:wpList P ops Q rest (a.put op.dst (.agg cs)) w):wpList P ops Q (op::rest) a w:=
 pH hw fun _ hK=>wp_load_mid ty x ho b 0 hx cs.toList d hc hu hd (by rw[Array.length_toList];exact hi) (hK _ _ h)
end
section
open Go Go.RowKit
section
variable {F:Fence} {n:Nat} {P:Program} {C:World→Prop}
end
end
section
open Go Go.RowKit Go.Shelf Go.Maps
attribute [local go_sem] encS
end
section
open Go Go.RowKit Go.Shelf Go.Maps
attribute [local go_sem] encS
end
section
open Go Go.RowKit Go.Shelf Go.Maps
def Alike (l:List BS) (c d:Nat):Prop:=∀ s∈l,s.getLsbD c=s.getLsbD d
theorem Ms {s p x:BS} :x∈cut s p↔(x=p&&& s\/x=p&&& ~~~s)/\x≠0:=by unfold cut;simp only[List.mem_filter,List.mem_cons,List.not_mem_nil,or_false,Bool.not_eq_true',beq_eq_false_iff_ne]
theorem l9 {s x:BS} {l:List BS} :x∈bA s l↔ ∃ p∈l,(x=p&&& s\/x=p&&& ~~~s)/\x≠0:=by unfold bA;simp only[List.mem_flatMap,Ms]
theorem pI (c:Nat):(0:BS).getLsbD c=false:=BitVec.getLsbD_zero
theorem xE (s:BS) {c:Nat} (hc:c<256):(~~~s).getLsbD c= !s.getLsbD c:=by rw[BitVec.getLsbD_not];simp[hc]
theorem Mt {c:Nat} (hc:c<256):(~~~(0:BS)).getLsbD c=true:=by rw[xE _ hc,pI];rfl
theorem yr (l:List BS) (c:Nat) (hc:c<256):∃ q∈bp l,q.getLsbD c=true:=by
 suffices ∀ r:List BS,∃ q∈bp r.reverse,q.getLsbD c=true by have:=this l.reverse;rwa[List.reverse_reverse]at this
 intro r;induction r with
 | nil=>exact⟨~~~0,by simp[bp],Mt hc⟩
 | cons s r ih=>
  obtain⟨q,hq,Rl⟩:=ih;rw[List.reverse_cons,ju];cases hs:s.getLsbD c with
  | true=>
   have h:(q&&& s).getLsbD c=true:=by rw[BitVec.getLsbD_and,Rl,hs];rfl
   exact⟨q&&& s,l9.2 ⟨q,hq,.inl rfl,fun e=>by rw[e,pI]at h;cases h⟩,h⟩
  | false=>
   have h:(q&&& ~~~s).getLsbD c=true:=by rw[BitVec.getLsbD_and,Rl,xE _ hc,hs];rfl
   exact⟨q&&& ~~~s,l9.2 ⟨q,hq,.inr rfl,fun e=>by rw[e,pI]at h;cases h⟩,h⟩
theorem yt (l:List BS) {q:BS} (hq:q∈bp l) {c d:Nat} (hc:c<256) (hd:d<256) (h:q.getLsbD c=true):q.getLsbD d=true↔Alike l c d:=by
 suffices ∀ (r:List BS) (q:BS),q∈bp r.reverse->q.getLsbD c=true->(q.getLsbD d=true↔Alike r.reverse c d) by
  have:=this l.reverse q (by rwa[List.reverse_reverse]) h;rwa[List.reverse_reverse]at this
 intro r;induction r with
 | nil=>
  intro q hq _;have:q= ~~~0:=by simpa[bp]using hq
  rw[this,Mt hd];simp[Alike]
 | cons s r ih=>
  intro q hq Rl;rw[List.reverse_cons,ju]at hq;obtain⟨p,hp,Eu,_⟩:=l9.1 hq;have qL:Alike (r.reverse++ [s]) c d↔Alike r.reverse c d/\s.getLsbD c=s.getLsbD d:=by
   unfold Alike;constructor
   ·intro h;exact⟨fun x hx=>h x (by simp only[List.mem_append];exact .inl hx),h s (by simp)⟩
   ·intro⟨h1,h2⟩ x hx
    simp only[List.mem_append,List.mem_singleton]at hx;rcases hx with hx | rfl
    ·exact h1 x hx
    ·exact h2
  rw[List.reverse_cons,qL];rcases Eu with rfl | rfl
  ·rw[BitVec.getLsbD_and,Bool.and_eq_true]at Rl ⊢
   rw[ih p hp Rl.1,Rl.2];exact and_congr_right fun _=>eq_comm
  ·rw[BitVec.getLsbD_and,Bool.and_eq_true]at Rl ⊢
   have h2:=Rl.2;rw[xE _ hc]at h2;rw[ih p hp Rl.1,xE _ hd];have h3:s.getLsbD c=false:=by simpa using h2
   rw[h3];refine and_congr_right fun _=>?_
   cases s.getLsbD d<;>simp
def tA (p q:BS):Prop:=∀ c,¬ (p.getLsbD c=true/\q.getLsbD c=true)
theorem tA.symm {p q:BS} (h:tA p q):tA q p:=fun c ⟨h1,h2⟩=>h c ⟨h2,h1⟩
theorem xF (p q:BS) (c:Nat):(p&&& q).getLsbD c=true↔p.getLsbD c=true/\q.getLsbD c=true:=by rw[BitVec.getLsbD_and,Bool.and_eq_true]
theorem Hc (s:BS) (c:Nat) (h:(~~~s).getLsbD c=true):s.getLsbD c=false:=by rw[BitVec.getLsbD_not]at h;simp at h;exact h.2
theorem yu (l:List BS):(bp l).Pairwise tA:=by
 suffices ∀ r:List BS,(bp r.reverse).Pairwise tA by have:=this l.reverse;rwa[List.reverse_reverse]at this
 intro r;induction r with
 | nil=>simp[bp]
 | cons s r ih=>
  rw[List.reverse_cons,ju];unfold bA;rw[List.pairwise_flatMap];refine⟨fun p _=>?_,ih.imp fun {p q} h x hx y hy c ⟨h1,h2⟩=>?_⟩
  ·unfold cut
   refine List.Pairwise.filter _ ?_;refine List.pairwise_cons.2 ⟨fun y hy c ⟨h1,h2⟩=>?_,List.pairwise_singleton _ _⟩;rw[List.mem_singleton.1 hy,xF]at h2;rw[xF]at h1;rw[Hc s c h2.2]at h1;exact Bool.noConfusion h1.2
  ·have sub:∀ {p x:BS},x∈cut s p->x.getLsbD c=true->p.getLsbD c=true:=fun {p x} hx h=>by
    rcases(Ms.1 hx).1 with rfl | rfl
    ·exact((xF _ _ _).1 h).1
    ·exact((xF _ _ _).1 h).1
   exact h c ⟨sub hx h1,sub hy h2⟩
theorem pJ {l:List BS} {q:BS} :q∈partsOf l↔q∈bp l:=(dX l).mem_iff
theorem mf (l:List BS):(partsOf l).Pairwise tA:=((dX l).pairwise_iff (fun h=>tA.symm h)).2 (yu l)
theorem mg (l:List BS) (c:Nat) (hc:c<256):∃ (k:Nat) (q:BS),(partsOf l)[k]? =some q/\q.getLsbD c=true:=by obtain⟨q,h1,h2⟩:=yr l c hc;obtain⟨k,hk⟩:=List.getElem?_of_mem (pJ.2 h1);exact⟨k,q,hk,h2⟩
theorem AP (l:List BS) {q:BS} (hq:q∈partsOf l) {c d:Nat} (hc:c<256) (hd:d<256) (h:q.getLsbD c=true):q.getLsbD d=true↔Alike l c d:=yt l (pJ.1 hq) hc hd h
theorem vR {p:List BS} (h:p.Pairwise tA) {i j:Nat} {x y:BS} (hi:p[i]? =some x) (hj:p[j]? =some y) {c:Nat} (hx:x.getLsbD c=true) (hy:y.getLsbD c=true):i=j:=by
 have key:∀ {i j:Nat} {x y:BS},p[i]? =some x->p[j]? =some y->x.getLsbD c=true->y.getLsbD c=true->¬i<j:=fun {i j x y} hi hj hx hy hlt=>by
  obtain⟨h1,rfl⟩:=List.getElem?_eq_some_iff.1 hi;obtain⟨h2,rfl⟩:=List.getElem?_eq_some_iff.1 hj;exact(List.pairwise_iff_getElem.1 h i j h1 h2 hlt) c ⟨hx,hy⟩
 have h1:=key hi hj hx hy;have h2:=key hj hi hy hx;omega
theorem lN (l:List BS) {c k:Nat} (hc:c<256):cls (partsOf l) c=k↔ ∃ q:BS,(partsOf l)[k]? =some q/\q.getLsbD c=true:=by
 have h1:∃ q,(partsOf l)[cls (partsOf l) c]? =some q/\q.getLsbD c=true:=by
  rcases uR (partsOf l) c hc with⟨k,s,h1,h2,h3⟩ | ⟨h1,_⟩
  ·rw[tu _ hc]at h3;cases h3;exact⟨s,h1,h2⟩
  ·obtain⟨k,q,h2,h3⟩:=mg l c hc
   rw[h1 q (List.mem_of_getElem? h2)]at h3;cases h3
 constructor
 ·rintro rfl;exact h1
 ·rintro⟨q,h2,h3⟩
  obtain⟨q',h4,h5⟩:=h1;exact vR (mf l) h4 h2 h5 h3
theorem jk (l:List BS) {q:BS} (h:q∈partsOf l):q≠0:=vN l q (pJ.1 h)
theorem iq {s:BS} (h:s≠0):(bC s).2=true/\(bC s).1<256/\s.getLsbD (bC s).1=true/\∀ d,d<(bC s).1->s.getLsbD d=false:=by
 rcases s9 s with⟨_,h1⟩ | h1
 ·exact absurd h1 h
 ·exact h1
theorem rI (l:List BS) {i j:Nat} {x y:BS} (hi:(partsOf l)[i]? =some x) (hj:(partsOf l)[j]? =some y) (oZ:i<j):(bC x).1<(bC y).1:=by
 obtain⟨h1,h2⟩:=List.getElem?_eq_some_iff.1 hi;obtain⟨h3,h4⟩:=List.getElem?_eq_some_iff.1 hj;have hs:=List.pairwise_iff_getElem.1 (pF l) i j h1 h3 oZ;have ha:=List.pairwise_iff_getElem.1 (mf l) i j h1 h3 oZ;rw[h2,h4]at hs ha;obtain⟨_,x1,x2,x3⟩:=iq (jk l (List.mem_of_getElem? hi));obtain⟨_,y1,y2,y3⟩:=iq (jk l (List.mem_of_getElem? hj));have hne:(bC x).1≠(bC y).1:=fun e=>ha _ ⟨x2,by rw[e];exact y2⟩
 by_cases hlt:(bC x).1<(bC y).1
 ·exact hlt
 ·exfalso
  have hyx:U0 y x:=⟨(bC y).1,y1,fun d hd=>by rw[y3 d hd,x3 d (by omega)],y2,x3 _ (by omega)⟩;rw[<-jw]at hyx;rw[hyx]at hs;exact Bool.noConfusion hs
theorem vS (l:List BS):0<(partsOf l).length:=by obtain⟨k,q,h,_⟩:=mg l 0 (by decide);have:=(List.getElem?_eq_some_iff.1 h).1;omega
theorem wW (l:List BS):(partsOf l).isEmpty=false:=by
 have:=vS l;cases h:partsOf l with
 | nil=>rw[h]at this;simp at this
 | cons=>rfl
structure cw (p:List BS) (R:Nat->Nat->Prop):Prop where
 some:p.isEmpty=false
 apart:p.Pairwise tA
 ne:∀ q∈p,q≠0
 cover:∀ c,c<256->∃ (k:Nat) (q:BS),p[k]? =Option.some q/\q.getLsbD c=true
 alike:∀ q∈p,∀ c d,c<256->d<256->q.getLsbD c=true->(q.getLsbD d=true↔R c d)
 first:∀ (i j:Nat) (x y:BS),p[i]? =Option.some x->p[j]? =Option.some y->i<j->(bC x).1<(bC y).1
theorem cw.jy (l:List BS):cw (partsOf l) (Alike l):=
 ⟨wW l,mf l,fun _ h=>jk l h,mg l,fun _ hq _ _ hc hd h=>AP l hq hc hd h,fun _ _ _ _ h1 h2 h3=>rI l h1 h2 h3⟩
theorem cw.lN {p:List BS} {R:Nat->Nat->Prop} (h:cw p R) {c k:Nat} (hc:c<256):cls p c=k↔ ∃ q:BS,p[k]? =Option.some q/\q.getLsbD c=true:=by
 have h1:∃ q,p[cls p c]? =Option.some q/\q.getLsbD c=true:=by
  rcases uR p c hc with⟨k,s,h1,h2,h3⟩ | ⟨h1,_⟩
  ·rw[tu _ hc]at h3;cases h3;exact⟨s,h1,h2⟩
  ·obtain⟨k,q,h2,h3⟩:=h.cover c hc
   rw[h1 q (List.mem_of_getElem? h2)]at h3;cases h3
 constructor
 ·rintro rfl;exact h1
 ·rintro⟨q,h2,h3⟩
  obtain⟨q',h4,h5⟩:=h1;exact vR h.apart h4 h2 h5 h3
theorem cw.gJ {p:List BS} {R:Nat->Nat->Prop} (h:cw p R) {c d:Nat} (hc:c<256) (hd:d<256):cls p c=cls p d↔R c d:=by
 obtain⟨q,h1,h2⟩:=(h.lN hc).1 rfl;rw[<-h.alike q (List.mem_of_getElem? h1) c d hc hd h2];constructor
 ·intro e
  obtain⟨q',h3,h4⟩:=(h.lN hd).1 rfl;rw[<-e,h1]at h3;cases h3;exact h4
 ·intro h3;exact((h.lN hd).2 ⟨q,h1,h3⟩).symm
theorem cw.symm {p:List BS} {R:Nat->Nat->Prop} (h:cw p R) {c d:Nat} (hc:c<256) (hd:d<256) (hr:R c d):R d c:=(h.gJ hd hc).1 ((h.gJ hc hd).2 hr).symm
theorem Ev {s:BS} (h:s≠0):∃ c,c<256/\s.getLsbD c=true:=by obtain⟨_,h1,h2,_⟩:=iq h;exact⟨_,h1,h2⟩
theorem cw.mem_of {p q:List BS} {R S:Nat->Nat->Prop} (hp:cw p R) (hq:cw q S) (h:∀ c d,c<256->d<256->(R c d↔S c d)) {x:BS} (hx:x∈p):x∈q:=by
 obtain⟨c,hc,hxc⟩:=Ev (hp.ne x hx);obtain⟨k,s,hs,hsc⟩:=hq.cover c hc;have:x=s:=BS.ext fun d hd=>by
  rw[Bool.eq_iff_iff,hp.alike x hx c d hc hd hxc,hq.alike s (List.mem_of_getElem? hs) c d hc hd hsc,h c d hc hd]
 rw[this];exact List.mem_of_getElem? hs
theorem cw.sorted {p:List BS} {R:Nat->Nat->Prop} (hp:cw p R):p.Pairwise fun x y=>(bC x).1<(bC y).1:=by rw[List.pairwise_iff_getElem];intro i j hi hj oZ;exact hp.first i j _ _ (List.getElem?_eq_getElem hi) (List.getElem?_eq_getElem hj) oZ
theorem Cf {f:BS->Nat} :∀ (p q:List BS),p.Pairwise (fun x y=>f x<f y)->q.Pairwise (fun x y=>f x<f y)->(∀ x,x∈p↔x∈q)->p=q
 | [],q,_,_,h=>by
  cases q with
  | nil=>rfl
  | cons y q=>have:=(h y).2 (by simp);simp at this
 | x::p,q,hp,hq,h=>by
  cases q with
  | nil=>have:=(h x).1 (by simp);simp at this
  | cons y q=>
   rw[List.pairwise_cons]at hp hq;have hxy:x=y:=by
    have h1:=(h x).1 (by simp);have h2:=(h y).2 (by simp);rcases List.mem_cons.1 h1 with e | h1
    ·exact e
    ·rcases List.mem_cons.1 h2 with e | h2
     ·exact e.symm
     ·have a:=hq.1 x h1;have b:=hp.1 y h2;omega
   subst hxy;congr 1;refine Cf p q hp.2 hq.2 fun z=>?_
   have hz:=h z;simp only[List.mem_cons]at hz;constructor
   ·intro hzp
    rcases hz.1 (.inr hzp)with e | h1
    ·subst e;have:=hp.1 z hzp;omega
    ·exact h1
   ·intro hzq
    rcases hz.2 (.inr hzq)with e | h1
    ·subst e;have:=hq.1 z hzq;omega
    ·exact h1
theorem cw.uniq {p q:List BS} {R S:Nat->Nat->Prop} (hp:cw p R) (hq:cw q S) (h:∀ c d,c<256->d<256->(R c d↔S c d)):p=q:=
 Cf p q hp.sorted hq.sorted fun _=>⟨fun hx=>hp.mem_of hq h hx,fun hx=>hq.mem_of hp (fun c d hc hd=>(h c d hc hd).symm) hx⟩
theorem cw.NH {p:List BS} {R:Nat->Nat->Prop} (hp:cw p R) {c d:Nat} (hc:c<256) (hd:d<256):Alike p c d↔R c d:=by
 constructor
 ·intro h
  obtain⟨k,s,hs,hsc⟩:=hp.cover c hc;have:=h s (List.mem_of_getElem? hs);exact(hp.alike s (List.mem_of_getElem? hs) c d hc hd hsc).1 (by rw[<-this];exact hsc)
 ·intro hr s hs
  rw[Bool.eq_iff_iff];exact⟨fun h=>(hp.alike s hs c d hc hd h).2 hr,fun h=>(hp.alike s hs d c hd hc h).2 (hp.symm hc hd hr)⟩
theorem AQ (v:Value) (l:List BS) (w:World) (h:qO w v l) (hn:l.length<=1000000): Calls Tryz.prog 42 #[v] w fun e w'=>∃ u,e=.returned u/\w'.ownsRow w.heap.size 59 4 u l.length (aN l)/\Below w.heap.size w w':=by
 obtain⟨i0,hi,hz0,hz1,hz2⟩:=info_parts Tryz.BU;rcases h.1 with⟨rfl,rfl⟩ | ⟨b,off,cap,rfl,hb,hc⟩
 ·have he:=fun W=>Lib.run_eql_slice_nil (P:=Tryz.prog) W 25 59 none 0 0 0 0 Tryz.underlying25
  clear h;go_enter Tryz.func42,Tryz.ntmps42;go_wp2;go_ret;exact⟨_,rfl,World.ownsRow_nil _ _ _ _,Below.refl _ _⟩
 ·have hnews:∀ j u,(aN l)[j]? =some u->w.cell? ((⟨b,off,none⟩:Addr).add j)=some u:=fun j u hj=>by
   have hj4:j<l.length*4:=by have:=(List.getElem?_eq_some_iff.1 hj).1;rwa[cT]at this
   have hs:l[j/4]? =some (l[j/4]'(by omega)):=List.getElem?_eq_getElem (by omega);have h1:=ji l hs (Nat.mod_lt j (by decide:0<4));rw[show j/4*4+j%4=j by omega,hj]at h1;rw[Addr.add_mid,show off+j=off+j/4*4+j%4 by omega,hc _ _ hs _ (Nat.mod_lt j (by decide))];exact h1.symm
  obtain⟨n,oV⟩:∃ n,n=l.length:=⟨_,rfl⟩;rw[<-oV]at hn ⊢;have HN:=hid oV;have HNw:=hid hnews;have he:=fun W=>Lib.run_eql_slice_nil (P:=Tryz.prog) W 25 59 (some ⟨b,off,none⟩) n cap 0 0 Tryz.underlying25
  clear h hc hnews oV;go_enter Tryz.func42,Tryz.ntmps42;have o1:(w.alloc (.cells #[] 59 (0,0))).ownsRow w.heap.size 59 4 (.slice (some ⟨w.heap.size,0,none⟩) 0 0) 0 []:=⟨rfl,.inr ⟨w.heap.size,0, #[],rfl,Nat.le_refl _,World.alloc_heap_new _ _,Nat.le_refl _,by simp,rfl,rfl⟩⟩;have Rc:=hid o1;clear o1;go_wp2_with (at_builtin;(refine wpList_append_own_at _ rfl (.tmp 5) (.tmp 6) 25 rfl w.heap.size 59 i0 (.agg #[.int .u64 0,.int .u64 0,.int .u64 0,.int .u64 0]) 4 32 Tryz.underlying25 hi hz0 hz1 hz2 rfl (by decide) _ 0 [] rfl Rc.out ⟨b,off,none⟩ n cap (aN l) rfl (by rw[cT,HN.out]) (fun j u hj=>(((Ext.refl w).alloc _).cell (p:=(⟨b,off,none⟩:Addr).add j) (by rw[Addr.add_mid];exact hb)).trans (HNw.out j u hj)) (iJ l) (by unfold maxLen;omega) (by omega) (by simp) ?_;intro v' w2 ho hg _ _;have j8:=hid ho;have HG:=hid hg;obtain⟨a2,c2,rfl⟩:=ownsRow_form ho;clear ho hg));go_ret;refine⟨_,rfl,?_,?_⟩
  ·have:=j8.out
   rwa[Nat.zero_add,List.nil_append]at this
  ·exact((Below.refl _ _).alloc (Nat.le_refl _) _).grown HG.out (by simp) (fun c e=>(Rc.out.lt c e).1)
end
section
open Go Go.RowKit
theorem ak {C:World->Prop} {d:Bool} {T:Nat->Prop} {w:World} (hC:∀ W,C W↔Move d T w W) {p:Addr} {v:Option Value} (hs:p.block<w.heap.size) (ht:¬T p.block) (h:w.cell? p=v):∀ W: {W//C W},W.1.cell? p=v:=fun W=>
 (((hC W.1).1 W.2).keeps.cell ⟨hs,ht⟩).trans h
theorem az {P:Program} {f:FuncId} {args:Array Value} {w:World} {R:Ending->World->Prop} (h:∀ W,W=w->Calls P f args W R):Calls P f args w R:=h w rfl
end
section
open Go Go.RowKit Go.Shelf Go.Maps
theorem aa.setRow {R:Nat->Prop} {A B:World} (h:aa R A B) {g:Nat} (hp:¬R g) (c:Array Value):aa R A (B.setRow g c):=
 ⟨h.os,h.tape,h.output,Nat.le_trans h.size (by simp),fun k hk=>(setRow_other B g k c (fun e=>hp (e▸hk))).trans (h.keep k hk)⟩
end
end Go.Proofs.YtalombmiochpmaaGreatDoor
