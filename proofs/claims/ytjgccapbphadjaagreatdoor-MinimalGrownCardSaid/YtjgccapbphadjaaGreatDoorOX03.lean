/- dfa.Right; slices.ContainsFunc at ints; slices.Equal at sets, whatever they are. -/
import Derived.Test.YtjgccapbphadjaaGreatDoorOX02
import Derived.Shelf.Bytes.SlEqualAll
import Derived.Lib.SmallJoins
import Derived.Great.BuildSlice
set_option maxRecDepth 100000
set_option maxHeartbeats 16000000
open Go.Lib (hid)
open Go renaming Value->An,World->As,TypeId->AS,wpList_append_own_at->D0,Program->G_,TypeInfo->IN,run_append_owned_none->Lo,Addr->Lw,info_parts->M_,run_append_own_at->NX,Oper->Q_,run_append_room->RE,Operand->SO,FuncId->S',Ending->To,MemPlace->VH,Act->Y_
open Option renaming some->AF,none->AN,bind_eq_some_iff->I'
open List renaming getElem?_eq_some_iff->AI,pairwise_iff_getElem->Bm,mem_append->Bs,mem_cons->C',reverse_reverse->DQ,append_nil->EV,findIdx?_eq_some_iff_getElem->E_,take_add_one->FF,reverse_cons->FG,getElem?_of_mem->GO,pairwise_cons->H',findIdx?_eq_none_iff->If,map_toArray->IT,length_cons->I_,take_of_length_le->J_,nil_append->K_,map_cons->L7,mem_singleton->MY,map_nil->N_,length_take->O_,take_length->O',length_nil->Rr,take_left->R_,mem_map->UP,range->X'
open Go.Value renaming slice->AM,ownBlock->B',int->Ft,bool->P',agg->W_
open Go.Lib renaming run_eql_slice_nil->AT,hid->DP
open Go.Proofs.Tryz renaming prog->A_,underlying26->Is,underlying39->It,underlying44->Iv,ntmps66->On,func66->P_,ntmps124->Sf,ntmps33->St,ntmps27->S_,ntmps22->T_,func124->US,ntmps63->U_,func33->U',func27->V_,func22->V',func63->Wr
open Bool renaming true->A',and_eq_true->D',not_eq_true'->N',noConfusion->OR,eq_iff_iff->RC,false->Se
open Go.Ending renaming returned->By
open Array renaming length_toList->B_,getElem?_toList->DE,getElem?_eq_some_iff->H_,getElem?_eq_none->Kx
open Nat renaming zero_add->Cd,mul_le_mul_right->D_,add_mul->Ly,le_trans->TO,mul_one->Wg,mod_lt->X_
open BitVec renaming getLsbD_and->C_,getLsbD_not->L_
open Go.Result renaming andThen_ok->DH
open Go.RowKit.Below renaming refl->DS
open Go.World renaming ownsRow_nil->F_,alloc_heap_new->GS
open Go.Addr renaming add_mid->GB
open Option.some renaming inj->GW
open Go.Sem renaming run_bind->G',run_pure->J'
open Go.Region renaming wanted->IF
namespace Go.Proofs.YtjgccapbphadjaaGreatDoor
section
open Go Go.RowKit Go.Shelf Go.Maps
attribute [local go_sem] encS
def gF (w:As) (v:An) (l:List BS):Prop:=cU w v l/\∀ a n cap,v=AM a n cap->n<=cap
theorem cU.form {w:As} {v:An} {l:List BS} (h:cU w v l):∃ a cap,v=AM a l.length cap:=by
 rcases h with⟨h,rfl⟩ | ⟨b,off,cap,hv,_⟩
 ·exact⟨_,_,h⟩
 ·exact⟨_,_,hv⟩
theorem s6 (v1 v2:An) (l1 l2:List Int) (w:As) (h1:bw aG w v1 l1) (h2:bw aG w v2 l2) (hn:l1.length<=1000000): ah 33 #[v1,v2] w fun e w'=>e=By (P' (l1==l2))/\Ext w w':=by
 obtain⟨a1,c1,rfl⟩:=h1.form;obtain⟨a2,c2,rfl⟩:=h2.form;obtain⟨n,iV⟩:=ag l1.length;obtain⟨m,tX⟩:=ag l2.length;rw[<-iV]at hn h1 ⊢;rw[<-tX]at h2 ⊢;obtain⟨r,hr⟩:=ag ((l1==l2));rw[<-hr];have H1:=DP h1;have H2:=DP h2;have HN:=DP iV;have HM:=DP tX;have HR:=DP hr;clear h1 h2 iV tX hr;by_cases hnm:n=m
 ·subst hnm
  go_enter U',St
  go_wp2;go_loopw [13] (fun i wr=>∃ k:Nat,k<=n/\i=Ft .i64 k/\l1.take k=l2.take k/\Ext w wr) (fun i _=>n-(intOf i).toNat);case atStart=>exact⟨0,by omega,rfl,rfl,Ext.refl _⟩
  case round=>
   obtain⟨k,hk,rfl,ht,hx⟩:=hrel;obtain⟨wo,rfl⟩:=ag (wr:As);by_cases hlt:k<n
   ·obtain⟨x,yR⟩:∃ x,l1[k]? =AF x:=⟨_,aB (by have:=HN.out;omega)⟩
    obtain⟨y,hyl⟩:∃ y,l2[k]? =AF y:=⟨_,aB (by have:=HM.out;omega)⟩;obtain⟨g1,o1,rfl,hg1,hc1⟩:=H1.elem yR;obtain⟨g2,o2,rfl,hg2,hc2⟩:=H2.elem hyl;have d1:wo.cell? ⟨g1,o1+k,AN⟩=AF (Ft .i64 x):=(hx.cell (p:=⟨g1,o1+k,AN⟩) hg1).trans hc1;have d2:wo.cell? ⟨g2,o2+k,AN⟩=AF (Ft .i64 y):=(hx.cell (p:=⟨g2,o2+k,AN⟩) hg2).trans hc2;have NL:=DP yR;have HYL:=DP hyl;have HT:=DP ht;have HX:=DP hx;clear yR hyl ht hx hc1 hc2;go_wp2;refine eK (fun b=>b=g1\/b=g2) (by kernel_rfl) (fun i=>Se) (by kernel_rfl) ?_;intro C hC hne W0 yJ hblk hsz hx0;have f1:=dh hC (.inl rfl) d1;have f2:=dh hC (.inr rfl) d2;have Lb:=DP hx0;clear hC yJ hblk hsz hx0 d1 d2
    repeat (refine bN (fun K hK=>?_);refine dt rfl ?_;unfold az;go_simp;refine hK _ _ ?_;clear hK K)
    refine nT ?_;by_cases NM:x=y
    ·subst NM
     go_wp2;go_roundw;case rel=>
      refine⟨k+1,by omega,by go_num,?_,HX.trans Lb⟩;rw[FF,FF,NL.out,HYL.out,HT.out]
     case measure=>simp[intOf];omega
    ·have hr:r=false:=by
      rw[HR.out,beq_eq_false_iff_ne];intro e;have h1:=NL.out;rw[e,HYL.out]at h1;exact NM (GW h1).symm
     have iz:=DP hr;clear hr;go_wp2;go_ret;exact⟨by rw[iz.out];rfl,HX.trans Lb⟩
   ·obtain rfl:k=n:=by omega
    have hr:r=true:=by rw[HR.out,beq_iff_eq, <-J_ (l:=l1) (i:=k) (by have:=HN.out;omega),ht,J_ (by have:=HM.out;omega)]
    have iz:=DP hr;have HX:=DP hx;clear ht hr hx;go_wp2;go_ret;exact⟨by rw[iz.out];rfl,HX⟩
 ·have hr:r=false:=by
   rw[HR.out,beq_eq_false_iff_ne];intro e;have h1:=HN.out;have h2:=HM.out;rw[e]at h1;omega
  have iz:=DP hr;clear hr;go_enter U',St;go_wp2;go_ret;exact⟨by rw[iz.out];rfl,Ext.refl _⟩
end
section
open Go Go.RowKit Go.Shelf Go.Maps
theorem yS {A B:As} (h:Ext A B) (n:Nat):Ext A (B.drewN n):=⟨h.os,h.tape,h.output,Nat.le_add_right_of_le h.drawn,h.size,h.keep⟩
end
section
open Go Go.RowKit Go.WideShapes Go.ChangeShapes Go.ChangeAt Go.Deep
section
variable {H:Type} {enc:AS×An→H} {P:G_}
theorem oY (hl:laidOutB P=A') {W W':As} {sp:Nat->Bool} :∀ (ts:List AS) (vs:List An) (ds:List (DataW H)) (ps:List VH),(∀ t∈ts,P.readableRec t=A'/\t<P.types.size)-> DataW.TrodAll enc P W 0 (fun _=>A') A' ts vs ds ps->(∀ p∈ps,W.sameAt W' p)->(∀ p∈ps,sp p.block=A')->DataW.TrodAll enc P W' 0 sp A' ts vs ds ps
 | [],vs,ds,ps,_,h,_,_=>by
  obtain⟨rfl,rfl,rfl⟩:=trodAll_nil h;rfl
 | t::ts,vs,ds,ps,ht,h,hs,hsp=>by
  obtain⟨v,vs',d,ds',p,q,rfl,rfl,rfl,h1,h2⟩:=trodAll_cons h
  exact⟨p,q,WideElems.Trod_stays hl (ht t (by simp)).1 (ht t (by simp)).2 h1 (fun x hx=>hs x (by simp[hx])) (fun x hx=>hsp x (by simp[hx])),
   oY hl ts vs' ds' q (fun t h=>ht t (by simp[h])) h2 (fun x hx=>hs x (by simp[hx])) (fun x hx=>hsp x (by simp[hx])),rfl⟩
theorem Pg (hl:laidOutB P=A') {f:Func} {s:ChangeSpec} {apart fresh handsOn:Bool} {W W':As} {args:Array An} {ds gs:List (DataW H)} {before:List VH} {tb:AS} (VU:s.vars=[]) (Lk:∀ t∈f.params.toList,P.readableRec t=A'/\t<P.types.size) (hres:f.resultTypes= #[tb]) (htb:P.underlying tb=AF .bool) (hfn:s.fn H ds= {results:=[.lit (.bool A')],args:=ds}) (hW:DataW.Whole enc P f.params.toList s.vars apart W args.toList ds gs before) (hb:aa W W'): s.post enc P f apart fresh handsOn Se W args (P' A') W':=by
 have Ll:=hW;obtain⟨p,q,hA,hV,rfl,hz,hn⟩:=hW;have hV':=hV;rw[VU]at hV';obtain⟨rfl,rfl⟩:=trodVars_none hV';have hlt:∀ x∈p++ [],x.block<W.heap.size:=fun x hx=>Ll.lt x hx
 simp only[EV]at hlt Ll;refine⟨ds,[],p,[],p,[],Ll,?_,?_,?_,?_,fun h=>(by cases h)⟩
 ·rw[EV,hfn,hres]
  exact trodAll_mk1 (shut_bool htb A')
 ·rw[EV,hfn]
  exact oY hl _ _ _ _ Lk hA (fun x hx=>hb.same (hlt x hx)) (fun x hx=>by simpa using hlt x hx)
 ·rw[EV,hfn,VU]
  rfl
 ·exact World.keptBut_mono (fun x hx=>⟨hx,Or.inr (.inl hx)⟩) (hb.frame (· ∈p))
end
section
variable {H:Type} {enc:AS×An→H} {W:As} {base:Nat} {sp:Nat→Bool}
end
end
section
open Go Go.ChangeShapes Go.WideShapes Go.ChangeAt Go.RowKit
section
variable {H:Type} {enc:AS×An→H} {W:As}
theorem Du {n:Int} (h:(Lit.int .u8 n).wf=A'):0<=n/\n<256:=by
 simp only[Lit.wf,D',decide_eq_true_eq]at h;have h1:IntKind.u8.min=0:=by decide
 have h2:IntKind.u8.max=255:=by decide
 omega
theorem Ub {r:Reach} {v:An} {d:DataW H} {p:List VH} {b0:Nat} (j5:Value.okWide A_ W r b0 5 v) (h:DataW.Trod enc A_ W 0 (fun _=>A') A' 5 v d p):∃ n:Nat,v=Ft .u8 n/\n<256:=by obtain⟨n,rfl,_,_,hw⟩:=open_int Tryz.underlying5 j5 h;have:=Du hw;exact⟨n.toNat,by rw[Int.toNat_of_nonneg this.1],by omega⟩
end
theorem Tryz.own:ownKnob A_.godebug=none:=by kernel_rfl
theorem Tryz.laidOut:laidOutB A_=true:=by kernel_rfl
end
section
open Go Go.RowKit
def s7 (w:As) (x:An) (m:Nat) (news:List An):Prop:=(x=AM AN 0 0/\m=0/\news=[])\/∃ ad c,x=AM (AF ad) m c/\∀ j u,news[j]? =AF u->w.cell? (ad.add j)=AF u
section
variable {P:G_} {ops:Array Q_} {F:Fence} {n:Nat} {C:As→Prop}
theorem jG (w:As) (base:Nat) (t ty e:AS) (i:IN) (z:An) (size bytes:Nat) (ht:P.underlying t=AF (.slice e)) (hi:P.info? e=AF i) (hz:i.zero=AF z) (hsize:i.size=size) (hby:i.bytes=bytes) (hzs:z.cells.size=size) (hsz:0<size) (v:An) (k:Nat) (xs:List An) (hown:w.ownsRow base e size v k xs) (x:An) (m:Nat) (news:List An) (hx:s7 w x m news) (hl:news.length=m*size) (h1:∀ u∈news,u.oneCell'=A') (h63:k+m<=maxLen) (hbytes:(k+m)*bytes<=140737488355328) (hbase:base<=w.heap.size): ∃ v' w',(Builtin.append_ #[t,t] ty #[v,x]).run P w=.ok v' w'/\w'.ownsRow base e size v' (k+m) (xs++news)/\w.grownBy w' v.ownBlock:=by
 rcases hx with⟨rfl,rfl,rfl⟩ | ⟨ad,c,rfl,hnews⟩
 ·refine⟨v,w,?_,?_,World.grownBy.refl _ _⟩
  ·exact Lo (P:=P) (w:=w) base t ty e i size ht hi v k xs hown
  ·rw[EV];exact hown
 ·obtain⟨v',w',hr,h2,h3,_⟩:=NX (P:=P) w base t ty e i z size bytes ht hi hz hsize hby hzs hsz v k xs hown ad m c news hl hnews h1 h63 hbytes hbase
  exact⟨v',w',hr,h2,h3⟩
theorem jH {Q:Exit->Y_->As->Prop} {a:Y_} {w:As} {rest:List Q_} {o:Q_} (hw:IF o (yielded ops a.tmps)=A') (h:∀ K:Y_->As->Prop,(∀ a w,wpList P ops Q rest a w->K a w)->o.wp P a w K Q):wpList P ops Q (o::rest) a w:=by unfold wpList;rw[if_pos hw];exact .inl (h _ fun _ _ h=>h)
theorem mU {rest:List Q_} {o:Q_} {a:Y_} {w:As} {Q:Exit->Y_->As->Prop} (hw:IF o (yielded ops a.tmps)=A') (s x:SO) (t:AS) (ho:o.op=.call {callee:=.builtin .append,args:= #[s,x],argTypes:= #[t,t]}) (base:Nat) (e:AS) (i:IN) (z:An) (size bytes:Nat) (ht:P.underlying t=AF (.slice e)) (hi:P.info? e=AF i) (hz:i.zero=AF z) (hsize:i.size=size) (hby:i.bytes=bytes) (hzs:z.cells.size=size) (hsz:0<size) (v:An) (k:Nat) (xs:List An) (hs:a.eval s=v) (hown:w.ownsRow base e size v k xs) (xv:An) (m:Nat) (news:List An) (hx:a.eval x=xv) (Ya:s7 w xv m news) (hl:news.length=m*size) (h1:∀ u∈news,u.oneCell'=A') (h63:k+m<=maxLen) (hbytes:(k+m)*bytes<=140737488355328) (hbase:base<=w.heap.size) (h:∀ v' w',w'.ownsRow base e size v' (k+m) (xs++news)->w.grownBy w' v.ownBlock->wpList P ops Q rest (a.put o.dst v') w'): wpList P ops Q (o::rest) a w:=by
 refine jH hw fun K hK=>?_
 obtain⟨v',w',hr,h2,h3⟩:=jG (P:=P) w base t o.type e i z size bytes ht hi hz hsize hby hzs hsz v k xs hown xv m news Ya hl h1 h63 hbytes hbase;unfold Oper.wp execOp;simp only[ho,resolve,invoke,builtin,G',J',DH,IT,L7,N_,hs,hx,hr];exact hK _ _ (h v' w' h2 h3)
end
theorem kQ {base:Nat} {e:AS} {size g n cap:Nat} (o0:Nat):∀ (vs:List An) (o:Nat) (w:As) (xs:List An),o0<=o->w.ownsRow base e size (AM (AF ⟨g,0,AN⟩) n cap) n xs-> ∃ ys,(w.setCells g o vs).ownsRow base e size (AM (AF ⟨g,0,AN⟩) n cap) n ys/\ae (· ≠g) w (w.setCells g o vs)
 | [],_,w,xs,_,h=>⟨xs,h,ae.refl _ _⟩
 | v::r,o,w,xs,ho,h=>by
  obtain⟨ys,h1,h2⟩:=kQ o0 r (o+1) _ _ (by omega) (h.stored o v).1;exact⟨ys,h1,((ae.refl (· ≠g) w).setCell (p:=⟨g,o,AN⟩) (fun h=>h rfl) v).tr h2⟩
end
section
open Go Go.RowKit Go.Shelf Go.Maps
theorem GN (a b c:BS) (h:(!ltOf aW b a)=A') (k:(!ltOf aW c b)=A'):(!ltOf aW c a)=true:=by
 simp only[N']at*;cases Yb:ltOf aW c a with
 | false=>rfl
 | true=>
  exfalso;rw[<-Bool.not_eq_true,eN]at h k;rw[eN]at Yb;rcases nY a b with e | e | e
  ·subst e;exact k Yb
  ·exact k (ig Yb e)
  ·exact h e
theorem GQ (a b:BS):((!ltOf aW b a) || (!ltOf aW a b))=true:=by
 cases XZ:ltOf aW b a with
 | false=>rfl
 | true=>
  cases hab:ltOf aW a b with
  | false=>rfl
  | true=>
   rw[eN]at XZ hab;exact absurd (ig XZ hab) (jE b)
theorem vg (l:List BS):(partsOf l).Pairwise fun x y=>(!ltOf aW y x)=true:=List.pairwise_mergeSort GN GQ _
theorem eZ (l:List BS):(partsOf l).Perm (bc l):=List.mergeSort_perm _ _
attribute [local go_sem] encS
theorem Dv {α:Type} {enc:α->An} {w:As} {B:Nat} {c:Array An} {t:AS} {fr:Nat×Nat} {n cap:Nat} (l:List α) (h:w.heap[B]? =AF (.cells c t fr)) (hc:c.toList=l.map enc) (hn:n=l.length) (mD:l.length<=cap):bw enc w (AM (AF ⟨B,0,AN⟩) n cap) l:=by refine .inr ⟨B,0,cap,by rw[hn],(H_.1 h).1,mD,fun i x hi=>?_⟩;rw[cell_of_row w B (0+i) c t fr h,Cd, <-DE,hc,aN,hi];rfl
theorem GR {w:As} {B:Nat} {c:Array An} {t:AS} {n cap:Nat} (l:List BS) (h:ar w B c t) (hc:c.toList=aL l) (hn:n=l.length):cU w (AM (AF ⟨B,0,AN⟩) n cap) l:=by refine .inr ⟨B,0,cap,by rw[hn],h.lt,fun i s hi j hj=>?_⟩;rw[h.cell,Cd, <-DE,hc];have:=ij l hi hj;simpa using this
theorem ai {w w':As} {base n size:Nat} {v:An} {e:AS} {l:List An} (h:w.ownsRow base e size v n l) (hk:aa w w'):w'.ownsRow base e size v n l:=
 ak h (ae.aj hk fun _ h=>h) (fun k e=>(h.lt k e).2)
end
section
open Go Go.RowKit Go.Shelf Go.Maps
theorem ar.range {w:As} {b:Nat} {c:Array An} {t:AS} (h:ar w b c t):w.rangeAt b 0 c.toList:=fun j v hj=>by
 rw[Cd,h.cell j, <-DE];exact hj
theorem ar.setRow {w:As} {b:Nat} {c c':Array An} {t:AS} (h:ar w b c t):ar (w.setRow b c') b c' t:=setRow_heap w b c c' t _ h
theorem mV {P:G_} {ops:Array Q_} {Q:Exit->Y_->As->Prop} {a:Y_} {w:As} {rest:List Q_} {o:Q_} (hw:IF o (yielded ops a.tmps)=A') (h:∀ K:Y_->As->Prop,(∀ a w,wpList P ops Q rest a w->K a w)->o.wp P a w K Q):wpList P ops Q (o::rest) a w:=by unfold wpList;rw[if_pos hw];exact .inl (h _ fun _ _ h=>h)
theorem aY {P:G_} {ops:Array Q_} {rest:List Q_} {op:Q_} {a:Y_} {w:As} {Q:Exit->Y_->As->Prop} (hw:IF op (yielded ops a.tmps)=A') (ty:AS) (x:SO) (ho:op.op=.load ty x) (b:Nat) (hx:a.eval x=.pointer (AF ⟨b,0,AN⟩)) (cs:Array An) (d:TypeDesc) (hc:w.rangeAt b 0 cs.toList) (hu:P.underlying ty=AF d) (hd:d.isRow=A') (hi:(P.info? ty).map (·.size)=AF cs.size) (h:wpList P ops Q rest (a.put op.dst (W_ cs)) w):wpList P ops Q (op::rest) a w:=
 mV hw fun _ hK=>wp_load_mid ty x ho b 0 hx cs.toList d hc hu hd (by rw[B_];exact hi) (hK _ _ h)
end
section
open Go Go.RowKit
theorem Ph (o:Nat) (l:List An):∀ (k:Nat) (X:Array An) (i:Nat),o+k+l.length<=X.size-> ((l.zipIdx k).foldl (fun a (x:An×Nat)=>a.setIfInBounds (o+x.2) x.1) X)[i]? =if o+k<=i/\i<o+k+l.length then l[i-(o+k)]? else X[i]? :=by
 induction l with
 | nil=>intro k X i _;simp only[List.zipIdx_nil,List.foldl_nil,Rr];rw[if_neg (by omega)]
 | cons c l ih=>
  intro k X i hs;rw[I_]at hs;rw[List.zipIdx_cons,List.foldl_cons,ih (k+1) _ i (by simp;omega),I_];by_cases h1:o+(k+1)<=i/\i<o+(k+1)+l.length
  ·rw[if_pos h1,if_pos (by omega),show i-(o+k)=(i-(o+(k+1)))+1 by omega,List.getElem?_cons_succ]
  ·rw[if_neg h1,Array.getElem?_setIfInBounds]
   by_cases h2:o+k=i
   ·rw[if_pos h2,if_pos (by omega),if_pos (by omega),show i-(o+k)=0 by omega];rfl
   ·rw[if_neg h2,if_neg (by omega)]
theorem pP {P:G_} {t e:AS} {i:IN} {z:An} {m:Nat} (ht:P.underlying t=AF (.slice e)) (hi:P.info? e=AF i) (hz:i.zero=AF z) (hsz:i.size=m) (hm:0<m) (mE:m<=16777216) (cs:Array An) (hc:cs.size=m) (w:As): (Instr.buildSlice t 1 #[(0,W_ cs)]).run P w=.ok (AM (AF ⟨w.heap.size,0,AN⟩) 1 1) (w.alloc (.cells cs e)):=by
 have abN:∀ X:Array An,X.size=m->Instr.fill (fun i=>AF (i*m,m)) X [(0,W_ cs)]=AF cs:=fun X hX=>by
  have h1:(W_ cs).cells=cs:=rfl;unfold Instr.fill;simp only[h1,hc,Nat.zero_mul,Cd,hX,ne_eq,not_true,decide_false,Bool.false_or];rw[if_neg (by simp)];unfold Instr.fill;congr 1;rw[<-Array.foldl_toList,Array.toList_zipIdx];apply Array.ext_getElem?;intro j;have:=Ph 0 cs.toList 0 X j (by rw[B_];omega);simp only[Cd]at this;rw[this,B_,Nat.sub_zero];by_cases hj:j<cs.size
  ·rw[if_pos ⟨Nat.zero_le _,hj⟩,DE]
  ·rw[if_neg (fun h=>hj h.2),Kx (by omega),Kx (by omega)]
 have hs:∀ w,(sizeOf e).run P w=.ok m w:=fun w=>by simp[sizeOf,typeInfo,hi,hsz]
 have hz':∀ w,(zeroValue e).run P w=.ok z w:=fun w=>by simp[zeroValue,typeInfo,hi,hz]
 unfold Instr.buildSlice;simp only[G',run_underlying ht,DH,hs,Nat.one_mul];rw[if_neg (by omega),if_neg (by omega)];simp only[G',hz',DH,J'];rw[abN _ (by simp)];rfl
section
variable {F:Fence} {n:Nat} {P:G_} {C:As→Prop}
end
end
section
open Go Go.RowKit Go.Shelf Go.Maps
attribute [local go_sem] encS
end
section
open Go Go.RowKit Go.Shelf Go.Maps
attribute [local go_sem] encS
end
section
open Go Go.RowKit Go.Shelf Go.Maps
def Alike (l:List BS) (c d:Nat):Prop:=∀ s∈l,s.getLsbD c=s.getLsbD d
theorem Jy {s p x:BS} :x∈cut s p↔(x=p&&& s\/x=p&&& ~~~s)/\x≠0:=by unfold cut;simp only[List.mem_filter,C',List.not_mem_nil,or_false,N',beq_eq_false_iff_ne]
theorem kC {s x:BS} {l:List BS} :x∈aX s l↔ ∃ p∈l,(x=p&&& s\/x=p&&& ~~~s)/\x≠0:=by unfold aX;simp only[List.mem_flatMap,Jy]
theorem mW (c:Nat):(0:BS).getLsbD c=false:=BitVec.getLsbD_zero
theorem uA (s:BS) {c:Nat} (hc:c<256):(~~~s).getLsbD c= !s.getLsbD c:=by rw[L_];simp[hc]
theorem Jz {c:Nat} (hc:c<256):(~~~(0:BS)).getLsbD c=true:=by rw[uA _ hc,mW];rfl
theorem vh (l:List BS) (c:Nat) (hc:c<256):∃ q∈bc l,q.getLsbD c=true:=by
 suffices ∀ r:List BS,∃ q∈bc r.reverse,q.getLsbD c=A' by have:=this l.reverse;rwa[DQ]at this
 intro r;induction r with
 | nil=>exact⟨~~~0,by simp[bc],Jz hc⟩
 | cons s r ih=>
  obtain⟨q,hq,Pj⟩:=ih;rw[FG,iy];cases hs:s.getLsbD c with
  | true=>
   have h:(q&&& s).getLsbD c=true:=by rw[C_,Pj,hs];rfl
   exact⟨q&&& s,kC.2 ⟨q,hq,.inl rfl,fun e=>by rw[e,mW]at h;cases h⟩,h⟩
  | false=>
   have h:(q&&& ~~~s).getLsbD c=true:=by rw[C_,Pj,uA _ hc,hs];rfl
   exact⟨q&&& ~~~s,kC.2 ⟨q,hq,.inr rfl,fun e=>by rw[e,mW]at h;cases h⟩,h⟩
theorem vk (l:List BS) {q:BS} (hq:q∈bc l) {c d:Nat} (hc:c<256) (hd:d<256) (h:q.getLsbD c=A'):q.getLsbD d=A'↔Alike l c d:=by
 suffices ∀ (r:List BS) (q:BS),q∈bc r.reverse->q.getLsbD c=A'->(q.getLsbD d=A'↔Alike r.reverse c d) by
  have:=this l.reverse q (by rwa[DQ]) h;rwa[DQ]at this
 intro r;induction r with
 | nil=>
  intro q hq _;have:q= ~~~0:=by simpa[bc]using hq
  rw[this,Jz hd];simp[Alike]
 | cons s r ih=>
  intro q hq Pj;rw[FG,iy]at hq;obtain⟨p,hp,hpq,_⟩:=kC.1 hq;have nV:Alike (r.reverse++ [s]) c d↔Alike r.reverse c d/\s.getLsbD c=s.getLsbD d:=by
   unfold Alike;constructor
   ·intro h;exact⟨fun x hx=>h x (by simp only[Bs];exact .inl hx),h s (by simp)⟩
   ·intro⟨h1,h2⟩ x hx
    simp only[Bs,MY]at hx;rcases hx with hx | rfl
    ·exact h1 x hx
    ·exact h2
  rw[FG,nV];rcases hpq with rfl | rfl
  ·rw[C_,D']at Pj ⊢
   rw[ih p hp Pj.1,Pj.2];exact and_congr_right fun _=>eq_comm
  ·rw[C_,D']at Pj ⊢
   have h2:=Pj.2;rw[uA _ hc]at h2;rw[ih p hp Pj.1,uA _ hd];have h3:s.getLsbD c=false:=by simpa using h2
   rw[h3];refine and_congr_right fun _=>?_
   cases s.getLsbD d<;>simp
def qO (p q:BS):Prop:=∀ c,¬ (p.getLsbD c=A'/\q.getLsbD c=A')
theorem qO.symm {p q:BS} (h:qO p q):qO q p:=fun c ⟨h1,h2⟩=>h c ⟨h2,h1⟩
theorem uB (p q:BS) (c:Nat):(p&&& q).getLsbD c=A'↔p.getLsbD c=A'/\q.getLsbD c=true:=by rw[C_,D']
theorem Dw (s:BS) (c:Nat) (h:(~~~s).getLsbD c=A'):s.getLsbD c=false:=by rw[L_]at h;simp at h;exact h.2
theorem vn (l:List BS):(bc l).Pairwise qO:=by
 suffices ∀ r:List BS,(bc r.reverse).Pairwise qO by have:=this l.reverse;rwa[DQ]at this
 intro r;induction r with
 | nil=>simp[bc]
 | cons s r ih=>
  rw[FG,iy];unfold aX;rw[List.pairwise_flatMap];refine⟨fun p _=>?_,ih.imp fun {p q} h x hx y hy c ⟨h1,h2⟩=>?_⟩
  ·unfold cut
   refine List.Pairwise.filter _ ?_;refine H'.2 ⟨fun y hy c ⟨h1,h2⟩=>?_,List.pairwise_singleton _ _⟩;rw[MY.1 hy,uB]at h2;rw[uB]at h1;rw[Dw s c h2.2]at h1;exact OR h1.2
  ·have sub:∀ {p x:BS},x∈cut s p->x.getLsbD c=A'->p.getLsbD c=true:=fun {p x} hx h=>by
    rcases(Jy.1 hx).1 with rfl | rfl
    ·exact((uB _ _ _).1 h).1
    ·exact((uB _ _ _).1 h).1
   exact h c ⟨sub hx h1,sub hy h2⟩
theorem mX {l:List BS} {q:BS} :q∈partsOf l↔q∈bc l:=(eZ l).mem_iff
theorem kD (l:List BS):(partsOf l).Pairwise qO:=((eZ l).pairwise_iff (fun h=>qO.symm h)).2 (vn l)
theorem kE (l:List BS) (c:Nat) (hc:c<256):∃ (k:Nat) (q:BS),(partsOf l)[k]? =AF q/\q.getLsbD c=true:=by obtain⟨q,h1,h2⟩:=vh l c hc;obtain⟨k,hk⟩:=GO (mX.2 h1);exact⟨k,q,hk,h2⟩
theorem ye (l:List BS) {q:BS} (hq:q∈partsOf l) {c d:Nat} (hc:c<256) (hd:d<256) (h:q.getLsbD c=A'):q.getLsbD d=A'↔Alike l c d:=vk l (mX.1 hq) hc hd h
theorem s8 {p:List BS} (h:p.Pairwise qO) {i j:Nat} {x y:BS} (hi:p[i]? =AF x) (hj:p[j]? =AF y) {c:Nat} (hx:x.getLsbD c=A') (hy:y.getLsbD c=A'):i=j:=by
 have key:∀ {i j:Nat} {x y:BS},p[i]? =AF x->p[j]? =AF y->x.getLsbD c=A'->y.getLsbD c=A'->¬i<j:=fun {i j x y} hi hj hx hy hlt=>by
  obtain⟨h1,rfl⟩:=AI.1 hi;obtain⟨h2,rfl⟩:=AI.1 hj;exact(Bm.1 h i j h1 h2 hlt) c ⟨hx,hy⟩
 have h1:=key hi hj hx hy;have h2:=key hj hi hy hx;omega
theorem jh (l:List BS) {c k:Nat} (hc:c<256):cls (partsOf l) c=k↔ ∃ q:BS,(partsOf l)[k]? =AF q/\q.getLsbD c=true:=by
 have h1:∃ q,(partsOf l)[cls (partsOf l) c]? =AF q/\q.getLsbD c=true:=by
  rcases rY (partsOf l) c hc with⟨k,s,h1,h2,h3⟩ | ⟨h1,_⟩
  ·rw[Ao _ hc]at h3;cases h3;exact⟨s,h1,h2⟩
  ·obtain⟨k,q,h2,h3⟩:=kE l c hc
   rw[h1 q (ax h2)]at h3;cases h3
 constructor
 ·rintro rfl;exact h1
 ·rintro⟨q,h2,h3⟩
  obtain⟨q',h4,h5⟩:=h1;exact s8 (kD l) h4 h2 h5 h3
theorem ik (l:List BS) {q:BS} (h:q∈partsOf l):q≠0:=sZ l q (mX.1 h)
theorem eh {s:BS} (h:s≠0):(aV s).2=A'/\(aV s).1<256/\s.getLsbD (aV s).1=A'/\∀ d,d<(aV s).1->s.getLsbD d=false:=by
 rcases qK s with⟨_,h1⟩ | h1
 ·exact absurd h1 h
 ·exact h1
theorem oZ (l:List BS) {i j:Nat} {x y:BS} (hi:(partsOf l)[i]? =AF x) (hj:(partsOf l)[j]? =AF y) (mM:i<j):(aV x).1<(aV y).1:=by
 obtain⟨h1,h2⟩:=AI.1 hi;obtain⟨h3,h4⟩:=AI.1 hj;have hs:=Bm.1 (vg l) i j h1 h3 mM;have ha:=Bm.1 (kD l) i j h1 h3 mM;rw[h2,h4]at hs ha;obtain⟨_,x1,x2,x3⟩:=eh (ik l (ax hi));obtain⟨_,y1,y2,y3⟩:=eh (ik l (ax hj));have hne:(aV x).1≠(aV y).1:=fun e=>ha _ ⟨x2,by rw[e];exact y2⟩
 by_cases hlt:(aV x).1<(aV y).1
 ·exact hlt
 ·exfalso
  have hyx:Td y x:=⟨(aV y).1,y1,fun d hd=>by rw[y3 d hd,x3 d (by omega)],y2,x3 _ (by omega)⟩;rw[<-eN]at hyx;rw[hyx]at hs;exact OR hs
theorem s9 (l:List BS):0<(partsOf l).length:=by obtain⟨k,q,h,_⟩:=kE l 0 (by decide);have:=(AI.1 h).1;omega
theorem tY (l:List BS):(partsOf l).isEmpty=false:=by
 have:=s9 l;cases h:partsOf l with
 | nil=>rw[h]at this;simp at this
 | cons=>rfl
structure cq (p:List BS) (R:Nat->Nat->Prop):Prop where
 some:p.isEmpty=Se
 apart:p.Pairwise qO
 ne:∀ q∈p,q≠0
 cover:∀ c,c<256->∃ (k:Nat) (q:BS),p[k]? =AF q/\q.getLsbD c=A'
 alike:∀ q∈p,∀ c d,c<256->d<256->q.getLsbD c=A'->(q.getLsbD d=A'↔R c d)
 first:∀ (i j:Nat) (x y:BS),p[i]? =AF x->p[j]? =AF y->i<j->(aV x).1<(aV y).1
theorem cq.mY (l:List BS):cq (partsOf l) (Alike l):=
 ⟨tY l,kD l,fun _ h=>ik l h,kE l,fun _ hq _ _ hc hd h=>ye l hq hc hd h,fun _ _ _ _ h1 h2 h3=>oZ l h1 h2 h3⟩
theorem cq.jh {p:List BS} {R:Nat->Nat->Prop} (h:cq p R) {c k:Nat} (hc:c<256):cls p c=k↔ ∃ q:BS,p[k]? =AF q/\q.getLsbD c=true:=by
 have h1:∃ q,p[cls p c]? =AF q/\q.getLsbD c=true:=by
  rcases rY p c hc with⟨k,s,h1,h2,h3⟩ | ⟨h1,_⟩
  ·rw[Ao _ hc]at h3;cases h3;exact⟨s,h1,h2⟩
  ·obtain⟨k,q,h2,h3⟩:=h.cover c hc
   rw[h1 q (ax h2)]at h3;cases h3
 constructor
 ·rintro rfl;exact h1
 ·rintro⟨q,h2,h3⟩
  obtain⟨q',h4,h5⟩:=h1;exact s8 h.apart h4 h2 h5 h3
theorem cq.Dx {p:List BS} {R:Nat->Nat->Prop} (h:cq p R) {c d:Nat} (hc:c<256) (hd:d<256):cls p c=cls p d↔R c d:=by
 obtain⟨q,h1,h2⟩:=(h.jh hc).1 rfl;rw[<-h.alike q (ax h1) c d hc hd h2];constructor
 ·intro e
  obtain⟨q',h3,h4⟩:=(h.jh hd).1 rfl;rw[<-e,h1]at h3;cases h3;exact h4
 ·intro h3;exact((h.jh hd).2 ⟨q,h1,h3⟩).symm
theorem cq.symm {p:List BS} {R:Nat->Nat->Prop} (h:cq p R) {c d:Nat} (hc:c<256) (hd:d<256) (hr:R c d):R d c:=(h.Dx hd hc).1 ((h.Dx hc hd).2 hr).symm
theorem Au {s:BS} (h:s≠0):∃ c,c<256/\s.getLsbD c=true:=by obtain⟨_,h1,h2,_⟩:=eh h;exact⟨_,h1,h2⟩
theorem cq.mem_of {p q:List BS} {R S:Nat->Nat->Prop} (hp:cq p R) (hq:cq q S) (h:∀ c d,c<256->d<256->(R c d↔S c d)) {x:BS} (hx:x∈p):x∈q:=by
 obtain⟨c,hc,Te⟩:=Au (hp.ne x hx);obtain⟨k,s,hs,hsc⟩:=hq.cover c hc;have:x=s:=BS.ext fun d hd=>by
  rw[RC,hp.alike x hx c d hc hd Te,hq.alike s (ax hs) c d hc hd hsc,h c d hc hd]
 rw[this];exact ax hs
theorem cq.sorted {p:List BS} {R:Nat->Nat->Prop} (hp:cq p R):p.Pairwise fun x y=>(aV x).1<(aV y).1:=by rw[Bm];intro i j hi hj mM;exact hp.first i j _ _ (aB hi) (aB hj) mM
theorem yT {f:BS->Nat} :∀ (p q:List BS),p.Pairwise (fun x y=>f x<f y)->q.Pairwise (fun x y=>f x<f y)->(∀ x,x∈p↔x∈q)->p=q
 | [],q,_,_,h=>by
  cases q with
  | nil=>rfl
  | cons y q=>have:=(h y).2 (by simp);simp at this
 | x::p,q,hp,hq,h=>by
  cases q with
  | nil=>have:=(h x).1 (by simp);simp at this
  | cons y q=>
   rw[H']at hp hq;have NM:x=y:=by
    have h1:=(h x).1 (by simp);have h2:=(h y).2 (by simp);rcases C'.1 h1 with e | h1
    ·exact e
    ·rcases C'.1 h2 with e | h2
     ·exact e.symm
     ·have a:=hq.1 x h1;have b:=hp.1 y h2;omega
   subst NM;congr 1;refine yT p q hp.2 hq.2 fun z=>?_
   have hz:=h z;simp only[C']at hz;constructor
   ·intro hzp
    rcases hz.1 (.inr hzp)with e | h1
    ·subst e;have:=hp.1 z hzp;omega
    ·exact h1
   ·intro hzq
    rcases hz.2 (.inr hzq)with e | h1
    ·subst e;have:=hq.1 z hzq;omega
    ·exact h1
theorem cq.uniq {p q:List BS} {R S:Nat->Nat->Prop} (hp:cq p R) (hq:cq q S) (h:∀ c d,c<256->d<256->(R c d↔S c d)):p=q:=
 yT p q hp.sorted hq.sorted fun _=>⟨fun hx=>hp.mem_of hq h hx,fun hx=>hq.mem_of hp (fun c d hc hd=>(h c d hc hd).symm) hx⟩
theorem cq.yU {p:List BS} {R:Nat->Nat->Prop} (hp:cq p R) {c d:Nat} (hc:c<256) (hd:d<256):Alike p c d↔R c d:=by
 constructor
 ·intro h
  obtain⟨k,s,hs,hsc⟩:=hp.cover c hc;have:=h s (ax hs);exact(hp.alike s (ax hs) c d hc hd hsc).1 (by rw[<-this];exact hsc)
 ·intro hr s hs
  rw[RC];exact⟨fun h=>(hp.alike s hs c d hc hd h).2 hr,fun h=>(hp.alike s hs d c hd hc h).2 (hp.symm hc hd hr)⟩
attribute [local go_sem] encS
theorem bw.take {α:Type} {enc:α->An} {w:As} {a:Option Lw} {n cap:Nat} {l:List α} (h:bw enc w (AM a n cap) l) (k:Nat) (hk:k<=n):bw enc w (AM a k cap) (l.take k):=by
 rcases h with⟨h,rfl⟩ | ⟨b,off,cap',hv,hb,hc,h⟩
 ·cases h
  obtain rfl:k=0:=by omega
  exact .inl ⟨rfl,rfl⟩
 ·cases hv
  have hl:(l.take k).length=k:=by rw[O_];omega
  refine .inr ⟨b,off,cap,by rw[hl],hb,by omega,fun i x hi=>h i x ?_⟩;rw[List.getElem?_take]at hi;split at hi
  ·exact hi
  ·cases hi
theorem bw.cap {α:Type} {enc:α->An} {w:As} {a:Option Lw} {n cap:Nat} {l:List α} (h:bw enc w (AM a n cap) l):n<=cap:=by
 rcases h with⟨h,rfl⟩ | ⟨b,off,cap',hv,hb,hc,h⟩
 ·cases h;exact aF _
 ·cases hv;omega
end
section
open Go Go.RowKit Go.Shelf Go.Maps
theorem kG (v:An) (l:List BS) (w:As) (h:gF w v l) (hn:l.length<=1000000): ah 27 #[v] w fun e w'=>∃ u,e=By u/\w'.ownsRow w.heap.size 56 4 u l.length (aL l)/\aa w w':=by
 obtain⟨i0,hi,hz0,hz1,hz2⟩:=M_ Tryz.yM;rcases h.1 with⟨rfl,rfl⟩ | ⟨b,off,cap,rfl,hb,hc⟩
 ·have he:=fun W=>AT (P:=A_) W 26 56 AN 0 0 0 0 Is
  clear h;go_enter V_,S_;go_wp2;go_ret;exact⟨_,rfl,F_ _ _ _ _,DS _ _⟩
 ·have hnews:∀ j u,(aL l)[j]? =AF u->w.cell? ((⟨b,off,AN⟩:Lw).add j)=AF u:=fun j u hj=>by
   have hj4:j<l.length*4:=by have:=(AI.1 hj).1;rwa[cG]at this
   have hs:l[j/4]? =AF (l[j/4]'(by omega)):=aB (by omega);have h1:=ij l hs (X_ j (by decide:0<4));rw[show j/4*4+j%4=j by omega,hj]at h1;rw[GB,show off+j=off+j/4*4+j%4 by omega,hc _ _ hs _ (X_ j (by decide))];exact h1.symm
  obtain⟨n,iV⟩:=ag l.length;rw[<-iV]at hn ⊢;have HN:=DP iV;have HNw:=DP hnews;have he:=fun W=>AT (P:=A_) W 26 56 (AF ⟨b,off,AN⟩) n cap 0 0 Is
  clear h hc hnews iV;go_enter V_,S_;have o1:(w.alloc (.cells #[] 56 (0,0))).ownsRow w.heap.size 56 4 (AM (AF ⟨w.heap.size,0,AN⟩) 0 0) 0 []:=⟨rfl,.inr ⟨w.heap.size,0, #[],rfl,aF _,GS _ _,aF _,by simp,rfl,rfl⟩⟩;have Js:=DP o1;clear o1;go_wp2_with (at_builtin;(refine D0 _ rfl (.tmp 5) (.tmp 6) 26 rfl w.heap.size 56 i0 (W_ #[Ft .u64 0,Ft .u64 0,Ft .u64 0,Ft .u64 0]) 4 32 Is hi hz0 hz1 hz2 rfl (by decide) _ 0 [] rfl Js ⟨b,off,AN⟩ n cap (aL l) rfl (by rw[cG,HN.out]) (fun j u hj=>(((Ext.refl w).alloc _).cell (p:=(⟨b,off,AN⟩:Lw).add j) (by rw[GB];exact hb)).trans (HNw j u hj)) (gz l) (by unfold maxLen;omega) (by omega) (by simp) ?_;intro v' w2 ho hg _ _;have jF:=DP ho;have HG:=DP hg;obtain⟨a2,c2,rfl⟩:=ownsRow_form ho;clear ho hg));go_ret;refine⟨_,rfl,?_,?_⟩
  ·have:=jF.out
   rwa[Cd,K_]at this
  ·exact((DS _ _).alloc (aF _) _).grown HG (by simp) (fun c e=>(Js.lt c e).1)
end
section
open Go Go.RowKit
theorem aD {C:As->Prop} {d:Bool} {T:Nat->Prop} {w:As} (hC:∀ W,C W↔Move d T w W) {p:Lw} {v:Option An} (hs:p.block<w.heap.size) (ht:¬T p.block) (h:w.cell? p=v):∀ W: {W//C W},W.1.cell? p=v:=fun W=>
 (((hC W.1).1 W.2).keeps.cell ⟨hs,ht⟩).trans h
theorem aK {P:G_} {f:S'} {args:Array An} {w:As} {R:To->As->Prop} (h:∀ W,W=w->Calls P f args W R):Calls P f args w R:=h w rfl
end
section
open Go Go.RowKit Go.Shelf Go.Maps
theorem ae.setRow {R:Nat->Prop} {A B:As} (h:ae R A B) {g:Nat} (hp:¬R g) (c:Array An):ae R A (B.setRow g c):=
 ⟨h.os,h.tape,h.output,TO h.size (by simp),fun k hk=>(setRow_other B g k c (fun e=>hp (e▸hk))).trans (h.keep k hk)⟩
end
section
open Go Go.RowKit
section
variable {P:G_}
theorem gI (w:As) (base:Nat) (t ty e:AS) (i:IN) (z:An) (size bytes:Nat) (ht:P.underlying t=AF (.slice e)) (hi:P.info? e=AF i) (hz:i.zero=AF z) (hsize:i.size=size) (hby:i.bytes=bytes) (hzs:z.cells.size=size) (hsz:0<size) (v:An) (n:Nat) (xs:List An) (hown:w.ownsRow base e size v n xs) (a:Lw) (m c:Nat) (news:List An) (hl:news.length=m*size) (hnews:∀ j u,news[j]? =AF u->w.cell? (a.add j)=AF u) (h1:∀ u∈news,u.oneCell'=A') (h63:n+m<=maxLen) (hbytes:(n+m)*bytes<=140737488355328) (hbase:base<=w.heap.size) (hm:0<m): ∃ v' w',(Builtin.append_ #[t,t] ty #[v,AM (AF a) m c]).run P w=.ok v' w'/\w'.ownsRow base e size v' (n+m) (xs++news)/\ ((∃ g cap cur,v=AM (AF ⟨g,0,AN⟩) n cap/\w.heap[g]? =AF (.cells cur e (0,0))/\cur.size=cap*size/\n+m<=cap/\v'=AM (AF ⟨g,0,AN⟩) (n+m) cap/\ w'=w.setRow g (cur.toList.take (n*size)++news++cur.toList.drop (n*size+news.length)).toArray)\/(aa w w'/\v'.ownBlock=AF w.heap.size)):=by
 obtain⟨v',w',hr,ho,hg,_,hb⟩:=NX (P:=P) w base t ty e i z size bytes ht hi hz hsize hby hzs hsz v n xs hown a m c news hl hnews h1 h63 hbytes hbase
 have far:∀ g,v.ownBlock=AF g->v'.ownBlock=AF w.heap.size->w'.heap[g]? =w.heap[g]? ->aa w w':=fun g e1 _ e2=>⟨hg.os,hg.tape,hg.output,hg.size,fun k hk=>by
  by_cases e:k=g
  ·subst e;exact e2
  ·exact hg.block k hk (by rw[e1];intro h;exact e (GW h))⟩
 subst hsize;subst hby;have hown':=hown;rcases hown.2 with⟨rfl,rfl⟩ | ⟨g,cap,cur,rfl,hbg,NN,hnc,hcm,hcs,htake⟩
 ·refine⟨v',w',hr,ho,.inr ⟨⟨hg.os,hg.tape,hg.output,hg.size,fun k hk=>hg.block k hk (by simp[B'])⟩,?_⟩⟩
  rcases hb with hb | hb
  ·exfalso
   rcases ho.2 with⟨_,h⟩ | ⟨g,c,cur,h,_⟩
   ·omega
   ·rw[h]at hb;simp[B']at hb
  ·exact hb
 ·by_cases hroom:n+m<=cap
  ·have Dy:n*i.size+news.length<=cur.size:=by rw[hl,hcs, <-Ly];exact D_ _ hroom
   have hr2:=RE (P:=P) w t ty e i ht hi g n cap cur NN a m c news hl hnews h1 hroom Dy;rw[hr]at hr2;cases hr2;exact⟨_,_,hr,ho,.inl ⟨g,cap,cur,rfl,NN,hcs,hroom,rfl,rfl⟩⟩
  ·have holds:∀ j u,xs[j]? =AF u->w.cell? ((⟨g,0,AN⟩:Lw).add j)=AF u:=hown'.cells (g:=g) rfl
   have hr2:=run_append_grow (P:=P) w t ty e i z ht hi hz ⟨g,0,AN⟩ n cap xs hown'.1 holds a m c news hl hnews (by omega) (by unfold maxLen at h63;omega) (growslice_fits (by omega) hbytes);rw[hr]at hr2;rw[Result.ok.injEq]at hr2;obtain⟨hv,e2⟩:=hr2;have hw:w'.heap[g]? =w.heap[g]? :=by rw[e2];exact heap_alloc_old w.drew _ (H_.1 NN).1
   exact⟨v',w',hr,ho,.inr ⟨far g rfl (by rw[hv];rfl) hw,by rw[hv];rfl⟩⟩
end
structure App where
 e:AS
 size:Nat
 v:An
 n:Nat
 xs:List An
 m:Nat
 news:List An
def After (base:Nat) (w0:As) (p:App) (W:As) (v:An):Prop:=
 W.ownsRow base p.e p.size v (p.n+p.m) (p.xs++p.news)/\(v.ownBlock=p.v.ownBlock\/∀ x,v.ownBlock=AF x->w0.heap.size<=x)
structure bR (base:Nat) (w0:As) (PL:List App) (A B:As):Prop where
 keeps:ae (fun x=>x<A.heap.size/\¬ ∃ p∈PL,p.v.ownBlock=AF x) A B
 old:∀ p∈PL,A.ownsRow base p.e p.size p.v p.n p.xs->B.ownsRow base p.e p.size p.v p.n p.xs
 new:∀ p∈PL,∀ v,After base w0 p A v->After base w0 p B v
section
variable {base:Nat} {w0:As} {PL:List App} {A B C:As}
theorem bR.trans (h:bR base w0 PL A B) (k:bR base w0 PL B C):bR base w0 PL A C:=
 ⟨h.keeps.trans k.keeps fun _ hx=>⟨ay hx.1 h.keeps.size,hx.2⟩,fun p hp ho=>k.old p hp (h.old p hp ho),fun p hp v hv=>k.new p hp v (h.new p hp v hv)⟩
theorem bR.below (h:aa A B):bR base w0 PL A B:=
 ⟨ae.aj h fun _ hx=>hx.1,fun _ _ ho=>ownsRow_keepsA ho h,fun _ _ _ hv=>⟨ownsRow_keepsA hv.1 h,hv.2⟩⟩
where
 ownsRow_keepsA {W W':As} {b:Nat} {e:AS} {size:Nat} {v:An} {n:Nat} {xs:List An} (h:W.ownsRow b e size v n xs) (hk:aa W W'):W'.ownsRow b e size v n xs:=
  ak h (ae.aj hk (R:=(· <W.heap.size)) fun _ h=>h) fun k e=>(h.lt k e).2
theorem bR.drew:bR base w0 PL A A.drew:=.below (Ext.refl A).drew.below
theorem bR.size (h:bR base w0 PL A B):A.heap.size<=B.heap.size:=h.keeps.size
def kj (w0:As) (PL:List App):Prop:=(∀ p∈PL,∀ x,p.v.ownBlock=AF x->x<w0.heap.size)/\∀ (i j:Nat) (p q:App),PL[i]? =AF p->PL[j]? =AF q->i≠j->p.v.ownBlock=AN\/p.v.ownBlock≠q.v.ownBlock
theorem bR.room (ok:kj w0 PL) {i:Nat} {p:App} (hi:PL[i]? =AF p) {g cap:Nat} {cur:Array An} (hv:p.v=AM (AF ⟨g,0,AN⟩) p.n cap) (ho:A.ownsRow base p.e p.size p.v p.n p.xs) (hg:A.heap[g]? =AF (.cells cur p.e (0,0))) (hl:p.news.length=p.m*p.size) (hcs:cur.size=cap*p.size) (hroom:p.n+p.m<=cap):bR base w0 PL A (A.setRow g (cur.toList.take (p.n*p.size)++p.news++cur.toList.drop (p.n*p.size+p.news.length)).toArray):=by
 have JA:=ax hi;have Tf:p.v.ownBlock=AF g:=by rw[hv];rfl
 have hgw:g<w0.heap.size:=ok.1 p JA g Tf;have VV:∀ c,ae (· ≠g) A (A.setRow g c):=fun c=>(ae.refl _ _).setRow (fun h=>h rfl) c
 have Dy:p.n*p.size+p.news.length<=cur.size:=by rw[hl,hcs, <-Ly];exact D_ _ hroom
 have er:cur.toList.take (p.n*p.size)=p.xs:=by
  rcases ho.2 with⟨h,_⟩ | ⟨g',cap',cur',h,_,JD,_,_,_,ht⟩
  ·rw[hv]at h;cases h
  ·rw[hv]at h
   cases h
   rw[hg]at JD;cases JD;exact ht
 have hlx:p.xs.length=p.n*p.size:=ho.1;generalize hc:(cur.toList.take (p.n*p.size)++p.news++cur.toList.drop (p.n*p.size+p.news.length)).toArray=c;have od:c.toList=p.xs++p.news++cur.toList.drop (p.n*p.size+p.news.length):=by rw[<-hc,er]
 have hcz:c.size=cur.size:=by rw[<-B_,od,aJ,aJ,List.length_drop,B_];omega
 have NN:(A.setRow g c).heap[g]? =AF (.cells c p.e (0,0)):=setRow_heap A g cur c p.e _ hg;have far:∀ {e:AS} {size:Nat} {v:An} {n:Nat} {xs:List An},A.ownsRow base e size v n xs->v.ownBlock≠AF g->(A.setRow g c).ownsRow base e size v n xs:=fun h hne=>
  ak h (VV c) fun k e e'=>hne (by rw[e,e'])
 have Uc:∀ {k cap':Nat} {xs:List An},A.ownsRow base p.e p.size (AM (AF ⟨g,0,AN⟩) k cap') k xs->c.toList.take (k*p.size)=xs->(A.setRow g c).ownsRow base p.e p.size (AM (AF ⟨g,0,AN⟩) k cap') k xs:=fun {k cap' xs} h ht=>by
  rcases h.2 with⟨h',_⟩ | ⟨g',c',cur',h',hb,JD,h1,h2,h3,_⟩
  ·cases h'
  ·cases h'
   rw[hg]at JD;cases JD;exact⟨h.1,.inr ⟨g,cap',c,rfl,hb,NN,h1,h2,by rw[hcz];exact h3,ht⟩⟩
 refine⟨(VV c).mono fun x hx e=>hx.2 ⟨p,JA,by rw[Tf,e]⟩,fun q hq Yc=>?_,fun q hq v VW=>?_⟩
 ·obtain⟨j,hj⟩:=GO hq
  by_cases e:j=i
  ·subst e
   rw[hi]at hj;cases hj;rw[hv]at Yc ⊢;exact Uc Yc (by rw[od,List.append_assoc, <-hlx];exact R_)
  ·refine far Yc fun h=>?_
   rcases ok.2 j i q p hj hi e with h' | h'
   ·rw[h']at h;cases h
   ·exact h' (by rw[h,Tf])
 ·obtain⟨j,hj⟩:=GO hq
  refine⟨?_,VW.2⟩;by_cases e:j=i
  ·subst e
   rw[hi]at hj;cases hj;by_cases eb:v.ownBlock=AF g
   ·rcases VW.1.2 with⟨h',_⟩ | ⟨g',c',cur',h',_⟩
    ·rw[h']at eb;cases eb
    ·subst h'
     have:g'=g:=by simpa[B']using eb
     subst this;refine Uc VW.1 ?_;rw[od,Ly, <-hlx, <-hl, <-aJ];exact R_
   ·exact far VW.1 eb
  ·refine far VW.1 fun h=>?_
   rcases VW.2 with h2 | h2
   ·rcases ok.2 j i q p hj hi e with h' | h'
    ·rw[h2,h']at h;cases h
    ·exact h' (by rw[<-h2,h,Tf])
   ·have:=h2 g h;omega
theorem dE {P:G_} {Cl:S'->Array An->As->(To->As->Prop)->Prop} {Rd:Nat->S'->Array An->Code->Code->As->(To->As->Prop)->Prop} {o:Q_} {a:Y_} {W:As} {post:An->As->Prop} (s x:SO) (t:AS) (ho:o.op=.call {callee:=.builtin .append,args:= #[s,x],argTypes:= #[t,t]}) (i:IN) (z:An) (bytes:Nat) {p:App} (ht:P.underlying t=AF (.slice p.e)) (hi:P.info? p.e=AF i) (hz:i.zero=AF z) (hsize:i.size=p.size) (hby:i.bytes=bytes) (hzs:z.cells.size=p.size) (hsz:0<p.size) (ok:kj w0 PL) {k:Nat} (hk:PL[k]? =AF p) (hs:a.eval s=p.v) (hown:W.ownsRow base p.e p.size p.v p.n p.xs) (ad:Lw) (c:Nat) (hx:a.eval x=AM (AF ad) p.m c) (hl:p.news.length=p.m*p.size) (hnews:∀ j u,p.news[j]? =AF u->W.cell? (ad.add j)=AF u) (h1:∀ u∈p.news,u.oneCell'=A') (h63:p.n+p.m<=maxLen) (hbytes:(p.n+p.m)*bytes<=140737488355328) (hbase:base<=W.heap.size) (hm:0<p.m) (hw0:w0.heap.size<=W.heap.size) (h:∀ v W',bR base w0 PL W W'->(∃ a c,v=AM a (p.n+p.m) c)->After base w0 p W' v->(v.ownBlock=p.v.ownBlock\/v.ownBlock=AF W.heap.size)->post v W'): jB Cl Rd post ((execOp a.eval o).run P W):=by
 obtain⟨v',w',hr,h2,h3⟩:=gI (P:=P) W base t o.type p.e i z p.size bytes ht hi hz hsize hby hzs hsz p.v p.n p.xs hown ad p.m c p.news hl hnews h1 h63 hbytes hbase hm;unfold execOp;simp only[ho,resolve,invoke,builtin,G',J',DH,IT,L7,N_,hs,hx,hr];show post v' w';refine h v' w' ?_ (ownsRow_form h2) ⟨h2,?_⟩ ?_
 ·rcases h3 with⟨g,cap,cur,e1,e2,e3,e4,e5,rfl⟩ | ⟨hb,_⟩
  ·exact bR.room ok hk e1 hown e2 hl e3 e4
  ·exact .below hb
 ·rcases h3 with⟨g,cap,cur,e1,e2,e3,e4,e5,rfl⟩ | ⟨hb,e⟩
  ·left;rw[e5,e1];rfl
  ·right;intro y hy;rw[e]at hy;cases hy;exact hw0
 ·rcases h3 with⟨g,cap,cur,e1,e2,e3,e4,e5,rfl⟩ | ⟨hb,e⟩
  ·left;rw[e5,e1];rfl
  ·right;exact e
end
def oN (v y:An):Prop:=v.ownBlock=AN\/v.ownBlock≠y.ownBlock
namespace RegG
def aU.app (base:Nat) (w0:As) (PL:List App) (p:App) (hp:p∈PL):aU (bR base w0 PL) where
 P:=fun v=>∃ a c,v=AM a (p.n+p.m) c
 H:=fun _ v W=>After base w0 p W v
 nU:=AM AN (p.n+p.m) 0
 pw:=⟨AN,0,rfl⟩
 st:=fun _ v _ _ hm _ h=>hm.new p hp v h
def aU.vo (base:Nat) (w0:As) (PL:List App) (n:Nat) (cs:Array An) (t:AS):aU (bR base w0 PL) where
 P:=fun v=>∃ b,v=AM (AF ⟨b,0,AN⟩) n n
 H:=fun _ v W=>∀ b,v=AM (AF ⟨b,0,AN⟩) n n->(ar W b cs t/\¬ ∃ p∈PL,p.v.ownBlock=AF b)
 nU:=AM (AF ⟨0,0,AN⟩) n n
 pw:=⟨_,rfl⟩
 st:=fun _ _ _ _ hm _ h b e=>⟨(h b e).1.keeps hm.keeps ⟨(h b e).1.lt,(h b e).2⟩,(h b e).2⟩
end RegG
theorem kj.fresh {w0:As} {PL:List App} (ok:kj w0 PL) {b:Nat} (h:w0.heap.size<=b):¬ ∃ p∈PL,p.v.ownBlock=AF b:=fun ⟨p,hp,e⟩=>by
 have:=ok.1 p hp b e;omega
end
section
open Go Go.RowKit
def fC (n0:Nat) (Φ:Nat->An->As->Prop) (A B:As):Prop:=ae (fun k=>k<n0/\k<A.heap.size) A B/\∀ i v,Φ i v A->Φ i v B
theorem fC.trans {n0:Nat} {Φ:Nat->An->As->Prop} {A B C:As} (h:fC n0 Φ A B) (k:fC n0 Φ B C):fC n0 Φ A C:=
 ⟨h.1.trans k.1 fun _ hk=>⟨hk.1,ay hk.2 h.1.size⟩,fun i v x=>k.2 i v (h.2 i v x)⟩
theorem fC.below {n0:Nat} {Φ:Nat->An->As->Prop} {A B:As} (st:∀ i v A B,aa A B->Φ i v A->Φ i v B) (h:aa A B):fC n0 Φ A B:=
 ⟨ae.aj h fun _ hk=>hk.2,fun i v=>st i v A B h⟩
def aU.fact (n0:Nat) (Φ:Nat->An->As->Prop) (i:Nat) (P:An->Prop) (nU:An) (pw:P nU):aU (fC n0 Φ):=⟨P,Φ i,nU,pw,fun v _ _ m _ h=>m.2 i v h⟩
theorem jI {w:As} {base:Nat} {e:AS} {size g n m cap:Nat} {xs ys:List An} (hx:xs.length=n*size) (h:w.ownsRow base e size (AM (AF ⟨g,0,AN⟩) (n+m) cap) (n+m) (xs++ys)):w.ownsRow base e size (AM (AF ⟨g,0,AN⟩) n cap) n xs:=by
 rcases h.2 with⟨h1,_⟩ | ⟨g',c',cur,h1,h2,h3,h4,h5,h6,h7⟩
 ·cases h1
 ·cases h1
  refine⟨hx,.inr ⟨g,cap,cur,rfl,h2,h3,by omega,h5,h6,?_⟩⟩;have:=congrArg (List.take (n*size)) h7;rw[List.take_take,Nat.min_eq_left (D_ _ (Nat.le_add_right n m)),List.take_left' hx]at this;exact this
theorem fe {w:As} {b1 b2:Nat} {e:AS} {size n1 n2 g:Nat} {v1 v2:An} {x1 x2:List An} (hs:0<size) (h1:w.ownsRow b1 e size v1 n1 x1) (h2:w.ownsRow b2 e size v2 n2 x2) (e1:v1.ownBlock=AF g) (e2:v2.ownBlock=AF g): ∃ cap,v1=AM (AF ⟨g,0,AN⟩) n1 cap/\v2=AM (AF ⟨g,0,AN⟩) n2 cap/\n1<=cap/\n2<=cap:=by
 rcases h1.2 with⟨rfl,_⟩ | ⟨g1,c1,Yd,rfl,_,f1,k1,_,s1,_⟩
 ·cases e1
 ·rcases h2.2 with⟨rfl,_⟩ | ⟨g2,c2,Lm,rfl,_,f2,k2,_,s2,_⟩
  ·cases e2
  ·have a1:g1=g:=by simpa[B']using e1
   have a2:g2=g:=by simpa[B']using e2
   subst a1;subst a2;rw[f1]at f2;cases f2;have:c1=c2:=Nat.eq_of_mul_eq_mul_right hs (by omega);subst this;exact⟨c1,rfl,rfl,k1,k2⟩
section
variable {P:G_}
theorem vq (w:As) (base:Nat) (t ty e:AS) (i:IN) (z:An) (size bytes:Nat) (ht:P.underlying t=AF (.slice e)) (hi:P.info? e=AF i) (hz:i.zero=AF z) (hsize:i.size=size) (hby:i.bytes=bytes) (hzs:z.cells.size=size) (hsz:0<size) (v:An) (k:Nat) (xs:List An) (hown:w.ownsRow base e size v k xs) (x:An) (m:Nat) (news:List An) (hx:s7 w x m news) (hl:news.length=m*size) (h1:∀ u∈news,u.oneCell'=A') (h63:k+m<=maxLen) (hbytes:(k+m)*bytes<=140737488355328) (hbase:base<=w.heap.size): ∃ v' w',(Builtin.append_ #[t,t] ty #[v,x]).run P w=.ok v' w'/\w'.ownsRow base e size v' (k+m) (xs++news)/\w.grownBy w' v.ownBlock/\ (aa w w'\/∃ g cap,v=AM (AF ⟨g,0,AN⟩) k cap/\v'=AM (AF ⟨g,0,AN⟩) (k+m) cap/\k+m<=cap):=by
 obtain⟨v',w',hr,h2,h3⟩:=jG (P:=P) w base t ty e i z size bytes ht hi hz hsize hby hzs hsz v k xs hown x m news hx hl h1 h63 hbytes hbase;refine⟨v',w',hr,h2,h3,?_⟩;rcases hx with⟨rfl,rfl,rfl⟩ | ⟨ad,c,rfl,hnews⟩
 ·rw[Lo (P:=P) (w:=w) base t ty e i size ht hi v k xs hown]at hr
  cases hr
  exact .inl (DS _ _)
 ·rcases hown.2 with⟨rfl,rfl⟩ | ⟨g,cap,cur,rfl,hbg,hg,hnc,hcm,hcs,htake⟩
  ·exact .inl (ae.below (ae.aZ h3 fun y hy=>⟨hy,fun e=>by cases e⟩))
  ·by_cases hroom:k+m<=cap
   ·right
    subst hsize;have hr2:=RE (P:=P) w t ty e i ht hi g k cap cur hg ad m c news hl hnews h1 hroom (by rw[hl,hcs, <-Ly];exact D_ _ hroom);rw[hr2]at hr;cases hr;exact⟨g,cap,rfl,rfl,hroom⟩
   ·left
    obtain⟨v2,w2,hr2,_,h4⟩:=gI (P:=P) w base t ty e i z size bytes ht hi hz hsize hby hzs hsz _ k xs hown ad m c news hl hnews h1 h63 hbytes hbase (by omega);rw[hr]at hr2;cases hr2;rcases h4 with⟨g',cap',cur',e1,_,_,e4,_⟩ | ⟨hb,_⟩
    ·cases e1;omega
    ·exact hb
theorem qP {Cl:S'->Array An->As->(To->As->Prop)->Prop} {Rd:Nat->S'->Array An->Code->Code->As->(To->As->Prop)->Prop} {o:Q_} {a:Y_} {W:As} {post:An->As->Prop} (s x:SO) (t:AS) (ho:o.op=.call {callee:=.builtin .append,args:= #[s,x],argTypes:= #[t,t]}) (base:Nat) (e:AS) (i:IN) (z:An) (size bytes:Nat) (ht:P.underlying t=AF (.slice e)) (hi:P.info? e=AF i) (hz:i.zero=AF z) (hsize:i.size=size) (hby:i.bytes=bytes) (hzs:z.cells.size=size) (hsz:0<size) (v:An) (k:Nat) (xs:List An) (hs:a.eval s=v) (hown:W.ownsRow base e size v k xs) (xv:An) (m:Nat) (news:List An) (hx:a.eval x=xv) (Ya:s7 W xv m news) (hl:news.length=m*size) (h1:∀ u∈news,u.oneCell'=A') (h63:k+m<=maxLen) (hbytes:(k+m)*bytes<=140737488355328) (hbase:base<=W.heap.size) (h:∀ v' w',w'.ownsRow base e size v' (k+m) (xs++news)->W.grownBy w' v.ownBlock->(aa W w'\/∃ g cap,v=AM (AF ⟨g,0,AN⟩) k cap/\v'=AM (AF ⟨g,0,AN⟩) (k+m) cap/\k+m<=cap)->post v' w'): jB Cl Rd post ((execOp a.eval o).run P W):=by obtain⟨v',w',hr,h2,h3,h4⟩:=vq (P:=P) W base t o.type e i z size bytes ht hi hz hsize hby hzs hsz v k xs hown xv m news Ya hl h1 h63 hbytes hbase;unfold execOp;simp only[ho,resolve,invoke,builtin,G',J',DH,IT,L7,N_,hs,hx,hr];exact h v' w' h2 h3 h4
end
def Pk (n0:Nat) (e:AS) (size Ka Kb:Nat) (L1 L2:List An):Nat->An->As->Prop
 | 0,v,W=>W.ownsRow n0 e size v Ka L1
 | 1,v,W=>W.ownsRow n0 e size v (Ka+Kb) (L1++L2)
 | _,_,_=>True
theorem lJ {n0 size Ka Kb g cap:Nat} {e:AS} {L1 L2:List An} {W W':As} (hs:0<size) (ho:W.ownsRow n0 e size (AM (AF ⟨g,0,AN⟩) Ka cap) Ka L1) (mL:W'.ownsRow n0 e size (AM (AF ⟨g,0,AN⟩) (Ka+Kb) cap) (Ka+Kb) (L1++L2)) (hg:W.grownBy W' (AF g)):∀ i v,Pk n0 e size Ka Kb L1 L2 i v W->Pk n0 e size Ka Kb L1 L2 i v W'
 | 0,v,h=>by
  have h:W.ownsRow n0 e size v Ka L1:=h;show W'.ownsRow n0 e size v Ka L1;by_cases e2:v.ownBlock=AF g
  ·obtain⟨c,h1,h2,_⟩:=fe hs h ho e2 rfl
   cases h2
   subst h1;exact jI h.1 mL
  ·exact h.kept hg (.inr e2)
 | 1,v,h=>by
  have h:W.ownsRow n0 e size v (Ka+Kb) (L1++L2):=h;show W'.ownsRow n0 e size v (Ka+Kb) (L1++L2);by_cases e2:v.ownBlock=AF g
  ·obtain⟨c,h1,h2,_⟩:=fe hs h ho e2 rfl
   cases h2
   subst h1;exact mL
  ·exact h.kept hg (.inr e2)
 | _+2,_,_=>trivial
end
section
open Go Go.RowKit Go.Shelf Go.Maps
theorem vr:∀ (p q:List Nat),p.Pairwise (· < ·)->q.Pairwise (· < ·)->(∀ x,x∈p↔x∈q)->p=q
 | [],q,_,_,h=>by
  cases q with
  | nil=>rfl
  | cons y q=>have:=(h y).2 (by simp);simp at this
 | x::p,q,hp,hq,h=>by
  cases q with
  | nil=>have:=(h x).1 (by simp);simp at this
  | cons y q=>
   rw[H']at hp hq;have NM:x=y:=by
    have h1:=(h x).1 (by simp);have h2:=(h y).2 (by simp);rcases C'.1 h1 with e | h1
    ·exact e
    ·rcases C'.1 h2 with e | h2
     ·exact e.symm
     ·have a:=hq.1 x h1;have b:=hp.1 y h2;omega
   subst NM;congr 1;refine vr p q hp.2 hq.2 fun z=>?_
   have hz:=h z;simp only[C']at hz;constructor
   ·intro hzp
    rcases hz.1 (.inr hzp)with e | h1
    ·subst e;have:=hp.1 z hzp;omega
    ·exact h1
   ·intro hzq
    rcases hz.2 (.inr hzq)with e | h1
    ·subst e;have:=hq.1 z hzq;omega
    ·exact h1
end
section
open Go Go.RowKit
structure DF where
 cl:List BS
 nx:List (List Int)
 mr:List (List Int)
def mZ (l:List Int) (k:Nat):Int:=if k=0 then-1 else l.getD (k-1) 0
def td (l:List Int) (k:Nat):Bool:=decide (mZ l k<l.getD k 0)&&decide (l.getD k 0<=255)
def qQ (l:List Int):Bool:=(X' l.length).all (td l)
def Tg (n:Nat) (t:Int):Bool:=decide (0<=t)&&decide (t<n)
def DF.iQ (d:DF) (s:Nat):Bool:=decide ((d.nx.getD s []).length=d.cl.length)&&(d.nx.getD s []).all (Tg d.nx.length)&&qQ (d.mr.getD s [])
def DF.right (d:DF):Bool:=decide (1<=d.nx.length)&&decide (d.nx.length<=4000)&&decide (d.mr.length=d.nx.length)&&(partsOf d.cl==d.cl)&&(X' d.nx.length).all d.iQ
structure Rt (d:DF):Prop where
 pos:1<=d.nx.length
 le:d.nx.length<=4000
 mr:d.mr.length=d.nx.length
 cl:partsOf d.cl=d.cl
 len:∀ s,s<d.nx.length->(d.nx.getD s []).length=d.cl.length
 iK:∀ s,s<d.nx.length->∀ t∈d.nx.getD s [],0<=t/\t<d.nx.length
 Ud:∀ s,s<d.nx.length->qQ (d.mr.getD s [])=A'
theorem cX (d:DF):d.right=A'↔Rt d:=by
 unfold DF.right DF.iQ Tg;simp only[D',decide_eq_true_eq,beq_iff_eq,List.all_eq_true,List.mem_range];constructor
 ·rintro⟨⟨⟨⟨h1,h2⟩,h3⟩,h4⟩,h5⟩
  exact⟨h1,h2,h3,h4,fun s hs=>(h5 s hs).1.1,fun s hs t ht=>(h5 s hs).1.2 t ht,fun s hs=>(h5 s hs).2⟩
 ·intro h
  exact⟨⟨⟨⟨h.pos,h.le⟩,h.mr⟩,h.cl⟩,fun s hs=>⟨⟨h.len s hs,h.iK s hs⟩,h.Ud s hs⟩⟩
theorem Rt.part {d:DF} (h:Rt d):cq d.cl (Alike d.cl):=by have:=cq.mY d.cl;rwa[h.cl]at this
theorem Rt.Dz {d:DF} (h:Rt d):0<d.cl.length:=by have:=s9 d.cl;rwa[h.cl]at this
theorem Rt.Av {d:DF} (h:Rt d):d.cl.length<=256:=by
 have:(partsOf d.cl).length<=256:=by rw[(eZ d.cl).length_eq];exact eo d.cl
 rwa[h.cl]at this
def eH (d:DF) (s k:Nat):Nat:=((d.nx.getD s []).getD k 0).toNat
def acc (d:DF) (s:Nat):Bool:= !(d.mr.getD s []).isEmpty
theorem getD_some {α:Type} {l:List α} {i:Nat} {x d:α} (h:l[i]? =AF x):l.getD i d=x:=by rw[bB,h];rfl
theorem bn {α:Type} {l:List α} {i:Nat} (d:α) (h:i<l.length):l[i]? =AF (l.getD i d):=by rw[bB,aB h];rfl
theorem Rt.jJ {d:DF} (h:Rt d) {s k:Nat} (hs:s<d.nx.length) (hk:k<d.cl.length):eH d s k<d.nx.length:=by have h1:=h.len s hs;have h2:=h.iK s hs _ (ax (bn (l:=d.nx.getD s []) 0 (i:=k) (by omega)));unfold eH;omega
/-! The states of a product, found one by one. -/
section
variable {α:Type} [DecidableEq α]
def tZ (fuel:Nat) (st:List α×List Nat) (q:α):Option (List α×List Nat):=
 if st.1.idxOf q=st.1.length then(if st.1.length=fuel then AN else AF (st.1++ [q],st.2++ [st.1.length]))else AF (st.1,st.2++ [st.1.idxOf q])
def gJ (fuel:Nat) (g:Nat->α) (todo:List α):Nat->Option (List α×List Nat)
 | 0=>AF (todo,[])
 | k+1=>(gJ fuel g todo k).bind fun st=>tZ fuel st (g k)
def pQ (fuel:Nat) (f:α->Nat->α) (K:Nat) (n:Nat) (st:List α×List (List Nat)):Option (List α×List (List Nat)):=
 match st.1[n]? with
 | none=>AF st
 | some p=>(gJ fuel (f p) st.1 K).map fun r=>(r.1,st.2++ [r.2])
def ji (fuel:Nat) (f:α->Nat->α) (K:Nat) (p0:α):Nat->Option (List α×List (List Nat))
 | 0=>AF ([p0],[])
 | n+1=>(ji fuel f K p0 n).bind (pQ fuel f K n)
theorem GU {fuel:Nat} {g:Nat->α} {todo:List α} {k:Nat} (h:gJ fuel g todo k=AN):∀ j,k<=j->gJ fuel g todo j=none:=by
 intro j hj;induction j with
 | zero=>rwa[show k=0 by omega]at h
 | succ j ih=>
  by_cases e:k=j+1
  ·rwa[<-e]
  ·rw[gJ,ih (by omega)];rfl
theorem Ln {fuel:Nat} {f:α->Nat->α} {K:Nat} {p0:α} {n:Nat} (h:ji fuel f K p0 n=AN):∀ j,n<=j->ji fuel f K p0 j=none:=by
 intro j hj;induction j with
 | zero=>rwa[show n=0 by omega]at h
 | succ j ih=>
  by_cases e:n=j+1
  ·rwa[<-e]
  ·rw[ji,ih (by omega)];rfl
theorem Pm {fuel:Nat} {f:α->Nat->α} {K:Nat} {p0:α} {n:Nat} {st:List α×List (List Nat)} (h:ji fuel f K p0 n=AF st) (hn:st.1.length<=n):∀ j,n<=j->ji fuel f K p0 j=AF st:=by
 intro j hj;induction j with
 | zero=>rwa[show n=0 by omega]at h
 | succ j ih=>
  by_cases e:n=j+1
  ·rwa[<-e]
  ·rw[ji,ih (by omega)]
   show pQ fuel f K j st=AF st;unfold pQ;rw[aT (by omega)]
structure Pn (fuel:Nat) (P:α->Prop) (t0:List α) (k:Nat) (st:List α×List Nat):Prop where
 pre:t0<+:st.1
 nodup:st.1.Nodup
 le:st.1.length<=fuel
 all:∀ p∈st.1,P p
 len:st.2.length=k
 iK:∀ t∈st.2,t<st.1.length
theorem Ue {fuel:Nat} {P:α->Prop} {t0:List α} {k:Nat} {st st':List α×List Nat} {q:α} (h:Pn fuel P t0 k st) (hq:P q) (ha:tZ fuel st q=AF st'):Pn fuel P t0 (k+1) st':=by
 unfold tZ at ha;split at ha
 ·rename_i he
  split at ha
  ·cases ha
  ·rename_i hf
   cases ha
   have hn:q∉st.1:=fun hm=>by have:=List.idxOf_lt_length_of_mem hm;omega
   exact⟨h.pre.trans (List.prefix_append _ _),by
     rw[List.nodup_append];exact⟨h.nodup,by simp,fun a ha b hb e=>by simp at hb;subst hb;subst e;exact hn ha⟩,
    by have:=h.le;simp;omega,fun p hp=>by
     rcases Bs.1 hp with hp | hp
     ·exact h.all p hp
     ·simp at hp;subst hp;exact hq,
    by simp[h.len],fun t ht=>by
     rcases Bs.1 ht with ht | ht
     ·have:=h.iK t ht;simp;omega
     ·simp at ht;simp;omega⟩
 ·rename_i he
  cases ha
  have hlt:st.1.idxOf q<st.1.length:=by have:=List.idxOf_le_length (a:=q) (l:=st.1);omega
  exact⟨h.pre,h.nodup,h.le,h.all,by simp[h.len],fun t ht=>by
   rcases Bs.1 ht with ht | ht
   ·exact h.iK t ht
   ·simp at ht;subst ht;exact hlt⟩
theorem qR {fuel:Nat} {P:α->Prop} {g:Nat->α} {todo:List α} (hn:todo.Nodup) (hl:todo.length<=fuel) (hp:∀ p∈todo,P p):∀ (k:Nat) {st:List α×List Nat},(∀ j,j<k->P (g j))->gJ fuel g todo k=AF st->Pn fuel P todo k st
 | 0,st,_,h=>by
  cases h
  exact⟨List.prefix_refl _,hn,hl,hp,rfl,fun t ht=>by cases ht⟩
 | k+1,st,hg,h=>by
  rw[gJ]at h;obtain⟨s1,h1,h2⟩:=I'.1 h;exact Ue (qR hn hl hp k (fun j hj=>hg j (by omega)) h1) (hg k (by omega)) h2
structure Ye (fuel K:Nat) (P:α->Prop) (p0:α) (n:Nat) (st:List α×List (List Nat)):Prop where
 head:st.1[0]? =AF p0
 nodup:st.1.Nodup
 le:st.1.length<=fuel
 all:∀ p∈st.1,P p
 len:st.2.length=min n st.1.length
 rows:∀ r∈st.2,r.length=K/\∀ t∈r,t<st.1.length
theorem Aw {fuel K:Nat} {P:α->Prop} {f:α->Nat->α} {p0:α} (hf:1<=fuel) (h0:P p0) (hP:∀ p k,P p->k<K->P (f p k)):∀ (n:Nat) {st:List α×List (List Nat)},ji fuel f K p0 n=AF st->Ye fuel K P p0 n st
 | 0,st,h=>by
  cases h
  exact⟨rfl,by simp,by simpa using hf,by simpa using h0,by simp,fun r hr=>by cases hr⟩
 | n+1,st,h=>by
  rw[ji]at h;obtain⟨s1,h1,h2⟩:=I'.1 h;have I:=Aw hf h0 hP n h1;unfold pQ at h2;split at h2
  ·rename_i he
   have e:=GW h2;subst e;have hl:s1.1.length<=n:=by simpa using he
   exact⟨I.head,I.nodup,I.le,I.all,by have:=I.len;omega,I.rows⟩
  ·rename_i p he
   obtain⟨r,h3,rfl⟩:=Option.map_eq_some_iff.1 h2;have hlt:n<s1.1.length:=(AI.1 he).1;have R:=qR (P:=P) I.nodup I.le I.all K (fun j hj=>hP p j (I.all p (ax he)) hj) h3;obtain⟨ys,Uf⟩:=R.pre;have VL:s1.1.length<=r.1.length:=by rw[<-Uf];simp
   refine⟨?_,R.nodup,R.le,R.all,?_,?_⟩
   ·show r.1[0]? =AF p0
    rw[<-Uf,bH (by omega)];exact I.head
   ·have:=I.len
    simp only[aJ,I_,Rr];omega
   ·intro x hx
    rcases Bs.1 hx with hx | hx
    ·exact⟨(I.rows x hx).1,fun t ht=>by have:=(I.rows x hx).2 t ht;show t<r.1.length;omega⟩
    ·simp at hx;subst hx;exact⟨R.len,R.iK⟩
end
def lb (p:List BS) (k:Nat):Nat:=(aV (p.getD k 0)).1
def vu (a b:DF) (p:Nat×Nat) (k:Nat):Nat×Nat:=
 (eH a p.1 (cls a.cl (lb (partsOf (a.cl++b.cl)) k)),eH b p.2 (cls b.cl (lb (partsOf (a.cl++b.cl)) k)))
theorem cq.ft {p:List BS} {R:Nat->Nat->Prop} (h:cq p R) {c:Nat} (hc:c<256):cls p c<p.length:=by obtain⟨q,hq,_⟩:=(h.jh hc).1 rfl;exact(AI.1 hq).1
theorem JE {l:List BS} {k:Nat} (hk:k<(partsOf l).length):lb (partsOf l) k<256:=by have h1:=bn (l:=partsOf l) 0 hk;exact(eh (ik l (ax h1))).2.1
theorem ud (l:List BS):partsOf (partsOf l)=partsOf l:=
 cq.uniq (cq.mY (partsOf l)) (cq.mY l) fun _ _ hc hd=>(cq.mY l).yU hc hd
def gK (a b:DF) (p:Nat×Nat):Prop:=p.1<a.nx.length/\p.2<b.nx.length
theorem vv {a b:DF} (ha:Rt a) (hb:Rt b) (p:Nat×Nat) (k:Nat) (hp:gK a b p) (hk:k<(partsOf (a.cl++b.cl)).length):gK a b (vu a b p k):=
 ⟨ha.jJ hp.1 (ha.part.ft (JE hk)),hb.jJ hp.2 (hb.part.ft (JE hk))⟩
end
section
open Go Go.RowKit Go.Shelf Go.Maps
def km {α:Type} (enc:α->An) (w:As) (v:An) (l:List α):Prop:=bw enc w v l\/(l=[]/\∃ a:Lw,v=AM (AF a) 0 0)
theorem km.below {α:Type} {enc:α->An} {w w':As} {v:An} {l:List α} (h:km enc w v l) (hk:aa w w'):km enc w' v l:=h.imp (fun h=>h.below hk) id
theorem km.form {α:Type} {enc:α->An} {w:As} {v:An} {l:List α} (h:km enc w v l):∃ a cap,v=AM a l.length cap:=by
 rcases h with h | ⟨rfl,a,rfl⟩
 ·exact h.form
 ·exact⟨_,_,rfl⟩
theorem ng (v:An) (l:List Int) (w:As) (h:km aG w v l) (hn:l.length<=1000000): ah 22 #[v] w fun e w'=>∃ u,e=By u/\w'.ownsRow w.heap.size 3 1 u l.length (l.map aG)/\aa w w':=by
 obtain⟨i0,hi,hz0,hz1,hz2⟩:=M_ Tryz.ki;have h':(v=AM AN 0 0/\l=[])\/∃ (a:Lw) (cap:Nat),v=AM (AF a) l.length cap/\∀ o j u,(l.map aG)[j]? =AF u->(w.alloc o).cell? (a.add j)=AF u:=by
  rcases h with(h | ⟨b,off,cap,rfl,hb,_,hc⟩) | ⟨rfl,a,rfl⟩
  ·exact .inl h
  ·refine .inr ⟨⟨b,off,AN⟩,cap,rfl,fun o j u hj=>?_⟩
   refine(((Ext.refl w).alloc o).cell (p:=(⟨b,off,AN⟩:Lw).add j) (by rw[GB];exact hb)).trans ?_;rw[aN]at hj;cases hx:l[j]? with
   | none=>rw[hx]at hj;cases hj
   | some x=>
    rw[hx]at hj;rw[GB,hc j x hx];exact hj
  ·exact .inr ⟨a,0,rfl,fun o j u hj=>by simp at hj⟩
 clear h;rcases h' with⟨rfl,rfl⟩ | ⟨ad,cap,rfl,hnews⟩
 ·have he:=fun W=>AT (P:=A_) W 39 3 AN 0 0 0 0 It
  go_enter V',T_
  go_wp2;go_ret;exact⟨_,rfl,F_ _ _ _ _,DS _ _⟩
 ·obtain⟨n,iV⟩:=ag l.length
  rw[<-iV]at hn ⊢;have HN:=DP iV;have HNw:=DP hnews;have he:=fun W=>AT (P:=A_) W 39 3 (AF ad) n cap 0 0 It
  clear hnews iV;go_enter V',T_;have o1:(w.alloc (.cells #[] 3 (0,0))).ownsRow w.heap.size 3 1 (AM (AF ⟨w.heap.size,0,AN⟩) 0 0) 0 []:=⟨rfl,.inr ⟨w.heap.size,0, #[],rfl,aF _,GS _ _,aF _,by simp,rfl,rfl⟩⟩;have Js:=DP o1;clear o1;go_wp2_with (at_builtin;(refine D0 _ rfl (.tmp 5) (.tmp 6) 39 rfl w.heap.size 3 i0 (Ft .i64 0) 1 8 It hi hz0 hz1 hz2 rfl (by decide) _ 0 [] rfl Js ad n cap (l.map aG) rfl (by rw[aP,HN.out,Wg]) (fun j u hj=>HNw _ j u hj) (fun u hu=>by obtain⟨x,_,rfl⟩:=UP.1 hu;rfl) (by unfold maxLen;omega) (by omega) (by simp) ?_;intro v' w2 ho hg _ _;have jF:=DP ho;have HG:=DP hg;obtain⟨a2,c2,rfl⟩:=ownsRow_form ho;clear ho hg));go_ret;refine⟨_,rfl,?_,?_⟩
  ·have:=jF.out
   rwa[Cd,K_]at this
  ·exact((DS _ _).alloc (aF _) _).grown HG (by simp) (fun c e=>(Js.lt c e).1)
theorem kH (v:An) (l:List Int) (w:As) (h:bw aG w v l) (hn:l.length<=1000000): ah 22 #[v] w fun e w'=>∃ u,e=By u/\w'.ownsRow w.heap.size 3 1 u l.length (l.map aG)/\aa w w':=ng v l w (.inl h) hn
theorem vw (v:An) (l:List Nat) (w:As) (h:bw en w v l) (hn:l.length<=1000000): ah 124 #[v] w fun e w'=>∃ u,e=By u/\w'.ownsRow w.heap.size 5 1 u l.length (l.map en)/\aa w w':=by
 obtain⟨i0,hi,hz0,hz1,hz2⟩:=M_ Tryz.GC;rcases h with⟨rfl,rfl⟩ | ⟨b,off,cap,rfl,hb,_,hc⟩
 ·have he:=fun W=>AT (P:=A_) W 44 5 AN 0 0 0 0 Iv
  go_enter US,Sf
  go_wp2;go_ret;exact⟨_,rfl,F_ _ _ _ _,DS _ _⟩
 ·have hnews:∀ j u,(l.map en)[j]? =AF u->w.cell? ((⟨b,off,AN⟩:Lw).add j)=AF u:=fun j u hj=>by
   rw[aN]at hj;cases hx:l[j]? with
   | none=>rw[hx]at hj;cases hj
   | some x=>
    rw[hx]at hj;rw[GB,hc j x hx];exact hj
  obtain⟨n,iV⟩:=ag l.length;rw[<-iV]at hn ⊢;have HN:=DP iV;have HNw:=DP hnews;have he:=fun W=>AT (P:=A_) W 44 5 (AF ⟨b,off,AN⟩) n cap 0 0 Iv
  clear hc hnews iV;go_enter US,Sf;have o1:(w.alloc (.cells #[] 5 (0,0))).ownsRow w.heap.size 5 1 (AM (AF ⟨w.heap.size,0,AN⟩) 0 0) 0 []:=⟨rfl,.inr ⟨w.heap.size,0, #[],rfl,aF _,GS _ _,aF _,by simp,rfl,rfl⟩⟩;have Js:=DP o1;clear o1;go_wp2_with (at_builtin;(refine D0 _ rfl (.tmp 5) (.tmp 6) 44 rfl w.heap.size 5 i0 (Ft .u8 0) 1 1 Iv hi hz0 hz1 hz2 rfl (by decide) _ 0 [] rfl Js ⟨b,off,AN⟩ n cap (l.map en) rfl (by rw[aP,HN.out,Wg]) (fun j u hj=>(((Ext.refl w).alloc _).cell (p:=(⟨b,off,AN⟩:Lw).add j) (by rw[GB];exact hb)).trans (HNw j u hj)) (fun u hu=>by obtain⟨x,_,rfl⟩:=UP.1 hu;rfl) (by unfold maxLen;omega) (by omega) (by simp) ?_;intro v' w2 ho hg _ _;have jF:=DP ho;have HG:=DP hg;obtain⟨a2,c2,rfl⟩:=ownsRow_form ho;clear ho hg));go_ret;refine⟨_,rfl,?_,?_⟩
  ·have:=jF.out
   rwa[Cd,K_]at this
  ·exact((DS _ _).alloc (aF _) _).grown HG (by simp) (fun c e=>(Js.lt c e).1)
structure Sp where
 H:As->Prop
 st:∀ W W':As,aa W W'->H W->H W'
section
variable {L:List Sp} {W:As}
end
theorem Tryz.pd:(A_.info? 39).map (fun i=>(i.zero,i.size,i.bytes))=AF (AF (AM AN 0 0),1,24):=by kernel_rfl
def fy (w:As) (v:An) (ll:List (List Int)):Prop:=∃ us:List An,us.length=ll.length/\bw (fun u:An=>u) w v us/\∀ (i:Nat) (u:An) (l:List Int),us[i]? =AF u->ll[i]? =AF l->bw aG w u l
theorem fy.below {w w':As} {v:An} {ll:List (List Int)} (h:fy w v ll) (hk:aa w w'):fy w' v ll:=by obtain⟨us,h1,h2,h3⟩:=h;exact⟨us,h1,h2.below hk,fun i u l hu hl=>(h3 i u l hu hl).below hk⟩
theorem fy.form {w:As} {v:An} {ll:List (List Int)} (h:fy w v ll):∃ a cap,v=AM a ll.length cap:=by obtain⟨us,h1,h2,h3⟩:=h;obtain⟨a,cap,h4⟩:=h2.form;exact⟨a,cap,by rw[h4,h1]⟩
theorem fy.elem {w:As} {a:Option Lw} {n cap:Nat} {ll:List (List Int)} (h:fy w (AM a n cap) ll) {i:Nat} {l:List Int} (hi:ll[i]? =AF l): ∃ b off a' c',a=AF ⟨b,off,AN⟩/\b<w.heap.size/\w.cell? ⟨b,off+i,AN⟩=AF (AM a' l.length c')/\bw aG w (AM a' l.length c') l:=by obtain⟨us,h1,h2,h3⟩:=h;have fT:=(AI.1 hi).1;have hu:us[i]? =AF (us[i]'(by omega)):=aB (by omega);obtain⟨b,off,e1,e2,e3⟩:=h2.elem hu;have h4:=h3 i _ l hu hi;obtain⟨a',c',e4⟩:=h4.form;rw[e4]at h4 e3;exact⟨b,off,a',c',e1,e2,e3,h4⟩
def nh (w:As) (v:An) (ll:List (List Int)):Prop:=∃ us:List An,us.length=ll.length/\bw (fun u:An=>u) w v us/\∀ (i:Nat) (u:An) (l:List Int),us[i]? =AF u->ll[i]? =AF l->km aG w u l
theorem fy.e {w:As} {v:An} {ll:List (List Int)} (h:fy w v ll):nh w v ll:=by obtain⟨us,h1,h2,h3⟩:=h;exact⟨us,h1,h2,fun i u l hu hl=>.inl (h3 i u l hu hl)⟩
theorem nh.below {w w':As} {v:An} {ll:List (List Int)} (h:nh w v ll) (hk:aa w w'):nh w' v ll:=by obtain⟨us,h1,h2,h3⟩:=h;exact⟨us,h1,h2.below hk,fun i u l hu hl=>(h3 i u l hu hl).below hk⟩
theorem nh.form {w:As} {v:An} {ll:List (List Int)} (h:nh w v ll):∃ a cap,v=AM a ll.length cap:=by obtain⟨us,h1,h2,h3⟩:=h;obtain⟨a,cap,h4⟩:=h2.form;exact⟨a,cap,by rw[h4,h1]⟩
theorem nh.elem {w:As} {a:Option Lw} {n cap:Nat} {ll:List (List Int)} (h:nh w (AM a n cap) ll) {i:Nat} {l:List Int} (hi:ll[i]? =AF l): ∃ b off a' c',a=AF ⟨b,off,AN⟩/\b<w.heap.size/\w.cell? ⟨b,off+i,AN⟩=AF (AM a' l.length c')/\km aG w (AM a' l.length c') l:=by obtain⟨us,h1,h2,h3⟩:=h;have fT:=(AI.1 hi).1;have hu:us[i]? =AF (us[i]'(by omega)):=aB (by omega);obtain⟨b,off,e1,e2,e3⟩:=h2.elem hu;have h4:=h3 i _ l hu hi;obtain⟨a',c',e4⟩:=h4.form;rw[e4]at h4 e3;exact⟨b,off,a',c',e1,e2,e3,h4⟩
def aS (base:Nat) (w:As) (v:An) (ll:List (List Int)):Prop:=∃ us:List An,us.length=ll.length/\w.ownsRow base 39 1 v us.length us/\∀ (i:Nat) (u:An) (l:List Int),us[i]? =AF u->ll[i]? =AF l->w.ownsRow base 3 1 u l.length (l.map aG)
theorem aS.nil (base:Nat) (w:As):aS base w (AM AN 0 0) []:=⟨[],rfl,F_ _ _ _ _,fun i u l h=>by simp at h⟩
theorem aS.base {base base':Nat} {w:As} {v:An} {ll:List (List Int)} (h:aS base w v ll) (hb:base'<=base):aS base' w v ll:=by obtain⟨us,h1,h2,h3⟩:=h;exact⟨us,h1,aC h2 hb,fun i u l hu hl=>aC (h3 i u l hu hl) hb⟩
theorem aS.below {base:Nat} {w w':As} {v:An} {ll:List (List Int)} (h:aS base w v ll) (hk:aa w w'):aS base w' v ll:=by obtain⟨us,h1,h2,h3⟩:=h;exact⟨us,h1,ai h2 hk,fun i u l hu hl=>ai (h3 i u l hu hl) hk⟩
theorem cV {w w':As} {base:Nat} {e:AS} {size:Nat} {v:An} {n:Nat} {xs:List An} (h:w.ownsRow base e size v n xs) {R:Nat->Prop} (hk:ae R w w') (hr:∀ k,base<=k->k<w.heap.size->R k):w'.ownsRow base e size v n xs:=
 ak h hk fun k e=>hr k (h.lt k e).1 (h.lt k e).2
theorem aS.keeps {base:Nat} {w w':As} {v:An} {ll:List (List Int)} (h:aS base w v ll) {R:Nat->Prop} (hk:ae R w w') (hr:∀ k,base<=k->k<w.heap.size->R k):aS base w' v ll:=by obtain⟨us,h1,h2,h3⟩:=h;exact⟨us,h1,cV h2 hk hr,fun i u l hu hl=>cV (h3 i u l hu hl) hk hr⟩
theorem aS.form {base:Nat} {w:As} {v:An} {ll:List (List Int)} (h:aS base w v ll):∃ a cap,v=AM a ll.length cap:=by obtain⟨us,h1,h2,h3⟩:=h;obtain⟨a,c,h4⟩:=ownsRow_form h2;exact⟨a,c,by rw[h4,h1]⟩
theorem aS.ll {base:Nat} {w:As} {v:An} {ll:List (List Int)} (h:aS base w v ll):fy w v ll:=by obtain⟨us,h1,h2,h3⟩:=h;refine⟨us,h1,bU (e:=39) (base:=base) (by simpa using h2) rfl,fun i u l hu hl=>bU (h3 i u l hu hl) rfl⟩
theorem ownBlock_ne {w:As} {b1 b2:Nat} {e1 e2:AS} {s1 s2 n1 n2:Nat} {v1 v2:An} {x1 x2:List An} (he:e1≠e2) (h1:w.ownsRow b1 e1 s1 v1 n1 x1) (h2:w.ownsRow b2 e2 s2 v2 n2 x2):v1.ownBlock=AN\/v1.ownBlock≠v2.ownBlock:=by
 rcases h1.2 with⟨rfl,_⟩ | ⟨g,c,cur,rfl,_,hg,_⟩
 ·exact .inl rfl
 ·right
  rcases h2.2 with⟨rfl,_⟩ | ⟨g',c',cur',rfl,_,JD,_⟩
  ·simp[B']
  ·intro e
   have e':g=g':=by simpa[B']using e
   subst e';rw[hg]at JD;exact he (by injection JD with h;injection h)
theorem aS.snoc {base:Nat} {w w':As} {v v' u:An} {ll:List (List Int)} {l:List Int} {us:List An} (h1:us.length=ll.length) (ho:w.ownsRow base 39 1 v us.length us) (h3:∀ (i:Nat) (u:An) (l:List Int),us[i]? =AF u->ll[i]? =AF l->w.ownsRow base 3 1 u l.length (l.map aG)) (hu:w.ownsRow base 3 1 u l.length (l.map aG)) (hg:w.grownBy w' v.ownBlock) (mL:w'.ownsRow base 39 1 v' (us.length+1) (us++ [u])):aS base w' v' (ll++ [l]):=by
 have ne:(3:Nat)≠39:=by decide
 refine⟨us++ [u],by simp[h1],by simpa using mL,fun i x y hx hy=>?_⟩;by_cases hi:i<us.length
 ·rw[bH hi]at hx
  rw[bH (by omega)]at hy;have hr:=h3 i x y hx hy;exact hr.kept hg (ownBlock_ne ne hr ho)
 ·have fT:=(AI.1 hx).1
  simp at fT;obtain rfl:i=us.length:=by omega
  simp at hx;subst hx;rw[h1]at hy;simp at hy;subst hy;exact hu.kept hg (ownBlock_ne ne hu ho)
def bV (w:As) (v:An) (d:DF):Prop:=∃ v0 v1 v2,v=W_ #[v0,v1,v2]/\gF w v0 d.cl/\fy w v1 d.nx/\fy w v2 d.mr
theorem bV.below {w w':As} {v:An} {d:DF} (h:bV w v d) (hk:aa w w'):bV w' v d:=by obtain⟨v0,v1,v2,e,h0,h1,h2⟩:=h;exact⟨v0,v1,v2,e,⟨h0.1.below hk,h0.2⟩,h1.below hk,h2.below hk⟩
def VX (w:As) (v:An) (d:DF):Prop:=∃ v0 v1 v2,v=W_ #[v0,v1,v2]/\gF w v0 d.cl/\nh w v1 d.nx/\nh w v2 d.mr
theorem bV.e {w:As} {v:An} {d:DF} (h:bV w v d):VX w v d:=by obtain⟨v0,v1,v2,e,h0,h1,h2⟩:=h;exact⟨v0,v1,v2,e,h0,h1.e,h2.e⟩
def aM (base:Nat) (w:As) (v:An) (d:DF):Prop:=∃ v0 v1 v2,v=W_ #[v0,v1,v2]/\w.ownsRow base 56 4 v0 d.cl.length (aL d.cl)/\aS base w v1 d.nx/\aS base w v2 d.mr
theorem aM.below {base:Nat} {w w':As} {v:An} {d:DF} (h:aM base w v d) (hk:aa w w'):aM base w' v d:=by obtain⟨v0,v1,v2,e,h0,h1,h2⟩:=h;exact⟨v0,v1,v2,e,ai h0 hk,h1.below hk,h2.below hk⟩
theorem aM.base {base base':Nat} {w:As} {v:An} {d:DF} (h:aM base w v d) (hb:base'<=base):aM base' w v d:=by obtain⟨v0,v1,v2,e,h0,h1,h2⟩:=h;exact⟨v0,v1,v2,e,aC h0 hb,h1.base hb,h2.base hb⟩
theorem aM.keeps {base:Nat} {w w':As} {v:An} {d:DF} (h:aM base w v d) {R:Nat->Prop} (hk:ae R w w') (hr:∀ k,base<=k->k<w.heap.size->R k):aM base w' v d:=by obtain⟨v0,v1,v2,e,h0,h1,h2⟩:=h;exact⟨v0,v1,v2,e,cV h0 hk hr,h1.keeps hk hr,h2.keeps hk hr⟩
theorem fD {w:As} {base:Nat} {v:An} {l:List BS} (h:w.ownsRow base 56 4 v l.length (aL l)):gF w v l:=by
 refine⟨je h,fun a n cap e=>?_⟩;subst e;rcases h.2 with⟨h1,h2⟩ | ⟨g,c,cur,h1,_,_,h2,_⟩
 ·injection h1 with _ h3 h4;omega
 ·injection h1 with _ h3 h4;omega
theorem aM.df {base:Nat} {w:As} {v:An} {d:DF} (h:aM base w v d):bV w v d:=by obtain⟨v0,v1,v2,e,h0,h1,h2⟩:=h;exact⟨v0,v1,v2,e,fD h0,h1.ll,h2.ll⟩
structure Sm (d:DF):Prop where
 cl:d.cl.length<=1000000
 nx:d.nx.length<=1000000
 mr:d.mr.length<=1000000
 xG:∀ l∈d.nx,l.length<=1000000
 Ug:∀ l∈d.mr,l.length<=1000000
section
variable {L:List Sp} {W:As}
end
theorem cU.elem {w:As} {a:Option Lw} {n cap:Nat} {l:List BS} (h:cU w (AM a n cap) l) {i:Nat} {s:BS} (hi:l[i]? =AF s): ∃ b off,a=AF ⟨b,off,AN⟩/\b<w.heap.size/\w.cell? ⟨b,off+i*4,AN⟩=AF (Ft .u64 (wd s 0).toNat)/\w.cell? ⟨b,off+i*4+1,AN⟩=AF (Ft .u64 (wd s 1).toNat)/\w.cell? ⟨b,off+i*4+2,AN⟩=AF (Ft .u64 (wd s 2).toNat)/\w.cell? ⟨b,off+i*4+3,AN⟩=AF (Ft .u64 (wd s 3).toNat):=by
 rcases h with⟨_,e⟩ | ⟨b,off,cap',e1,hb,hcc⟩
 ·rw[e]at hi;simp at hi
 ·injection e1 with e1 _ _
  exact⟨b,off,e1,hb,hcc i s hi 0 (by decide),hcc i s hi 1 (by decide),hcc i s hi 2 (by decide),hcc i s hi 3 (by decide)⟩
theorem dO (w:As) (x:An) (t:AS):∀ j u,[x][j]? =AF u->(w.alloc (.cells #[x] t)).cell? ((⟨w.heap.size,0,AN⟩:Lw).add j)=AF u:=fun j u h=>by
 have hj:j=0:=by
  rcases Nat.eq_zero_or_pos j with h' | h'
  ·exact h'
  ·rw[aT (by simp;omega)]at h;cases h
 subst hj;have hx:x=u:=by simpa using h
 rw[<-hx];exact(ar.new w #[x] t).cell 0
theorem GV (v:An) (ll:List (List Int)) (w:As) (h:nh w v ll) (hn:ll.length<=1000000) (hs:∀ l∈ll,l.length<=1000000): ah 70 #[v] w fun e w'=>∃ u,e=By u/\aS w.heap.size w' u ll/\aa w w':=by
 obtain⟨i0,hi,hz0,hz1,hz2⟩:=M_ Tryz.pd;obtain⟨a,cap,rfl⟩:=h.form;obtain⟨n,iV⟩:=ag ll.length;rw[<-iV]at h hn ⊢;have H:=DP h;have HN:=DP iV;have HS:=DP hs;clear h iV hs;go_enter Tryz.func70,Tryz.ntmps70;go_wp2;go_loopw [8,3] (fun i u wr=>∃ k:Nat,k<=n/\i=Ft .i64 k/\aS w.heap.size wr u (ll.take k)/\aa w wr) (fun i _ _=>n-(intOf i).toNat);case atStart=>exact⟨0,by omega,rfl,aS.nil _ _,DS _ _⟩
 case round=>
  obtain⟨k,hk,rfl,ho,hx⟩:=hrel;obtain⟨wo,rfl⟩:=ag (wr:As);by_cases hlt:k<n
  ·obtain⟨l,hl⟩:∃ l,ll[k]? =AF l:=⟨_,aB (by have:=HN.out;omega)⟩
   obtain⟨b,off,a',c',rfl,hb,c1,mm⟩:=(H.below hx).elem hl;have Yf:=HS.out l (ax hl);have er:ll.take (k+1)=ll.take k++ [l]:=by rw[FF,hl];rfl
   have hlen:(ll.take k).length<=1000000:=by rw[O_];omega
   obtain⟨us,u1,u2,u3⟩:=ho;obtain⟨m,hm⟩:=ag us.length;have tX:m<=1000000:=by omega
   obtain⟨j,hj⟩:=ag l.length;rw[<-hj]at c1 mm Yf;rw[<-hm]at u1 u2;have HM:=DP hm;have HJ:=DP hj;have u2':=u2;obtain⟨a5,c5,rfl⟩:=ownsRow_form u2';have U2:=DP u2;have U3:=DP u3;have U1:=DP u1;have HX:=DP hx;have HT:=DP er;have yV:=DP mm;clear hx er mm u1 u2 u2' u3 hm hj hl hlen;go_wp2_with fail
   refine(ng _ l _ yV (by have:=HJ.out;omega)).mono ?_;rintro e w1 ⟨ur,rfl,hr,hx⟩;obtain⟨a6,c6,rfl⟩:=ownsRow_form hr;have hsz:w.heap.size<=wo.heap.size:=HX.size;have Yg:w.heap.size<=w1.heap.size:=TO hsz hx.size;have R1:=DP (aC hr hsz);have V2:=DP (ai U2 hx);have V3:=DP fun i u l hu hl=>ai (U3 i u l hu hl) hx
   have X1:=DP (HX.trans (hx.mono HX.size));clear hr hx c1 yV U2 U3 HX;go_wp2_with (at_builtin;refine D0 _ rfl (.tmp 12) (.tmp 15) 27 rfl w.heap.size 39 i0 (AM AN 0 0) 1 24 Tryz.underlying27 hi hz0 hz1 hz2 rfl (by decide) _ _ _ rfl (V2.alloc _) ⟨w1.heap.size,0,AN⟩ 1 1 [AM a6 l.length c6] rfl rfl (dO _ _ _) (by simp[Value.oneCell']) (by unfold maxLen;omega) (by omega) (by simp;omega) ?_;intro v' w2 hown' hgrow hh hat;have jF:=DP hown';have HG:=DP hgrow;clear hown' hgrow hh hat);go_roundw;case rel=>
    refine⟨k+1,by omega,by go_num,?_,?_⟩
    ·rw[HT.out]
     refine aS.snoc (w:=w1.alloc (.cells #[AM a6 l.length c6] 39)) (v:=AM a5 m c5) (by rw[<-HM.out];exact U1) (by rw[<-HM.out];exact V2.alloc _) (fun i u l hu hl=>(V3 i u l hu hl).alloc _) (R1.alloc _) HG (by rw[<-HM.out];exact jF)
    ·exact(X1.alloc X1.size _).grown HG (by have:=X1.size;simp;omega) (fun c e=>(V2.lt c e).1)
   case measure=>simp[intOf];omega
  ·obtain rfl:k=n:=by omega
   have er:ll.take k=ll:=by rw[HN.out];exact O'
   rw[er]at ho;have HO:=DP ho;have HX:=DP hx;clear ho hx er;go_wp2;go_ret;exact⟨_,rfl,HO,HX⟩
theorem yX (v:An) (ll:List (List Int)) (w:As) (h:fy w v ll) (hn:ll.length<=1000000) (hs:∀ l∈ll,l.length<=1000000): ah 70 #[v] w fun e w'=>∃ u,e=By u/\aS w.heap.size w' u ll/\aa w w':=GV v ll w h.e hn hs
attribute [local go_sem] encS
theorem km.elem {α:Type} {enc:α->An} {w:As} {a:Option Lw} {n cap:Nat} {l:List α} (h:km enc w (AM a n cap) l) {i:Nat} {x:α} (hi:l[i]? =AF x):∃ b off,a=AF ⟨b,off,AN⟩/\b<w.heap.size/\w.cell? ⟨b,off+i,AN⟩=AF (enc x):=by
 rcases h with h | ⟨rfl,_⟩
 ·exact h.elem hi
 ·simp at hi
def fK {α:Type} (f:α->Bool) (l:List α):Int:=match l.findIdx? f with | some k=>k | none=> -1
theorem pR {α:Type} (f:α->Bool) (l:List α):decide (0<=fK f l)=l.any f:=by
 unfold fK;cases h:l.findIdx? f with
 | none=>
  rw[If]at h;have:l.any f=false:=by rw[List.any_eq_false];intro x hx;rw[h x hx];decide
  rw[this];rfl
 | some k=>
  rw[E_]at h;obtain⟨h1,h2,_⟩:=h;have:l.any f=true:=by rw[List.any_eq_true];exact⟨l[k],List.getElem_mem h1,h2⟩
  rw[this];simp
theorem np {α:Type} {f:α->Bool} {l:List α} {k:Nat} {x:α} (hx:l[k]? =AF x) (hf:f x=A') (hn:∀ y∈l.take k,f y=Se):fK f l=k:=by
 have h1:l.findIdx? f=AF k:=by
  rw[E_];have Ae:=(AI.1 hx).1;refine⟨Ae,?_,fun j hj=>?_⟩
  ·rw[(AI.1 hx).2];exact hf
  ·have:=hn l[j] (List.mem_take_iff_getElem.2 ⟨j,by omega,rfl⟩)
   rw[this];decide
 rw[fK,h1]
theorem nr {α:Type} {f:α->Bool} {l:List α} (hn:∀ y∈l,f y=Se):fK f l= -1:=by
 have h1:l.findIdx? f=none:=by rw[If];intro x hx;rw[hn x hx]
 rw[fK,h1]
theorem r8 {α:Type} {f:α->Bool} {l:List α} {k:Nat} {x:α} (hx:l[k]? =AF x) (hf:f x=Se) (hn:∀ y∈l.take k,f y=Se):∀ y∈l.take (k+1),f y=false:=fun y hy=>by
 rw[FF,hx]at hy;rcases Bs.1 hy with hy | hy
 ·exact hn y hy
 ·rw[show y=x from by simpa using hy];exact hf
theorem vx (g:Nat) (lb:Array An) (f:Int->Bool) (v:An) (l:List Int) (w:As) (h:km aG w v l) (hn:l.length<=1000000) (eg:∀ args w,(callFunc g args).run A_ w=.ok (.enter g args) w) (hf:∀ s W,aa w W->ah g (#[Ft .i64 s]++lb) W fun e w'=>e=By (P' (f s))/\w'=W): ah 120 #[v,.func (.func g) #[] lb] w fun e w'=>e=By (Ft .i64 (fK f l))/\w'=w:=by
 obtain⟨a,cap,rfl⟩:=h.form;obtain⟨n,iV⟩:=ag l.length;rw[<-iV]at h hn ⊢;have H:=DP h;have HN:=DP iV;have HF:=DP fun s=>hf s w (DS _ _)
 obtain⟨r,hr⟩:=ag (fK f l);rw[<-hr];have HR:=DP hr;clear h iV hf hr;go_enter Tryz.func120,Tryz.ntmps120;go_wp2
 go_loop [8] (fun i=>∃ k:Nat,k<=n/\i=Ft .i64 k/\(∀ s∈l.take k,f s=Se)) (fun i=>n-(intOf i).toNat)
 case atStart=>exact⟨0,by omega,rfl,fun s hs=>by simp at hs⟩
 case round=>
  obtain⟨k,hk,rfl,ha⟩:=hrel;by_cases hlt:k<n
  ·obtain⟨s,hs⟩:∃ s,l[k]? =AF s:=⟨_,aB (by have:=HN.out;omega)⟩
   obtain⟨b,off,rfl,hb,d0⟩:=H.elem hs;have d0':w.cell? ⟨b,off+k,AN⟩=AF (Ft .i64 s):=d0;have Th:=DP (HF.out s);have HA:=DP ha;have HS:=DP hs;clear ha hs d0;obtain⟨b1,hb1⟩:=ag (f s);rw[<-hb1]at Th;have mC:=DP hb1;clear hb1;cases b1 with
   | true=>
    have iz:=DP (HR.trans (np HS mC.symm HA));go_wp2;refine Th.mono ?_;rintro e w2 ⟨rfl,hw⟩;replace hw:=hw.symm;subst hw;go_wp2;go_ret;exact⟨by rw[iz.out];rfl,rfl⟩
   | false=>
    go_wp2;refine Th.mono ?_;rintro e w2 ⟨rfl,hw⟩;replace hw:=hw.symm;subst hw;go_wp2
    go_round
    case rel=>exact⟨k+1,by omega,by go_num,r8 HS mC.symm HA⟩
    case measure=>simp[intOf];omega
  ·obtain rfl:k=n:=by omega
   have iz:=DP (HR.trans (nr fun y hy=>ha y (by rw[HN.out,O'];exact hy)));clear ha;go_wp2;go_ret;exact⟨by rw[iz.out];rfl,rfl⟩
theorem qT (g:Nat) (lb:Array An) (f:Int->Bool) (v:An) (l:List Int) (w:As) (h:km aG w v l) (hn:l.length<=1000000) (eg:∀ args w,(callFunc g args).run A_ w=.ok (.enter g args) w) (hf:∀ s W,aa w W->ah g (#[Ft .i64 s]++lb) W fun e w'=>e=By (P' (f s))/\w'=W): ah 65 #[v,.func (.func g) #[] lb] w fun e w'=>e=By (P' (l.any f))/\w'=w:=by have HI:=DP (vx g lb f v l w h hn eg hf);rw[<-pR];obtain⟨a,cap,rfl⟩:=h.form;clear h hf eg;generalize fK f l=z at HI ⊢;go_enter Tryz.func65,Tryz.ntmps65;go_wp2_with (go_at_call 120;refine HI.mono ?_;rintro e w2 ⟨rfl,hw⟩;replace hw:=hw.symm;subst hw);go_ret;exact⟨rfl,rfl⟩
theorem GX (x:Int) (n:Nat) (B:Nat) (W:As) (hB:W.cell? ⟨B,0,AN⟩=AF (Ft .i64 n)): ah 66 #[Ft .i64 x,.pointer (AF ⟨B,0,AN⟩)] W fun e w'=>e=By (P' (!Tg n x))/\w'=W:=by
 unfold Tg;by_cases h1:x<0
 ·have d1:decide (x<0)=true:=decide_eq_true h1
  have d2:decide (0<=x)=false:=decide_eq_false (by omega);go_enter P_,On;go_wp2;go_ret;exact⟨by rw[d2];rfl,rfl⟩
 ·have d1:decide (x<0)=false:=decide_eq_false h1
  have d2:decide (0<=x)=true:=decide_eq_true (by omega);by_cases h2:(n:Int)<=x
  ·have d3:decide ((n:Int)<=x)=true:=decide_eq_true h2
   have d4:decide (x<(n:Int))=false:=decide_eq_false (by omega);go_enter P_,On;go_wp2;go_ret;exact⟨rfl,rfl⟩
  ·have d3:decide ((n:Int)<=x)=false:=decide_eq_false h2
   have d4:decide (x<(n:Int))=true:=decide_eq_true (by omega);go_enter P_,On;go_wp2;go_ret;exact⟨rfl,rfl⟩
theorem Lp:∀ args w,(callFunc 66 args).run A_ w=.ok (.enter 66 args) w:=fun args w=>by kernel_rfl
theorem Uh {α:Type} [BEq α] [LawfulBEq α] {l m:List α} {k:Nat} {x y:α} (hx:l[k]? =AF x) (hy:m[k]? =AF y) (h:x≠y):(l==m)=false:=by rw[beq_eq_false_iff_ne];intro e;subst e;rw[hx]at hy;exact h (GW hy)
theorem GY {α:Type} [BEq α] [LawfulBEq α] {l m:List α} {n:Nat} (h1:l.length=n) (h2:m.length=n) (h:∀ i x y,i<n->l[i]? =AF x->m[i]? =AF y->x=y):(l==m)=true:=by
 rw[beq_iff_eq];refine List.ext_getElem (by omega) fun i a b=>?_
 exact h i _ _ (by omega) (aB a) (aB b)
theorem DC {α:Type} [BEq α] [LawfulBEq α] {l m:List α} (h:l.length≠m.length):(l==m)=false:=by rw[beq_eq_false_iff_ne];intro e;rw[e]at h;exact h rfl
theorem G5 (v1 v2:An) (l1 l2:List BS) (w:As) (h1:cU w v1 l1) (h2:cU w v2 l2) (hn:l1.length<=1000000): ah 63 #[v1,v2] w fun e w'=>e=By (P' (l1==l2))/\Ext w w':=by
 obtain⟨a1,c1,rfl⟩:=h1.form;obtain⟨a2,c2,rfl⟩:=h2.form;obtain⟨n,iV⟩:=ag l1.length;obtain⟨m,tX⟩:=ag l2.length;rw[<-iV]at h1 hn ⊢;rw[<-tX]at h2 ⊢;have HN:=DP iV;have HM:=DP tX;have H1:=DP h1;have H2:=DP h2;have HE:=DP fun s t W=>ie s t W
 by_cases hnm:n=m
 ·subst hnm
  obtain⟨r,hr⟩:=ag ((l1==l2));rw[<-hr];have HR:=DP hr;clear h1 h2 iV tX hr;go_enter Wr,U_;go_wp2;go_loopw [13] (fun i wr=>∃ k:Nat,k<=n/\i=Ft .i64 k/\(∀ i x y,i<k->l1[i]? =AF x->l2[i]? =AF y->x=y)/\Ext w wr) (fun i _=>n-(intOf i).toNat);case atStart=>exact⟨0,by omega,rfl,fun i x y hi=>by omega,Ext.refl _⟩
  case round=>
   obtain⟨k,hk,rfl,ha,hx⟩:=hrel;obtain⟨wo,rfl⟩:=ag (wr:As);have HX:=DP hx;have HA:=DP ha;clear ha;by_cases hlt:k<n
   ·obtain⟨s,hs⟩:∃ s,l1[k]? =AF s:=⟨_,aB (by have:=HN.out;omega)⟩
    obtain⟨t,ht⟩:∃ t,l2[k]? =AF t:=⟨_,aB (by have:=HM.out;omega)⟩;obtain⟨b,off,rfl,hb,d0,d1,d2,d3⟩:=(H1.below hx.below).elem hs;obtain⟨b',off',rfl,hb',e0,e1,e2,e3⟩:=(H2.below hx.below).elem ht;have ed:(k:Int)<n:=by omega
    have HS:=DP hs;have HT:=DP ht;obtain⟨q,hq⟩:=ag ((s==t));have heq:∀ W,(Op.equalIn 10000 56 (W_ #[Ft .u64 (wd s 0).toNat,Ft .u64 (wd s 1).toNat,Ft .u64 (wd s 2).toNat,Ft .u64 (wd s 3).toNat]) (W_ #[Ft .u64 (wd t 0).toNat,Ft .u64 (wd t 1).toNat,Ft .u64 (wd t 2).toNat,Ft .u64 (wd t 3).toNat])).run A_ W=.ok q W:=fun W=>by
     have h1:=HE.out s t W;rw[<-hq]at h1;exact h1
    have HQ:=DP hq;clear hs ht hx hq;cases q with
    | true=>
     go_wp2
     go_quiet (fail)
     go_wp2
     exact⟨⟨k+1,by omega,by go_num,fun i x y hi hx hy=>by
      by_cases e:i=k
      ·subst e
       rw[HS.out]at hx;rw[HT.out]at hy;cases hx;cases hy;exact beq_iff_eq.1 HQ.symm
      ·exact HA i x y (by omega) hx hy,yS HX nq⟩,by simp[intOf];omega⟩
    | false=>
     have iz:=DP (HR.trans (Uh HS HT (beq_eq_false_iff_ne.1 HQ.symm)));go_wp2
     go_quiet (fail)
     go_wp2;go_ret;exact⟨by rw[iz.out];rfl,yS HX nq⟩
   ·obtain rfl:k=n:=by omega
    have iz:=DP (HR.trans (GY HN.symm HM.symm HA));clear hx;go_wp2;go_ret;exact⟨by rw[iz.out];rfl,HX⟩
 ·have e1:(l1==l2)=false:=DC (by omega)
  have d1:decide ((n:Int)=m)=false:=decide_eq_false (by omega);rw[e1];clear h1 h2 iV tX e1 d1;have d2:((n:Int)==(m:Int))=false:=by rw[beq_eq_false_iff_ne];omega
  have d3:((n:Int) != (m:Int))=true:=by simp;omega
  have d4:(n==m)=false:=by rw[beq_eq_false_iff_ne];exact hnm
  go_enter Wr,U_
  go_wp2;go_ret;exact⟨rfl,Ext.refl _⟩
end
end Go.Proofs.YtjgccapbphadjaaGreatDoor
