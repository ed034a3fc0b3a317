/- Plain law: alphabets as relations of bytes: finer, same, join. -/
import Derived.Test.YtbiboekhakbnpaaGreatDoorOF04
import Derived.Shelf.Bytes.SlEqualAll
import Derived.Lib.SmallJoins
set_option maxRecDepth 100000
set_option maxHeartbeats 16000000
open Go.Lib (hid)
namespace Go.Proofs.YtbiboekhakbnpaaGreatDoor
open Go Go.RowKit Go.Shelf Go.Maps
attribute [local go_sem] encS
def mo (w:World) (v:Value) (l:List BS):Prop:=cd w v l/\∀ a n cap,v=.slice a n cap->n<=cap
theorem cd.form {w:World} {v:Value} {l:List BS} (h:cd w v l):∃ a cap,v=.slice a l.length cap:=by
 rcases h with⟨h,rfl⟩ | ⟨b,off,cap,hv,_⟩
 ·exact⟨_,_,h⟩
 ·exact⟨_,_,hv⟩
theorem jg (v1 v2:Value) (l1 l2:List Int) (w:World) (h1:bg aF w v1 l1) (h2:bg aF w v2 l2) (hn:l1.length<=1000000): Calls Tryz.prog 16 #[v1,v2] w fun e w'=>e=.returned (.bool (l1==l2))/\Ext w w':=by
 obtain⟨a1,c1,rfl⟩:=h1.form;obtain⟨a2,c2,rfl⟩:=h2.form;obtain⟨n,gM⟩:∃ n,n=l1.length:=⟨_,rfl⟩;obtain⟨m,s5⟩:∃ m,m=l2.length:=⟨_,rfl⟩;rw[<-gM]at hn h1 ⊢;rw[<-s5]at h2 ⊢;obtain⟨r,hr⟩:∃ r,r=(l1==l2):=⟨_,rfl⟩;rw[<-hr];have H1:=hid h1;have H2:=hid h2;have HN:=hid gM;have HM:=hid s5;have HR:=hid hr;clear h1 h2 gM s5 hr;by_cases Wk:n=m
 ·subst Wk
  go_enter Tryz.func16,Tryz.ntmps16
  go_wp2;go_loopw [13] (fun i wr=>∃ k:Nat,k<=n/\i=.int .i64 k/\l1.take k=l2.take k/\Ext w wr) (fun i _=>n-(intOf i).toNat);case atStart=>exact⟨0,by omega,rfl,rfl,Ext.refl _⟩
  case round=>
   obtain⟨k,hk,rfl,ht,hx⟩:=hrel;obtain⟨wo,rfl⟩:∃ wo:World,wo=wr:=⟨_,rfl⟩;by_cases hlt:k<n
   ·obtain⟨x,sr⟩:∃ x,l1[k]? =some x:=⟨_,List.getElem?_eq_getElem (by have:=HN.out;omega)⟩
    obtain⟨y,PM⟩:∃ y,l2[k]? =some y:=⟨_,List.getElem?_eq_getElem (by have:=HM.out;omega)⟩;obtain⟨g1,o1,rfl,hg1,hc1⟩:=H1.out.elem sr;obtain⟨g2,o2,rfl,hg2,hc2⟩:=H2.out.elem PM;have d1:wo.cell? ⟨g1,o1+k,none⟩=some (.int .i64 x):=(hx.cell (p:=⟨g1,o1+k,none⟩) hg1).trans hc1;have d2:wo.cell? ⟨g2,o2+k,none⟩=some (.int .i64 y):=(hx.cell (p:=⟨g2,o2+k,none⟩) hg2).trans hc2;have TK:=hid sr;have XG:=hid PM;have HT:=hid ht;have HX:=hid hx;clear sr PM ht hx hc1 hc2;go_wp2;refine fj (fun b=>b=g1\/b=g2) (by kernel_rfl) (fun i=>false) (by kernel_rfl) ?_;intro C hC hne W0 Hz hblk hsz hx0;have f1:=cL hC (.inl rfl) d1;have f2:=cL hC (.inr rfl) d2;have JT:=hid hx0;clear hC Hz hblk hsz hx0 d1 d2
    repeat (refine bj (fun K hK=>?_);refine cC rfl ?_;unfold ar;go_simp;refine hK _ _ ?_;clear hK K)
    refine mh ?_;by_cases TL:x=y
    ·subst TL
     go_wp2;go_roundw;case rel=>
      refine⟨k+1,by omega,by go_num,?_,HX.out.trans JT.out⟩;rw[List.take_add_one,List.take_add_one,TK.out,XG.out,HT.out]
     case measure=>simp[intOf];omega
    ·have hr:r=false:=by
      rw[HR.out,beq_eq_false_iff_ne];intro e;have h1:=TK.out;rw[e,XG.out]at h1;exact TL (Option.some.inj h1).symm
     have fK:=hid hr;clear hr;go_wp2;go_ret;exact⟨by rw[fK.out];rfl,HX.out.trans JT.out⟩
   ·obtain rfl:k=n:=by omega
    have hr:r=true:=by rw[HR.out,beq_iff_eq, <-List.take_of_length_le (l:=l1) (i:=k) (by have:=HN.out;omega),ht,List.take_of_length_le (by have:=HM.out;omega)]
    have fK:=hid hr;have HX:=hid hx;clear ht hr hx;go_wp2;go_ret;exact⟨by rw[fK.out];rfl,HX.out⟩
 ·have hr:r=false:=by
   rw[HR.out,beq_eq_false_iff_ne];intro e;have h1:=HN.out;have h2:=HM.out;rw[e]at h1;omega
  have fK:=hid hr;clear hr;go_enter Tryz.func16,Tryz.ntmps16;go_wp2;go_ret;exact⟨by rw[fK.out];rfl,Ext.refl _⟩
end Go.Proofs.YtbiboekhakbnpaaGreatDoor
namespace Go.Proofs.YtbiboekhakbnpaaGreatDoor
open Go Go.RowKit Go.Shelf Go.Maps
theorem Ig (k:Int) (w:World):Calls Tryz.prog 106 #[.int .i64 k] w fun e w'=>e=.returned (.bool false)/\w'=w:=by
 go_enter Tryz.func106,Tryz.ntmps106
 go_wp2;go_ret;exact⟨by simp,rfl⟩
theorem AK (j k:Int) (w:World):Calls Tryz.prog 60 #[.int .i64 j,.int .i64 k] w fun e w'=>e=.returned (.bool (decide (j<k)))/\w'=w:=by
 have HN:=hid fun k=>Ig k w
 go_enter Tryz.func60,Tryz.ntmps60
 go_wp2_with (go_at_call 106;refine(HN.out _).mono ?_;rintro e w1 ⟨rfl,hw⟩;replace hw:=hw.symm;subst hw)
 go_ret;exact⟨rfl,rfl⟩
theorem qg {A B:World} (h:Ext A B) (n:Nat):Ext A (B.drewN n):=⟨h.os,h.tape,h.output,Nat.le_add_right_of_le h.drawn,h.size,h.keep⟩
theorem yn (v:Value) (l:List Int) (w:World) (h:bg aF w v l) (hn:l.length<=1000000) (hs:l.Pairwise (· < ·)): Calls Tryz.prog 29 #[v] w fun e w'=>e=.returned (.bool true)/\Ext w w':=by
 obtain⟨a,cap,rfl⟩:=h.form;obtain⟨n,gM⟩:∃ n,n=l.length:=⟨_,rfl⟩;rw[<-gM]at h hn ⊢;have H:=hid h;have HN:=hid gM;have HS:=hid hs;clear h gM hs;go_enter Tryz.func29,Tryz.ntmps29;go_wp2;go_loopw [3] (fun i wr=>∃ k:Int, -1<=k/\k<n/\i=.int .i64 k/\Ext w wr) (fun i _=>(intOf i+1).toNat);case atStart=>exact⟨(n:Int)-1,by omega,by omega,by go_num,Ext.refl _⟩
 case round=>
  obtain⟨k,Ab,hk,rfl,hx⟩:=hrel;obtain⟨wo,rfl⟩:∃ wo:World,wo=wr:=⟨_,rfl⟩;have HX:=hid hx;clear hx;by_cases hlt:0<k
  ·obtain⟨q,rfl⟩:∃ q:Nat,k=q:=⟨k.toNat,by omega⟩
   obtain⟨m,hm⟩:∃ m:Nat,q=m+1:=⟨q-1,by omega⟩;obtain⟨x,sr⟩:∃ x,l[m]? =some x:=⟨_,List.getElem?_eq_getElem (by have:=HN.out;omega)⟩;obtain⟨y,PM⟩:∃ y,l[q]? =some y:=⟨_,List.getElem?_eq_getElem (by have:=HN.out;omega)⟩;obtain⟨g,o,rfl,hg,hc1⟩:=H.out.elem sr;obtain⟨g',o',e',_,hc2⟩:=H.out.elem PM;cases e';have TL:x<y:=by obtain⟨q1,rfl⟩:=List.getElem?_eq_some_iff.1 sr;obtain⟨q2,rfl⟩:=List.getElem?_eq_some_iff.1 PM;exact List.pairwise_iff_getElem.1 HS.out m q q1 q2 (by omega)
   obtain⟨z,hz⟩:∃ z:Int,(q:Int)-1=z:=⟨_,rfl⟩;have hz0:0<=z:=by omega
   have hzn:z<n:=by omega
   have Wl:z.toNat=m:=by omega
   have d1:wo.cell? ⟨g,o+z.toNat,none⟩=some (.int .i64 x):=by rw[Wl];exact(HX.out.cell (p:=⟨g,o+m,none⟩) hg).trans hc1
   clear Wl;have d2:wo.cell? ⟨g,o+q,none⟩=some (.int .i64 y):=(HX.out.cell (p:=⟨g,o+q,none⟩) hg).trans hc2;have HM:=hid hm;have HZ:=hid hz;have Ac:decide (y<x)=false:=decide_eq_false (by omega);clear sr PM hc1 hc2 hm;go_wp2
   go_quiet ((go_at_call 60;exact Calls.quiet_of_same (AK _ _ _)))
   go_wp2;exact⟨⟨z,by omega,hzn,rfl,qg HX.out _⟩,by have:=HZ.out;simp[intOf];omega⟩
  ·go_wp2
   go_ret;exact⟨rfl,HX.out⟩
end Go.Proofs.YtbiboekhakbnpaaGreatDoor
namespace Go.Proofs.YtbiboekhakbnpaaGreatDoor
open Go Go.RowKit Go.WideShapes Go.ChangeShapes Go.ChangeAt Go.Deep
section
variable {H:Type} {enc:TypeId×Value→H} {P:Program}
theorem ng (hl:laidOutB P=true) {W W':World} {sp:Nat->Bool} :∀ (ts:List TypeId) (vs:List Value) (ds:List (DataW H)) (ps:List MemPlace),(∀ t∈ts,P.readableRec t=true/\t<P.types.size)-> DataW.TrodAll enc P W 0 (fun _=>true) true ts vs ds ps->(∀ p∈ps,W.sameAt W' p)->(∀ p∈ps,sp p.block=true)->DataW.TrodAll enc P W' 0 sp true ts vs ds ps
 | [],vs,ds,ps,_,h,_,_=>by
  obtain⟨rfl,rfl,rfl⟩:=trodAll_nil h;rfl
 | t::ts,vs,ds,ps,ht,h,hs,hsp=>by
  obtain⟨v,vs',d,ds',p,q,rfl,rfl,rfl,h1,h2⟩:=trodAll_cons h
  exact⟨p,q,WideElems.Trod_stays hl (ht t (by simp)).1 (ht t (by simp)).2 h1 (fun x hx=>hs x (by simp[hx])) (fun x hx=>hsp x (by simp[hx])),
   ng hl ts vs' ds' q (fun t h=>ht t (by simp[h])) h2 (fun x hx=>hs x (by simp[hx])) (fun x hx=>hsp x (by simp[hx])),rfl⟩
theorem s6 (hl:laidOutB P=true) {f:Func} {s:ChangeSpec} {apart fresh handsOn:Bool} {W W':World} {args:Array Value} {ds gs:List (DataW H)} {before:List MemPlace} {tb:TypeId} (R7:s.vars=[]) (OI:∀ t∈f.params.toList,P.readableRec t=true/\t<P.types.size) (hres:f.resultTypes= #[tb]) (htb:P.underlying tb=some .bool) (hfn:s.fn H ds= {results:=[.lit (.bool true)],args:=ds}) (hW:DataW.Whole enc P f.params.toList s.vars apart W args.toList ds gs before) (hb:Below W.heap.size W W'): s.post enc P f apart fresh handsOn false W args (.bool true) W':=by
 have Et:=hW;obtain⟨p,q,hA,hV,rfl,hz,hn⟩:=hW;have hV':=hV;rw[R7]at hV';obtain⟨rfl,rfl⟩:=trodVars_none hV';have hlt:∀ x∈p++ [],x.block<W.heap.size:=fun x hx=>Et.lt x hx
 simp only[List.append_nil]at hlt Et;refine⟨ds,[],p,[],p,[],Et,?_,?_,?_,?_,fun h=>(by cases h)⟩
 ·rw[List.append_nil,hfn,hres]
  exact trodAll_mk1 (shut_bool htb true)
 ·rw[List.append_nil,hfn]
  exact ng hl _ _ _ _ OI hA (fun x hx=>hb.same (hlt x hx)) (fun x hx=>by simpa using hlt x hx)
 ·rw[List.append_nil,hfn,R7]
  rfl
 ·exact World.keptBut_mono (fun x hx=>⟨hx,Or.inr (.inl hx)⟩) (hb.frame (· ∈p))
end
section
variable {H:Type} {enc:TypeId×Value→H} {W:World} {base:Nat} {sp:Nat→Bool}
theorem s7 {P:Program} {r:Reach} {t e:TypeId} {a:Addr} {len cap:Nat} (ht:P.underlying t=some (.slice e)) (h:Value.okWide P W r base t (.slice (some a) len cap)):a.spot=none/\a.block<W.heap.size:=by
 simp only[Value.okWide,ht,Cell.okWide,Cell.ok]at h;obtain⟨_,_,_,hs,row,cells,hsh,_⟩:=h;refine⟨hs,?_⟩;unfold World.shape? at hsh;cases hh:W.heap[a.block]? with
 | none=>simp[hh]at hsh
 | some o=>exact(Array.getElem?_eq_some_iff.1 hh).1
theorem Ih {k:IntKind} {t e:TypeId} {r:Reach} {v:Value} {d:DataW H} {p:List MemPlace} {b0:Nat} (ht:Tryz.prog.underlying t=some (.slice e)) (he:Tryz.prog.underlying e=some (.int k)) (hc:Tryz.prog.cellsOf e=1) (nD:Value.okWide Tryz.prog W r b0 t v) (h:DataW.Trod enc Tryz.prog W 0 (fun _=>true) true t v d p): ∃ (l:List Int),l.length<=maxLen/\(∀ n∈l,(Lit.int k n).wf=true)/\((v=.slice none 0 0/\l=[])\/∃ b off cap,v=.slice (some ⟨b,off,none⟩) l.length cap/\l.length<=cap/\b<W.heap.size/\∀ i x,l[i]? =some x->W.cell? ⟨b,off+i,none⟩=some (.int k x)):=by
 obtain⟨a,len,cap,rfl⟩:=okWide_slice ht nD;obtain⟨fuel,hf⟩:=h;rcases open_ints ht he hc hf with⟨hcs,_⟩ | ⟨a',len',cap',zs,hcs,_,hl,hm,hzs,_,hi,We⟩
 ·have:Value.slice a len cap=.slice none 0 0:=by simpa[Value.cells]using hcs
  cases this
  exact⟨[],by simp,by simp,.inl ⟨rfl,rfl⟩⟩
 ·have:Value.slice a len cap=.slice (some a') len' cap':=by simpa[Value.cells]using hcs
  cases this
  obtain⟨hs,hb⟩:=s7 ht nD;obtain⟨b,off,spot⟩:=a';have hs':spot=none:=hs;subst hs';rw[if_pos rfl]at hzs;have Kn:∀ (o i:Nat),(⟨b,o,none⟩:Addr).add i=⟨b,o+i,none⟩:=fun o i=>by
   unfold Addr.add;split
   ·rename_i h;subst h;rfl
   ·rfl
  have hlen:(zs.take len).length=len:=by rw[List.length_take];omega
  refine⟨zs.take len,by rw[hlen];omega,fun n hn=>We n (List.mem_of_mem_take hn),.inr ⟨b,off,cap,by rw[hlen],by rw[hlen];exact hl,hb,fun i x hx=>?_⟩⟩;rw[List.getElem?_take]at hx;split at hx
  ·have hiz:i<zs.length:=(List.getElem?_eq_some_iff.1 hx).1
   have:=hi i hiz;rw[Kn,List.getD_eq_getElem?_getD,hx]at this;exact this
  ·cases hx
end
end Go.Proofs.YtbiboekhakbnpaaGreatDoor
namespace Go.Proofs.YtbiboekhakbnpaaGreatDoor
open Go Go.ChangeShapes Go.WideShapes Go.ChangeAt Go.RowKit
section
variable {H:Type} {enc:TypeId×Value→H} {W:World}
theorem oW {n:Int} (h:(Lit.int .u8 n).wf=true):0<=n/\n<256:=by
 simp only[Lit.wf,Bool.and_eq_true,decide_eq_true_eq]at h;have h1:IntKind.u8.min=0:=by decide
 have h2:IntKind.u8.max=255:=by decide
 omega
theorem qX {r:Reach} {v:Value} {d:DataW H} {p:List MemPlace} {b0:Nat} (nD:Value.okWide Tryz.prog W r b0 23 v) (h:DataW.Trod enc Tryz.prog W 0 (fun _=>true) true 23 v d p): ∃ l:List Nat,l.length<=maxLen/\(∀ c∈l,c<256)/\bg en W v l:=by
 obtain⟨l,hlen,We,hl⟩:=Ih (e:=5) Tryz.underlying23 Tryz.underlying5 (by kernel_rfl) nD h;refine⟨l.map Int.toNat,by simpa using hlen,fun c hc=>?_,?_⟩
 ·obtain⟨n,hn,rfl⟩:=List.mem_map.1 hc
  have:=oW (We n hn);omega
 ·rcases hl with⟨rfl,rfl⟩ | ⟨b,off,cap,rfl,hc,hb,hcell⟩
  ·exact .inl ⟨rfl,rfl⟩
  ·refine .inr ⟨b,off,cap,by rw[List.length_map],hb,by rw[List.length_map];exact hc,fun i x hi=>?_⟩
   rw[List.getElem?_map]at hi;obtain⟨n,hn,rfl⟩:=Option.map_eq_some_iff.1 hi;rw[hcell i n hn];have:=oW (We n (List.mem_of_getElem? hn));show some (Value.int .u8 n)=some (Value.int .u8 ((n.toNat:Nat):Int));rw[Int.toNat_of_nonneg this.1]
theorem Gt {r:Reach} {v:Value} {d:DataW H} {p:List MemPlace} {b0:Nat} (nD:Value.okWide Tryz.prog W r b0 5 v) (h:DataW.Trod enc Tryz.prog W 0 (fun _=>true) true 5 v d p):∃ n:Nat,v=.int .u8 n/\n<256:=by obtain⟨n,rfl,_,_,hw⟩:=open_int Tryz.underlying5 nD h;have:=oW hw;exact⟨n.toNat,by rw[Int.toNat_of_nonneg this.1],by omega⟩
end
theorem Tryz.own:ownKnob Tryz.prog.godebug=none:=by kernel_rfl
theorem Tryz.laidOut:laidOutB Tryz.prog=true:=by kernel_rfl
end Go.Proofs.YtbiboekhakbnpaaGreatDoor
namespace Go.Proofs.YtbiboekhakbnpaaGreatDoor
open Go Go.RowKit
def wJ (w:World) (x:Value) (m:Nat) (news:List Value):Prop:=(x=.slice none 0 0/\m=0/\news=[])\/∃ ad c,x=.slice (some ad) m c/\∀ j u,news[j]? =some u->w.cell? (ad.add j)=some u
section
variable {P:Program} {ops:Array Oper} {F:Fence} {n:Nat} {C:World→Prop}
theorem lx (w:World) (base:Nat) (t ty e:TypeId) (i:TypeInfo) (z:Value) (size bytes:Nat) (ht:P.underlying t=some (.slice e)) (hi:P.info? e=some i) (hz:i.zero=some z) (hsize:i.size=size) (hby:i.bytes=bytes) (hzs:z.cells.size=size) (hsz:0<size) (v:Value) (k:Nat) (xs:List Value) (hown:w.ownsRow base e size v k xs) (x:Value) (m:Nat) (news:List Value) (hx:wJ w x m news) (hl:news.length=m*size) (h1:∀ u∈news,u.oneCell'=true) (h63:k+m<=maxLen) (hbytes:(k+m)*bytes<=140737488355328) (hbase:base<=w.heap.size): ∃ v' w',(Builtin.append_ #[t,t] ty #[v,x]).run P w=.ok v' w'/\w'.ownsRow base e size v' (k+m) (xs++news)/\w.grownBy w' v.ownBlock:=by
 rcases hx with⟨rfl,rfl,rfl⟩ | ⟨ad,c,rfl,hnews⟩
 ·refine⟨v,w,?_,?_,World.grownBy.refl _ _⟩
  ·exact run_append_owned_none (P:=P) (w:=w) base t ty e i size ht hi v k xs hown
  ·rw[List.append_nil];exact hown
 ·obtain⟨v',w',hr,h2,h3,_⟩:=run_append_own_at (P:=P) w base t ty e i z size bytes ht hi hz hsize hby hzs hsz v k xs hown ad m c news hl hnews h1 h63 hbytes hbase
  exact⟨v',w',hr,h2,h3⟩
theorem iE {Q:Exit->Act->World->Prop} {a:Act} {w:World} {rest:List Oper} {o:Oper} (hw:Region.wanted o (yielded ops a.tmps)=true) (h:∀ K:Act->World->Prop,(∀ a w,wpList P ops Q rest a w->K a w)->o.wp P a w K Q):wpList P ops Q (o::rest) a w:=by unfold wpList;rw[if_pos hw];exact .inl (h _ fun _ _ h=>h)
theorem lz {rest:List Oper} {o:Oper} {a:Act} {w:World} {Q:Exit->Act->World->Prop} (hw:Region.wanted o (yielded ops a.tmps)=true) (s x:Operand) (t:TypeId) (ho:o.op=.call {callee:=.builtin .append,args:= #[s,x],argTypes:= #[t,t]}) (base:Nat) (e:TypeId) (i:TypeInfo) (z:Value) (size bytes:Nat) (ht:P.underlying t=some (.slice e)) (hi:P.info? e=some i) (hz:i.zero=some z) (hsize:i.size=size) (hby:i.bytes=bytes) (hzs:z.cells.size=size) (hsz:0<size) (v:Value) (k:Nat) (xs:List Value) (hs:a.eval s=v) (hown:w.ownsRow base e size v k xs) (xv:Value) (m:Nat) (news:List Value) (hx:a.eval x=xv) (yo:wJ w xv m news) (hl:news.length=m*size) (h1:∀ u∈news,u.oneCell'=true) (h63:k+m<=maxLen) (hbytes:(k+m)*bytes<=140737488355328) (hbase:base<=w.heap.size) (h:∀ v' w',w'.ownsRow base e size v' (k+m) (xs++news)->w.grownBy w' v.ownBlock->wpList P ops Q rest (a.put o.dst v') w'): wpList P ops Q (o::rest) a w:=by
 refine iE hw fun K hK=>?_
 obtain⟨v',w',hr,h2,h3⟩:=lx (P:=P) w base t o.type e i z size bytes ht hi hz hsize hby hzs hsz v k xs hown xv m news yo hl h1 h63 hbytes hbase;unfold Oper.wp execOp;simp only[ho,resolve,invoke,builtin,Sem.run_bind,Sem.run_pure,Result.andThen_ok,List.map_toArray,List.map_cons,List.map_nil,hs,hx,hr];exact hK _ _ (h v' w' h2 h3)
end
theorem bL {base:Nat} {e:TypeId} {size g n cap:Nat} (o0:Nat):∀ (vs:List Value) (o:Nat) (w:World) (xs:List Value),o0<=o->w.ownsRow base e size (.slice (some ⟨g,0,none⟩) n cap) n xs-> ∃ ys,(w.setCells g o vs).ownsRow base e size (.slice (some ⟨g,0,none⟩) n cap) n ys/\aa (· ≠g) w (w.setCells g o vs)
 | [],_,w,xs,_,h=>⟨xs,h,aa.refl _ _⟩
 | v::r,o,w,xs,ho,h=>by
  obtain⟨ys,h1,h2⟩:=bL o0 r (o+1) _ _ (by omega) (h.stored o v).1;exact⟨ys,h1,((aa.refl (· ≠g) w).setCell (p:=⟨g,o,none⟩) (fun h=>h rfl) v).tr h2⟩
end Go.Proofs.YtbiboekhakbnpaaGreatDoor
namespace Go.Proofs.YtbiboekhakbnpaaGreatDoor
open Go Go.RowKit Go.Shelf Go.Maps
theorem Eu (a b c:BS) (h:(!ltOf aI b a)=true) (k:(!ltOf aI c b)=true):(!ltOf aI c a)=true:=by
 simp only[Bool.not_eq_true']at*;cases TM:ltOf aI c a with
 | false=>rfl
 | true=>
  exfalso;rw[<-Bool.not_eq_true,dS]at h k;rw[dS]at TM;rcases mj a b with e | e | e
  ·subst e;exact k TM
  ·exact k (fV TM e)
  ·exact h e
theorem Ev (a b:BS):((!ltOf aI b a) || (!ltOf aI a b))=true:=by
 cases TJ:ltOf aI b a with
 | false=>rfl
 | true=>
  cases hab:ltOf aI a b with
  | false=>rfl
  | true=>
   rw[dS]at TJ hab;exact absurd (fV TJ hab) (iA b)
theorem s8 (l:List BS):(partsOf l).Pairwise fun x y=>(!ltOf aI y x)=true:=List.pairwise_mergeSort Eu Ev _
theorem fy (l:List BS):(partsOf l).Perm (aM l):=List.mergeSort_perm _ _
attribute [local go_sem] encS
theorem fA {α:Type} {enc:α->Value} {w:World} {B:Nat} {c:Array Value} {t:TypeId} {fr:Nat×Nat} {n cap:Nat} (l:List α) (h:w.heap[B]? =some (.cells c t fr)) (hc:c.toList=l.map enc) (hn:n=l.length) (ja:l.length<=cap):bg enc w (.slice (some ⟨B,0,none⟩) n cap) l:=by refine .inr ⟨B,0,cap,by rw[hn],(Array.getElem?_eq_some_iff.1 h).1,ja,fun i x hi=>?_⟩;rw[cell_of_row w B (0+i) c t fr h,Nat.zero_add, <-Array.getElem?_toList,hc,List.getElem?_map,hi];rfl
theorem Ew {w:World} {B:Nat} {c:Array Value} {t:TypeId} {n cap:Nat} (l:List BS) (h:ak w B c t) (hc:c.toList=aD l) (hn:n=l.length):cd w (.slice (some ⟨B,0,none⟩) n cap) l:=by refine .inr ⟨B,0,cap,by rw[hn],h.lt,fun i s hi j hj=>?_⟩;rw[h.cell,Nat.zero_add, <-Array.getElem?_toList,hc];have:=fW l hi hj;simpa using this
theorem ag {w w':World} {base n size:Nat} {v:Value} {e:TypeId} {l:List Value} (h:w.ownsRow base e size v n l) (hk:Below w.heap.size w w'):w'.ownsRow base e size v n l:=
 ae h (aa.ah hk fun _ h=>h) (fun k e=>(h.lt k e).2)
end Go.Proofs.YtbiboekhakbnpaaGreatDoor
namespace Go.Proofs.YtbiboekhakbnpaaGreatDoor
open Go Go.RowKit Go.Shelf Go.Maps
theorem ak.range {w:World} {b:Nat} {c:Array Value} {t:TypeId} (h:ak w b c t):w.rangeAt b 0 c.toList:=fun j v hj=>by
 rw[Nat.zero_add,h.cell j, <-Array.getElem?_toList];exact hj
theorem Below.PN {A B:World} {n:Nat} (h:Below n A B) {g:Nat} (hg:n<=g) (c:Array Value):Below n A (B.setRow g c):=
 ⟨h.os,h.tape,h.output,Nat.le_trans h.size (by simp),fun k hk=>(setRow_other B g k c (by omega)).trans (h.block k hk)⟩
theorem ak.setRow {w:World} {b:Nat} {c c':Array Value} {t:TypeId} (h:ak w b c t):ak (w.setRow b c') b c' t:=setRow_heap w b c c' t _ h
theorem lA {P:Program} {ops:Array Oper} {Q:Exit->Act->World->Prop} {a:Act} {w:World} {rest:List Oper} {o:Oper} (hw:Region.wanted o (yielded ops a.tmps)=true) (h:∀ K:Act->World->Prop,(∀ a w,wpList P ops Q rest a w->K a w)->o.wp P a w K Q):wpList P ops Q (o::rest) a w:=by unfold wpList;rw[if_pos hw];exact .inl (h _ fun _ _ h=>h)
theorem aK {P:Program} {ops:Array Oper} {rest:List Oper} {op:Oper} {a:Act} {w:World} {Q:Exit->Act->World->Prop} (hw:Region.wanted op (yielded ops a.tmps)=true) (ty:TypeId) (x:Operand) (ho:op.op=.load ty x) (b:Nat) (hx:a.eval x=.pointer (some ⟨b,0,none⟩)) (cs:Array Value) (d:TypeDesc) (hc:w.rangeAt b 0 cs.toList) (hu:P.underlying ty=some d) (hd:d.isRow=true) (hi:(P.info? ty).map (·.size)=some cs.size) (h:wpList P ops Q rest (a.put op.dst (.agg cs)) w):wpList P ops Q (op::rest) a w:=
 lA hw fun _ hK=>wp_load_mid ty x ho b 0 hx cs.toList d hc hu hd (by rw[Array.length_toList];exact hi) (hK _ _ h)
end Go.Proofs.YtbiboekhakbnpaaGreatDoor
namespace Go.Proofs.YtbiboekhakbnpaaGreatDoor
open Go Go.RowKit
theorem Ll (o:Nat) (l:List Value):∀ (k:Nat) (X:Array Value) (i:Nat),o+k+l.length<=X.size-> ((l.zipIdx k).foldl (fun a (x:Value×Nat)=>a.setIfInBounds (o+x.2) x.1) X)[i]? =if o+k<=i/\i<o+k+l.length then l[i-(o+k)]? else X[i]? :=by
 induction l with
 | nil=>intro k X i _;simp only[List.zipIdx_nil,List.foldl_nil,List.length_nil];rw[if_neg (by omega)]
 | cons c l ih=>
  intro k X i hs;rw[List.length_cons]at hs;rw[List.zipIdx_cons,List.foldl_cons,ih (k+1) _ i (by simp;omega),List.length_cons];by_cases h1:o+(k+1)<=i/\i<o+(k+1)+l.length
  ·rw[if_pos h1,if_pos (by omega),show i-(o+k)=(i-(o+(k+1)))+1 by omega,List.getElem?_cons_succ]
  ·rw[if_neg h1,Array.getElem?_setIfInBounds]
   by_cases h2:o+k=i
   ·rw[if_pos h2,if_pos (by omega),if_pos (by omega),show i-(o+k)=0 by omega];rfl
   ·rw[if_neg h2,if_neg (by omega)]
theorem nH {P:Program} {t e:TypeId} {i:TypeInfo} {z:Value} {m:Nat} (ht:P.underlying t=some (.slice e)) (hi:P.info? e=some i) (hz:i.zero=some z) (hsz:i.size=m) (hm:0<m) (s9:m<=16777216) (cs:Array Value) (hc:cs.size=m) (w:World): (Instr.buildSlice t 1 #[(0,.agg cs)]).run P w=.ok (.slice (some ⟨w.heap.size,0,none⟩) 1 1) (w.alloc (.cells cs e)):=by
 have XH:∀ X:Array Value,X.size=m->Instr.fill (fun i=>some (i*m,m)) X [(0,.agg cs)]=some cs:=fun X hX=>by
  have h1:(Value.agg cs).cells=cs:=rfl;unfold Instr.fill;simp only[h1,hc,Nat.zero_mul,Nat.zero_add,hX,ne_eq,not_true,decide_false,Bool.false_or];rw[if_neg (by simp)];unfold Instr.fill;congr 1;rw[<-Array.foldl_toList,Array.toList_zipIdx];apply Array.ext_getElem?;intro j;have:=Ll 0 cs.toList 0 X j (by rw[Array.length_toList];omega);simp only[Nat.zero_add]at this;rw[this,Array.length_toList,Nat.sub_zero];by_cases hj:j<cs.size
  ·rw[if_pos ⟨Nat.zero_le _,hj⟩,Array.getElem?_toList]
  ·rw[if_neg (fun h=>hj h.2),Array.getElem?_eq_none (by omega),Array.getElem?_eq_none (by omega)]
 have hs:∀ w,(sizeOf e).run P w=.ok m w:=fun w=>by simp[sizeOf,typeInfo,hi,hsz]
 have hz':∀ w,(zeroValue e).run P w=.ok z w:=fun w=>by simp[zeroValue,typeInfo,hi,hz]
 unfold Instr.buildSlice;simp only[Sem.run_bind,run_underlying ht,Result.andThen_ok,hs,Nat.one_mul];rw[if_neg (by omega),if_neg (by omega)];simp only[Sem.run_bind,hz',Result.andThen_ok,Sem.run_pure];rw[XH _ (by simp)];rfl
section
variable {F:Fence} {n:Nat} {P:Program} {C:World→Prop}
end
end Go.Proofs.YtbiboekhakbnpaaGreatDoor
namespace Go.Proofs.YtbiboekhakbnpaaGreatDoor
open Go Go.RowKit Go.Shelf Go.Maps
attribute [local go_sem] encS
end Go.Proofs.YtbiboekhakbnpaaGreatDoor
namespace Go.Proofs.YtbiboekhakbnpaaGreatDoor
open Go Go.RowKit Go.Shelf Go.Maps
attribute [local go_sem] encS
end Go.Proofs.YtbiboekhakbnpaaGreatDoor
namespace Go.Proofs.YtbiboekhakbnpaaGreatDoor
open Go Go.RowKit Go.Shelf Go.Maps
def Alike (l:List BS) (c d:Nat):Prop:=∀ s∈l,s.getLsbD c=s.getLsbD d
theorem Gu {s p x:BS} :x∈cut s p↔(x=p&&& s\/x=p&&& ~~~s)/\x≠0:=by unfold cut;simp only[List.mem_filter,List.mem_cons,List.not_mem_nil,or_false,Bool.not_eq_true',beq_eq_false_iff_ne]
theorem js {s x:BS} {l:List BS} :x∈aJ s l↔ ∃ p∈l,(x=p&&& s\/x=p&&& ~~~s)/\x≠0:=by unfold aJ;simp only[List.mem_flatMap,Gu]
theorem dz (c:Nat):(0:BS).getLsbD c=false:=BitVec.getLsbD_zero
theorem j6 (s:BS) {c:Nat} (hc:c<256):(~~~s).getLsbD c= !s.getLsbD c:=by rw[BitVec.getLsbD_not];simp[hc]
theorem Gv {c:Nat} (hc:c<256):(~~~(0:BS)).getLsbD c=true:=by rw[j6 _ hc,dz];rfl
theorem td (l:List BS) (c:Nat) (hc:c<256):∃ q∈aM l,q.getLsbD c=true:=by
 suffices ∀ r:List BS,∃ q∈aM r.reverse,q.getLsbD c=true by have:=this l.reverse;rwa[List.reverse_reverse]at this
 intro r;induction r with
 | nil=>exact⟨~~~0,by simp[aM],Gv hc⟩
 | cons s r ih=>
  obtain⟨q,hq,Ex⟩:=ih;rw[List.reverse_cons,gz];cases hs:s.getLsbD c with
  | true=>
   have h:(q&&& s).getLsbD c=true:=by rw[BitVec.getLsbD_and,Ex,hs];rfl
   exact⟨q&&& s,js.2 ⟨q,hq,.inl rfl,fun e=>by rw[e,dz]at h;cases h⟩,h⟩
  | false=>
   have h:(q&&& ~~~s).getLsbD c=true:=by rw[BitVec.getLsbD_and,Ex,j6 _ hc,hs];rfl
   exact⟨q&&& ~~~s,js.2 ⟨q,hq,.inr rfl,fun e=>by rw[e,dz]at h;cases h⟩,h⟩
theorem th (l:List BS) {q:BS} (hq:q∈aM l) {c d:Nat} (hc:c<256) (hd:d<256) (h:q.getLsbD c=true):q.getLsbD d=true↔Alike l c d:=by
 suffices ∀ (r:List BS) (q:BS),q∈aM r.reverse->q.getLsbD c=true->(q.getLsbD d=true↔Alike r.reverse c d) by
  have:=this l.reverse q (by rwa[List.reverse_reverse]) h;rwa[List.reverse_reverse]at this
 intro r;induction r with
 | nil=>
  intro q hq _;have:q= ~~~0:=by simpa[aM]using hq
  rw[this,Gv hd];simp[Alike]
 | cons s r ih=>
  intro q hq Ex;rw[List.reverse_cons,gz]at hq;obtain⟨p,hp,hpq,_⟩:=js.1 hq;have jY:Alike (r.reverse++ [s]) c d↔Alike r.reverse c d/\s.getLsbD c=s.getLsbD d:=by
   unfold Alike;constructor
   ·intro h;exact⟨fun x hx=>h x (by simp only[List.mem_append];exact .inl hx),h s (by simp)⟩
   ·intro⟨h1,h2⟩ x hx
    simp only[List.mem_append,List.mem_singleton]at hx;rcases hx with hx | rfl
    ·exact h1 x hx
    ·exact h2
  rw[List.reverse_cons,jY];rcases hpq with rfl | rfl
  ·rw[BitVec.getLsbD_and,Bool.and_eq_true]at Ex ⊢
   rw[ih p hp Ex.1,Ex.2];exact and_congr_right fun _=>eq_comm
  ·rw[BitVec.getLsbD_and,Bool.and_eq_true]at Ex ⊢
   have h2:=Ex.2;rw[j6 _ hc]at h2;rw[ih p hp Ex.1,j6 _ hd];have h3:s.getLsbD c=false:=by simpa using h2
   rw[h3];refine and_congr_right fun _=>?_
   cases s.getLsbD d<;>simp
def oX (p q:BS):Prop:=∀ c,¬ (p.getLsbD c=true/\q.getLsbD c=true)
theorem oX.symm {p q:BS} (h:oX p q):oX q p:=fun c ⟨h1,h2⟩=>h c ⟨h2,h1⟩
theorem sw (p q:BS) (c:Nat):(p&&& q).getLsbD c=true↔p.getLsbD c=true/\q.getLsbD c=true:=by rw[BitVec.getLsbD_and,Bool.and_eq_true]
theorem AO (s:BS) (c:Nat) (h:(~~~s).getLsbD c=true):s.getLsbD c=false:=by rw[BitVec.getLsbD_not]at h;simp at h;exact h.2
theorem tj (l:List BS):(aM l).Pairwise oX:=by
 suffices ∀ r:List BS,(aM r.reverse).Pairwise oX by have:=this l.reverse;rwa[List.reverse_reverse]at this
 intro r;induction r with
 | nil=>simp[aM]
 | cons s r ih=>
  rw[List.reverse_cons,gz];unfold aJ;rw[List.pairwise_flatMap];refine⟨fun p _=>?_,ih.imp fun {p q} h x hx y hy c ⟨h1,h2⟩=>?_⟩
  ·unfold cut
   refine List.Pairwise.filter _ ?_;refine List.pairwise_cons.2 ⟨fun y hy c ⟨h1,h2⟩=>?_,List.pairwise_singleton _ _⟩;rw[List.mem_singleton.1 hy,sw]at h2;rw[sw]at h1;rw[AO s c h2.2]at h1;exact Bool.noConfusion h1.2
  ·have sub:∀ {p x:BS},x∈cut s p->x.getLsbD c=true->p.getLsbD c=true:=fun {p x} hx h=>by
    rcases(Gu.1 hx).1 with rfl | rfl
    ·exact((sw _ _ _).1 h).1
    ·exact((sw _ _ _).1 h).1
   exact h c ⟨sub hx h1,sub hy h2⟩
theorem lB {l:List BS} {q:BS} :q∈partsOf l↔q∈aM l:=(fy l).mem_iff
theorem gF (l:List BS):(partsOf l).Pairwise oX:=((fy l).pairwise_iff (fun h=>oX.symm h)).2 (tj l)
theorem jt (l:List BS) (c:Nat) (hc:c<256):∃ (k:Nat) (q:BS),(partsOf l)[k]? =some q/\q.getLsbD c=true:=by obtain⟨q,h1,h2⟩:=td l c hc;obtain⟨k,hk⟩:=List.getElem?_of_mem (lB.2 h1);exact⟨k,q,hk,h2⟩
theorem eC (l:List BS) {q:BS} (hq:q∈partsOf l) {c d:Nat} (hc:c<256) (hd:d<256) (h:q.getLsbD c=true):q.getLsbD d=true↔Alike l c d:=th l (lB.1 hq) hc hd h
theorem lC {p:List BS} (h:p.Pairwise oX) {i j:Nat} {x y:BS} (hi:p[i]? =some x) (hj:p[j]? =some y) {c:Nat} (hx:x.getLsbD c=true) (hy:y.getLsbD c=true):i=j:=by
 have key:∀ {i j:Nat} {x y:BS},p[i]? =some x->p[j]? =some y->x.getLsbD c=true->y.getLsbD c=true->¬i<j:=fun {i j x y} hi hj hx hy hlt=>by
  obtain⟨h1,rfl⟩:=List.getElem?_eq_some_iff.1 hi;obtain⟨h2,rfl⟩:=List.getElem?_eq_some_iff.1 hj;exact(List.pairwise_iff_getElem.1 h i j h1 h2 hlt) c ⟨hx,hy⟩
 have h1:=key hi hj hx hy;have h2:=key hj hi hy hx;omega
theorem gX (l:List BS) {c k:Nat} (hc:c<256):cls (partsOf l) c=k↔ ∃ q:BS,(partsOf l)[k]? =some q/\q.getLsbD c=true:=by
 have h1:∃ q,(partsOf l)[cls (partsOf l) c]? =some q/\q.getLsbD c=true:=by
  rcases qd (partsOf l) c hc with⟨k,s,h1,h2,h3⟩ | ⟨h1,_⟩
  ·rw[sq _ hc]at h3;cases h3;exact⟨s,h1,h2⟩
  ·obtain⟨k,q,h2,h3⟩:=jt l c hc
   rw[h1 q (List.mem_of_getElem? h2)]at h3;cases h3
 constructor
 ·rintro rfl;exact h1
 ·rintro⟨q,h2,h3⟩
  obtain⟨q',h4,h5⟩:=h1;exact lC (gF l) h4 h2 h5 h3
theorem dA (l:List BS) {q:BS} (h:q∈partsOf l):q≠0:=qU l q (lB.1 h)
theorem cM {s:BS} (h:s≠0):(aB s).2=true/\(aB s).1<256/\s.getLsbD (aB s).1=true/\∀ d,d<(aB s).1->s.getLsbD d=false:=by
 rcases oO s with⟨_,h1⟩ | h1
 ·exact absurd h1 h
 ·exact h1
theorem vN (l:List BS) {i j:Nat} {x y:BS} (hi:(partsOf l)[i]? =some x) (hj:(partsOf l)[j]? =some y) (pU:i<j):(aB x).1<(aB y).1:=by
 obtain⟨h1,h2⟩:=List.getElem?_eq_some_iff.1 hi;obtain⟨h3,h4⟩:=List.getElem?_eq_some_iff.1 hj;have hs:=List.pairwise_iff_getElem.1 (s8 l) i j h1 h3 pU;have ha:=List.pairwise_iff_getElem.1 (gF l) i j h1 h3 pU;rw[h2,h4]at hs ha;obtain⟨_,x1,x2,x3⟩:=cM (dA l (List.mem_of_getElem? hi));obtain⟨_,y1,y2,y3⟩:=cM (dA l (List.mem_of_getElem? hj));have hne:(aB x).1≠(aB y).1:=fun e=>ha _ ⟨x2,by rw[e];exact y2⟩
 by_cases hlt:(aB x).1<(aB y).1
 ·exact hlt
 ·exfalso
  have hyx:OE y x:=⟨(aB y).1,y1,fun d hd=>by rw[y3 d hd,x3 d (by omega)],y2,x3 _ (by omega)⟩;rw[<-dS]at hyx;rw[hyx]at hs;exact Bool.noConfusion hs
theorem qY (l:List BS):0<(partsOf l).length:=by obtain⟨k,q,h,_⟩:=jt l 0 (by decide);have:=(List.getElem?_eq_some_iff.1 h).1;omega
theorem Ii (l:List BS) {s q:BS} (hs:s∈l) (hq:q∈partsOf l):q&&& ~~~s=0\/q&&& s=0:=by
 obtain⟨_,h1,h2,_⟩:=cM (dA l hq);cases hb:s.getLsbD (aB q).1 with
 | true=>
  left
  refine BS.ext fun c hc=>?_
  rw[dz,BitVec.getLsbD_and];cases Ex:q.getLsbD c with
  | false=>rfl
  | true=>
   have:=(eC l hq h1 hc h2).1 Ex s hs;rw[j6 _ hc, <-this,hb];rfl
 | false=>
  right
  refine BS.ext fun c hc=>?_
  rw[dz,BitVec.getLsbD_and];cases Ex:q.getLsbD c with
  | false=>rfl
  | true=>
   have:=(eC l hq h1 hc h2).1 Ex s hs;rw[<-this,hb];rfl
theorem parted (l:List BS) {i j:Nat} {s t:BS} (hi:(partsOf l)[i]? =some s) (hj:(partsOf l)[j]? =some t) (pU:i≠j):(l.any fun x=>((s&&& ~~~x==0) != (t&&& ~~~x==0)))=true:=by
 rw[List.any_eq_true];obtain⟨_,a1,a2,_⟩:=cM (dA l (List.mem_of_getElem? hi));obtain⟨_,b1,b2,_⟩:=cM (dA l (List.mem_of_getElem? hj));have hno:¬Alike l (aB s).1 (aB t).1:=fun jY=>by
  have:=(eC l (List.mem_of_getElem? hi) a1 b1 a2).2 jY;exact pU (lC (gF l) hi hj this b2)
 unfold Alike at hno;simp only[Classical.not_forall]at hno;obtain⟨x,hx,hne⟩:=hno;refine⟨x,hx,?_⟩;have key:∀ {q:BS},q∈partsOf l->q.getLsbD (aB q).1=true->(aB q).1<256->(q&&& ~~~x==0)=x.getLsbD (aB q).1:=fun {q} hq h1 h3=>by
  rcases Ii l hx hq with h | h
  ·rw[h]
   have:x.getLsbD (aB q).1=true:=by
    cases hb:x.getLsbD (aB q).1 with
    | true=>rfl
    | false=>
     have h2:(q&&& ~~~x).getLsbD (aB q).1=true:=by rw[BitVec.getLsbD_and,h1,j6 _ h3,hb];rfl
     rw[h,dz]at h2;cases h2
   rw[this];simp
  ·have h4:x.getLsbD (aB q).1=false:=by
    cases hb:x.getLsbD (aB q).1 with
    | false=>rfl
    | true=>
     have h2:(q&&& x).getLsbD (aB q).1=true:=by rw[BitVec.getLsbD_and,h1,hb];rfl
     rw[h,dz]at h2;cases h2
   rw[h4,beq_eq_false_iff_ne];intro h5;have h2:(q&&& ~~~x).getLsbD (aB q).1=true:=by rw[BitVec.getLsbD_and,h1,j6 _ h3,h4];rfl
   rw[h5,dz]at h2;cases h2
 rw[key (List.mem_of_getElem? hi) a2 a1,key (List.mem_of_getElem? hj) b2 b1];cases h1:x.getLsbD (aB s).1<;>cases h2:x.getLsbD (aB t).1<;>simp_all
theorem rN (l:List BS):(partsOf l).isEmpty=false:=by
 have:=qY l;cases h:partsOf l with
 | nil=>rw[h]at this;simp at this
 | cons=>rfl
theorem wK (l:List BS) {c:Nat} (hc:c<256):∃ q:BS,(partsOf l)[cls (partsOf l) c]? =some q/\q.getLsbD c=true:=(gX l hc).1 rfl
theorem Ij (l:List BS) {x y:Nat} (hx:x<256) (hy:y<256):(l.any fun s=>s.getLsbD x != s.getLsbD y)= !decide (cls (partsOf l) x=cls (partsOf l) y):=by
 obtain⟨q,h1,h2⟩:=wK l hx;have h3:=eC l (List.mem_of_getElem? h1) hx hy h2;have h4:cls (partsOf l) x=cls (partsOf l) y↔Alike l x y:=by
  rw[<-h3];constructor
  ·intro e
   obtain⟨q',h5,h6⟩:=wK l hy;rw[<-e,h1]at h5;cases h5;exact h6
  ·intro h;exact((gX l hy).2 ⟨q,h1,h⟩).symm
 by_cases ha:Alike l x y
 ·rw[decide_eq_true (h4.2 ha)]
  rw[List.any_eq_false.2]
  ·rfl
  ·intro s hs;rw[ha s hs];simp
 ·rw[decide_eq_false (fun e=>ha (h4.1 e))]
  unfold Alike at ha;simp only[Classical.not_forall]at ha;obtain⟨s,hs,hne⟩:=ha;rw[List.any_eq_true.2]
  ·rfl
  ·exact⟨s,hs,by simpa using hne⟩
structure bH (p:List BS) (R:Nat->Nat->Prop):Prop where
 some:p.isEmpty=false
 apart:p.Pairwise oX
 ne:∀ q∈p,q≠0
 cover:∀ c,c<256->∃ (k:Nat) (q:BS),p[k]? =Option.some q/\q.getLsbD c=true
 alike:∀ q∈p,∀ c d,c<256->d<256->q.getLsbD c=true->(q.getLsbD d=true↔R c d)
 first:∀ (i j:Nat) (x y:BS),p[i]? =Option.some x->p[j]? =Option.some y->i<j->(aB x).1<(aB y).1
theorem bH.jF (l:List BS):bH (partsOf l) (Alike l):=
 ⟨rN l,gF l,fun _ h=>dA l h,jt l,fun _ hq _ _ hc hd h=>eC l hq hc hd h,fun _ _ _ _ h1 h2 h3=>vN l h1 h2 h3⟩
theorem bH.gX {p:List BS} {R:Nat->Nat->Prop} (h:bH p R) {c k:Nat} (hc:c<256):cls p c=k↔ ∃ q:BS,p[k]? =Option.some q/\q.getLsbD c=true:=by
 have h1:∃ q,p[cls p c]? =Option.some q/\q.getLsbD c=true:=by
  rcases qd p c hc with⟨k,s,h1,h2,h3⟩ | ⟨h1,_⟩
  ·rw[sq _ hc]at h3;cases h3;exact⟨s,h1,h2⟩
  ·obtain⟨k,q,h2,h3⟩:=h.cover c hc
   rw[h1 q (List.mem_of_getElem? h2)]at h3;cases h3
 constructor
 ·rintro rfl;exact h1
 ·rintro⟨q,h2,h3⟩
  obtain⟨q',h4,h5⟩:=h1;exact lC h.apart h4 h2 h5 h3
theorem bH.AP {p:List BS} {R:Nat->Nat->Prop} (h:bH p R) {c d:Nat} (hc:c<256) (hd:d<256):cls p c=cls p d↔R c d:=by
 obtain⟨q,h1,h2⟩:=(h.gX hc).1 rfl;rw[<-h.alike q (List.mem_of_getElem? h1) c d hc hd h2];constructor
 ·intro e
  obtain⟨q',h3,h4⟩:=(h.gX hd).1 rfl;rw[<-e,h1]at h3;cases h3;exact h4
 ·intro h3;exact((h.gX hd).2 ⟨q,h1,h3⟩).symm
theorem bH.symm {p:List BS} {R:Nat->Nat->Prop} (h:bH p R) {c d:Nat} (hc:c<256) (hd:d<256) (hr:R c d):R d c:=(h.AP hd hc).1 ((h.AP hc hd).2 hr).symm
theorem yq {s:BS} (h:s≠0):∃ c,c<256/\s.getLsbD c=true:=by obtain⟨_,h1,h2,_⟩:=cM h;exact⟨_,h1,h2⟩
theorem bH.mem_of {p q:List BS} {R S:Nat->Nat->Prop} (hp:bH p R) (hq:bH q S) (h:∀ c d,c<256->d<256->(R c d↔S c d)) {x:BS} (hx:x∈p):x∈q:=by
 obtain⟨c,hc,XJ⟩:=yq (hp.ne x hx);obtain⟨k,s,hs,hsc⟩:=hq.cover c hc;have:x=s:=BS.ext fun d hd=>by
  rw[Bool.eq_iff_iff,hp.alike x hx c d hc hd XJ,hq.alike s (List.mem_of_getElem? hs) c d hc hd hsc,h c d hc hd]
 rw[this];exact List.mem_of_getElem? hs
theorem bH.sorted {p:List BS} {R:Nat->Nat->Prop} (hp:bH p R):p.Pairwise fun x y=>(aB x).1<(aB y).1:=by rw[List.pairwise_iff_getElem];intro i j hi hj pU;exact hp.first i j _ _ (List.getElem?_eq_getElem hi) (List.getElem?_eq_getElem hj) pU
theorem wM {f:BS->Nat} :∀ (p q:List BS),p.Pairwise (fun x y=>f x<f y)->q.Pairwise (fun x y=>f x<f y)->(∀ x,x∈p↔x∈q)->p=q
 | [],q,_,_,h=>by
  cases q with
  | nil=>rfl
  | cons y q=>have:=(h y).2 (by simp);simp at this
 | x::p,q,hp,hq,h=>by
  cases q with
  | nil=>have:=(h x).1 (by simp);simp at this
  | cons y q=>
   rw[List.pairwise_cons]at hp hq;have TL:x=y:=by
    have h1:=(h x).1 (by simp);have h2:=(h y).2 (by simp);rcases List.mem_cons.1 h1 with e | h1
    ·exact e
    ·rcases List.mem_cons.1 h2 with e | h2
     ·exact e.symm
     ·have a:=hq.1 x h1;have b:=hp.1 y h2;omega
   subst TL;congr 1;refine wM p q hp.2 hq.2 fun z=>?_
   have hz:=h z;simp only[List.mem_cons]at hz;constructor
   ·intro XK
    rcases hz.1 (.inr XK)with e | h1
    ·subst e;have:=hp.1 z XK;omega
    ·exact h1
   ·intro XL
    rcases hz.2 (.inr XL)with e | h1
    ·subst e;have:=hq.1 z XL;omega
    ·exact h1
theorem bH.uniq {p q:List BS} {R S:Nat->Nat->Prop} (hp:bH p R) (hq:bH q S) (h:∀ c d,c<256->d<256->(R c d↔S c d)):p=q:=
 wM p q hp.sorted hq.sorted fun _=>⟨fun hx=>hp.mem_of hq h hx,fun hx=>hq.mem_of hp (fun c d hc hd=>(h c d hc hd).symm) hx⟩
theorem bH.Ik {p:List BS} {R:Nat->Nat->Prop} (hp:bH p R) {c d:Nat} (hc:c<256) (hd:d<256):Alike p c d↔R c d:=by
 constructor
 ·intro h
  obtain⟨k,s,hs,hsc⟩:=hp.cover c hc;have:=h s (List.mem_of_getElem? hs);exact(hp.alike s (List.mem_of_getElem? hs) c d hc hd hsc).1 (by rw[<-this];exact hsc)
 ·intro hr s hs
  rw[Bool.eq_iff_iff];exact⟨fun h=>(hp.alike s hs c d hc hd h).2 hr,fun h=>(hp.alike s hs d c hd hc h).2 (hp.symm hc hd hr)⟩
end Go.Proofs.YtbiboekhakbnpaaGreatDoor
