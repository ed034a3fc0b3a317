/- Walks of package alphabet: Join. -/
import Derived.Test.YtbiboekhakbnpaaGreatDoorOF03
import Derived.Deep.WholeRow
set_option maxRecDepth 100000
set_option maxHeartbeats 16000000
open Go.Lib (hid)
namespace Go.Proofs.YtbiboekhakbnpaaGreatDoor
open Go Go.RowKit Go.Shelf Go.Maps
def bO (p:List BS):List (Nat×Nat):=p.zipIdx.flatMap fun x=>(aX x.1 256).map fun c=>(x.2,c)
theorem yi (p:List BS) (s:BS):bO (p++ [s])=bO p++(aX s 256).map fun c=>(p.length,c):=by unfold bO;rw[List.zipIdx_append];simp
theorem oQ {p:List BS} {k:Nat} {s:BS} (h:p[k]? =some s):bO (p.take (k+1))=bO (p.take k)++(aX s 256).map fun c=>(k,c):=by have hk:k<p.length:=(List.getElem?_eq_some_iff.1 h).1;rw[List.take_add_one,h];show bO (p.take k++ [s])=_;rw[yi,List.length_take,Nat.min_eq_left (by omega)]
theorem sX {p:List BS} {k:Nat} {s:BS} (h:p[k]? =some s) (j:Nat):bO (p.take k)++((aX s 256).take j).map (fun c=>(k,c))<+:bO p:=by
 have h1:bO (p.take (k+1))<+:bO p:=by
  have:p=p.take (k+1)++p.drop (k+1):=(List.take_append_drop _ _).symm;have h2:∀ (a b:List BS),bO a<+:bO (a++b):=by intro a b;unfold bO;rw[List.zipIdx_append,List.flatMap_append];exact List.prefix_append _ _
  conv=>rhs;rw[this]
  exact h2 _ _
 refine List.IsPrefix.trans ?_ h1;rw[oQ h];exact(List.prefix_append_right_inj _).2 (List.IsPrefix.map _ (List.take_prefix _ _))
theorem Eo {s:BS} {n c:Nat} (h:c∈aX s n):c<n:=by unfold aX at h;simp at h;exact h.1
theorem lj {p:List BS} {x:Nat×Nat} :x∈bO p↔ ∃ s,p[x.1]? =some s/\x.2<256/\s.getLsbD x.2=true:=by
 unfold bO;simp only[List.mem_flatMap,List.mem_map,Prod.exists,List.mem_zipIdx_iff_getElem?,aX];constructor
 ·rintro⟨s,k,h1,c,h2,rfl⟩
  simp at h2;exact⟨s,h1,h2⟩
 ·rintro⟨s,h1,h2,h3⟩
  exact⟨s,x.1,h1,x.2,by simp[h2,h3],rfl⟩
def cS (l:List (Nat×Nat)):List Nat:=l.foldl (fun t x=>t.set x.2 x.1) (List.replicate 256 0)
theorem qc (l:List (Nat×Nat)):∀ (t:List Nat),(l.foldl (fun t x=>t.set x.2 x.1) t).length=t.length:=by
 induction l with
 | nil=>intro t;rfl
 | cons x l ih=>intro t;simp[ih]
theorem dU (l:List (Nat×Nat)):(cS l).length=256:=by unfold cS;rw[qc,List.length_replicate]
theorem AA:cS []=List.replicate 256 0:=rfl
theorem oT (l:List (Nat×Nat)) (x:Nat×Nat):cS (l++ [x])=(cS l).set x.2 x.1:=by unfold cS;rw[List.foldl_append];rfl
def mZ (p:List BS):List Nat:=cS (bO p)
theorem gW (p:List BS):(mZ p).length=256:=dU _
theorem AB (l:List (Nat×Nat)) (c:Nat) (hc:c<256):(∃ x∈l,x.2=c/\(cS l)[c]? =some x.1)\/((∀ x∈l,x.2≠c)/\(cS l)[c]? =some 0):=by
 suffices ∀ r:List (Nat×Nat),(∃ x∈r.reverse,x.2=c/\(cS r.reverse)[c]? =some x.1)\/((∀ x∈r.reverse,x.2≠c)/\(cS r.reverse)[c]? =some 0) by
  have:=this l.reverse;rwa[List.reverse_reverse]at this
 intro r;induction r with
 | nil=>right;rw[List.reverse_nil,AA,List.getElem?_replicate,if_pos hc];exact⟨fun x hx=>absurd hx (List.not_mem_nil),rfl⟩
 | cons x r ih=>
  rw[List.reverse_cons,oT];by_cases hx:x.2=c
  ·left
   refine⟨x,by simp,hx,?_⟩;rw[List.getElem?_set,if_pos hx,if_pos (by rw[dU,hx];exact hc)]
  ·rw[List.getElem?_set,if_neg hx]
   rcases ih with⟨y,h1,h2,h3⟩ | ⟨h1,h2⟩
   ·exact .inl ⟨y,by simp only[List.mem_append];exact .inl h1,h2,h3⟩
   ·refine .inr ⟨fun y hy=>?_,h2⟩
    simp only[List.mem_append,List.mem_singleton]at hy;rcases hy with hy | rfl
    ·exact h1 y hy
    ·exact hx
theorem qd (p:List BS) (c:Nat) (hc:c<256):(∃ k s,p[k]? =some s/\s.getLsbD c=true/\(mZ p)[c]? =some k)\/((∀ s∈p,s.getLsbD c=false)/\(mZ p)[c]? =some 0):=by
 rcases AB (bO p) c hc with⟨x,h1,h2,h3⟩ | ⟨h1,h2⟩
 ·obtain⟨s,h4,h5,h6⟩:=lj.1 h1
  exact .inl ⟨x.1,s,h4,by rw[<-h2];exact h6,h3⟩
 ·refine .inr ⟨fun s hs=>?_,h2⟩
  obtain⟨k,hk⟩:=List.getElem?_of_mem hs;cases hb:s.getLsbD c with
  | false=>rfl
  | true=>exact absurd rfl (h1 (k,c) (lj.2 ⟨s,hk,hc,hb⟩))
theorem Lj (p:List BS) (c:Nat) (hc:c<256) (hp:p.length<=256):∃ k,(mZ p)[c]? =some k/\k<256/\(k<p.length\/k=0):=by
 rcases qd p c hc with⟨k,s,h1,_,h3⟩ | ⟨_,h2⟩
 ·have:=(List.getElem?_eq_some_iff.1 h1).1
  exact⟨k,h3,by omega,.inl this⟩
 ·exact⟨0,h2,by omega,.inr rfl⟩
def eG (t:List Nat) (v:Value):Array Value:=((t.map fun (n:Nat)=>Value.int .u8 n)++ [v]).toArray
theorem qV {t:List Nat} {v:Value} {c k:Nat} (h:t[c]? =some k):(eG t v)[c]? =some (.int .u8 k):=by have hc:=(List.getElem?_eq_some_iff.1 h).1;unfold eG;simp only[List.getElem?_toArray];rw[List.getElem?_append_left (by simpa using hc),List.getElem?_map,h];rfl
theorem oU {t:List Nat} {v:Value} (h:t.length=256):(eG t v)[256]? =some v:=by unfold eG;simp only[List.getElem?_toArray];rw[List.getElem?_append_right (by simp[h])];simp[h]
theorem AD {t:List Nat} {v:Value} {c k:Nat} (h:c<t.length):(eG t v).setIfInBounds c (.int .u8 k)=eG (t.set c k) v:=by unfold eG;simp[h,List.map_set]
def fe (w:World) (base:Nat) (v:Value) (p:List BS):Prop:=
 (v=.pointer none/\p=[])\/∃ b sl,v=.pointer (some ⟨b,0,none⟩)/\base<=b/\ak w b (eG (mZ p) sl) 143/\w.ownsRow base 70 4 sl p.length (aD p)/\p.length<=256
theorem fe.keeps {w w':World} {base:Nat} {v:Value} {p:List BS} (h:fe w base v p) {R:Nat->Prop} (hk:aa R w w') (hr:∀ k,base<=k->k<w.heap.size->R k):fe w' base v p:=by
 rcases h with h | ⟨b,sl,h1,h2,h3,h4,h5⟩
 ·exact .inl h
 ·exact .inr ⟨b,sl,h1,h2,h3.keeps hk (hr b h2 h3.lt),ae h4 hk fun k e=>hr k (h4.lt k e).1 (h4.lt k e).2,h5⟩
theorem fe.below {w w':World} {base:Nat} {v:Value} {p:List BS} (h:fe w base v p) (hk:Below w.heap.size w w'):fe w' base v p:=h.keeps (aa.ah hk fun _ h=>h) (fun _ _ h=>h)
theorem fe.le {w:World} {base:Nat} {v:Value} {p:List BS} (h:fe w base v p):p.length<=256:=by
 rcases h with⟨_,rfl⟩ | ⟨b,sl,h1,h2,h3,h4,h5⟩
 ·simp
 ·exact h5
attribute [local go_sem] encS
theorem fe.form {w:World} {base:Nat} {v:Value} {p:List BS} (h:fe w base v p):(v=.pointer none/\p=[])\/∃ b sa cap,v=.pointer (some ⟨b,0,none⟩)/\w.cell? ⟨b,256,none⟩=some (.slice sa p.length cap)/\ (∀ c k:Nat,(mZ p)[c]? =some k->w.cell? ⟨b,c,none⟩=some (.int .u8 k))/\base<=b/\b<w.heap.size/\ ∀ i s,p[i]? =some s->∃ g,sa=some ⟨g,0,none⟩/\base<=g/\g<w.heap.size/\∀ j,j<4->w.cell? ⟨g,i*4+j,none⟩=(encS s)[j]? :=by
 rcases h with h | ⟨b,sl,h1,h2,h3,h4,h5⟩
 ·exact .inl h
 ·obtain⟨sa,cap,rfl⟩:=ownsRow_form h4
  refine .inr ⟨b,sa,cap,h1,?_,fun c k hk=>?_,h2,h3.lt,fun i s hi=>?_⟩
  ·have hn:(Value.slice sa p.length cap)=.slice sa p.length cap:=rfl
   have:=h3.cell 256;rw[oU (gW p)]at this;exact this
  ·rw[h3.cell c,qV hk]
  ·obtain⟨g,cap',h6,h7,h8,h9⟩:=j4 h4 rfl hi
   cases h6
   exact⟨g,rfl,h7,h8,h9⟩
theorem oV (v:Value) (base:Nat) (p:List BS) (w:World) (h:fe w base v p): Calls Tryz.prog 77 #[v] w fun e w'=>e=.returned (.bool p.isEmpty)/\w'=w:=by
 rcases h.form with⟨rfl,rfl⟩ | ⟨b,sa,cap,rfl,c0,_⟩
 ·clear h
  go_enter Tryz.func77,Tryz.ntmps77
  go_wp2;go_ret;exact⟨rfl,rfl⟩
 ·clear h
  cases p with
  | nil=>
   go_enter Tryz.func77,Tryz.ntmps77
   go_wp2;go_ret;exact⟨rfl,rfl⟩
  | cons s p=>
   go_enter Tryz.func77,Tryz.ntmps77
   go_wp2;go_ret;exact⟨rfl,rfl⟩
theorem PH (v:Value) (base:Nat) (p:List BS) (w:World) (h:fe w base v p): Calls Tryz.prog 42 #[v] w fun e w'=>e=.returned (.int .i64 p.length)/\w'=w:=by
 have hn:=oV v base p w h;rcases h.form with⟨rfl,rfl⟩ | ⟨b,sa,cap,rfl,c0,_⟩
 ·have HN:=hid hn
  clear h hn;go_enter Tryz.func42,Tryz.ntmps42;go_wp2_with (go_at_call 77;refine HN.out.mono ?_;rintro e w1 ⟨rfl,rfl⟩);go_ret;exact⟨rfl,rfl⟩
 ·cases p with
  | nil=>
   have HN:=hid hn;clear h hn;go_enter Tryz.func42,Tryz.ntmps42;go_wp2_with (go_at_call 77;refine HN.out.mono ?_;rintro e w1 ⟨rfl,rfl⟩);go_ret;exact⟨rfl,rfl⟩
  | cons s p=>
   have HN:=hid hn;clear h hn;go_enter Tryz.func42,Tryz.ntmps42;go_wp2_with (go_at_call 77;refine HN.out.mono ?_;rintro e w1 ⟨rfl,rfl⟩);go_ret;exact⟨rfl,rfl⟩
def cls (p:List BS) (c:Nat):Nat:=(mZ p)[c]?.getD 0
theorem sq (p:List BS) {c:Nat} (hc:c<256):(mZ p)[c]? =some (cls p c):=by unfold cls;rw[List.getElem?_eq_getElem (by rw[gW];exact hc)];rfl
theorem lp (p:List BS) (c:Nat) (hp:p.length<=256):cls p c<256:=by
 by_cases hc:c<256
 ·obtain⟨k,h1,h2,_⟩:=Lj p c hc hp
  unfold cls;rw[h1];exact h2
 ·unfold cls;rw[List.getElem?_eq_none (by rw[gW];omega)];decide
theorem fe.some {w:World} {base:Nat} {v:Value} {s:BS} {p:List BS} (h:fe w base v (s::p)):∃ b sa cap,v=.pointer (some ⟨b,0,none⟩)/\w.cell? ⟨b,256,none⟩=some (.slice sa (s::p).length cap)/\ (∀ c k:Nat,(mZ (s::p))[c]? =some k->w.cell? ⟨b,c,none⟩=some (.int .u8 k))/\base<=b/\b<w.heap.size/\ ∀ i s',(s::p)[i]? =some s'->∃ g,sa=some ⟨g,0,none⟩/\base<=g/\g<w.heap.size/\∀ j,j<4->w.cell? ⟨g,i*4+j,none⟩=(encS s')[j]? :=by
 rcases h.form with⟨_,h⟩ | h
 ·cases h
 ·exact h
def setOf (p:List BS) (k:Int):Option BS:=if 0<=k then p[k.toNat]? else none
theorem H9 (k:Int):setOf [] k=none:=by unfold setOf;split<;>simp
theorem Ib (p:List BS) {k:Int} (h:k<0):setOf p k=none:=by unfold setOf;rw[if_neg (by omega)]
theorem Ep (p:List BS) {k:Int} (h:(p.length:Int)<=k):setOf p k=none:=by unfold setOf;rw[if_pos (by omega),List.getElem?_eq_none (by omega)]
theorem qf (p:List BS) (k:Nat):setOf p k=p[k]? :=by unfold setOf;rw[if_pos (by omega),Int.toNat_natCast]
theorem AE (p:List BS) (k:Int):(setOf p k=none/\(k<0\/(p.length:Int)<=k))\/∃ (n:Nat) (s:BS),k=n/\n<p.length/\p[n]? =some s/\setOf p k=some s:=by
 by_cases h1:k<0
 ·exact .inl ⟨Ib p h1,.inl h1⟩
 ·by_cases h2:(p.length:Int)<=k
  ·exact .inl ⟨Ep p h2,.inr h2⟩
  ·obtain⟨n,rfl⟩:∃ n:Nat,k=n:=⟨k.toNat,by omega⟩
   have h3:n<p.length:=by omega
   exact .inr ⟨n,p[n],rfl,h3,List.getElem?_eq_getElem h3,by rw[qf];exact List.getElem?_eq_getElem h3⟩
theorem Er (v:Value) (base:Nat) (p:List BS) (k:Int) (w:World) (h:fe w base v p): Calls Tryz.prog 78 #[v,.int .i64 k] w fun e w'=>e=.returned (.bool (setOf p k).isSome)/\w'=w:=by
 have hn:=oV v base p w h;cases p with
 | nil=>
  have HN:=hid hn;clear h hn;go_enter Tryz.func78,Tryz.ntmps78;go_wp2_with (go_at_call 77;refine HN.out.mono ?_;rintro e w1 ⟨rfl,rfl⟩);go_ret;exact⟨by rw[H9];rfl,rfl⟩
 | cons s p=>
  obtain⟨b,sa,cap,rfl,c0,_⟩:=h.some;have hp:=AE (s::p) k;have hle:=h.le;generalize (s::p).length=m at c0 hp hle;generalize setOf (s::p) k=r at hp ⊢;have HN:=hid hn;clear h hn;rcases hp with⟨rfl,h1 | h1⟩ | ⟨n,t,rfl,h1,_,rfl⟩
  ·go_enter Tryz.func78,Tryz.ntmps78
   go_wp2_with (go_at_call 77;refine HN.out.mono ?_;rintro e w1 ⟨rfl,rfl⟩)
   go_ret;exact⟨rfl,rfl⟩
  ·go_enter Tryz.func78,Tryz.ntmps78
   go_wp2_with (go_at_call 77;refine HN.out.mono ?_;rintro e w1 ⟨rfl,rfl⟩)
   go_ret;exact⟨by rw[show(decide (k<(m:Int)))=false from decide_eq_false (by omega)];rfl,rfl⟩
  ·go_enter Tryz.func78,Tryz.ntmps78
   go_wp2_with (go_at_call 77;refine HN.out.mono ?_;rintro e w1 ⟨rfl,rfl⟩)
   go_ret;exact⟨rfl,rfl⟩
theorem Gs (v:Value) (base:Nat) (p:List BS) (k:Int) (w:World) (h:fe w base v p): Calls Tryz.prog 43 #[v,.int .i64 k] w fun e w'=>e=.returned (.tuple #[.agg (encS ((setOf p k).getD 0)),.bool (setOf p k).isSome])/\Ext w w':=by
 have hn:=Er v base p k w h;have hz:=ej;rcases AE p k with⟨h1,_⟩ | ⟨n,t,rfl,h1,h2,h3⟩
 ·rw[h1]at hn ⊢
  have HI:=hid (fun o=>(show Calls Tryz.prog 78 #[v,.int .i64 k] (w.alloc o) _ from Er v base p k (w.alloc o) (h.below ((Ext.refl w).alloc o).below)));rw[h1]at HI;clear h hn h1;go_enter Tryz.func43,Tryz.ntmps43;go_wp2_with (go_at_call 78;refine(HI.out _).mono ?_;rintro e w1 ⟨rfl,rfl⟩);refine bodyPost_ret (v:=.tuple #[.agg (encS 0),.bool false]) ?_ rfl ⟨rfl,(Ext.refl w).alloc _⟩;rw[hz];simp[results,Tryz.results43,go_sem]
 ·cases p with
  | nil=>simp at h1
  | cons s p=>
  obtain⟨b,sa,cap,rfl,c0,_,_,hb,hr⟩:=h.some;obtain⟨g,rfl,_,hg,hc⟩:=hr n t h2;have hle:=h.le;have d0:w.cell? ⟨g,n*4,none⟩=some (.int .u64 (wd t 0).toNat):=hc 0 (by decide);have d1:w.cell? ⟨g,n*4+1,none⟩=some (.int .u64 (wd t 1).toNat):=hc 1 (by decide);have d2:w.cell? ⟨g,n*4+2,none⟩=some (.int .u64 (wd t 2).toNat):=hc 2 (by decide);have d3:w.cell? ⟨g,n*4+3,none⟩=some (.int .u64 (wd t 3).toNat):=hc 3 (by decide);have HI:=hid (fun o=>(show Calls Tryz.prog 78 #[_,.int .i64 n] (w.alloc o) _ from Er _ base _ n (w.alloc o) (h.below ((Ext.refl w).alloc o).below)));rw[h3]at HI ⊢;generalize (s::p).length=m at c0 hle h1;clear h hn hc hr h2 h3;go_enter Tryz.func43,Tryz.ntmps43;go_wp2_with (go_at_call 78;refine(HI.out _).mono ?_;rintro e w1 ⟨rfl,rfl⟩);refine bodyPost_ret (v:=.tuple #[.agg (encS t),.bool true]) ?_ rfl ⟨rfl,(Ext.refl w).alloc _⟩;simp[results,Tryz.results43,go_sem]
def leastOf (p:List BS) (k:Int):Nat×Bool:=match setOf p k with | none=>(0,false) | some s=>aB s
theorem Ic (v:Value) (base:Nat) (p:List BS) (k:Int) (w:World) (h:fe w base v p): Calls Tryz.prog 44 #[v,.int .i64 k] w fun e w'=>e=.returned (.tuple #[.int .u8 (leastOf p k).1,.bool (leastOf p k).2])/\Ext w w':=by
 have HS:=hid (Gs v base p k w h);clear h;unfold leastOf;generalize setOf p k=r at HS ⊢;cases r with
 | none=>
  go_enter Tryz.func44,Tryz.ntmps44
  go_wp2_with (go_at_call 43;refine HS.out.mono ?_;rintro e w1 ⟨rfl,hx⟩;have HX:=hid hx;clear hx)
  refine bodyPost_ret (v:=.tuple #[.int .u8 (0:Nat),.bool false]) ?_ rfl ⟨rfl,HX.out.alloc _⟩;simp[results,Tryz.results44,go_sem]
 | some s=>
  have HF:=hid (wH s);dsimp only at HS ⊢;generalize aB s=z at HF ⊢;have hs:(some s).getD 0=s:=rfl;go_enter Tryz.func44,Tryz.ntmps44;go_wp2_with (first | (go_at_call 43;refine HS.out.mono ?_;rintro e w1 ⟨rfl,hx⟩;have HX:=hid hx;clear hx) | (go_at_call 79;refine(HF.out _).mono ?_;rintro e w2 ⟨rfl,hx⟩;have eZ:=hid hx;clear hx));refine bodyPost_ret (v:=.tuple #[.int .u8 z.1,.bool z.2]) ?_ rfl ⟨rfl,(HX.out.alloc _).trans eZ.out⟩;simp[results,Tryz.results44,go_sem]
end Go.Proofs.YtbiboekhakbnpaaGreatDoor
namespace Go.Proofs.YtbiboekhakbnpaaGreatDoor
open Go Go.RowKit Go.Shelf Go.Maps
attribute [local go_sem] encS Oper.semAt_some fk cG
theorem yj (ad:Option Addr) (w:World):Calls Tryz.prog 116 #[.pointer ad] w fun e w'=>e=.returned (.func (.func 150) #[] #[.pointer (some ⟨w.heap.size,0,none⟩)])/\w'=w.alloc (.cells #[.pointer ad] 89 (0,0)):=by
 go_enter Tryz.func116,Tryz.ntmps116
 go_wp2;go_ret;exact⟨rfl,rfl⟩
def sY (w:World) (g:Nat) (sa:Option Addr) (p:List BS):Prop:=g<w.heap.size/\∀ i s,p[i]? =some s->sa=some ⟨g,0,none⟩/\∀ j,j<4->w.cell? ⟨g,i*4+j,none⟩=(encS s)[j]?
theorem sY.keeps {w w':World} {g:Nat} {sa:Option Addr} {p:List BS} (h:sY w g sa p) {R:Nat->Prop} (hk:aa R w w') (hr:R g):sY w' g sa p:=
 ⟨Nat.lt_of_lt_of_le h.1 hk.size,fun i s hi=>⟨(h.2 i s hi).1,fun j hj=>(hk.cell (p:=⟨g,i*4+j,none⟩) hr).trans ((h.2 i s hi).2 j hj)⟩⟩
theorem vL {w:World} {base n:Nat} {v:Value} {l:List Nat} (h:w.ownsRow base 5 1 v n (l.map en)) (hn:n=l.length):∃ g a cap,v=.slice a n cap/\(n=0\/a=some ⟨g,0,none⟩/\base<=g/\g<w.heap.size/\∀ i c:Nat,l[i]? =some c->w.cell? ⟨g,i,none⟩=some (.int .u8 c)):=by
 rcases h.2 with⟨h1,h2⟩ | ⟨g,cap,cur,hv,hb,hg,_,_,hs,ht⟩
 ·exact⟨0,none,0,by rw[h1,h2],.inl h2⟩
 ·refine⟨g,_,cap,hv,.inr ⟨rfl,hb,(Array.getElem?_eq_some_iff.1 hg).1,fun i c hi=>?_⟩⟩
  have hlt:i<l.length:=(List.getElem?_eq_some_iff.1 hi).1;have hc:w.cell? ⟨g,i,none⟩=cur[i]? :=by simp[World.cell?,hg]
  have h3:cur[i]? =(l.map en)[i]? :=by rw[<-ht,List.getElem?_take,if_pos (by omega)];simp
  rw[hc,h3,List.getElem?_map,hi];rfl
theorem AG (p:List BS) (bx ab g n cap:Nat) (sa:Option Addr) (w:World) (hp:n=p.length) (hn:p.length<=256) (vu:w.cell? ⟨bx,0,none⟩=some (.pointer (some ⟨ab,0,none⟩))) (JW:bx<w.heap.size) (hab:w.cell? ⟨ab,256,none⟩=some (.slice sa n cap)) (has:ab<w.heap.size) (hr:sY w g sa p): Seq false Tryz.prog 150 #[.pointer (some ⟨bx,0,none⟩)] (fun x:Nat×Nat=> #[.int .i64 x.1,.int .u8 x.2]) (· =g) (bO p) w:=by
 intro l J Jx W hK hJ Tx hY h0;have c0:W.cell? ⟨bx,0,none⟩=_:=(hK.cell (p:=⟨bx,0,none⟩) JW).trans vu;have c1:W.cell? ⟨ab,256,none⟩=_:=(hK.cell (p:=⟨ab,256,none⟩) has).trans hab;have hr1:sY W g sa p:=hr.keeps hK hr.1;have HY:=hid hY;have HB:=hid fun s W=>H5 s W
 have TH:=hid hr1;have HJ:=hid hJ;have HP:=hid hp;have hn':n<=256:=by omega
 clear hY vu hab JW has hr hr1 Tx hK hJ hp hn;refine callsIn_wide (n:=0).1 ?_;refine callsIn_of_wp Tryz.func150 rfl trivial ?_ rfl;simp only[Tryz.ntmps150,List.size_toArray,List.length_cons,List.length_nil,Nat.reduceAdd,Nat.reduceSub,Array.replicate_succ,Array.replicate_zero,List.push_toArray,List.append_toArray,List.nil_append,List.cons_append]
 gi_wp2
 gi_loopw [12] (fun i wr=>∃ (k:Nat) (T:Nat->Prop),k<=n/\i=.int .i64 k/\J (bO (p.take k)) T wr/\(∀ k,T k->W.heap.size<=k/\k<wr.heap.size)/\aa (· =g) W wr)
  (fun i _=>n-(intOf i).toNat)
 case atStart=>
  exact⟨0,fun _=>False,by omega,rfl,h0,fun _ h=>h.elim,aa.refl _ _⟩
 case round=>
  clear c0 c1 h0;obtain⟨wo,rfl⟩:∃ wo:World,wo=wr:=⟨_,rfl⟩;obtain⟨k,T,hk,rfl,hj,hT,hR⟩:=hrel;have HJo:=hid hj;have HT:=hid hT;have HR:=hid hR;clear hj hT hR;by_cases hlt:k<n
  ·obtain⟨s,hs⟩:∃ s,p[k]? =some s:=⟨_,List.getElem?_eq_getElem (by have:=HP.out;omega)⟩
   obtain⟨OH,hcs⟩:=(TH.out.keeps HR.out rfl).2 k s hs;subst OH;have d0:wo.cell? ⟨g,k*4,none⟩=some (.int .u64 (wd s 0).toNat):=hcs 0 (by decide);have d1:wo.cell? ⟨g,k*4+1,none⟩=some (.int .u64 (wd s 1).toNat):=hcs 1 (by decide);have d2:wo.cell? ⟨g,k*4+2,none⟩=some (.int .u64 (wd s 2).toNat):=hcs 2 (by decide);have d3:wo.cell? ⟨g,k*4+3,none⟩=some (.int .u64 (wd s 3).toNat):=hcs 3 (by decide);have HPT:=hid (oQ hs);have Lb:=hid (sX hs);have HBL:Hid (∀ c∈aX s 256,c<256):=fun c h=>Eo h
   have HBs:=hid (HB.out s);have hlen:(aX s 256).length<=256:=by unfold aX;exact Nat.le_trans (List.length_filter_le _ _) (by simp)
   clear hcs hs;generalize aX s 256=bs at HPT Lb HBL HBs hlen;obtain⟨m,hm⟩:∃ m,m=bs.length:=⟨_,rfl⟩;rw[<-hm]at HBs hlen;have HM:=hid hm;clear hm
   gi_wp2_with (gi_at_call 151;refine(callsIn_wide.2 (HBs.out _)).mono ?_;rintro e w1 ⟨v,rfl,h1,h2⟩;obtain⟨gb,ba,ai7,rfl,h3⟩:=vL h1 HM.out;have H2:=hid h2;have H3:=hid h3;clear h1 h2 h3)
   obtain⟨T',Ld⟩:∃ T':Nat->Prop,T'=fun x=>T x\/(0<m/\x=gb):=⟨_,rfl⟩
   have hx1:Below wo.heap.size wo w1:=((Ext.refl wo).alloc _).below.trans (H2.out.mono (by simp));have hsz:wo.heap.size<=w1.heap.size:=hx1.size;have hTb:∀ x,T' x->W.heap.size<=x/\x<w1.heap.size:=fun x hx=>by
    rw[Ld]at hx;rcases hx with hx | ⟨h0,rfl⟩
    ·have:=HT.out x hx;omega
    ·rcases H3.out with h | ⟨_,h1,h2,_⟩
     ·omega
     ·have:=HR.out.size;simp at h1;omega
   have hj1:J (bO (p.take k)) T' w1:=HJ.out _ T T' wo w1 HJo.out HT.out hTb (fun x hx=>by rw[Ld];exact .inl hx) (fun x hx=>by
    rw[Ld]at hx;rcases hx with hx | ⟨h0,rfl⟩
    ·exact .inl hx
    ·rcases H3.out with h | ⟨_,h1,h2,_⟩
     ·omega
     ·simp at h1;exact .inr (by omega)) ⟨aa.ah hx1 fun _ h=>h.1,fun h=>(by cases h)⟩
   have sU:aa (· =g) W w1:=HR.out.tr (aa.ah hx1 fun x h=>by have h1:=(TH.out.keeps HR.out rfl).1;rw[show x=g from h];exact h1);have H3':Hid (m=0\/ba=some ⟨gb,0,none⟩/\T' gb/\∀ i c:Nat,bs[i]? =some c->w1.cell? ⟨gb,i,none⟩=some (.int .u8 c)):=by
    by_cases DA:m=0
    ·exact .inl DA
    ·rcases H3.out with h | ⟨h1,_,_,h4⟩
     ·exact absurd h DA
     ·exact .inr ⟨h1,by rw[Ld];exact .inr ⟨by omega,rfl⟩,h4⟩
   have HJ1:=hid hj1;have Xv:=hid sU;have Wi:=hid hTb;clear Ld hx1 hsz hTb hj1 sU H3 H2 HJo HT HR d0 d1 d2 d3 HBs
   gi_loopw [20] (fun i w2=>∃ j:Nat,j<=m/\i=.int .i64 j/\J (bO (p.take k)++(bs.take j).map fun c=>(k,c)) T' w2/\aa (fun x=>x=g\/T' x) w1 w2) (fun i _=>m-(intOf i).toNat)
   case atStart=>
    refine⟨0,by omega,rfl,?_,aa.refl _ _⟩;rw[List.take_zero,List.map_nil,List.append_nil];exact HJ1.out
   case round=>
    obtain⟨w2,rfl⟩:∃ w2:World,w2=wr:=⟨_,rfl⟩;obtain⟨j,hj,rfl,TI,PI⟩:=hrel;have Wj:=hid TI;have DB:=hid PI;clear TI PI HJ1;by_cases Dx:j<m
    ·obtain⟨TJ,hg,hcb⟩:=H3'.out.resolve_left (by omega)
     subst TJ;obtain⟨c,hc⟩:∃ c,bs[j]? =some c:=⟨_,List.getElem?_eq_getElem (by have:=HM.out;omega)⟩;have fP:c<256:=HBL.out c (List.mem_of_getElem? hc);have e0:w2.cell? ⟨gb,j,none⟩=some (.int .u8 c):=(DB.out.cell (p:=⟨gb,j,none⟩) (.inr hg)).trans (hcb j c hc);have dw:(bs.take (j+1)).map (fun c=>(k,c))=(bs.take j).map (fun c=>(k,c))++ [(k,c)]:=by rw[List.take_add_one,hc];simp
     have JU:(bO (p.take k)++(bs.take j).map fun c=>(k,c))++ [(k,c)]<+:bO p:=by have:=Lb.out (j+1);rw[dw, <-List.append_assoc]at this;exact this
     obtain⟨fn,tm,zV,bd,hy,Ap⟩:=HY.out _ (k,c) T' w2 JU (fun x hx=>⟨(Wi.out x hx).1,Nat.lt_of_lt_of_le (Wi.out x hx).2 DB.out.size⟩) (Xv.out.tr (DB.out.mono fun x hx=>.inl hx)) Wj.out;have JV:=hid Ap;have jW:=hid dw;have HPJ:=hid JU;clear Ap hg hcb hc dw JU;dsimp only at hy
     gi_wp2
     refine JV.out.mono ?_;rintro e W2 (⟨rfl,iz,hk2⟩ | ⟨rfl,iz,hk2⟩)
     ·have si:=hid iz
      have qb:=hid hk2;clear iz hk2 hy
      gi_wp2
      go_roundw
      case rel=>
       refine⟨j+1,by omega,by go_num,?_,DB.out.tr (qb.out)⟩;rw[jW.out, <-List.append_assoc];exact si.out
      case measure=>simp[intOf];omega
     ·have si:=hid iz
      have qb:=hid hk2;clear iz hk2 hy
      gi_wp2
      refine bodyPost_ret (results_none rfl _ _ _) rfl ?_;exact⟨⟨_,rfl⟩,T',fun x hx=>⟨(Wi.out x hx).1,Nat.lt_of_lt_of_le (Wi.out x hx).2 (Nat.le_trans DB.out.size qb.out.size)⟩,.inr ⟨_,HPJ.out,si.out⟩⟩
    ·obtain rfl:j=m:=by omega
     gi_wp2
     go_roundw
     case rel=>
      refine⟨k+1,T',by omega,by go_num,?_,fun x hx=>⟨(Wi.out x hx).1,Nat.lt_of_lt_of_le (Wi.out x hx).2 DB.out.size⟩,Xv.out.tr (DB.out.mono fun x hx=>.inl hx)⟩;rw[HPT.out];have:=Wj.out;rwa[HM.out,List.take_length]at this
     case measure=>simp[intOf];omega
  ·obtain rfl:k=n:=by omega
   gi_wp2
   refine bodyPost_end (results_none rfl _ _ _) rfl ?_;refine⟨⟨_,rfl⟩,T,HT.out,.inl ?_⟩;have:=HJo.out;rwa[HP.out,List.take_length]at this
theorem vM {w:World} {base n:Nat} {v:Value} {p:List BS} (h:w.ownsRow base 70 4 v n (aD p)) (hn:n=p.length):∃ sa cap,v=.slice sa n cap/\((p=[]/\n=0)\/∃ g,sY w g sa p):=by
 rcases h.2 with⟨h1,h2⟩ | ⟨g,cap,cur,hv,hb,hg,_⟩
 ·exact⟨none,0,by rw[h1,h2],.inl ⟨List.eq_nil_of_length_eq_zero (by omega),h2⟩⟩
 ·refine⟨_,cap,hv,.inr ⟨g,(Array.getElem?_eq_some_iff.1 hg).1,fun i s hi=>?_⟩⟩
  obtain⟨g',cap',h6,h7,h8,h9⟩:=j4 h hn hi;rw[hv]at h6;cases h6;exact⟨rfl,h9⟩
theorem yl (v:Value):Tryz.zeroCells143.setIfInBounds 256 v=eG (cS []) v:=by kernel_rfl
theorem Lk (p:List BS) (v:Value) (base:Nat) (w:World) (h:w.ownsRow base 70 4 v p.length (aD p)) (hb:base<=w.heap.size) (hp:p.length<=256): Calls Tryz.prog 76 #[v] w fun e w'=>∃ b,e=.returned (.pointer (some ⟨b,0,none⟩))/\fe w' base (.pointer (some ⟨b,0,none⟩)) p/\Below w.heap.size w w':=by
 have eg:∀ args w,(callFunc 150 args).run Tryz.prog w=.ok (.enter 150 args) w:=enters_of Tryz.func150 (by kernel_rfl) rfl;obtain⟨n,hn⟩:∃ n,n=p.length:=⟨_,rfl⟩;rw[<-hn]at h;obtain⟨sa,cap,rfl,hrow⟩:=vM h hn;have H:=hid h;have HR:=hid hrow;have HN:=hid hn;have HP:=hid hp;have HB:=hid hb;clear h hrow hn hp hb;refine bD Tryz.func76 rfl ?_;simp only[Tryz.ntmps76,List.size_toArray,List.length_cons,List.length_nil,Nat.reduceAdd,Nat.reduceSub,Array.replicate_succ,Array.replicate_zero,List.push_toArray,List.append_toArray,List.nil_append,List.cons_append];go_wp2_with (go_at_call 116;refine(yj _ _).mono ?_;rintro e w1 ⟨rfl,rfl⟩);rw[yl];refine au ?_;intro W0 hW0;have hab:ak W0 w.heap.size (eG (cS []) (.slice sa n cap)) 143:=by rw[hW0];exact((ak.new _ _ _).alloc _).alloc _
 have vu:ak W0 (w.heap.size+1) #[.pointer (some ⟨w.heap.size,0,none⟩)] 89:=by rw[hW0];exact((ak.new _ _ _).at (by simp)).alloc _
 have fw:ak W0 (w.heap.size+1+1) #[.pointer (some ⟨w.heap.size,0,none⟩)] 89:=by rw[hW0];exact(ak.new _ _ _).at (by simp)
 have hx0:Ext w W0:=by rw[hW0];exact(((Ext.refl w).alloc _).alloc _).alloc _
 have hsz:W0.heap.size=w.heap.size+1+1+1:=by rw[hW0];simp
 clear hW0;obtain⟨g,hg,hr⟩:∃ g,(g≠w.heap.size/\g≠w.heap.size+1/\g<W0.heap.size)/\sY W0 g sa p:=by
  rcases HR.out with⟨h1,_⟩ | ⟨g,h1⟩
  ·exact⟨w.heap.size+1+1,⟨by omega,by omega,by omega⟩,by omega,fun i s hi=>by rw[h1]at hi;simp at hi⟩
  ·exact⟨g,⟨by have:=h1.1;omega,by have:=h1.1;omega,by have:=h1.1;omega⟩,h1.keeps hx0.keeps h1.1⟩
 have hseq:=AG p (w.heap.size+1+1) w.heap.size g n cap sa W0 HN.out HP.out (fw.cell 0) fw.lt (by rw[hab.cell 256,oU (dU _)]) hab.lt hr;clear hr fw;refine fT hseq (by rfl) eg (by intro _;rfl) (by intro k hk;rw[show k=g from hk];exact hg.2.2)
  (fun xs _ W=>ak W w.heap.size (eG (cS xs) (.slice sa n cap)) 143/\ak W (w.heap.size+1) #[.pointer (some ⟨w.heap.size,0,none⟩)] 89/\Below w.heap.size w W)
  (fun _ _ _ _=>False)
  (fun xs T T' W W' ⟨h1,h2,h3⟩ hT _ _ _ hk=>⟨h1.kX hT hk (by omega),h2.kX hT hk (by omega),fS h3 hT hk (Nat.le_refl _) (by omega)⟩)
  (fun c xs T T' W W' h=>h.elim)
  ⟨hab,vu,hx0.below⟩
  (fun x=>⟨#[.slice sa n cap,undef,.pointer none,.pointer (some ⟨w.heap.size+1,0,none⟩),.int .i64 x.1,.int .u8 x.2,.slice sa n cap,.agg (eG (cS []) (.slice sa n cap)),.pointer (some ⟨w.heap.size,0,none⟩),.pointer (some ⟨w.heap.size,0,none⟩),
   .func (.func 150) #[] #[.pointer (some ⟨w.heap.size+1+1,0,none⟩)],.int .i64 x.1,.int .u8 x.2,undef,undef,undef,undef,undef,undef,undef,undef],[]⟩) ?assign ?body ?done ?stop
 case assign=>
  intro l x W K hK
  gi_wp2
  exact hK
 case body=>
  rintro l pre ⟨k,c⟩ T W bp hT _ vA hl ⟨g1,g2,g3⟩;have sZ:(k,c)∈bO p:=bp.subset (by simp);obtain⟨s,h1,fP,_⟩:=lj.1 sZ;have afR:k<256:=by have:=(List.getElem?_eq_some_iff.1 h1).1;have:=HP.out;dsimp only at*;omega
  dsimp only at fP;obtain⟨y,hy⟩:∃ y,(cS pre)[c]? =some y:=⟨_,List.getElem?_eq_getElem (by rw[dU];exact fP)⟩;have c0:W.cell? ⟨w.heap.size+1,0,none⟩=some (.pointer (some ⟨w.heap.size,0,none⟩)):=g2.cell 0;have c1:W.cell? ⟨w.heap.size,c,none⟩=some (.int .u8 y):=(g1.cell c).trans (qV hy);have f1:=g1.frozen c;have mR:=g1.set c (.int .u8 k);rw[AD (by rw[dU];exact fP)]at mR;have OI:=oT pre (k,c);rw[<-OI]at mR;have Es:=hid mR;have HG2:=hid (g2.other (p:=⟨w.heap.size,c,none⟩) (by simp) (.int .u8 k));have HG3:=hid (g3.setCell (p:=⟨w.heap.size,c,none⟩) (Nat.le_refl _) (.int .u8 k));have HT:=hid hT;have HG:=hid hg;have jZ:=hid hsz;clear mR OI g1 g2 g3 hT hy h1 sZ vA hl hg hsz hab vu hx0 bp hseq
  gi_wp2
  refine⟨(aa.refl _ _).setCell (fun h=>?_) _,Es.out,HG2.out,HG3.out⟩;have hgg:=HG.out;have hss:=jZ.out;rcases h with h | h
  ·exact hgg.1 h.symm
  ·have:=(HT.out _ h).1;dsimp only at this;omega
 case done=>
  rintro D T W hD vD hT ⟨g1,g2,g3⟩ kO;have c0:W.cell? ⟨w.heap.size+1,0,none⟩=some (.pointer (some ⟨w.heap.size,0,none⟩)):=g2.cell 0;have G1:=hid g1;have G3:=hid g3;have HD:=hid hD;have jZ:=hid hsz;have vt:=hid kO;clear g1 g2 g3 hsz hT vD kO hD hg hab vu hx0 hseq;dsimp only;go_wp2;refine cm rfl vt.out (results_tmp rfl _ _ _) ⟨_,rfl,.inr ⟨_,_,rfl,HB.out,G1.out.put (by have:=HD.out;have:=jZ.out;omega) _,?_,HP.out⟩,((aa.ah G3.out (fun _ h=>h)).putObj (by have:=HD.out;have:=jZ.out;omega) _).below⟩;have h1:=ae H.out (aa.ah G3.out fun _ h=>h) (fun k e=>(H.out.lt k e).2);rw[HN.out]at h1;rw[<-HN.out,HN.out];exact ownsRow_putObj h1 _ vt.out rfl
 case stop=>rintro D c pre T W _ _ _ _ h _;exact h.elim
end Go.Proofs.YtbiboekhakbnpaaGreatDoor
namespace Go.Proofs.YtbiboekhakbnpaaGreatDoor
open Go Go.RowKit Go.Shelf Go.Maps
attribute [local go_sem] encS
theorem bg.below {α:Type} {enc:α->Value} {w w':World} {v:Value} {l:List α} (h:bg enc w v l) (hk:Below w.heap.size w w'):bg enc w' v l:=by
 rcases h with h | ⟨b,off,cap,hv,hb,hc,h⟩
 ·exact .inl h
 ·exact .inr ⟨b,off,cap,hv,Nat.lt_of_lt_of_le hb hk.size,hc,fun i x hi=>(hk.cell (p:=⟨b,off+i,none⟩) hb).trans (h i x hi)⟩
theorem bg.form {α:Type} {enc:α->Value} {w:World} {v:Value} {l:List α} (h:bg enc w v l):∃ a cap,v=.slice a l.length cap:=by
 rcases h with⟨h,rfl⟩ | ⟨b,off,cap,hv,_⟩
 ·exact⟨_,_,h⟩
 ·exact⟨_,_,hv⟩
theorem bg.elem {α:Type} {enc:α->Value} {w:World} {a:Option Addr} {n cap:Nat} {l:List α} (h:bg enc w (.slice a n cap) l) {i:Nat} {x:α} (hi:l[i]? =some x):∃ b off,a=some ⟨b,off,none⟩/\b<w.heap.size/\w.cell? ⟨b,off+i,none⟩=some (enc x):=by
 rcases h with⟨_,rfl⟩ | ⟨b,off,cap,hv,hb,hc,h⟩
 ·simp at hi
 ·cases hv;exact⟨b,off,rfl,hb,h i x hi⟩
theorem cH {α:Type} {enc:α->Value} {w:World} {base n:Nat} {v:Value} {e:TypeId} {l:List α} (h:w.ownsRow base e 1 v n (l.map enc)) (hn:n=l.length):bg enc w v l:=by
 rcases h.2 with⟨h1,h2⟩ | ⟨g,cap,cur,hv,hb,hg,hc,_,hs,ht⟩
 ·exact .inl ⟨h1,List.eq_nil_of_length_eq_zero (by omega)⟩
 ·refine .inr ⟨g,0,cap,by rw[hv,hn],(Array.getElem?_eq_some_iff.1 hg).1,by omega,fun i x hi=>?_⟩
  have hlt:i<l.length:=(List.getElem?_eq_some_iff.1 hi).1;have hc:w.cell? ⟨g,0+i,none⟩=cur[i]? :=by simp[World.cell?,hg]
  have h3:cur[i]? =(l.map enc)[i]? :=by rw[<-ht,List.getElem?_take,if_pos (by omega)];simp
  rw[hc,h3,List.getElem?_map,hi];rfl
theorem Tryz.qW:(Tryz.prog.info? 3).map (fun i=>(i.zero,i.size,i.bytes))=some (some (.int .i64 0),1,8):=by kernel_rfl
def jr (n:Nat):Value:=.int .i64 n
def aF (k:Int):Value:=.int .i64 k
theorem AH (l:List BS):(partsOf l).length<=256:=by unfold partsOf;rw[List.length_mergeSort];exact eo l
theorem s4 (l:List BS) (v0:Value) (w:World) (hl:cd w v0 l) (hlen:l.length<=9223372036854775807): Calls Tryz.prog 41 #[v0] w fun e w'=>∃ b,e=.returned (.pointer (some ⟨b,0,none⟩))/\fe w' w.heap.size (.pointer (some ⟨b,0,none⟩)) (partsOf l)/\Below w.heap.size w w':=by have HP:=hid (wI l v0 w hl hlen);have HL:=hid (AH l);clear hl;generalize partsOf l=p at HP HL ⊢;go_enter Tryz.func41,Tryz.ntmps41;go_wp2_with (first | (go_at_call 50;refine HP.out.mono ?_;rintro e w1 ⟨v1,rfl,h1,h2⟩;have H1:=hid h1;have H2:=hid h2;clear h1 h2) | (go_at_call 76;refine(Lk p _ w.heap.size _ H1.out H2.out.size HL.out).mono ?_;rintro e w2 ⟨b,rfl,h1,h2⟩;have H3:=hid h1;have H4:=hid h2;clear h1 h2));go_ret;exact⟨b,rfl,H3.out,H2.out.trans (H4.out.mono H2.out.size)⟩
end Go.Proofs.YtbiboekhakbnpaaGreatDoor
namespace Go.Proofs.YtbiboekhakbnpaaGreatDoor
open Go Go.RowKit Go.Shelf Go.Maps
attribute [local go_sem] encS
end Go.Proofs.YtbiboekhakbnpaaGreatDoor
namespace Go.Proofs.YtbiboekhakbnpaaGreatDoor
open Go Go.RowKit Go.Shelf Go.Maps
attribute [local go_sem] encS
end Go.Proofs.YtbiboekhakbnpaaGreatDoor
namespace Go.Proofs.YtbiboekhakbnpaaGreatDoor
open Go Go.RowKit Go.Shelf Go.Maps
attribute [local go_sem] encS
end Go.Proofs.YtbiboekhakbnpaaGreatDoor
namespace Go.Proofs.YtbiboekhakbnpaaGreatDoor
open Go Go.RowKit Go.Shelf Go.Maps
def bB (p:List BS):Array Value:=((mZ p).map fun (n:Nat)=>Value.int .u8 n).toArray
theorem aN (p:List BS):(bB p).size=256:=by unfold bB;simp[gW]
theorem j5 (p:List BS) {c:Nat} (hc:c<256):(bB p)[c]? =some (.int .u8 (cls p c)):=by unfold bB;rw[List.getElem?_toArray,List.getElem?_map,sq p hc];rfl
theorem iC:Tryz.zeroCells102=bB []:=by kernel_rfl
theorem gL:(Tryz.prog.info? 102).map (·.size)=some 256:=by kernel_rfl
theorem iD (p:List BS):(bB p).all (·.oneCell')=true:=by unfold bB;simp[Value.oneCell']
theorem Ie (v:Value) (base:Nat) (p:List BS) (w:World) (h:fe w base v p): Calls Tryz.prog 84 #[v] w fun e w'=>e=.returned (.agg (bB p))/\Ext w w':=by
 have hsz:=gL;cases p with
 | nil=>
  have HN:=hid fun W h=>oV v base [] W h
  have H:=hid h;have hz:=iC;have hst:=run_storeCells_new (P:=Tryz.prog) w 102 (bB []) (bB []) (by rw[aN];exact hsz) rfl (iD _);have hs0:=aN [];clear h hsz;go_enter Tryz.func84,Tryz.ntmps84;go_wp2_with fail
  refine(HN.out _ (H.out.below ((Ext.refl _).alloc _).below)).mono ?_;rintro e w' ⟨rfl,hw⟩;replace hw:=hw.symm;subst hw;go_wp2;refine bodyPost_ret (results_cell_row rfl _ _ w.heap.size 102 (bB []) (0,0) _ rfl (World.alloc_heap_new _ _) Tryz.underlying102 rfl (by rw[aN];exact gL)) rfl ⟨rfl,(Ext.refl _).alloc _⟩
 | cons s p=>
  obtain⟨b,sa,cap,rfl,_,ht,_,hb,_⟩:=h.some;have hr:w.rangeAt b 0 (bB (s::p)).toList:=fun j u hj=>by
   have RZ:j<256:=by have:=(List.getElem?_eq_some_iff.1 hj).1;simpa[aN]using this
   rw[Array.getElem?_toList,j5 _ RZ]at hj;cases hj;rw[Nat.zero_add];exact ht j _ (sq _ RZ)
  have HR:Hid (∀ c:Array Value,(w.alloc (.cells c 102)).rangeAt b 0 (bB (s::p)).toList):=fun c j u hj=>(((Ext.refl w).alloc _).cell (p:=⟨b,0+j,none⟩) hb).trans (hr j u hj)
  have HN:=hid fun W (h:fe W base (.pointer (some ⟨b,0,none⟩)) (s::p))=>oV _ base (s::p) W h
  have H:=hid h;have hz:=iC;have hst:=run_storeCells_new (P:=Tryz.prog) w 102 (bB []) (bB (s::p)) (by rw[aN];exact hsz) (by rw[aN,aN]) (iD _);clear h hsz ht hr;generalize hq:s::p=q at*;have HQ:=hid (show q.isEmpty=false by rw[<-hq];rfl);clear hq;have hs0:=aN q;go_enter Tryz.func84,Tryz.ntmps84;go_wp2_with fail
  refine(HN.out _ (H.out.below ((Ext.refl _).alloc _).below)).mono ?_;rintro e w' ⟨rfl,hw⟩;replace hw:=hw.symm;subst hw;rw[HQ.out];go_wp2_with (refine wpList_load_mid rfl 102 (.tmp 8) rfl b 0 rfl (bB q).toList _ (HR.out _) Tryz.underlying102 rfl (by rw[Array.length_toList,aN];exact gL) ?_);refine bodyPost_ret (results_cell_row rfl _ _ w.heap.size 102 (bB q) (0,0) _ rfl (World.alloc_heap_new _ _) Tryz.underlying102 rfl (by rw[aN];exact gL)) rfl ⟨rfl,(Ext.refl _).alloc _⟩
theorem lq (l:List BS):∀ u∈aD l,u.oneCell'=true:=by intro u hu;unfold aD at hu;obtain⟨s,_,hs⟩:=List.mem_flatMap.1 hu;simp[encS]at hs;rcases hs with rfl | rfl | rfl | rfl<;>rfl
end Go.Proofs.YtbiboekhakbnpaaGreatDoor
