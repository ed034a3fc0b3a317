/- Walks of package alphabet: Join. -/
import Derived.Test.YtalombmiochpmaaGreatDoorOR03
import Derived.Deep.WholeRow
set_option maxRecDepth 100000
set_option maxHeartbeats 16000000
open Go.Lib (hid)
namespace Go.Proofs.YtalombmiochpmaaGreatDoor
section
open Go Go.RowKit Go.Shelf Go.Maps
def cH (p:List BS):List (Nat×Nat):=p.zipIdx.flatMap fun x=>(bF x.1 256).map fun c=>(x.2,c)
theorem GY:cH []=[]:=rfl
theorem Em (p:List BS) (s:BS):cH (p++ [s])=cH p++(bF s 256).map fun c=>(p.length,c):=by unfold cH;rw[List.zipIdx_append];simp
theorem tj {p:List BS} {k:Nat} {s:BS} (h:p[k]? =some s):cH (p.take (k+1))=cH (p.take k)++(bF s 256).map fun c=>(k,c):=by have hk:k<p.length:=(List.getElem?_eq_some_iff.1 h).1;rw[List.take_add_one,h];show cH (p.take k++ [s])=_;rw[Em,List.length_take,Nat.min_eq_left (by omega)]
theorem yi {p:List BS} {k:Nat} {s:BS} (h:p[k]? =some s) (j:Nat):cH (p.take k)++((bF s 256).take j).map (fun c=>(k,c))<+:cH p:=by
 have h1:cH (p.take (k+1))<+:cH p:=by
  have:p=p.take (k+1)++p.drop (k+1):=(List.take_append_drop _ _).symm;have h2:∀ (a b:List BS),cH a<+:cH (a++b):=by intro a b;unfold cH;rw[List.zipIdx_append,List.flatMap_append];exact List.prefix_append _ _
  conv=>rhs;rw[this]
  exact h2 _ _
 refine List.IsPrefix.trans ?_ h1;rw[tj h];exact(List.prefix_append_right_inj _).2 (List.IsPrefix.map _ (List.take_prefix _ _))
theorem Kc {s:BS} {n c:Nat} (h:c∈bF s n):c<n:=by unfold bF at h;simp at h;exact h.1
theorem pA {p:List BS} {x:Nat×Nat} :x∈cH p↔ ∃ s,p[x.1]? =some s/\x.2<256/\s.getLsbD x.2=true:=by
 unfold cH;simp only[List.mem_flatMap,List.mem_map,Prod.exists,List.mem_zipIdx_iff_getElem?,bF];constructor
 ·rintro⟨s,k,h1,c,h2,rfl⟩
  simp at h2;exact⟨s,h1,h2⟩
 ·rintro⟨s,h1,h2,h3⟩
  exact⟨s,x.1,h1,x.2,by simp[h2,h3],rfl⟩
def ed (l:List (Nat×Nat)):List Nat:=l.foldl (fun t x=>t.set x.2 x.1) (List.replicate 256 0)
theorem uQ (l:List (Nat×Nat)):∀ (t:List Nat),(l.foldl (fun t x=>t.set x.2 x.1) t).length=t.length:=by
 induction l with
 | nil=>intro t;rfl
 | cons x l ih=>intro t;simp[ih]
theorem fD (l:List (Nat×Nat)):(ed l).length=256:=by unfold ed;rw[uQ,List.length_replicate]
theorem vO:ed []=List.replicate 256 0:=rfl
theorem tk (l:List (Nat×Nat)) (x:Nat×Nat):ed (l++ [x])=(ed l).set x.2 x.1:=by unfold ed;rw[List.foldl_append];rfl
def pB (p:List BS):List Nat:=ed (cH p)
theorem iH (p:List BS):(pB p).length=256:=fD _
theorem GZ (l:List (Nat×Nat)) (c:Nat) (hc:c<256):(∃ x∈l,x.2=c/\(ed l)[c]? =some x.1)\/((∀ x∈l,x.2≠c)/\(ed l)[c]? =some 0):=by
 suffices ∀ r:List (Nat×Nat),(∃ x∈r.reverse,x.2=c/\(ed r.reverse)[c]? =some x.1)\/((∀ x∈r.reverse,x.2≠c)/\(ed r.reverse)[c]? =some 0) by
  have:=this l.reverse;rwa[List.reverse_reverse]at this
 intro r;induction r with
 | nil=>right;rw[List.reverse_nil,vO,List.getElem?_replicate,if_pos hc];exact⟨fun x hx=>absurd hx (List.not_mem_nil),rfl⟩
 | cons x r ih=>
  rw[List.reverse_cons,tk];by_cases hx:x.2=c
  ·left
   refine⟨x,by simp,hx,?_⟩;rw[List.getElem?_set,if_pos hx,if_pos (by rw[fD,hx];exact hc)]
  ·rw[List.getElem?_set,if_neg hx]
   rcases ih with⟨y,h1,h2,h3⟩ | ⟨h1,h2⟩
   ·exact .inl ⟨y,by simp only[List.mem_append];exact .inl h1,h2,h3⟩
   ·refine .inr ⟨fun y hy=>?_,h2⟩
    simp only[List.mem_append,List.mem_singleton]at hy;rcases hy with hy | rfl
    ·exact h1 y hy
    ·exact hx
theorem uR (p:List BS) (c:Nat) (hc:c<256):(∃ k s,p[k]? =some s/\s.getLsbD c=true/\(pB p)[c]? =some k)\/((∀ s∈p,s.getLsbD c=false)/\(pB p)[c]? =some 0):=by
 rcases GZ (cH p) c hc with⟨x,h1,h2,h3⟩ | ⟨h1,h2⟩
 ·obtain⟨s,h4,h5,h6⟩:=pA.1 h1
  exact .inl ⟨x.1,s,h4,by rw[<-h2];exact h6,h3⟩
 ·refine .inr ⟨fun s hs=>?_,h2⟩
  obtain⟨k,hk⟩:=List.getElem?_of_mem hs;cases hb:s.getLsbD c with
  | false=>rfl
  | true=>exact absurd rfl (h1 (k,c) (pA.2 ⟨s,hk,hc,hb⟩))
theorem Ri (p:List BS) (c:Nat) (hc:c<256) (hp:p.length<=256):∃ k,(pB p)[c]? =some k/\k<256/\(k<p.length\/k=0):=by
 rcases uR p c hc with⟨k,s,h1,_,h3⟩ | ⟨_,h2⟩
 ·have:=(List.getElem?_eq_some_iff.1 h1).1
  exact⟨k,h3,by omega,.inl this⟩
 ·exact⟨0,h2,by omega,.inr rfl⟩
def gQ (t:List Nat) (v:Value):Array Value:=((t.map fun (n:Nat)=>Value.int .u8 n)++ [v]).toArray
theorem vP {t:List Nat} {v:Value} {c k:Nat} (h:t[c]? =some k):(gQ t v)[c]? =some (.int .u8 k):=by have hc:=(List.getElem?_eq_some_iff.1 h).1;unfold gQ;simp only[List.getElem?_toArray];rw[List.getElem?_append_left (by simpa using hc),List.getElem?_map,h];rfl
theorem nD {t:List Nat} {v:Value} (h:t.length=256):(gQ t v)[256]? =some v:=by unfold gQ;simp only[List.getElem?_toArray];rw[List.getElem?_append_right (by simp[h])];simp[h]
theorem G5 {t:List Nat} {v:Value} {c k:Nat} (h:c<t.length):(gQ t v).setIfInBounds c (.int .u8 k)=gQ (t.set c k) v:=by unfold gQ;simp[h,List.map_set]
def cZ (w:World) (base:Nat) (v:Value) (p:List BS):Prop:=
 (v=.pointer none/\p=[])\/∃ b sl,v=.pointer (some ⟨b,0,none⟩)/\base<=b/\ah w b (gQ (pB p) sl) 153/\w.ownsRow base 59 4 sl p.length (aN p)/\p.length<=256
theorem cZ.keeps {w w':World} {base:Nat} {v:Value} {p:List BS} (h:cZ w base v p) {R:Nat->Prop} (hk:aa R w w') (hr:∀ k,base<=k->k<w.heap.size->R k):cZ w' base v p:=by
 rcases h with h | ⟨b,sl,h1,h2,h3,h4,h5⟩
 ·exact .inl h
 ·exact .inr ⟨b,sl,h1,h2,h3.keeps hk (hr b h2 h3.lt),aj h4 hk fun k e=>hr k (h4.lt k e).1 (h4.lt k e).2,h5⟩
theorem cZ.below {w w':World} {base:Nat} {v:Value} {p:List BS} (h:cZ w base v p) (hk:Below w.heap.size w w'):cZ w' base v p:=h.keeps (aa.ag hk fun _ h=>h) (fun _ _ h=>h)
theorem cZ.base {w:World} {base base':Nat} {v:Value} {p:List BS} (h:cZ w base v p) (hb:base'<=base):cZ w base' v p:=by
 rcases h with h | ⟨b,sl,h1,h2,h3,h4,h5⟩
 ·exact .inl h
 ·exact .inr ⟨b,sl,h1,Nat.le_trans hb h2,h3,aA h4 hb,h5⟩
theorem cZ.le {w:World} {base:Nat} {v:Value} {p:List BS} (h:cZ w base v p):p.length<=256:=by
 rcases h with⟨_,rfl⟩ | ⟨b,sl,h1,h2,h3,h4,h5⟩
 ·simp
 ·exact h5
attribute [local go_sem] encS
theorem cZ.form {w:World} {base:Nat} {v:Value} {p:List BS} (h:cZ w base v p):(v=.pointer none/\p=[])\/∃ b sa cap,v=.pointer (some ⟨b,0,none⟩)/\w.cell? ⟨b,256,none⟩=some (.slice sa p.length cap)/\ (∀ c k:Nat,(pB p)[c]? =some k->w.cell? ⟨b,c,none⟩=some (.int .u8 k))/\base<=b/\b<w.heap.size/\ ∀ i s,p[i]? =some s->∃ g,sa=some ⟨g,0,none⟩/\base<=g/\g<w.heap.size/\∀ j,j<4->w.cell? ⟨g,i*4+j,none⟩=(encS s)[j]? :=by
 rcases h with h | ⟨b,sl,h1,h2,h3,h4,h5⟩
 ·exact .inl h
 ·obtain⟨sa,cap,rfl⟩:=ownsRow_form h4
  refine .inr ⟨b,sa,cap,h1,?_,fun c k hk=>?_,h2,h3.lt,fun i s hi=>?_⟩
  ·have hn:(Value.slice sa p.length cap)=.slice sa p.length cap:=rfl
   have:=h3.cell 256;rw[nD (iH p)]at this;exact this
  ·rw[h3.cell c,vP hk]
  ·obtain⟨g,cap',h6,h7,h8,h9⟩:=jU h4 rfl hi
   cases h6
   exact⟨g,rfl,h7,h8,h9⟩
theorem kp (v:Value) (base:Nat) (p:List BS) (w:World) (h:cZ w base v p): Calls Tryz.prog 83 #[v] w fun e w'=>e=.returned (.bool p.isEmpty)/\w'=w:=by
 rcases h.form with⟨rfl,rfl⟩ | ⟨b,sa,cap,rfl,c0,_⟩
 ·clear h
  go_enter Tryz.func83,Tryz.ntmps83
  go_wp2;go_ret;exact⟨rfl,rfl⟩
 ·clear h
  cases p with
  | nil=>
   go_enter Tryz.func83,Tryz.ntmps83
   go_wp2;go_ret;exact⟨rfl,rfl⟩
  | cons s p=>
   go_enter Tryz.func83,Tryz.ntmps83
   go_wp2;go_ret;exact⟨rfl,rfl⟩
theorem Mq (v:Value) (base:Nat) (p:List BS) (w:World) (h:cZ w base v p): Calls Tryz.prog 62 #[v] w fun e w'=>e=.returned (.int .i64 p.length)/\w'=w:=by
 have hn:=kp v base p w h;rcases h.form with⟨rfl,rfl⟩ | ⟨b,sa,cap,rfl,c0,_⟩
 ·have HN:=hid hn
  clear h hn;go_enter Tryz.func62,Tryz.ntmps62;go_wp2_with (go_at_call 83;refine HN.out.mono ?_;rintro e w1 ⟨rfl,rfl⟩);go_ret;exact⟨rfl,rfl⟩
 ·cases p with
  | nil=>
   have HN:=hid hn;clear h hn;go_enter Tryz.func62,Tryz.ntmps62;go_wp2_with (go_at_call 83;refine HN.out.mono ?_;rintro e w1 ⟨rfl,rfl⟩);go_ret;exact⟨rfl,rfl⟩
  | cons s p=>
   have HN:=hid hn;clear h hn;go_enter Tryz.func62,Tryz.ntmps62;go_wp2_with (go_at_call 83;refine HN.out.mono ?_;rintro e w1 ⟨rfl,rfl⟩);go_ret;exact⟨rfl,rfl⟩
def cls (p:List BS) (c:Nat):Nat:=(pB p)[c]?.getD 0
theorem tu (p:List BS) {c:Nat} (hc:c<256):(pB p)[c]? =some (cls p c):=by unfold cls;rw[List.getElem?_eq_getElem (by rw[iH];exact hc)];rfl
theorem Mr (c:Nat):cls [] c=0:=by unfold cls pB;rw[GY,vO,List.getElem?_replicate];split<;>rfl
theorem cU (p:List BS) (c:Nat) (hp:p.length<=256):cls p c<256:=by
 by_cases hc:c<256
 ·obtain⟨k,h1,h2,_⟩:=Ri p c hc hp
  unfold cls;rw[h1];exact h2
 ·unfold cls;rw[List.getElem?_eq_none (by rw[iH];omega)];decide
theorem Cb (v:Value) (base:Nat) (p:List BS) (c:Nat) (hc:c<256) (w:World) (h:cZ w base v p): Calls Tryz.prog 65 #[v,.int .u8 c] w fun e w'=>e=.returned (.int .i64 (cls p c))/\w'=w:=by
 have hn:=kp v base p w h;have hlt:=cU p c h.le;rcases h.form with⟨rfl,rfl⟩ | ⟨b,sa,cap,rfl,c0,ht,_⟩
 ·have HN:=hid hn
  clear h hn hlt;go_enter Tryz.func65,Tryz.ntmps65;go_wp2_with (go_at_call 83;refine HN.out.mono ?_;rintro e w1 ⟨rfl,rfl⟩);go_ret;exact⟨by rw[Mr];rfl,rfl⟩
 ·have c1:=ht c _ (tu p hc)
  cases p with
  | nil=>
   have HN:=hid hn;clear h hn ht;go_enter Tryz.func65,Tryz.ntmps65;go_wp2_with (go_at_call 83;refine HN.out.mono ?_;rintro e w1 ⟨rfl,rfl⟩);go_ret;exact⟨by rw[Mr];rfl,rfl⟩
  | cons s p=>
   have HN:=hid hn;clear h hn ht;generalize cls (s::p) c=z at c1 hlt ⊢;go_enter Tryz.func65,Tryz.ntmps65;go_wp2_with (go_at_call 83;refine HN.out.mono ?_;rintro e w1 ⟨rfl,rfl⟩);go_ret;exact⟨rfl,rfl⟩
theorem cZ.some {w:World} {base:Nat} {v:Value} {s:BS} {p:List BS} (h:cZ w base v (s::p)):∃ b sa cap,v=.pointer (some ⟨b,0,none⟩)/\w.cell? ⟨b,256,none⟩=some (.slice sa (s::p).length cap)/\ (∀ c k:Nat,(pB (s::p))[c]? =some k->w.cell? ⟨b,c,none⟩=some (.int .u8 k))/\base<=b/\b<w.heap.size/\ ∀ i s',(s::p)[i]? =some s'->∃ g,sa=some ⟨g,0,none⟩/\base<=g/\g<w.heap.size/\∀ j,j<4->w.cell? ⟨g,i*4+j,none⟩=(encS s')[j]? :=by
 rcases h.form with⟨_,h⟩ | h
 ·cases h
 ·exact h
def setOf (p:List BS) (k:Int):Option BS:=if 0<=k then p[k.toNat]? else none
theorem NB (k:Int):setOf [] k=none:=by unfold setOf;split<;>simp
theorem NC (p:List BS) {k:Int} (h:k<0):setOf p k=none:=by unfold setOf;rw[if_neg (by omega)]
theorem Kd (p:List BS) {k:Int} (h:(p.length:Int)<=k):setOf p k=none:=by unfold setOf;rw[if_pos (by omega),List.getElem?_eq_none (by omega)]
theorem qN (p:List BS) (k:Nat):setOf p k=p[k]? :=by unfold setOf;rw[if_pos (by omega),Int.toNat_natCast]
theorem G6 (p:List BS) (k:Int):(setOf p k=none/\(k<0\/(p.length:Int)<=k))\/∃ (n:Nat) (s:BS),k=n/\n<p.length/\p[n]? =some s/\setOf p k=some s:=by
 by_cases h1:k<0
 ·exact .inl ⟨NC p h1,.inl h1⟩
 ·by_cases h2:(p.length:Int)<=k
  ·exact .inl ⟨Kd p h2,.inr h2⟩
  ·obtain⟨n,rfl⟩:∃ n:Nat,k=n:=⟨k.toNat,by omega⟩
   have h3:n<p.length:=by omega
   exact .inr ⟨n,p[n],rfl,h3,List.getElem?_eq_getElem h3,by rw[qN];exact List.getElem?_eq_getElem h3⟩
theorem Ke (v:Value) (base:Nat) (p:List BS) (k:Int) (w:World) (h:cZ w base v p): Calls Tryz.prog 84 #[v,.int .i64 k] w fun e w'=>e=.returned (.bool (setOf p k).isSome)/\w'=w:=by
 have hn:=kp v base p w h;cases p with
 | nil=>
  have HN:=hid hn;clear h hn;go_enter Tryz.func84,Tryz.ntmps84;go_wp2_with (go_at_call 83;refine HN.out.mono ?_;rintro e w1 ⟨rfl,rfl⟩);go_ret;exact⟨by rw[NB];rfl,rfl⟩
 | cons s p=>
  obtain⟨b,sa,cap,rfl,c0,_⟩:=h.some;have hp:=G6 (s::p) k;have hle:=h.le;generalize (s::p).length=m at c0 hp hle;generalize setOf (s::p) k=r at hp ⊢;have HN:=hid hn;clear h hn;rcases hp with⟨rfl,h1 | h1⟩ | ⟨n,t,rfl,h1,_,rfl⟩
  ·go_enter Tryz.func84,Tryz.ntmps84
   go_wp2_with (go_at_call 83;refine HN.out.mono ?_;rintro e w1 ⟨rfl,rfl⟩)
   go_ret;exact⟨rfl,rfl⟩
  ·go_enter Tryz.func84,Tryz.ntmps84
   go_wp2_with (go_at_call 83;refine HN.out.mono ?_;rintro e w1 ⟨rfl,rfl⟩)
   go_ret;exact⟨by rw[show(decide (k<(m:Int)))=false from decide_eq_false (by omega)];rfl,rfl⟩
  ·go_enter Tryz.func84,Tryz.ntmps84
   go_wp2_with (go_at_call 83;refine HN.out.mono ?_;rintro e w1 ⟨rfl,rfl⟩)
   go_ret;exact⟨rfl,rfl⟩
theorem En (v:Value) (base:Nat) (p:List BS) (k:Int) (w:World) (h:cZ w base v p): Calls Tryz.prog 63 #[v,.int .i64 k] w fun e w'=>e=.returned (.tuple #[.agg (encS ((setOf p k).getD 0)),.bool (setOf p k).isSome])/\Ext w w':=by
 have hn:=Ke v base p k w h;have hz:=fQ;rcases G6 p k with⟨h1,_⟩ | ⟨n,t,rfl,h1,h2,h3⟩
 ·rw[h1]at hn ⊢
  have HI:=hid (fun o=>(show Calls Tryz.prog 84 #[v,.int .i64 k] (w.alloc o) _ from Ke v base p k (w.alloc o) (h.below ((Ext.refl w).alloc o).below)));rw[h1]at HI;clear h hn h1;go_enter Tryz.func63,Tryz.ntmps63;go_wp2_with (go_at_call 84;refine(HI.out _).mono ?_;rintro e w1 ⟨rfl,rfl⟩);refine bodyPost_ret (v:=.tuple #[.agg (encS 0),.bool false]) ?_ rfl ⟨rfl,(Ext.refl w).alloc _⟩;rw[hz];simp[results,Tryz.results63,go_sem]
 ·cases p with
  | nil=>simp at h1
  | cons s p=>
  obtain⟨b,sa,cap,rfl,c0,_,_,hb,hr⟩:=h.some;obtain⟨g,rfl,_,hg,hc⟩:=hr n t h2;have hle:=h.le;have d0:w.cell? ⟨g,n*4,none⟩=some (.int .u64 (wd t 0).toNat):=hc 0 (by decide);have d1:w.cell? ⟨g,n*4+1,none⟩=some (.int .u64 (wd t 1).toNat):=hc 1 (by decide);have d2:w.cell? ⟨g,n*4+2,none⟩=some (.int .u64 (wd t 2).toNat):=hc 2 (by decide);have d3:w.cell? ⟨g,n*4+3,none⟩=some (.int .u64 (wd t 3).toNat):=hc 3 (by decide);have HI:=hid (fun o=>(show Calls Tryz.prog 84 #[_,.int .i64 n] (w.alloc o) _ from Ke _ base _ n (w.alloc o) (h.below ((Ext.refl w).alloc o).below)));rw[h3]at HI ⊢;generalize (s::p).length=m at c0 hle h1;clear h hn hc hr h2 h3;go_enter Tryz.func63,Tryz.ntmps63;go_wp2_with (go_at_call 84;refine(HI.out _).mono ?_;rintro e w1 ⟨rfl,rfl⟩);refine bodyPost_ret (v:=.tuple #[.agg (encS t),.bool true]) ?_ rfl ⟨rfl,(Ext.refl w).alloc _⟩;simp[results,Tryz.results63,go_sem]
def leastOf (p:List BS) (k:Int):Nat×Bool:=match setOf p k with | none=>(0,false) | some s=>bC s
theorem Cc (v:Value) (base:Nat) (p:List BS) (k:Int) (w:World) (h:cZ w base v p): Calls Tryz.prog 64 #[v,.int .i64 k] w fun e w'=>e=.returned (.tuple #[.int .u8 (leastOf p k).1,.bool (leastOf p k).2])/\Ext w w':=by
 have HS:=hid (En v base p k w h);clear h;unfold leastOf;generalize setOf p k=r at HS ⊢;cases r with
 | none=>
  go_enter Tryz.func64,Tryz.ntmps64
  go_wp2_with (go_at_call 63;refine HS.out.mono ?_;rintro e w1 ⟨rfl,hx⟩;have HX:=hid hx;clear hx)
  refine bodyPost_ret (v:=.tuple #[.int .u8 (0:Nat),.bool false]) ?_ rfl ⟨rfl,HX.out.alloc _⟩;simp[results,Tryz.results64,go_sem]
 | some s=>
  have HF:=hid (uN s);dsimp only at HS ⊢;generalize bC s=z at HF ⊢;have hs:(some s).getD 0=s:=rfl;go_enter Tryz.func64,Tryz.ntmps64;go_wp2_with (first | (go_at_call 63;refine HS.out.mono ?_;rintro e w1 ⟨rfl,hx⟩;have HX:=hid hx;clear hx) | (go_at_call 44;refine(HF.out _).mono ?_;rintro e w2 ⟨rfl,hx⟩;have gP:=hid hx;clear hx));refine bodyPost_ret (v:=.tuple #[.int .u8 z.1,.bool z.2]) ?_ rfl ⟨rfl,(HX.out.alloc _).trans gP.out⟩;simp[results,Tryz.results64,go_sem]
end
section
open Go Go.RowKit Go.Shelf Go.Maps
attribute [local go_sem] encS Oper.semAt_some gO dC
theorem Eo (ad:Option Addr) (w:World):Calls Tryz.prog 108 #[.pointer ad] w fun e w'=>e=.returned (.func (.func 144) #[] #[.pointer (some ⟨w.heap.size,0,none⟩)])/\w'=w.alloc (.cells #[.pointer ad] 113 (0,0)):=by
 go_enter Tryz.func108,Tryz.ntmps108
 go_wp2;go_ret;exact⟨rfl,rfl⟩
def yj (w:World) (g:Nat) (sa:Option Addr) (p:List BS):Prop:=g<w.heap.size/\∀ i s,p[i]? =some s->sa=some ⟨g,0,none⟩/\∀ j,j<4->w.cell? ⟨g,i*4+j,none⟩=(encS s)[j]?
theorem yj.keeps {w w':World} {g:Nat} {sa:Option Addr} {p:List BS} (h:yj w g sa p) {R:Nat->Prop} (hk:aa R w w') (hr:R g):yj w' g sa p:=
 ⟨Nat.lt_of_lt_of_le h.1 hk.size,fun i s hi=>⟨(h.2 i s hi).1,fun j hj=>(hk.cell (p:=⟨g,i*4+j,none⟩) hr).trans ((h.2 i s hi).2 j hj)⟩⟩
theorem AH {w:World} {base n:Nat} {v:Value} {l:List Nat} (h:w.ownsRow base 5 1 v n (l.map bu)) (hn:n=l.length):∃ g a cap,v=.slice a n cap/\(n=0\/a=some ⟨g,0,none⟩/\base<=g/\g<w.heap.size/\∀ i c:Nat,l[i]? =some c->w.cell? ⟨g,i,none⟩=some (.int .u8 c)):=by
 rcases h.2 with⟨h1,h2⟩ | ⟨g,cap,cur,hv,hb,hg,_,_,hs,ht⟩
 ·exact⟨0,none,0,by rw[h1,h2],.inl h2⟩
 ·refine⟨g,_,cap,hv,.inr ⟨rfl,hb,(Array.getElem?_eq_some_iff.1 hg).1,fun i c hi=>?_⟩⟩
  have hlt:i<l.length:=(List.getElem?_eq_some_iff.1 hi).1;have hc:w.cell? ⟨g,i,none⟩=cur[i]? :=by simp[World.cell?,hg]
  have h3:cur[i]? =(l.map bu)[i]? :=by rw[<-ht,List.getElem?_take,if_pos (by omega)];simp
  rw[hc,h3,List.getElem?_map,hi];rfl
theorem G7 (p:List BS) (bx ab g n cap:Nat) (sa:Option Addr) (w:World) (hp:n=p.length) (hn:p.length<=256) (GN:w.cell? ⟨bx,0,none⟩=some (.pointer (some ⟨ab,0,none⟩))) (GX:bx<w.heap.size) (hab:w.cell? ⟨ab,256,none⟩=some (.slice sa n cap)) (has:ab<w.heap.size) (hr:yj w g sa p): Seq false Tryz.prog 144 #[.pointer (some ⟨bx,0,none⟩)] (fun x:Nat×Nat=> #[.int .i64 x.1,.int .u8 x.2]) (· =g) (cH p) w:=by
 intro l J Jx W hK hJ hJx hY h0;have c0:W.cell? ⟨bx,0,none⟩=_:=(hK.cell (p:=⟨bx,0,none⟩) GX).trans GN;have c1:W.cell? ⟨ab,256,none⟩=_:=(hK.cell (p:=⟨ab,256,none⟩) has).trans hab;have hr1:yj W g sa p:=hr.keeps hK hr.1;have HY:=hid hY;have HB:=hid fun s W=>Nx s W
 have HR1:=hid hr1;have HJ:=hid hJ;have HP:=hid hp;have hn':n<=256:=by omega
 clear hY GN hab GX has hr hr1 hJx hK hJ hp hn;refine callsIn_wide (n:=0).1 ?_;refine callsIn_of_wp Tryz.func144 rfl trivial ?_ rfl;simp only[Tryz.ntmps144,List.size_toArray,List.length_cons,List.length_nil,Nat.reduceAdd,Nat.reduceSub,Array.replicate_succ,Array.replicate_zero,List.push_toArray,List.append_toArray,List.nil_append,List.cons_append]
 gi_wp2
 gi_loopw [12] (fun i wr=>∃ (k:Nat) (T:Nat->Prop),k<=n/\i=.int .i64 k/\J (cH (p.take k)) T wr/\(∀ k,T k->W.heap.size<=k/\k<wr.heap.size)/\aa (· =g) W wr)
  (fun i _=>n-(intOf i).toNat)
 case atStart=>
  exact⟨0,fun _=>False,by omega,rfl,h0,fun _ h=>h.elim,aa.refl _ _⟩
 case round=>
  clear c0 c1 h0;obtain⟨wo,rfl⟩:∃ wo:World,wo=wr:=⟨_,rfl⟩;obtain⟨k,T,hk,rfl,hj,hT,hR⟩:=hrel;have HJo:=hid hj;have HT:=hid hT;have HR:=hid hR;clear hj hT hR;by_cases hlt:k<n
  ·obtain⟨s,hs⟩:∃ s,p[k]? =some s:=⟨_,List.getElem?_eq_getElem (by have:=HP.out;omega)⟩
   obtain⟨Kf,hcs⟩:=(HR1.out.keeps HR.out rfl).2 k s hs;subst Kf;have d0:wo.cell? ⟨g,k*4,none⟩=some (.int .u64 (wd s 0).toNat):=hcs 0 (by decide);have d1:wo.cell? ⟨g,k*4+1,none⟩=some (.int .u64 (wd s 1).toNat):=hcs 1 (by decide);have d2:wo.cell? ⟨g,k*4+2,none⟩=some (.int .u64 (wd s 2).toNat):=hcs 2 (by decide);have d3:wo.cell? ⟨g,k*4+3,none⟩=some (.int .u64 (wd s 3).toNat):=hcs 3 (by decide);have HPT:=hid (tj hs);have Q9:=hid (yi hs);have HBL:Hid (∀ c∈bF s 256,c<256):=fun c h=>Kc h
   have HBs:=hid (HB.out s);have hlen:(bF s 256).length<=256:=by unfold bF;exact Nat.le_trans (List.length_filter_le _ _) (by simp)
   clear hcs hs;generalize bF s 256=bs at HPT Q9 HBL HBs hlen;obtain⟨m,hm⟩:∃ m,m=bs.length:=⟨_,rfl⟩;rw[<-hm]at HBs hlen;have HM:=hid hm;clear hm
   gi_wp2_with (gi_at_call 145;refine(callsIn_wide.2 (HBs.out _)).mono ?_;rintro e w1 ⟨v,rfl,h1,h2⟩;obtain⟨gb,ba,aqm,rfl,h3⟩:=AH h1 HM.out;have H2:=hid h2;have H3:=hid h3;clear h1 h2 h3)
   obtain⟨T',Ra⟩:∃ T':Nat->Prop,T'=fun x=>T x\/(0<m/\x=gb):=⟨_,rfl⟩
   have hx1:Below wo.heap.size wo w1:=((Ext.refl wo).alloc _).below.trans (H2.out.mono (by simp));have hsz:wo.heap.size<=w1.heap.size:=hx1.size;have hTb:∀ x,T' x->W.heap.size<=x/\x<w1.heap.size:=fun x hx=>by
    rw[Ra]at hx;rcases hx with hx | ⟨h0,rfl⟩
    ·have:=HT.out x hx;omega
    ·rcases H3.out with h | ⟨_,h1,h2,_⟩
     ·omega
     ·have:=HR.out.size;simp at h1;omega
   have hj1:J (cH (p.take k)) T' w1:=HJ.out _ T T' wo w1 HJo.out HT.out hTb (fun x hx=>by rw[Ra];exact .inl hx) (fun x hx=>by
    rw[Ra]at hx;rcases hx with hx | ⟨h0,rfl⟩
    ·exact .inl hx
    ·rcases H3.out with h | ⟨_,h1,h2,_⟩
     ·omega
     ·simp at h1;exact .inr (by omega)) ⟨aa.ag hx1 fun _ h=>h.1,fun h=>(by cases h)⟩
   have uO:aa (· =g) W w1:=HR.out.tr (aa.ag hx1 fun x h=>by have h1:=(HR1.out.keeps HR.out rfl).1;rw[show x=g from h];exact h1);have H3':Hid (m=0\/ba=some ⟨gb,0,none⟩/\T' gb/\∀ i c:Nat,bs[i]? =some c->w1.cell? ⟨gb,i,none⟩=some (.int .u8 c)):=by
    by_cases oU:m=0
    ·exact .inl oU
    ·rcases H3.out with h | ⟨h1,_,_,h4⟩
     ·exact absurd h oU
     ·exact .inr ⟨h1,by rw[Ra];exact .inr ⟨by omega,rfl⟩,h4⟩
   have HJ1:=hid hj1;have Nw:=hid uO;have HTb:=hid hTb;clear Ra hx1 hsz hTb hj1 uO H3 H2 HJo HT HR d0 d1 d2 d3 HBs
   gi_loopw [20] (fun i w2=>∃ j:Nat,j<=m/\i=.int .i64 j/\J (cH (p.take k)++(bs.take j).map fun c=>(k,c)) T' w2/\aa (fun x=>x=g\/T' x) w1 w2) (fun i _=>m-(intOf i).toNat)
   case atStart=>
    refine⟨0,by omega,rfl,?_,aa.refl _ _⟩;rw[List.take_zero,List.map_nil,List.append_nil];exact HJ1.out
   case round=>
    obtain⟨w2,rfl⟩:∃ w2:World,w2=wr:=⟨_,rfl⟩;obtain⟨j,hj,rfl,hjj,hkk⟩:=hrel;have HJJ:=hid hjj;have Ep:=hid hkk;clear hjj hkk HJ1;by_cases JA:j<m
    ·obtain⟨hba,hg,hcb⟩:=H3'.out.resolve_left (by omega)
     subst hba;obtain⟨c,hc⟩:∃ c,bs[j]? =some c:=⟨_,List.getElem?_eq_getElem (by have:=HM.out;omega)⟩;have jL:c<256:=HBL.out c (List.mem_of_getElem? hc);have e0:w2.cell? ⟨gb,j,none⟩=some (.int .u8 c):=(Ep.out.cell (p:=⟨gb,j,none⟩) (.inr hg)).trans (hcb j c hc);have eH:(bs.take (j+1)).map (fun c=>(k,c))=(bs.take j).map (fun c=>(k,c))++ [(k,c)]:=by rw[List.take_add_one,hc];simp
     have Qh:(cH (p.take k)++(bs.take j).map fun c=>(k,c))++ [(k,c)]<+:cH p:=by have:=Q9.out (j+1);rw[eH, <-List.append_assoc]at this;exact this
     obtain⟨fn,tm,Gq,bd,hy,GJ⟩:=HY.out _ (k,c) T' w2 Qh (fun x hx=>⟨(HTb.out x hx).1,Nat.lt_of_lt_of_le (HTb.out x hx).2 Ep.out.size⟩) (Nw.out.tr (Ep.out.mono fun x hx=>.inl hx)) HJJ.out;have Qi:=hid GJ;have kq:=hid eH;have HPJ:=hid Qh;clear GJ hg hcb hc eH Qh;dsimp only at hy
     gi_wp2
     refine Qi.out.mono ?_;rintro e W2 (⟨rfl,eE,hk2⟩ | ⟨rfl,eE,hk2⟩)
     ·have xB:=hid eE
      have rS:=hid hk2;clear eE hk2 hy
      gi_wp2
      go_roundw
      case rel=>
       refine⟨j+1,by omega,by go_num,?_,Ep.out.tr (rS.out)⟩;rw[kq.out, <-List.append_assoc];exact xB.out
      case measure=>simp[intOf];omega
     ·have xB:=hid eE
      have rS:=hid hk2;clear eE hk2 hy
      gi_wp2
      refine bodyPost_ret (results_none rfl _ _ _) rfl ?_;exact⟨⟨_,rfl⟩,T',fun x hx=>⟨(HTb.out x hx).1,Nat.lt_of_lt_of_le (HTb.out x hx).2 (Nat.le_trans Ep.out.size rS.out.size)⟩,.inr ⟨_,HPJ.out,xB.out⟩⟩
    ·obtain rfl:j=m:=by omega
     gi_wp2
     go_roundw
     case rel=>
      refine⟨k+1,T',by omega,by go_num,?_,fun x hx=>⟨(HTb.out x hx).1,Nat.lt_of_lt_of_le (HTb.out x hx).2 Ep.out.size⟩,Nw.out.tr (Ep.out.mono fun x hx=>.inl hx)⟩;rw[HPT.out];have:=HJJ.out;rwa[HM.out,List.take_length]at this
     case measure=>simp[intOf];omega
  ·obtain rfl:k=n:=by omega
   gi_wp2
   refine bodyPost_end (results_none rfl _ _ _) rfl ?_;refine⟨⟨_,rfl⟩,T,HT.out,.inl ?_⟩;have:=HJo.out;rwa[HP.out,List.take_length]at this
theorem AK {w:World} {base n:Nat} {v:Value} {p:List BS} (h:w.ownsRow base 59 4 v n (aN p)) (hn:n=p.length):∃ sa cap,v=.slice sa n cap/\((p=[]/\n=0)\/∃ g,yj w g sa p):=by
 rcases h.2 with⟨h1,h2⟩ | ⟨g,cap,cur,hv,hb,hg,_⟩
 ·exact⟨none,0,by rw[h1,h2],.inl ⟨List.eq_nil_of_length_eq_zero (by omega),h2⟩⟩
 ·refine⟨_,cap,hv,.inr ⟨g,(Array.getElem?_eq_some_iff.1 hg).1,fun i s hi=>?_⟩⟩
  obtain⟨g',cap',h6,h7,h8,h9⟩:=jU h hn hi;rw[hv]at h6;cases h6;exact⟨rfl,h9⟩
theorem Er (v:Value):Tryz.zeroCells153.setIfInBounds 256 v=gQ (ed []) v:=by kernel_rfl
theorem Rj (p:List BS) (v:Value) (base:Nat) (w:World) (h:w.ownsRow base 59 4 v p.length (aN p)) (hb:base<=w.heap.size) (hp:p.length<=256): Calls Tryz.prog 82 #[v] w fun e w'=>∃ b,e=.returned (.pointer (some ⟨b,0,none⟩))/\cZ w' base (.pointer (some ⟨b,0,none⟩)) p/\Below w.heap.size w w':=by
 have eg:∀ args w,(callFunc 144 args).run Tryz.prog w=.ok (.enter 144 args) w:=enters_of Tryz.func144 (by kernel_rfl) rfl;obtain⟨n,hn⟩:∃ n,n=p.length:=⟨_,rfl⟩;rw[<-hn]at h;obtain⟨sa,cap,rfl,hrow⟩:=AK h hn;have H:=hid h;have HR:=hid hrow;have HN:=hid hn;have HP:=hid hp;have HB:=hid hb;clear h hrow hn hp hb;refine ck Tryz.func82 rfl ?_;simp only[Tryz.ntmps82,List.size_toArray,List.length_cons,List.length_nil,Nat.reduceAdd,Nat.reduceSub,Array.replicate_succ,Array.replicate_zero,List.push_toArray,List.append_toArray,List.nil_append,List.cons_append];go_wp2_with (go_at_call 108;refine(Eo _ _).mono ?_;rintro e w1 ⟨rfl,rfl⟩);rw[Er];refine aw ?_;intro W0 hW0;have hab:ah W0 w.heap.size (gQ (ed []) (.slice sa n cap)) 153:=by rw[hW0];exact((ah.new _ _ _).alloc _).alloc _
 have GN:ah W0 (w.heap.size+1) #[.pointer (some ⟨w.heap.size,0,none⟩)] 113:=by rw[hW0];exact((ah.new _ _ _).at (by simp)).alloc _
 have jV:ah W0 (w.heap.size+1+1) #[.pointer (some ⟨w.heap.size,0,none⟩)] 113:=by rw[hW0];exact(ah.new _ _ _).at (by simp)
 have hx0:Ext w W0:=by rw[hW0];exact(((Ext.refl w).alloc _).alloc _).alloc _
 have hsz:W0.heap.size=w.heap.size+1+1+1:=by rw[hW0];simp
 clear hW0;obtain⟨g,hg,hr⟩:∃ g,(g≠w.heap.size/\g≠w.heap.size+1/\g<W0.heap.size)/\yj W0 g sa p:=by
  rcases HR.out with⟨h1,_⟩ | ⟨g,h1⟩
  ·exact⟨w.heap.size+1+1,⟨by omega,by omega,by omega⟩,by omega,fun i s hi=>by rw[h1]at hi;simp at hi⟩
  ·exact⟨g,⟨by have:=h1.1;omega,by have:=h1.1;omega,by have:=h1.1;omega⟩,h1.keeps hx0.keeps h1.1⟩
 have hseq:=G7 p (w.heap.size+1+1) w.heap.size g n cap sa W0 HN.out HP.out (jV.cell 0) jV.lt (by rw[hab.cell 256,nD (fD _)]) hab.lt hr;clear hr jV;refine im hseq (by rfl) eg (by intro _;rfl) (by intro k hk;rw[show k=g from hk];exact hg.2.2)
  (fun xs _ W=>ah W w.heap.size (gQ (ed xs) (.slice sa n cap)) 153/\ah W (w.heap.size+1) #[.pointer (some ⟨w.heap.size,0,none⟩)] 113/\Below w.heap.size w W)
  (fun _ _ _ _=>False)
  (fun xs T T' W W' ⟨h1,h2,h3⟩ hT _ _ _ hk=>⟨h1.nA hT hk (by omega),h2.nA hT hk (by omega),jh h3 hT hk (Nat.le_refl _) (by omega)⟩)
  (fun c xs T T' W W' h=>h.elim)
  ⟨hab,GN,hx0.below⟩
  (fun x=>⟨#[.slice sa n cap,undef,.pointer none,.pointer (some ⟨w.heap.size+1,0,none⟩),.int .i64 x.1,.int .u8 x.2,.slice sa n cap,.agg (gQ (ed []) (.slice sa n cap)),.pointer (some ⟨w.heap.size,0,none⟩),.pointer (some ⟨w.heap.size,0,none⟩),
   .func (.func 144) #[] #[.pointer (some ⟨w.heap.size+1+1,0,none⟩)],.int .i64 x.1,.int .u8 x.2,undef,undef,undef,undef,undef,undef,undef,undef],[]⟩) ?assign ?body ?done ?stop
 case assign=>
  intro l x W K hK
  gi_wp2
  exact hK
 case body=>
  rintro l pre ⟨k,c⟩ T W bQ hT _ xR hl ⟨g1,g2,g3⟩;have pC:(k,c)∈cH p:=bQ.subset (by simp);obtain⟨s,h1,jL,_⟩:=pA.1 pC;have amj:k<256:=by have:=(List.getElem?_eq_some_iff.1 h1).1;have:=HP.out;dsimp only at*;omega
  dsimp only at jL;obtain⟨y,hy⟩:∃ y,(ed pre)[c]? =some y:=⟨_,List.getElem?_eq_getElem (by rw[fD];exact jL)⟩;have c0:W.cell? ⟨w.heap.size+1,0,none⟩=some (.pointer (some ⟨w.heap.size,0,none⟩)):=g2.cell 0;have c1:W.cell? ⟨w.heap.size,c,none⟩=some (.int .u8 y):=(g1.cell c).trans (vP hy);have f1:=g1.frozen c;have pD:=g1.set c (.int .u8 k);rw[G5 (by rw[fD];exact jL)]at pD;have U5:=tk pre (k,c);rw[<-U5]at pD;have AO:=hid pD;have HG2:=hid (g2.other (p:=⟨w.heap.size,c,none⟩) (by simp) (.int .u8 k));have HG3:=hid (g3.setCell (p:=⟨w.heap.size,c,none⟩) (Nat.le_refl _) (.int .u8 k));have HT:=hid hT;have HG:=hid hg;have nB:=hid hsz;clear pD U5 g1 g2 g3 hT hy h1 pC xR hl hg hsz hab GN hx0 bQ hseq
  gi_wp2
  refine⟨(aa.refl _ _).setCell (fun h=>?_) _,AO.out,HG2.out,HG3.out⟩;have hgg:=HG.out;have hss:=nB.out;rcases h with h | h
  ·exact hgg.1 h.symm
  ·have:=(HT.out _ h).1;dsimp only at this;omega
 case done=>
  rintro D T W hD yf hT ⟨g1,g2,g3⟩ nw;have c0:W.cell? ⟨w.heap.size+1,0,none⟩=some (.pointer (some ⟨w.heap.size,0,none⟩)):=g2.cell 0;have G1:=hid g1;have G3:=hid g3;have HD:=hid hD;have nB:=hid hsz;have xC:=hid nw;clear g1 g2 g3 hsz hT yf nw hD hg hab GN hx0 hseq;dsimp only;go_wp2;refine dz rfl xC.out (results_tmp rfl _ _ _) ⟨_,rfl,.inr ⟨_,_,rfl,HB.out,G1.out.put (by have:=HD.out;have:=nB.out;omega) _,?_,HP.out⟩,((aa.ag G3.out (fun _ h=>h)).putObj (by have:=HD.out;have:=nB.out;omega) _).below⟩;have h1:=aj H.out (aa.ag G3.out fun _ h=>h) (fun k e=>(H.out.lt k e).2);rw[HN.out]at h1;rw[<-HN.out,HN.out];exact ownsRow_putObj h1 _ xC.out rfl
 case stop=>rintro D c pre T W _ _ _ _ h _;exact h.elim
end
section
open Go Go.RowKit Go.Shelf Go.Maps
attribute [local go_sem] encS
theorem aZ.below {α:Type} {enc:α->Value} {w w':World} {v:Value} {l:List α} (h:aZ enc w v l) (hk:Below w.heap.size w w'):aZ enc w' v l:=by
 rcases h with h | ⟨b,off,cap,hv,hb,hc,h⟩
 ·exact .inl h
 ·exact .inr ⟨b,off,cap,hv,Nat.lt_of_lt_of_le hb hk.size,hc,fun i x hi=>(hk.cell (p:=⟨b,off+i,none⟩) hb).trans (h i x hi)⟩
theorem aZ.form {α:Type} {enc:α->Value} {w:World} {v:Value} {l:List α} (h:aZ enc w v l):∃ a cap,v=.slice a l.length cap:=by
 rcases h with⟨h,rfl⟩ | ⟨b,off,cap,hv,_⟩
 ·exact⟨_,_,h⟩
 ·exact⟨_,_,hv⟩
theorem aZ.elem {α:Type} {enc:α->Value} {w:World} {a:Option Addr} {n cap:Nat} {l:List α} (h:aZ enc w (.slice a n cap) l) {i:Nat} {x:α} (hi:l[i]? =some x):∃ b off,a=some ⟨b,off,none⟩/\b<w.heap.size/\w.cell? ⟨b,off+i,none⟩=some (enc x):=by
 rcases h with⟨_,rfl⟩ | ⟨b,off,cap,hv,hb,hc,h⟩
 ·simp at hi
 ·cases hv;exact⟨b,off,rfl,hb,h i x hi⟩
theorem dp {α:Type} {enc:α->Value} {w:World} {base n:Nat} {v:Value} {e:TypeId} {l:List α} (h:w.ownsRow base e 1 v n (l.map enc)) (hn:n=l.length):aZ enc w v l:=by
 rcases h.2 with⟨h1,h2⟩ | ⟨g,cap,cur,hv,hb,hg,hc,_,hs,ht⟩
 ·exact .inl ⟨h1,List.eq_nil_of_length_eq_zero (by omega)⟩
 ·refine .inr ⟨g,0,cap,by rw[hv,hn],(Array.getElem?_eq_some_iff.1 hg).1,by omega,fun i x hi=>?_⟩
  have hlt:i<l.length:=(List.getElem?_eq_some_iff.1 hi).1;have hc:w.cell? ⟨g,0+i,none⟩=cur[i]? :=by simp[World.cell?,hg]
  have h3:cur[i]? =(l.map enc)[i]? :=by rw[<-ht,List.getElem?_take,if_pos (by omega)];simp
  rw[hc,h3,List.getElem?_map,hi];rfl
theorem Tryz.tz:(Tryz.prog.info? 3).map (fun i=>(i.zero,i.size,i.bytes))=some (some (.int .i64 0),1,8):=by kernel_rfl
def aau (n:Nat):Value:=.int .i64 n
def aS (k:Int):Value:=.int .i64 k
theorem G8 (l:List BS):(partsOf l).length<=256:=by unfold partsOf;rw[List.length_mergeSort];exact dW l
theorem kr (l:List BS) (v0:Value) (w:World) (hl:dm w v0 l) (hlen:l.length<=9223372036854775807): Calls Tryz.prog 60 #[v0] w fun e w'=>∃ b,e=.returned (.pointer (some ⟨b,0,none⟩))/\cZ w' w.heap.size (.pointer (some ⟨b,0,none⟩)) (partsOf l)/\Below w.heap.size w w':=by have HP:=hid (Ca l v0 w hl hlen);have HL:=hid (G8 l);clear hl;generalize partsOf l=p at HP HL ⊢;go_enter Tryz.func60,Tryz.ntmps60;go_wp2_with (first | (go_at_call 37;refine HP.out.mono ?_;rintro e w1 ⟨v1,rfl,h1,h2⟩;have H1:=hid h1;have H2:=hid h2;clear h1 h2) | (go_at_call 82;refine(Rj p _ w.heap.size _ H1.out H2.out.size HL.out).mono ?_;rintro e w2 ⟨b,rfl,h1,h2⟩;have H3:=hid h1;have H4:=hid h2;clear h1 h2));go_ret;exact⟨b,rfl,H3.out,H2.out.trans (H4.out.mono H2.out.size)⟩
end
section
open Go Go.RowKit Go.Shelf Go.Maps
attribute [local go_sem] encS
end
section
open Go Go.RowKit Go.Shelf Go.Maps
attribute [local go_sem] encS
end
section
open Go Go.RowKit Go.Shelf Go.Maps
attribute [local go_sem] encS
end
section
open Go Go.RowKit Go.Shelf Go.Maps
def dt (p:List BS):Array Value:=((pB p).map fun (n:Nat)=>Value.int .u8 n).toArray
theorem bS (p:List BS):(dt p).size=256:=by unfold dt;simp[iH]
theorem yl (p:List BS) {c:Nat} (hc:c<256):(dt p)[c]? =some (.int .u8 (cls p c)):=by unfold dt;rw[List.getElem?_toArray,List.getElem?_map,tu p hc];rfl
theorem nE:Tryz.zeroCells150=dt []:=by kernel_rfl
theorem kt:(Tryz.prog.info? 150).map (·.size)=some 256:=by kernel_rfl
theorem nG (p:List BS):(dt p).all (·.oneCell')=true:=by unfold dt;simp[Value.oneCell']
theorem NG (v:Value) (base:Nat) (p:List BS) (w:World) (h:cZ w base v p): Calls Tryz.prog 107 #[v] w fun e w'=>e=.returned (.agg (dt p))/\Ext w w':=by
 have hsz:=kt;cases p with
 | nil=>
  have HN:=hid fun W h=>kp v base [] W h
  have H:=hid h;have hz:=nE;have hst:=run_storeCells_new (P:=Tryz.prog) w 150 (dt []) (dt []) (by rw[bS];exact hsz) rfl (nG _);have hs0:=bS [];clear h hsz;go_enter Tryz.func107,Tryz.ntmps107;go_wp2_with fail
  refine(HN.out _ (H.out.below ((Ext.refl _).alloc _).below)).mono ?_;rintro e w' ⟨rfl,hw⟩;replace hw:=hw.symm;subst hw;go_wp2;refine bodyPost_ret (results_cell_row rfl _ _ w.heap.size 150 (dt []) (0,0) _ rfl (World.alloc_heap_new _ _) Tryz.underlying150 rfl (by rw[bS];exact kt)) rfl ⟨rfl,(Ext.refl _).alloc _⟩
 | cons s p=>
  obtain⟨b,sa,cap,rfl,_,ht,_,hb,_⟩:=h.some;have hr:w.rangeAt b 0 (dt (s::p)).toList:=fun j u hj=>by
   have Ym:j<256:=by have:=(List.getElem?_eq_some_iff.1 hj).1;simpa[bS]using this
   rw[Array.getElem?_toList,yl _ Ym]at hj;cases hj;rw[Nat.zero_add];exact ht j _ (tu _ Ym)
  have HR:Hid (∀ c:Array Value,(w.alloc (.cells c 150)).rangeAt b 0 (dt (s::p)).toList):=fun c j u hj=>(((Ext.refl w).alloc _).cell (p:=⟨b,0+j,none⟩) hb).trans (hr j u hj)
  have HN:=hid fun W (h:cZ W base (.pointer (some ⟨b,0,none⟩)) (s::p))=>kp _ base (s::p) W h
  have H:=hid h;have hz:=nE;have hst:=run_storeCells_new (P:=Tryz.prog) w 150 (dt []) (dt (s::p)) (by rw[bS];exact hsz) (by rw[bS,bS]) (nG _);clear h hsz ht hr;generalize hq:s::p=q at*;have HQ:=hid (show q.isEmpty=false by rw[<-hq];rfl);clear hq;have hs0:=bS q;go_enter Tryz.func107,Tryz.ntmps107;go_wp2_with fail
  refine(HN.out _ (H.out.below ((Ext.refl _).alloc _).below)).mono ?_;rintro e w' ⟨rfl,hw⟩;replace hw:=hw.symm;subst hw;rw[HQ.out];go_wp2_with (refine wpList_load_mid rfl 150 (.tmp 8) rfl b 0 rfl (dt q).toList _ (HR.out _) Tryz.underlying150 rfl (by rw[Array.length_toList,bS];exact kt) ?_);refine bodyPost_ret (results_cell_row rfl _ _ w.heap.size 150 (dt q) (0,0) _ rfl (World.alloc_heap_new _ _) Tryz.underlying150 rfl (by rw[bS];exact kt)) rfl ⟨rfl,(Ext.refl _).alloc _⟩
theorem iJ (l:List BS):∀ u∈aN l,u.oneCell'=true:=by intro u hu;unfold aN at hu;obtain⟨s,_,hs⟩:=List.mem_flatMap.1 hu;simp[encS]at hs;rcases hs with rfl | rfl | rfl | rfl<;>rfl
theorem cZ.row {w:World} {base:Nat} {v:Value} {s:BS} {p:List BS} (h:cZ w base v (s::p)): ∃ b g cap,v=.pointer (Option.some ⟨b,0,none⟩)/\b<w.heap.size/\g<w.heap.size/\w.cell? ⟨b,256,none⟩=Option.some (.slice (Option.some ⟨g,0,none⟩) (s::p).length cap)/\ ∀ j u,(aN (s::p))[j]? =Option.some u->w.cell? ((⟨g,0,none⟩:Addr).add j)=Option.some u:=by
 rcases h with⟨_,h⟩ | ⟨b,sl,h1,h2,h3,h4,h5⟩
 ·cases h
 ·obtain⟨g,cap,e,_,hg,_⟩:=jU (i:=0) (s:=s) h4 rfl rfl
  subst e;refine⟨b,g,cap,h1,h3.lt,hg,?_,h4.cells rfl⟩;have:=h3.cell 256;rw[nD (iH _)]at this;exact this
def Es (p q:List BS) (w:World) (e:Ending) (w':World):Prop:=
 if p.isEmpty || q.isEmpty then e=.returned (.pointer none)/\Below w.heap.size w w' else ∃ b,e=.returned (.pointer (some ⟨b,0,none⟩))/\cZ w' w.heap.size (.pointer (some ⟨b,0,none⟩)) (partsOf (p++q))/\Below w.heap.size w w'
theorem Rk (v v2:Value) (base Yn:Nat) (p q:List BS) (w:World) (h:cZ w base v p) (h2:cZ w Yn v2 q): Calls Tryz.prog 61 #[v,v2] w (Es p q w):=by
 have ku:=hid (kp v base p w h);have j9:=hid (kp v2 Yn q w h2);cases p with
 | nil=>
  rw[show([]:List BS).isEmpty=true from rfl]at ku;clear h h2;go_enter Tryz.func61,Tryz.ntmps61;go_wp2_with fail
  refine(ku.out).mono ?_;rintro e w' ⟨rfl,hw⟩;replace hw:=hw.symm;subst hw;go_wp2;go_ret;exact⟨rfl,Below.refl _ _⟩
 | cons s p=>
  rw[show(s::p).isEmpty=false from rfl]at ku;cases q with
  | nil=>
   rw[show([]:List BS).isEmpty=true from rfl]at j9;clear h h2;go_enter Tryz.func61,Tryz.ntmps61;go_wp2_with fail
   refine(ku.out).mono ?_;rintro e w' ⟨rfl,hw⟩;replace hw:=hw.symm;subst hw;go_wp2_with fail
   refine(j9.out).mono ?_;rintro e w' ⟨rfl,hw⟩;replace hw:=hw.symm;subst hw;go_wp2;go_ret;exact⟨rfl,Below.refl _ _⟩
  | cons t q=>
   rw[show(t::q).isEmpty=false from rfl]at j9;have hj:∀ e w',(∃ b,e=.returned (.pointer (some ⟨b,0,none⟩))/\cZ w' w.heap.size (.pointer (some ⟨b,0,none⟩)) (partsOf ((s::p)++(t::q)))/\Below w.heap.size w w')->Es (s::p) (t::q) w e w':=fun e w' h=>h
   obtain⟨i0,hi,hz0,hz1,hz2⟩:=info_parts Tryz.BU;obtain⟨b,g,cap,rfl,hb,hg,hc,hr⟩:=h.row;obtain⟨b2,g2,ai6,rfl,hb2,hg2,hc2,hr2⟩:=h2.row;have hle:=h.le;have ai7:=h2.le;generalize Es (s::p) (t::q) w=J at*;generalize s::p=p at*;generalize t::q=q at*;obtain⟨n,hn⟩:∃ n,n=p.length:=⟨_,rfl⟩;obtain⟨m,hm⟩:∃ m,m=q.length:=⟨_,rfl⟩;rw[<-hn]at hc hle;rw[<-hm]at hc2 ai7;have HNn:=hid hn;have HMm:=hid hm;have HR:=hid hr;have HR2:=hid hr2;have HJ:=hid hj;clear h h2 hr hr2 hn hm hj;go_enter Tryz.func61,Tryz.ntmps61;go_wp2_with fail
   refine(ku.out).mono ?_;rintro e w' ⟨rfl,hw⟩;replace hw:=hw.symm;subst hw;go_wp2_with fail
   refine(j9.out).mono ?_;rintro e w' ⟨rfl,hw⟩;replace hw:=hw.symm;subst hw;go_wp2;refine iD (fun x=>x<w.heap.size) (by kernel_rfl) (fun i=>i==0 || i==5 || i==10 || i==11) (by kernel_rfl) ?_;intro C hC hne W0 Mo hblk hsz hx0;have HC:=hid hC;have Ef:=hid Mo;have UY:=hid hx0;refine eG.out ?_;have f1:=dV hC (p:=⟨b,256,none⟩) hb hc;have f2:=dV hC (p:=⟨b2,256,none⟩) hb2 hc2;have HSz:=hid hsz;clear hC Mo hblk hsz hx0 hc hc2;refine fO (fun K hK=>?_);refine QH rfl rfl ?_;go_simp;have k1:=Ef.out.alloc (fun x hx=>Nat.lt_of_lt_of_le hx Ef.out.size) (.cells #[] 59 (0,0));refine⟨(HC.out _).2 k1,hK _ _ ?_⟩;clear hK K;have Nw:=hid k1;clear k1;have o1:(W0.alloc (.cells #[] 59 (0,0))).ownsRow W0.heap.size 59 4 (.slice (some ⟨W0.heap.size,0,none⟩) 0 0) 0 []:=⟨rfl,.inr ⟨W0.heap.size,0, #[],rfl,Nat.le_refl _,World.alloc_heap_new _ _,Nat.le_refl _,by simp,rfl,rfl⟩⟩;have Rc:=hid o1;clear o1
   repeat (refine fO (fun K hK=>?_);first | (refine lexN rfl ?_;try go_simp;refine hK _ _ ?_;clear hK K) | (refine VD rfl rfl ?_;unfold ai;go_simp;refine hK _ _ ?_;clear hK K))
   refine fO (fun K hK=>?_);refine QH rfl rfl (sX (.tmp 11) (.tmp 15) 25 rfl (W0.heap.size) 59 i0 (.agg #[.int .u64 0,.int .u64 0,.int .u64 0,.int .u64 0]) 4 32 Tryz.underlying25 hi hz0 hz1 hz2 rfl (by decide) _ (0) _ rfl (Rc.out) (⟨g,0,none⟩) (n) (cap) (aN p) rfl (by rw[cT,HNn.out]) (fun j u hj=>(Nw.out.cell (p:=(⟨g,0,none⟩:Addr).add j) (by rw[Addr.add_mid];exact hg)).trans (HR.out j u hj)) (iJ p) (by unfold maxLen;omega) (by omega) (by simp) ?_);intro v2 w2 ho hgr hat;obtain⟨a2,c2,rfl⟩:=ownsRow_form ho;go_simp;have k2:aa (fun x=>x<w.heap.size) w w2:=Nw.out.tr (aa.bG hgr (fun x hx=>⟨Nat.lt_of_lt_of_le hx Nw.out.size,fun e=>by have:=Rc.out.lt x e.symm;have:=Ef.out.size;omega⟩));refine⟨(HC.out _).2 k2,hK _ _ ?_⟩;rw[Nat.zero_add,List.nil_append]at ho;have j8:=hid ho;have rS:=hid k2;have S2:=hid (Nat.le_trans (Nat.le_trans (Nat.le_refl _) (by simp:W0.heap.size<=(W0.alloc (.cells #[] 59 (0,0))).heap.size)) hgr.size);clear hK K ho k2 hgr hat
   repeat (refine fO (fun K hK=>?_);first | (refine lexN rfl ?_;try go_simp;refine hK _ _ ?_;clear hK K) | (refine VD rfl rfl ?_;unfold ai;go_simp;refine hK _ _ ?_;clear hK K))
   refine fO (fun K hK=>?_);refine QH rfl rfl (sX (.tmp 16) (.tmp 20) 25 rfl (W0.heap.size) 59 i0 (.agg #[.int .u64 0,.int .u64 0,.int .u64 0,.int .u64 0]) 4 32 Tryz.underlying25 hi hz0 hz1 hz2 rfl (by decide) _ (n) _ rfl (j8.out) (⟨g2,0,none⟩) (m) (ai6) (aN q) rfl (by rw[cT,HMm.out]) (fun j u hj=>(rS.out.cell (p:=(⟨g2,0,none⟩:Addr).add j) (by rw[Addr.add_mid];exact hg2)).trans (HR2.out j u hj)) (iJ q) (by unfold maxLen;omega) (by omega) (S2.out) ?_);intro v3 w3 ho hgr hat;obtain⟨a3,c3,rfl⟩:=ownsRow_form ho;go_simp;have k3:aa (fun x=>x<w.heap.size) w w3:=rS.out.tr (aa.bG hgr (fun x hx=>⟨Nat.lt_of_lt_of_le hx rS.out.size,fun e=>by have:=j8.out.lt x e.symm;have:=Ef.out.size;omega⟩));refine⟨(HC.out _).2 k3,hK _ _ ?_⟩;have o3:w3.ownsRow W0.heap.size 59 4 (.slice a3 (n+m) c3) (p++q).length (aN (p++q)):=by
    rw[List.length_append, <-HNn.out, <-HMm.out,fS];exact ho
   have HI3:=hid (jT o3);have Yi:=hid k3;clear hK K ho k3 hgr hat o3;have HS:=hid (fun x (hx:x<w.heap.size)=>hx);refine fO (fun K hK=>?_);refine QH rfl rfl ?_;go_simp;refine fA ((kr (p++q) _ _ HI3.out (by rw[List.length_append, <-HNn.out, <-HMm.out];omega)).mono ?_);rintro e w4 ⟨bo,rfl,h1,hx⟩;have hk4:=aa.cg Yi.out HS.out hx;refine⟨_,rfl,(HC.out _).2 hk4,hK _ _ ?_⟩;have HK4:=hid hk4;clear hK K hk4
   repeat (refine fO (fun K hK=>?_);first | (refine lexN rfl ?_;try go_simp;refine hK _ _ ?_;clear hK K) | (refine VD rfl rfl ?_;unfold ai;go_simp;refine hK _ _ ?_;clear hK K))
   refine Gx ?_;go_wp2;exact HJ.out _ _ ⟨bo,rfl,h1.base Yi.out.size,HK4.out.below⟩
end
end Go.Proofs.YtalombmiochpmaaGreatDoor
