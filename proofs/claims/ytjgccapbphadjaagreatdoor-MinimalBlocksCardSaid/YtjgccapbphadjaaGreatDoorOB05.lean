/- The maker of automata of positions: loop. -/
import Derived.Test.YtjgccapbphadjaaGreatDoorOB04
import Derived.Shelf.Strings.BuilderK
import Derived.Shelf.Strconv.Itoa3
import Derived.Lib.ItoaLen
set_option maxRecDepth 100000
set_option maxHeartbeats 16000000
open Go.Lib (hid)
namespace Go.Proofs.YtjgccapbphadjaaGreatDoor
section
open Go Go.RowKit Go.Shelf Go.Maps
theorem sY (u:Nat):∀ c∈Lib.decDigits u,48<=c.toNat/\c.toNat<=57:=by
 induction u using Nat.strongRecOn with
 | _ u ih=>
  intro c hc;rw[Lib.decDigits]at hc;split at hc
  ·rename_i h
   simp at hc;subst hc;simp;omega
  ·rename_i h
   rcases List.mem_append.1 hc with hc | hc
   ·exact ih (u/10) (by omega) c hc
   ·simp at hc
    subst hc;have:u%10<10:=Nat.mod_lt _ (by decide);simp;omega
def numOf (l:List UInt8):Nat:=l.foldl (fun a c=>a*10+(c.toNat-48)) 0
theorem zT (u:Nat):numOf (Lib.decDigits u)=u:=by
 induction u using Nat.strongRecOn with
 | _ u ih=>
  rw[Lib.decDigits];split
  ·rename_i h
   simp[numOf];omega
  ·rename_i h
   unfold numOf at ih ⊢;rw[List.foldl_append,ih (u/10) (by omega)];have:u%10<10:=Nat.mod_lt _ (by decide);simp;omega
theorem Ky {u v:Nat} (h:Lib.decDigits u=Lib.decDigits v):u=v:=by rw[<-zT u, <-zT v,h]
theorem qj (x:Int):∀ c∈Lib.itoa x,c≠44/\c≠59:=by
 have key:∀ c:UInt8,(48<=c.toNat/\c.toNat<=57)->c≠44/\c≠59:=fun c h=>⟨fun e=>by subst e;simp at h,fun e=>by subst e;simp at h⟩
 intro c hc;rw[Lib.itoa]at hc;split at hc
 ·rcases List.mem_cons.1 hc with rfl | hc
  ·decide
  ·exact key c (sY _ c hc)
 ·exact key c (sY _ c hc)
theorem QD {x y:Int} (h:Lib.itoa x=Lib.itoa y):x=y:=by
 have hne:∀ u (t:List UInt8),Lib.decDigits u≠45::t:=fun u t e=>by
  have:=sY u 45 (by rw[e];exact aY ..);simp at this
 unfold Lib.itoa at h;split at h<;>split at h
 ·have:=Ky (List.cons.inj h).2
  omega
 ·exact absurd h.symm (hne _ _)
 ·exact absurd h (hne _ _)
 ·have:=Ky h
  omega
theorem Iq {α:Type} {s:α} :∀ {a b c d:List α},(∀ x∈a,x≠s)->(∀ x∈b,x≠s)->a++s::c=b++s::d->a=b/\c=d
 | [],[],c,d,_,_,h=>⟨rfl,by simpa using h⟩
 | [],y::b,c,d,_,hb,h=>by
  have:s=y:=by simpa using(List.cons.inj (by simpa using h)).1
  exact absurd this.symm (hb y (aY ..))
 | x::a,[],c,d,ha,_,h=>by
  have:x=s:=by simpa using(List.cons.inj (by simpa using h)).1
  exact absurd this (ha x (aY ..))
 | x::a,y::b,c,d,ha,hb,h=>by
  have h':=List.cons.inj (by simpa using h:x::(a++s::c)=y::(b++s::d));obtain⟨e1,e2⟩:=Iq (fun z hz=>ha z (bC _ hz)) (fun z hz=>hb z (bC _ hz)) h'.2;exact⟨by rw[h'.1,e1],e2⟩
def sZ (p:Int):List UInt8:=Lib.itoa p++ [44]
def eK (l:List Int):List UInt8:=l.flatMap sZ
def ug (l:List Int):List UInt8:=eK l++ [59]
def fC (row:List (List Int)):List UInt8:=row.flatMap ug
theorem jQ (p:Int) (l:List Int):eK (p::l)=sZ p++eK l:=rfl
theorem EC (l:List Int):∀ c∈eK l,c≠59:=by
 intro c hc;obtain⟨p,_,hp⟩:=List.mem_flatMap.1 hc;rcases List.mem_append.1 hp with h | h
 ·exact(qj p c h).2
 ·simp at h;subst h;decide
theorem zU:∀ {l m:List Int},eK l=eK m->l=m
 | [],[],_=>rfl
 | [],y::m,h=>by
  have:(eK (y::m)).length=0:=by rw[<-h];rfl
  rw[jQ]at this;simp[sZ]at this
 | x::l,[],h=>by
  have:(eK (x::l)).length=0:=by rw[h];rfl
  rw[jQ]at this;simp[sZ]at this
 | x::l,y::m,h=>by
  rw[jQ,jQ]at h;unfold sZ at h;simp only[List.append_assoc,List.cons_append,List.nil_append]at h;obtain⟨e1,e2⟩:=Iq (fun c hc=>(qj x c hc).1) (fun c hc=>(qj y c hc).1) h;rw[QD e1,zU e2]
theorem lA (l:List Int) (row:List (List Int)):fC (l::row)=ug l++fC row:=rfl
theorem rQ:∀ {r s:List (List Int)},fC r=fC s->r=s
 | [],[],_=>rfl
 | [],y::s,h=>by
  have:(fC (y::s)).length=0:=by rw[<-h];rfl
  rw[lA]at this;simp[ug]at this
 | x::r,[],h=>by
  have:(fC (x::r)).length=0:=by rw[h];rfl
  rw[lA]at this;simp[ug]at this
 | x::r,y::s,h=>by
  rw[lA,lA]at h;unfold ug at h;simp only[List.append_assoc,List.cons_append,List.nil_append]at h;obtain⟨e1,e2⟩:=Iq (EC x) (EC y) h;rw[zU e1,rQ e2]
open Go.ChangeMaps (setBlock heap_setBlock_same)
open Go.WideMaps (keyOf_string_mk)
def ja (l:List UInt8):Value:=.string ⟨l.toArray⟩
theorem ED {a b:List UInt8} (h:ja a=ja b):a=b:=by
 unfold ja at h;injection h with h
 injection h with h
 simpa using h
def lV:Nat->List (List UInt8)->List MapEntry
 | _,[]=>[]
 | n,p::l=>⟨ja p,.int .i64 n,n⟩::lV (n+1) l
theorem EF:∀ (l:List (List UInt8)) (n:Nat),(lV n l).length=l.length
 | [],_=>rfl
 | _::l,n=>by simp[lV,EF l]
theorem nM:∀ (l:List (List UInt8)) (n i:Nat),(lV n l)[i]? =(l[i]?).map fun p=>⟨ja p,.int .i64 (n+i:Nat),n+i⟩
 | [],_,_=>by simp[lV]
 | p::l,n,0=>by simp[lV]
 | p::l,n,i+1=>by
  simp only[lV,List.getElem?_cons_succ,nM l];rw[show n+1+i=n+(i+1) by omega]
theorem uh:∀ (l:List (List UInt8)) (n:Nat) (q:List UInt8),lV n (l++ [q])=lV n l++ [⟨ja q,.int .i64 (n+l.length:Nat),n+l.length⟩]
 | [],n,q=>by simp[lV]
 | p::l,n,q=>by
  simp only[List.cons_append,lV,uh l,List.length_cons];rw[show n+1+l.length=n+(l.length+1) by omega]
def lW (w:World) (b:Nat) (l:List (List UInt8)):Prop:=w.heap[b]? =some (.map (lV 0 l).toArray l.length)
theorem lW.keeps {w w':World} {b:Nat} {l:List (List UInt8)} (h:lW w b l) {R:Nat->Prop} (hk:ae R w w') (hb:R b):lW w' b l:=(hk.keep b hb).trans h
theorem lW.lt {w:World} {b:Nat} {l:List (List UInt8)} (h:lW w b l):b<w.heap.size:=(Array.getElem?_eq_some_iff.1 h).1
theorem lW.below {w w':World} {b:Nat} {l:List (List UInt8)} (h:lW w b l) (hk:aa w w'):lW w' b l:=(hk.block b h.lt).trans h
def yZ (r:List UInt8):Prop:=r.length<=maxLen
theorem Tryz.EG:Keyed Tryz.prog 9:=string_keyed Tryz.underlying9
theorem BU (r:List UInt8) (h:yZ r):∃ l,keyOf Tryz.prog 9 (ja r)=some l:=⟨_,keyOf_string_mk Tryz.underlying9 (by show r.toArray.size<=maxLen;rw[List.size_toArray];exact h)⟩
theorem EH {l:List (List UInt8)} (hl:∀ p∈l,yZ p):∀ e∈lV 0 l,∃ k,keyOf Tryz.prog 9 e.key=some k:=fun e he=>by
 obtain⟨i,hi⟩:=List.mem_iff_getElem?.1 he;rw[nM]at hi;obtain⟨p,hp,rfl⟩:=Option.map_eq_some_iff.1 hi;exact BU p (hl p (aw hp))
theorem jR {α:Type} [DecidableEq α] {l:List α} (hn:l.Nodup) {i:Nat} {q:α} (h:l[i]? =some q):l.idxOf q=i:=by obtain⟨h1,h2⟩:=List.getElem?_eq_some_iff.1 h;subst h2;exact List.Nodup.idxOf_getElem hn i h1
def ixU (l:List (List UInt8)) (q:List UInt8):Nat:= @List.idxOf _ instBEqOfDecidableEq q l
theorem Kz {w:World} {b:Nat} {l:List (List UInt8)} (h:lW w b l) (hn:l.Nodup) (hl:∀ p∈l,yZ p) (q:List UInt8) (hq:yZ q): (q∉l/\(Instr.lookup 193 (.map (some b)) (ja q) true).run Tryz.prog w=.ok (.tuple #[.int .i64 0,.bool false]) w)\/ (q∈l/\(Instr.lookup 193 (.map (some b)) (ja q) true).run Tryz.prog w=.ok (.tuple #[.int .i64 (ixU l q),.bool true]) w):=by
 have K:=Tryz.EG;obtain⟨kl,hk⟩:=BU q hq;have hz:(zeroValue 3).run Tryz.prog w=.ok (.int .i64 0) w:=by kernel_rfl
 have hb:w.heap[b]? =some (.map (lV 0 l).toArray l.length):=h;rcases K.find w hk (lV 0 l) (EH hl)with⟨f1,f2⟩ | ⟨j,e0,f1,f2,f3⟩
 ·refine .inl ⟨fun hm=>?_,?_⟩
  ·obtain⟨i,hi⟩:=List.mem_iff_getElem?.1 hm
   have:=nM l 0 i;rw[hi]at this;exact f2 _ (aw this) rfl
  ·simp[Instr.lookup,run_underlying Tryz.underlying193,MapKept.run_getObj_map hb,K.check w _ hk,f1,hz,Result.andThen]
 ·rw[nM]at f2
  obtain⟨p,hp,rfl⟩:=Option.map_eq_some_iff.1 f2;have e:p=q:=ED f3;subst e;refine .inr ⟨aw hp,?_⟩;rw[show ixU l p=j from jR hn hp];simp[Instr.lookup,run_underlying Tryz.underlying193,MapKept.run_getObj_map hb,K.check w _ hk,f1,Result.andThen]
theorem QE {w:World} {b:Nat} {l:List (List UInt8)} (h:lW w b l) (hl:∀ p∈l,yZ p) (q:List UInt8) (hqk:yZ q) (hq:q∉l): ∃ w',(Instr.mapUpdate 193 (.map (some b)) (ja q) (.int .i64 l.length)).run Tryz.prog w=.ok () w'/\lW w' b (l++ [q])/\ae (· ≠b) w w'/\w'.heap.size=w.heap.size:=by
 have K:=Tryz.EG;obtain⟨kl,hk⟩:=BU q hqk;have hb:w.heap[b]? =some (.map (lV 0 l).toArray l.length):=h;rcases K.find w hk (lV 0 l) (EH hl)with⟨f1,f2⟩ | ⟨j,e0,f1,f2,f3⟩
 ·refine⟨setBlock w b (.map (lV 0 (l++ [q])).toArray (l++ [q]).length),?_,heap_setBlock_same hb _,⟨rfl,rfl,rfl,by simp[setBlock],fun i hi=>by show(w.heap.setIfInBounds b _)[i]? =_;exact Array.getElem?_setIfInBounds_ne (Ne.symm hi)⟩,by simp[setBlock]⟩
  rw[uh];simp[Instr.mapUpdate,run_underlying Tryz.underlying193,MapKept.run_getObj_map hb,K.check w false hk,f1,MapKept.run_setObj_map _ hb,Result.andThen,setBlock]
 ·rw[nM]at f2
  obtain⟨p,hp,rfl⟩:=Option.map_eq_some_iff.1 f2;have e:p=q:=ED f3;subst e;exact absurd (aw hp) hq
theorem YH {w:World} {b:Nat} {l:List (List UInt8)} (h:lW w b l) (ty:TypeId):(Builtin.len_ #[193] ty #[.map (some b)]).run Tryz.prog w=.ok (.int .i64 l.length) w:=by have hb:w.heap[b]? =some (.map (lV 0 l).toArray l.length):=h;simp[Builtin.len_,run_underlying Tryz.underlying193,MapKept.run_getObj_map hb,goInt,Result.andThen,EF]
theorem pO {w:World} {ops:Array Oper} {rest:List Oper} {o:Oper} {a:Act} {Q:Exit->Act->World->Prop} (hg:o.guard=none) (m:Operand) (hop:o.op=Op.call {callee:=Callee.builtin Builtin.len,args:= #[m],argTypes:= #[193]}) (b:Nat) (l:List (List UInt8)) (hm:a.eval m=.map (some b)) (h:lW w b l) (hK:wpList Tryz.prog ops Q rest (a.put o.dst (.int .i64 l.length)) w):wpList Tryz.prog ops Q (o::rest) a w:=by
 refine wpList_plain hg fun K' hK'=>?_
 unfold Oper.wp;simp[execOp,hop,resolve,invoke,builtin,hm,YH h o.type,Result.andThen];exact hK' _ _ hK
end
section
open Go Go.RowKit Go.Shelf Go.Maps
def Ir (r:List (List Int)):Value:=ja (fC r)
def lB (w:World) (b:Nat) (l:List (List (List Int))):Prop:=lW w b (l.map fC)
theorem lB.keeps {w w':World} {b:Nat} {l:List (List (List Int))} (h:lB w b l) {R:Nat->Prop} (hk:ae R w w') (hb:R b):lB w' b l:=lW.keeps h hk hb
theorem lB.lt {w:World} {b:Nat} {l:List (List (List Int))} (h:lB w b l):b<w.heap.size:=lW.lt h
theorem lB.below {w w':World} {b:Nat} {l:List (List (List Int))} (h:lB w b l) (hk:aa w w'):lB w' b l:=lW.below h hk
def ui (r:List (List Int)):Prop:=(fC r).length<=maxLen
def YI (l:List (List (List Int))) (q:List (List Int)):Nat:= @List.idxOf _ instBEqOfDecidableEq q l
theorem EI:∀ {l:List (List (List Int))},l.Nodup->(l.map fC).Nodup
 | [],_=>List.nodup_nil
 | a::l,h=>by
  rw[List.nodup_cons]at h;rw[List.map_cons,List.nodup_cons];refine⟨fun hm=>?_,EI (l:=l) h.2⟩;obtain⟨b,hb,e⟩:=List.mem_map.1 hm;exact h.1 (rQ e▸hb)
theorem U0 {w:World} {b:Nat} {l:List (List (List Int))} (h:lB w b l) (hn:l.Nodup) (hl:∀ p∈l,ui p) (q:List (List Int)) (hq:ui q): (q∉l/\(Instr.lookup 193 (.map (some b)) (Ir q) true).run Tryz.prog w=.ok (.tuple #[.int .i64 0,.bool false]) w)\/ (q∈l/\(Instr.lookup 193 (.map (some b)) (Ir q) true).run Tryz.prog w=.ok (.tuple #[.int .i64 (YI l q),.bool true]) w):=by
 have hN:=EI (l:=l) hn;rcases Kz h hN (fun p hp=>by obtain⟨x,hx,rfl⟩:=List.mem_map.1 hp;exact hl x hx) (fC q) hq with⟨h1,h2⟩ | ⟨h1,h2⟩
 ·exact .inl ⟨fun hm=>h1 (List.mem_map.2 ⟨q,hm,rfl⟩),h2⟩
 ·obtain⟨x,hx,e⟩:=List.mem_map.1 h1
  obtain rfl:=rQ e;obtain⟨i,hi⟩:=List.mem_iff_getElem?.1 hx;have e1:YI l x=i:=jR hn hi;have e2:ixU (l.map fC) (fC x)=i:=jR hN (by rw[aO,hi];rfl);rw[e2]at h2;rw[e1];exact .inr ⟨hx,h2⟩
theorem YJ {w:World} {b:Nat} {l:List (List (List Int))} (h:lB w b l) (hl:∀ p∈l,ui p) (q:List (List Int)) (hqk:ui q) (hq:q∉l): ∃ w',(Instr.mapUpdate 193 (.map (some b)) (Ir q) (.int .i64 l.length)).run Tryz.prog w=.ok () w'/\lB w' b (l++ [q])/\ae (· ≠b) w w'/\w'.heap.size=w.heap.size:=by obtain⟨w',h1,h2,h3,h4⟩:=QE h (fun p hp=>by obtain⟨x,hx,rfl⟩:=List.mem_map.1 hp;exact hl x hx) (fC q) hqk (fun hm=>by obtain⟨x,hx,e⟩:=List.mem_map.1 hm;exact hq (rQ e▸hx));rw[aQ]at h1;refine⟨w',h1,?_,h3,h4⟩;unfold lB;rw[List.map_append];exact h2
end
end Go.Proofs.YtjgccapbphadjaaGreatDoor
namespace Go.Proofs
open Go.Shelf
def Tryz.zV:Go.Shelf.Ren:=⟨fun | 169=>240 | n=>n,fun | 70=>312 | 9=>9 | 0=>0 | 72=>314 | 37=>44 | 127=>327 | 3=>3 | 5=>5 | n=>n,fun | n=>n⟩
theorem Tryz.ace:Go.Proofs.Lays.n169 Tryz.prog Tryz.zV:= {
 mixed:=by kernel_rfl
 f169:=Tryz.func240.trans (congrArg some (by kernel_rfl))
 t0:=Tryz.underlying0
 a0:=Tryz.isAgg0
 z0:=Tryz.sizeOf0
 v0:=Tryz.zeroValue0
 t3:=Tryz.underlying3
 a3:=Tryz.isAgg3
 z3:=Tryz.sizeOf3
 v3:=Tryz.zeroValue3
 t9:=Tryz.underlying9
 a9:=Tryz.isAgg9
 z9:=Tryz.sizeOf9
 v9:=Tryz.zeroValue9
 t37:=Tryz.underlying44
 a37:=Tryz.isAgg44
 z37:=Tryz.sizeOf44
 v37:=Tryz.zeroValue44
 t70:=Tryz.underlying312
 a70:=Tryz.isAgg312
 z70:=Tryz.sizeOf312
 v70:=Tryz.zeroValue312
 t72:=Tryz.underlying314
 a72:=Tryz.isAgg314
 z72:=Tryz.sizeOf314
 v72:=Tryz.zeroValue314
 t127:=Tryz.underlying327
 a127:=Tryz.isAgg327
 z127:=Tryz.sizeOf327
 v127:=Tryz.zeroValue327}
theorem Tryz.acf:Builder.Extra Tryz.prog Tryz.zV:= {
 sizeBuilder:=by kernel_rfl
 liesBuilder:=by kernel_rfl
 t5:=Tryz.underlying5
 a5:=Tryz.isAgg5
 z5:=Tryz.sizeOf5
 v5:=Tryz.zeroValue5
 infoByte:=by kernel_rfl
 cellsByte:=by kernel_rfl
 sizeByte:=by kernel_rfl
 neB5:=by decide}
def Tryz.My:Go.Shelf.Ren:=⟨fun | 171=>238 | 243=>249 | 246=>262 | 283=>267 | 284=>268 | 285=>269 | 286=>270 | 129=>135 | 317=>272 | 318=>273 | 319=>274 | 320=>275 | 337=>276 | 338=>277 | n=>n,fun | 3=>3 | 9=>9 | 2=>2 | 4=>4 | 171=>339 | 0=>0 | 53=>54 | 37=>44 | 5=>5 | 173=>341 | 212=>346 | 51=>221 | 20=>20 | 213=>347 | 46=>122 | 232=>348 | 233=>349 | n=>n,fun | 17=>0 | 18=>1 | 19=>2 | n=>n⟩
theorem Tryz.acg:Go.Proofs.LaysM.n171 Tryz.prog Tryz.My:= {
 mixed:=by kernel_rfl
 f129:=Tryz.func135.trans (congrArg some (by kernel_rfl))
 f171:=Tryz.func238.trans (congrArg some (by kernel_rfl))
 f243:=Tryz.func249.trans (congrArg some (by kernel_rfl))
 f246:=Tryz.func262.trans (congrArg some (by kernel_rfl))
 f283:=Tryz.func267.trans (congrArg some (by kernel_rfl))
 f284:=Tryz.func268.trans (congrArg some (by kernel_rfl))
 f285:=Tryz.func269.trans (congrArg some (by kernel_rfl))
 f286:=Tryz.func270.trans (congrArg some (by kernel_rfl))
 f317:=Tryz.func272.trans (congrArg some (by kernel_rfl))
 f318:=Tryz.func273.trans (congrArg some (by kernel_rfl))
 f319:=Tryz.func274.trans (congrArg some (by kernel_rfl))
 f320:=Tryz.func275.trans (congrArg some (by kernel_rfl))
 f337:=Tryz.func276.trans (congrArg some (by kernel_rfl))
 f338:=Tryz.func277.trans (congrArg some (by kernel_rfl))
 t0:=Tryz.underlying0
 a0:=Tryz.isAgg0
 z0:=Tryz.sizeOf0
 v0:=Tryz.zeroValue0
 t2:=Tryz.underlying2
 a2:=Tryz.isAgg2
 z2:=Tryz.sizeOf2
 v2:=Tryz.zeroValue2
 t3:=Tryz.underlying3
 a3:=Tryz.isAgg3
 z3:=Tryz.sizeOf3
 v3:=Tryz.zeroValue3
 t4:=Tryz.underlying4
 a4:=Tryz.isAgg4
 z4:=Tryz.sizeOf4
 v4:=Tryz.zeroValue4
 t5:=Tryz.underlying5
 a5:=Tryz.isAgg5
 z5:=Tryz.sizeOf5
 v5:=Tryz.zeroValue5
 t9:=Tryz.underlying9
 a9:=Tryz.isAgg9
 z9:=Tryz.sizeOf9
 v9:=Tryz.zeroValue9
 t20:=Tryz.underlying20
 a20:=Tryz.isAgg20
 z20:=Tryz.sizeOf20
 v20:=Tryz.zeroValue20
 t37:=Tryz.underlying44
 a37:=Tryz.isAgg44
 z37:=Tryz.sizeOf44
 v37:=Tryz.zeroValue44
 t46:=Tryz.underlying122
 a46:=Tryz.isAgg122
 z46:=Tryz.sizeOf122
 v46:=Tryz.zeroValue122
 t51:=Tryz.underlying221
 a51:=Tryz.isAgg221
 z51:=Tryz.sizeOf221
 v51:=Tryz.zeroValue221
 t53:=Tryz.underlying54
 a53:=Tryz.isAgg54
 z53:=Tryz.sizeOf54
 v53:=Tryz.zeroValue54
 t171:=Tryz.underlying339
 a171:=Tryz.isAgg339
 z171:=Tryz.sizeOf339
 v171:=Tryz.zeroValue339
 t173:=Tryz.underlying341
 a173:=Tryz.isAgg341
 z173:=Tryz.sizeOf341
 v173:=Tryz.zeroValue341
 t212:=Tryz.underlying346
 a212:=Tryz.isAgg346
 z212:=Tryz.sizeOf346
 v212:=Tryz.zeroValue346
 t213:=Tryz.underlying347
 a213:=Tryz.isAgg347
 z213:=Tryz.sizeOf347
 t232:=Tryz.underlying348
 a232:=Tryz.isAgg348
 z232:=Tryz.sizeOf348
 v232:=Tryz.zeroValue348
 t233:=Tryz.underlying349
 a233:=Tryz.isAgg349
 z233:=Tryz.sizeOf349
 v233:=Tryz.zeroValue349
 g17:=by kernel_rfl
 g18:=by kernel_rfl
 g19:=by kernel_rfl
 i0:=by kernel_rfl
 i2:=by kernel_rfl
 i3:=by kernel_rfl
 i4:=by kernel_rfl
 i5:=by kernel_rfl
 i9:=by kernel_rfl
 i20:=by kernel_rfl
 i37:=by kernel_rfl
 i46:=by kernel_rfl
 i51:=by kernel_rfl
 i53:=by kernel_rfl
 i171:=by kernel_rfl
 i173:=by kernel_rfl
 i212:=by kernel_rfl
 i232:=by kernel_rfl
 i233:=by kernel_rfl
 m17:=by kernel_rfl
 m18:=by kernel_rfl
 m19:=by kernel_rfl}
def Tryz.zW:Go.Shelf.Ren:=⟨fun | 166=>237 | 240=>248 | 276=>261 | n=>n,fun | 0=>0 | 3=>3 | 4=>4 | 5=>5 | 9=>9 | 20=>20 | 37=>44 | 70=>312 | 72=>314 | 75=>316 | 80=>320 | 164=>334 | n=>n,fun | n=>n⟩
theorem Tryz.ach:Go.Proofs.Lays.n166 Tryz.prog Tryz.zW:= {
 mixed:=by kernel_rfl
 f166:=Tryz.func237.trans (congrArg some (by kernel_rfl))
 f240:=Tryz.func248.trans (congrArg some (by kernel_rfl))
 f276:=Tryz.func261.trans (congrArg some (by kernel_rfl))
 t0:=Tryz.underlying0
 a0:=Tryz.isAgg0
 z0:=Tryz.sizeOf0
 v0:=Tryz.zeroValue0
 t3:=Tryz.underlying3
 a3:=Tryz.isAgg3
 z3:=Tryz.sizeOf3
 v3:=Tryz.zeroValue3
 t4:=Tryz.underlying4
 a4:=Tryz.isAgg4
 z4:=Tryz.sizeOf4
 v4:=Tryz.zeroValue4
 t9:=Tryz.underlying9
 a9:=Tryz.isAgg9
 z9:=Tryz.sizeOf9
 v9:=Tryz.zeroValue9
 t20:=Tryz.underlying20
 a20:=Tryz.isAgg20
 z20:=Tryz.sizeOf20
 v20:=Tryz.zeroValue20
 t37:=Tryz.underlying44
 a37:=Tryz.isAgg44
 z37:=Tryz.sizeOf44
 v37:=Tryz.zeroValue44
 t70:=Tryz.underlying312
 a70:=Tryz.isAgg312
 z70:=Tryz.sizeOf312
 v70:=Tryz.zeroValue312
 t72:=Tryz.underlying314
 a72:=Tryz.isAgg314
 z72:=Tryz.sizeOf314
 v72:=Tryz.zeroValue314
 t75:=Tryz.underlying316
 a75:=Tryz.isAgg316
 z75:=Tryz.sizeOf316
 v75:=Tryz.zeroValue316
 t164:=Tryz.underlying334
 a164:=Tryz.isAgg334
 z164:=Tryz.sizeOf334
 v164:=Tryz.zeroValue334}
theorem Tryz.aci:Builder.Extra Tryz.prog Tryz.zW:= {
 sizeBuilder:=by kernel_rfl
 liesBuilder:=by kernel_rfl
 t5:=Tryz.underlying5
 a5:=Tryz.isAgg5
 z5:=Tryz.sizeOf5
 v5:=Tryz.zeroValue5
 infoByte:=by kernel_rfl
 cellsByte:=by kernel_rfl
 sizeByte:=by kernel_rfl
 neB5:=by decide}
def Tryz.zX:Go.Shelf.Ren:=⟨fun | 167=>239 | 240=>248 | 276=>261 | n=>n,fun | 0=>0 | 3=>3 | 4=>4 | 5=>5 | 9=>9 | 20=>20 | 37=>44 | 70=>312 | 72=>314 | 75=>316 | 80=>320 | 164=>334 | n=>n,fun | n=>n⟩
theorem Tryz.acj:Go.Proofs.Lays.n167 Tryz.prog Tryz.zX:= {
 mixed:=by kernel_rfl
 f167:=Tryz.func239.trans (congrArg some (by kernel_rfl))
 f240:=Tryz.func248.trans (congrArg some (by kernel_rfl))
 f276:=Tryz.func261.trans (congrArg some (by kernel_rfl))
 t0:=Tryz.underlying0
 a0:=Tryz.isAgg0
 z0:=Tryz.sizeOf0
 v0:=Tryz.zeroValue0
 t4:=Tryz.underlying4
 a4:=Tryz.isAgg4
 z4:=Tryz.sizeOf4
 v4:=Tryz.zeroValue4
 t5:=Tryz.underlying5
 a5:=Tryz.isAgg5
 z5:=Tryz.sizeOf5
 v5:=Tryz.zeroValue5
 t9:=Tryz.underlying9
 a9:=Tryz.isAgg9
 z9:=Tryz.sizeOf9
 v9:=Tryz.zeroValue9
 t20:=Tryz.underlying20
 a20:=Tryz.isAgg20
 z20:=Tryz.sizeOf20
 v20:=Tryz.zeroValue20
 t37:=Tryz.underlying44
 a37:=Tryz.isAgg44
 z37:=Tryz.sizeOf44
 v37:=Tryz.zeroValue44
 t70:=Tryz.underlying312
 a70:=Tryz.isAgg312
 z70:=Tryz.sizeOf312
 v70:=Tryz.zeroValue312
 t72:=Tryz.underlying314
 a72:=Tryz.isAgg314
 z72:=Tryz.sizeOf314
 v72:=Tryz.zeroValue314
 t75:=Tryz.underlying316
 a75:=Tryz.isAgg316
 z75:=Tryz.sizeOf316
 v75:=Tryz.zeroValue316
 t164:=Tryz.underlying334
 a164:=Tryz.isAgg334
 z164:=Tryz.sizeOf334
 v164:=Tryz.zeroValue334}
theorem Tryz.ack:Builder.Extra Tryz.prog Tryz.zX:= {
 sizeBuilder:=by kernel_rfl
 liesBuilder:=by kernel_rfl
 t5:=Tryz.underlying5
 a5:=Tryz.isAgg5
 z5:=Tryz.sizeOf5
 v5:=Tryz.zeroValue5
 infoByte:=by kernel_rfl
 cellsByte:=by kernel_rfl
 sizeByte:=by kernel_rfl
 neB5:=by decide}
end Go.Proofs
namespace Go.Proofs.YtjgccapbphadjaaGreatDoor
section
open Go Go.RowKit Go.Shelf Go.Maps
def nN (W:World):Prop:=Lib.TabIs Tryz.prog W "internal/strconv.uint64pow10" .u64 Lib.pow10Tab
theorem Mz {P:Program} {w w':World} {name:String} (hk:∀ b,b<w.heap.size->w'.heap[b]? =w.heap[b]?) {x:Array Value} (h:w.var? P name=some x):w'.var? P name=some x:=by
 unfold World.var? at*;cases hg:P.globalNamed name with
 | none=>rw[hg]at h;cases h
 | some g=>
  rw[hg]at h;simp only[Option.bind_some]at h ⊢;rcases Nat.lt_or_ge g w.heap.size with h1 | h1
  ·rw[hk g h1];exact h
  ·rw[Array.getElem?_eq_none h1]at h;cases h
theorem nN.below {w w':World} (h:nN w) (hk:aa w w'):nN w':=Mz (fun b hb=>hk.block b hb) h
theorem EJ (x:Int) (h0: -9223372036854775808<=x) (h1:x<=9223372036854775807):(sZ x).length<=22:=by unfold sZ;rw[aJ];have:=Lib.itoa_length_le x h0 h1;simp;omega
def RowK (row:List (List Int)):Prop:=row.length<=64/\∀ l∈row,l.length<=401/\∀ x∈l, -1<=x/\x<=400
theorem MC {l:List Int} (h:∀ x∈l, -1<=x/\x<=400):(eK l).length<=22*l.length:=by
 induction l with
 | nil=>simp[eK]
 | cons p l ih=>
  rw[jQ,aJ,List.length_cons];have h1:=EJ p (by have:=(h p (aY ..)).1;omega) (by have:=(h p (aY ..)).2;omega);have h2:=ih fun x hx=>h x (bC _ hx)
  omega
theorem QF {row:List (List Int)} {N:Nat} (h:∀ l∈row,l.length<=N/\∀ x∈l, -1<=x/\x<=400):(fC row).length<=(22*N+1)*row.length:=by
 induction row with
 | nil=>simp[fC]
 | cons l row ih=>
  rw[lA,aJ,List.length_cons];have h1:=h l (aY ..);have h2:=MC h1.2;have h3:=ih fun x hx=>h x (bC _ hx)
  have h4:(ug l).length=(eK l).length+1:=by unfold ug;simp
  have h5:22*l.length<=22*N:=Nat.mul_le_mul_left _ h1.1;rw[Nat.mul_add,Nat.mul_one];omega
theorem RowK.len {row:List (List Int)} (h:RowK row):(fC row).length<=564672:=by have h1:=QF h.2;have h2:(22*401+1)*row.length<=(22*401+1)*64:=Nat.mul_le_mul_left _ h.1;omega
theorem RowK.in {row:List (List Int)} (h:RowK row):ui row:=by have:=h.len;unfold ui maxLen;omega
theorem rR (row:List (List Int)) (k:Nat):(fC (row.take k)).length<=(fC row).length:=by
 conv=>rhs;rw[<-List.take_append_drop k row]
 unfold fC;rw[List.flatMap_append,aJ];omega
theorem MD (row:List (List Int)) (l:List Int):fC (row++ [l])=fC row++eK l++ [59]:=by unfold fC;rw[List.flatMap_append];simp[ug]
theorem Iu (l:List Int) (p:Int):eK (l++ [p])=eK l++sZ p:=by unfold eK;rw[List.flatMap_append];simp
theorem Iw (n:Nat) (w:World) (k:Nat) (os:Array Obj) (hn:n<=w.heap.size):Below n w (Sort.grow (w.drewN k) os) where
 os:=rfl
 tape:=rfl
 output:=rfl
 size:=by unfold Sort.grow;simp[World.drewN]
 block:=fun b hb=>by unfold Sort.grow;show((w.drewN k).heap++os)[b]? =_;rw[Array.getElem?_append_left (by show b<w.heap.size;omega)];rfl
theorem uR {T e:TypeId} {B b:Nat} {bs:List Value} {w w':World} (h:Lib.IsBuilderF T e B b bs w) (hk:aa w w'):Lib.IsBuilderF T e B b bs w':=by
 have key:∀ p,Lib.BuilderAtF T e B b p bs w->Lib.BuilderAtF T e B b p bs w':=fun p h=>by
  have hlt:=h.lt;obtain⟨h1,v,h2,⟨h3,h4⟩,h5⟩:=h;refine⟨h1,v,(hk.block b hlt).trans h2,⟨h3,?_⟩,h5⟩;rcases h4 with h4 | ⟨g,cap,cur,fz,e1,e2,e3,rest⟩
  ·exact .inl h4
  ·exact .inr ⟨g,cap,cur,fz,e1,e2,(hk.block g (Array.getElem?_eq_some_iff.1 e3).1).trans e3,rest⟩
 exact h.imp (key _) (key _)
theorem y7 (l m:List UInt8):Lib.byteCells l++Lib.strCells ⟨m.toArray⟩=Lib.byteCells (l++m):=by unfold Lib.byteCells Lib.strCells;simp
theorem byteCells_one (l:List UInt8) (c:UInt8):Lib.byteCells l++ [.int .u8 c.toNat]=Lib.byteCells (l++ [c]):=by unfold Lib.byteCells;simp
theorem U4 (v:Value) (row:List (List Int)) (rk:RowK row) (w:World) (h:iZ w v row) (YL:∀ W,aa w W->nN W): ah 212 #[v] w fun e w'=>e=.returned (Ir row)/\aa w w':=by
 obtain⟨a,c,rfl⟩:=h.form;obtain⟨n,hn⟩:=ag row.length;obtain⟨R,hR⟩:=ag (Ir row);rw[<-hn]at h ⊢;rw[<-hR];have s4:n<=64:=by rw[hn];exact rk.1
 have KL:=hid rk.len;have H:=hid h;have HN:=hid hn;have HR:=hid hR;have HT:=hid YL;have RK:=hid rk.2;have CI:Hid (∀ (x:Int) (W:World), -1<=x->x<=400->aa w W->ah 238 #[.int .i64 x] W fun e w'=>e=.returned (.string ⟨(Lib.itoa x).toArray⟩)/\aa W w'):=hid fun x W h0 h1 hW=>(Any.strconv_Itoa Tryz.acg x (by omega) (by omega) W (YL W hW)).mono fun e w' ⟨he,k,os,hw⟩=>⟨he,by rw[hw];exact Iw _ _ _ _ (aG _)⟩
 have CW:Hid (∀ (B b:Nat) (bs:List Value) (s:ByteArray) (W:World),Lib.IsBuilderF 314 5 B b bs W->bs.length+s.size<=140737488355328->B<=W.heap.size->ah 237 #[.pointer (some ⟨b,0,none⟩),.string s] W fun e w'=>e=.returned (.tuple #[.int .i64 s.size,.nilIface])/\(Lib.BuilderAtF 314 5 B b (.pointer (some ⟨b,0,none⟩)) (bs++Lib.strCells s) w'/\Below B W w')):=hid fun B b bs s W h1 h2 h3=>(Any.Builder_WriteString_k Tryz.ach Tryz.aci B b bs s W h1 h2 h3).mono fun e w' ⟨he,h4,h5,_⟩=>⟨he,h4,h5⟩
 have CB:Hid (∀ (B b:Nat) (bs:List Value) (x:Int) (W:World),Lib.IsBuilderF 314 5 B b bs W->bs.length+1<=140737488355328->B<=W.heap.size->ah 239 #[.pointer (some ⟨b,0,none⟩),.int .u8 x] W fun e w'=>e=.returned .nilIface/\(Lib.BuilderAtF 314 5 B b (.pointer (some ⟨b,0,none⟩)) (bs++ [.int .u8 x]) w'/\Below B W w')):=hid fun B b bs x W h1 h2 h3=>(Any.Builder_WriteByte_k Tryz.acj Tryz.ack B b bs x W h1 h2 h3).mono fun e w' ⟨he,h4,h5,_⟩=>⟨he,h4,h5⟩
 have CS:Hid (∀ (B b:Nat) (l:List UInt8) (W:World),Lib.IsBuilderF 314 5 B b (Lib.byteCells l) W->B<=W.heap.size->ah 240 #[.pointer (some ⟨b,0,none⟩)] W fun e w'=>e=.returned (.string ⟨l.toArray⟩)/\Below B W w'):=hid fun B b l W h1 h3=>(Any.Builder_String_any_k Tryz.ace Tryz.acf B b l W h1 h3).mono fun e w' ⟨he,_,h5,_⟩=>⟨he,h5⟩
 clear h hn hR YL rk;go_enter Tryz.func212,Tryz.ntmps212;go_wp2;go_loopw [10] (fun iv wr=>∃ k:Nat,k<=n/\iv=.int .i64 k/\Lib.IsBuilderF 314 5 w.heap.size w.heap.size (Lib.byteCells (fC (row.take k))) wr/\aa w wr) (fun iv _=>n-(intOf iv).toNat);case atStart=>
  exact⟨0,by omega,rfl,Lib.IsBuilderF.of (Lib.fresh_isBuilder 314 5 w),((Ext.refl w).alloc _).below⟩
 case round=>
  obtain⟨k,hk,rfl,hb,hx⟩:=hrel;have HB:=hid hb;have HX:=hid hx;have hle:=rR row k;have HLE:=hid hle;clear hb hx hle;obtain⟨wo,rfl⟩:=ag (wr:World);by_cases hlt:k<n
  ·have eE:(k:Int)<n:=by omega
   obtain⟨l,hl⟩:∃ l,row[k]? =some l:=⟨_,az (by have:=HN.out;omega)⟩;obtain⟨b,off,a',c',rfl,hbl,cl,j8⟩:=H.elem hl;have EB:wo.cell? ⟨b,off+k,none⟩=some (.slice a' l.length c'):=((ae.ai HX fun _ h=>h:ae (· <w.heap.size) w wo).cell (p:=⟨b,off+k,none⟩) hbl).trans cl;have Ex:=hid j8;have RL:=hid (RK.out l (aw hl));have p8:Hid (fC (row.take (k+1))=fC (row.take k)++eK l++ [59]):=hid (by rw[List.take_add_one,hl];exact MD _ _);have LEN:Hid ((fC (row.take (k+1))).length<=564672):=hid (Nat.le_trans (rR row (k+1)) KL);obtain⟨m,hm⟩:=ag l.length;have ajQ:m<=401:=by rw[hm];exact RL.1
   have HM:=hid hm;rw[<-hm]at EB Ex;clear j8 hl hm cl;go_wp2;clear EB;go_loopw [16] (fun iv wi=>∃ j:Nat,j<=m/\iv=.int .i64 j/\Lib.IsBuilderF 314 5 w.heap.size w.heap.size (Lib.byteCells (fC (row.take k)++eK (l.take j))) wi/\aa w wi) (fun iv _=>m-(intOf iv).toNat);case atStart=>
    exact⟨0,by omega,rfl,by rw[List.take_zero];show Lib.IsBuilderF _ _ _ _ (Lib.byteCells (fC (row.take k)++ [])) _;rw[List.append_nil];exact HB,HX⟩
   case round=>
    obtain⟨j,hj,rfl,hb,hx⟩:=hrel;have iQ:=hid hb;have gF:=hid hx;clear hb hx;have tK:(eK (l.take j)).length<=(eK l).length:=by
     conv=>rhs;rw[<-List.take_append_drop j l]
     unfold eK;rw[List.flatMap_append,aJ];omega
    have YM:Hid ((fC (row.take k)++eK (l.take j)).length<=564672):=hid (by have h5:=LEN.out;rw[p8.out,aJ,aJ]at h5;rw[aJ];omega);clear tK;by_cases kX:j<m
    ·have ku:(j:Int)<m:=by omega
     obtain⟨x,zI⟩:∃ x,l[j]? =some x:=⟨_,az (by have:=HM.out;omega)⟩;obtain⟨g2,o2,rfl,_,q2⟩:=(Ex.below gF).elem zI;replace q2:wr.cell? ⟨g2,o2+j,none⟩=some (.int .i64 x):=q2;have UY:=RL.2 x (aw zI);have HTJ:Hid (fC (row.take k)++eK (l.take (j+1))=fC (row.take k)++eK (l.take j)++sZ x):=hid (by rw[List.take_add_one,zI];show fC (row.take k)++eK (l.take j++ [x])=_;rw[Iu,List.append_assoc]);clear zI;go_wp2_with fail
     clear q2;refine(CI x wr UY.1 UY.2 gF).mono ?_;rintro e w1 ⟨rfl,hx⟩;have HB3:=hid (uR iQ hx);have oy:=hid (gF.trans (hx.mono gF.size));clear hx;have hlen:=Lib.itoa_length_le x (by have:=UY.1;omega) (by have:=UY.2;omega);have vG:(Lib.itoa x).length+1<=9223372036854775807:=by omega
     have XJ:∀ W,(Op.stringOp .add ⟨(Lib.itoa x).toArray⟩ ⟨#[44]⟩).run Tryz.prog W=.ok (.string ⟨(sZ x).toArray⟩) W:=fun W=>by
      rw[run_string_add_lists (P:=Tryz.prog) W (Lib.itoa x) [44] (by omega) (by decide)];rfl
     have hnk:(sZ x).length<=22:=EJ x (by have:=UY.1;omega) (by have:=UY.2;omega);go_wp2_with fail
     clear XJ;refine(CW _ _ _ _ _ HB3 (by rw[Lib.byteCells_length];have h6:=YM.out;have:(⟨(sZ x).toArray⟩:ByteArray).size=(sZ x).length:=(by simp[ByteArray.size]);omega) oy.size).mono ?_;rintro e w2 ⟨rfl,hb,hx⟩;rw[y7, <-HTJ.out]at hb;have YG:=hid hb;have D7:=hid (oy.trans hx);clear hb hx;go_wp2;exact⟨⟨j+1,by omega,by go_num,.inr YG,D7⟩,by simp[intOf];omega⟩
    ·obtain rfl:j=m:=by omega
     have ku:¬ ((j:Int)<j):=by omega
     have eT:l.take j=l:=by rw[HM.out,List.take_length]
     rw[eT]at iQ YM;go_wp2_with fail
     refine(CB _ _ _ _ _ iQ (by rw[Lib.byteCells_length];have h6:=YM.out;omega) gF.size).mono ?_;rintro e w2 ⟨rfl,hb,hx⟩;have hb2:Lib.BuilderAtF 314 5 w.heap.size w.heap.size (.pointer (some ⟨w.heap.size,0,none⟩)) (Lib.byteCells (fC (row.take (k+1)))) w2:=by rw[p8.out, <-byteCells_one];exact hb
     have YG:=hid hb2;have D7:=hid (gF.trans hx);clear hb hb2 hx;go_wp2;exact⟨⟨k+1,by omega,by go_num,.inr YG,D7⟩,by simp[intOf];omega⟩
  ·obtain rfl:k=n:=by omega
   have ku:¬ ((k:Int)<k):=by omega
   have eT:row.take k=row:=by rw[HN.out,List.take_length]
   rw[eT]at HB;go_wp2_with fail
   refine(CS _ _ _ _ HB HX.size).mono ?_;rintro e w2 ⟨rfl,hx⟩;have D7:=hid (HX.trans hx);clear hx;go_wp2;go_ret;exact⟨by rw[HR.out];rfl,D7⟩
theorem lx.QG {w:World} {v0 v1 v2 v3 e:Value} {a:NF} (h:lx w (.agg #[v0,v1,v2,v3,e]) a):∃ a0 n0 c0 a1 n1 c1 a2 n2 c2 a3 n3 c3,v0=.slice a0 n0 c0/\v1=.slice a1 n1 c1/\v2=.slice a2 n2 c2/\v3=.slice a3 n3 c3:=by obtain⟨u0,u1,u2,u3,e,h0,h1,h2,h3⟩:=h;obtain⟨a0,c0,rfl⟩:=h0.1.form;obtain⟨a1,c1,rfl⟩:=h1.form;obtain⟨a2,c2,rfl⟩:=h2.form;obtain⟨a3,c3,rfl⟩:=h3.form;cases e;exact⟨_,_,_,_,_,_,_,_,_,_,_,_,rfl,rfl,rfl,rfl⟩
def ji (w:World) (v:Value) (ps:List PT):Prop:=(v=.slice none 0 0/\ps=[])\/∃ b off cap,v=.slice (some ⟨b,off,none⟩) ps.length cap/\b<w.heap.size/\∀ (i:Nat) (x:PT),ps[i]? =some x->
 ∃ v0 v1 v2 v3,lx w (.agg #[v0,v1,v2,v3,.bool x.nf.emp]) x.nf/\w.cell? ⟨b,off+i*7,none⟩=some v0/\w.cell? ⟨b,off+i*7+1,none⟩=some v1/\w.cell? ⟨b,off+i*7+2,none⟩=some v2/\w.cell? ⟨b,off+i*7+3,none⟩=some v3/\
  w.cell? ⟨b,off+i*7+4,none⟩=some (.bool x.nf.emp)/\w.cell? ⟨b,off+i*7+5,none⟩=some (.bool x.zQ)/\w.cell? ⟨b,off+i*7+6,none⟩=some (.int .i64 x.mark)
theorem ji.below {w w':World} {v:Value} {ps:List PT} (h:ji w v ps) (hk:aa w w'):ji w' v ps:=by
 rcases h with h | ⟨b,off,cap,hv,hb,h⟩
 ·exact .inl h
 ·have hc:∀ j,w'.cell? ⟨b,j,none⟩=w.cell? ⟨b,j,none⟩:=fun j=>(ae.ai hk fun _ h=>h:ae (· <w.heap.size) w w').cell (p:=⟨b,j,none⟩) hb
  refine .inr ⟨b,off,cap,hv,aD hb hk.size,fun i x hx=>?_⟩;obtain⟨v0,v1,v2,v3,h0,h1,h2,h3,h4,h5,h6,h7⟩:=h i x hx;exact⟨v0,v1,v2,v3,h0.below hk,(hc _).trans h1,(hc _).trans h2,(hc _).trans h3,(hc _).trans h4,(hc _).trans h5,(hc _).trans h6,(hc _).trans h7⟩
theorem ji.form {w:World} {v:Value} {ps:List PT} (h:ji w v ps):∃ a cap,v=.slice a ps.length cap:=by
 rcases h with⟨rfl,rfl⟩ | ⟨b,off,cap,rfl,_⟩
 ·exact⟨_,_,rfl⟩
 ·exact⟨_,_,rfl⟩
theorem ji.elem {w:World} {a:Option Addr} {n cap:Nat} {ps:List PT} (h:ji w (.slice a n cap) ps) {i:Nat} {x:PT} (hi:ps[i]? =some x): ∃ b off v0 v1 v2 v3,a=some ⟨b,off,none⟩/\b<w.heap.size/\lx w (.agg #[v0,v1,v2,v3,.bool x.nf.emp]) x.nf/\w.cell? ⟨b,off+i*7,none⟩=some v0/\w.cell? ⟨b,off+i*7+1,none⟩=some v1/\w.cell? ⟨b,off+i*7+2,none⟩=some v2/\w.cell? ⟨b,off+i*7+3,none⟩=some v3/\ w.cell? ⟨b,off+i*7+4,none⟩=some (.bool x.nf.emp)/\w.cell? ⟨b,off+i*7+5,none⟩=some (.bool x.zQ)/\w.cell? ⟨b,off+i*7+6,none⟩=some (.int .i64 x.mark):=by
 rcases h with⟨_,rfl⟩ | ⟨b,off,c,hv,hb,h⟩
 ·simp at hi
 ·cases hv
  obtain⟨v0,v1,v2,v3,h0,rest⟩:=h i x hi;exact⟨b,off,v0,v1,v2,v3,rfl,hb,h0,rest⟩
def U5 (ps:List PT):Prop:=ps.length<=64/\∀ x∈ps,Nt x.nf/\Qs x.nf/\0<=x.mark/\x.mark<=255
theorem ar.seven {w:World} {b:Nat} {x y z u t p q:Value} {ty:TypeId} (h:ar w b #[x,y,z,u,t,p,q] ty):w.cell? ⟨b,0,none⟩=some x/\w.cell? ⟨b,1,none⟩=some y/\w.cell? ⟨b,2,none⟩=some z/\w.cell? ⟨b,3,none⟩=some u/\w.cell? ⟨b,4,none⟩=some t/\w.cell? ⟨b,5,none⟩=some p/\w.cell? ⟨b,6,none⟩=some q:=
 ⟨h.cell 0,h.cell 1,h.cell 2,h.cell 3,h.cell 4,h.cell 5,h.cell 6⟩
def aX.acm (base:Nat) (e:TypeId) (size n:Nat) (xs:List Value) (x:Value):aX (Move false (fun _=>False)) where
 P:=fun v=>∃ a c,v=.tuple #[.slice a n c,x]
 H:=fun v W=>∀ u,v=.tuple #[u,x]->W.ownsRow base e size u n xs
 ot:=.tuple #[.slice none n 0,x]
 pw:=⟨none,0,rfl⟩
 st:=fun _ _ _ hm _ h u hu=>ak (h u hu) hm.below
theorem MG {base:Nat} {e:TypeId} {size n:Nat} {xs:List Value} {x u:Value} {W:World} (h:W.ownsRow base e size u n xs):∃ a c,(Value.tuple #[u,x])=.tuple #[.slice a n c,x]:=by obtain⟨a,c,rfl⟩:=ownsRow_form h;exact⟨a,c,rfl⟩
theorem MH {base:Nat} {e:TypeId} {size n:Nat} {xs:List Value} {x u:Value} {W:World} (h:W.ownsRow base e size u n xs):∀ u',(Value.tuple #[u,x])=.tuple #[u',x]->W.ownsRow base e size u' n xs:=fun u' e=>by cases e;exact h
theorem MI {ps:List PT} {row:List (List Int)} {c i:Nat} {x:PT} {l:List Int} (hx:ps[i]? =some x) (hl:row[i]? =some l):(eX ps row c)[i]? =some (x.step l c):=by unfold eX;rw[List.getElem?_zipWith,hx,hl]
theorem MJ {ps:List PT} {row:List (List Int)} (h:row.length=ps.length) (c:Nat):(eX ps row c).length=ps.length:=by simp[eX,h]
theorem Iy {a:NF} (rt:Nt a) {l:List Int} (h:a.st l=true):l.length<=401:=by
 obtain⟨h1,h2⟩:=dW h;have hle:=rt.le;have hn:(l.map fun x=>(x+1).toNat).Nodup:=by rw[List.nodup_iff_pairwise_ne,List.pairwise_map];exact h1.imp_of_mem fun {a b} ha hb hab=>by have:=h2 a ha;have:=h2 b hb;omega
 have:=List.Nodup.length_le_of_subset hn (l₂:=List.range 401) fun x hx=>by
  obtain⟨y,hy,rfl⟩:=List.mem_map.1 hx;have:=h2 y hy;exact List.mem_range.2 (by omega)
 simpa using this
theorem Ca {ps:List PT} (ok:U5 ps) {row:List (List Int)} (h:pM ps row):RowK row:=by refine⟨by rw[h.1];exact ok.1,fun l hl=>?_⟩;obtain⟨i,hi⟩:=List.getElem?_of_mem hl;have gJ:=(List.getElem?_eq_some_iff.1 hi).1;have hx:ps[i]? =some (ps[i]'(by rw[<-h.1];exact gJ)):=az _;have rt:=(ok.2 _ (aw hx)).1;have hst:=h.2 i _ l hx hi;refine⟨Iy rt hst,fun x hx=>?_⟩;have:=(dW hst).2 x hx;have:=rt.le;omega
theorem MK (mb:Nat) (pv lv:Value) (ps:List PT) (ok:U5 ps) (row:List (List Int)) (hr:pM ps row) (c:Nat) (hc:c<256) (w:World) (hm:w.cell? ⟨mb,0,none⟩=some pv) (h:ji w pv ps) (hl:iZ w lv row): ah 173 #[.pointer (some ⟨mb,0,none⟩),lv,.int .u8 c] w fun e w'=>∃ u,e=.returned u/\bw w.heap.size w' u (eX ps row c)/\aa w w':=by
 obtain⟨iL,zY,mR,mS,mU⟩:=info_parts Tryz.tX;obtain⟨iI,y8,kP,kQ,kR⟩:=info_parts Tryz.mH;obtain⟨pa,pc,rfl⟩:=h.form;obtain⟨la,lc,rfl⟩:=hl.form;obtain⟨n,hn⟩:=ag ps.length;have zv:=hr.1;rw[<-hn]at h hm zv;rw[zv]at hl ⊢;have s4:n<=64:=by rw[hn];exact ok.1
 have CS:Hid (∀ (i:Nat) (x:PT) (l:List Int) (v u:Value) (W:World),ps[i]? =some x->row[i]? =some l->lx W v x.nf->bQ aM W u l->ah 216 #[v,u,.int .u8 c] W fun e w'=>∃ r,e=.returned (.tuple #[r,.int .i64 0])/\w'.ownsRow W.heap.size 3 1 r (x.nf.step l c).length ((x.nf.step l c).map aM)/\aa W w'):=hid fun i x l v u W hx hl hv hu=>by
  have h2:=ok.2 x (aw hx);have hst:=hr.2 i x l hx hl;exact Mx v u x.nf h2.1 l hst c hc W hv h2.2.1 hu (Nat.le_trans (Iy h2.1 hst) (by decide))
 have SL:Hid (∀ (i:Nat) (x:PT) (l:List Int),ps[i]? =some x->(x.nf.step l c).length<=400):=hid fun i x l hx=>by
  have h2:=(ok.2 x (aw hx)).1.le;unfold NF.step;rw[aQ];exact Nat.le_trans (List.length_filter_le _ _) (by simpa using h2)
 have H:=hid h;have HL:=hid hl;have HN:=hid hn;have YN:=hid zv;have SLn:Hid ((eX ps row c).length=n):=hid (by rw[MJ hr.1, <-hn]);have oH:mb<w.heap.size:=World.block_lt_of_cell? _ _ hm;clear h hl hr hn zv ok;go_enter Tryz.func173,Tryz.ntmps173;go_wp2;clear hm;go_loopw [7,17] (fun ov iv wr=>∃ k:Nat,k<=n/\iv=.int .i64 k/\bw w.heap.size wr ov ((eX ps row c).take k)/\aa w wr) (fun _ iv _=>n-(intOf iv).toNat);case atStart=>exact⟨0,by omega,rfl,bw.nil _ _,Below.refl _ _⟩
 case round=>
  obtain⟨k,hk,rfl,ho,hx⟩:=hrel;obtain⟨wo,rfl⟩:=ag (wr:World);have HO:=hid ho;have HX:=hid hx;clear ho hx;by_cases hlt:k<n
  ·have eE:(k:Int)<n:=by omega
   obtain⟨x,hx⟩:∃ x,ps[k]? =some x:=⟨_,az (by have:=HN.out;omega)⟩;obtain⟨l,hl⟩:∃ l,row[k]? =some l:=⟨_,az (by have:=YN.out;omega)⟩;obtain⟨b,off,v0,v1,v2,v3,rfl,hb,Dr,q0,q1,q2,q3,q4,q5,q6⟩:=(H.below HX).elem hx;obtain⟨b2,fV,a',c',rfl,hb2,cl,j8⟩:=(HL.below HX).elem hl;have U6:=hid hx;have HLL:=hid hl;obtain⟨x0,n0,c0,x1,n1,c1,x2,n2,c2,x3,n3,c3,rfl,rfl,rfl,rfl⟩:=Dr.QG;have KC:=hid Dr;have Ex:=hid j8;have p8:Hid ((eX ps row c).take (k+1)=(eX ps row c).take k++ [x.step l c]):=hid (by rw[List.take_add_one,MI hx hl];rfl);clear hx hl Dr j8;obtain⟨sn,kS⟩:=ag ((x.nf.step l c).length);obtain⟨sx,EK⟩:=ag ((x.nf.step l c).map aM);have CS1:Hid (∀ (v u:Value) (W:World),lx W v x.nf->bQ aM W u l->ah 216 #[v,u,.int .u8 c] W fun e w'=>∃ r,e=.returned (.tuple #[r,.int .i64 0])/\w'.ownsRow W.heap.size 3 1 r sn sx/\aa W w'):=hid fun v u W hv hu=>by rw[kS,EK];exact CS k x l v u W U6 HLL hv hu
   have ajS:sn<=400:=by rw[kS];exact SL k x l U6
   have HSN:=hid kS;have HSX:=hid EK;obtain⟨ln,Qt⟩:=ag l.length;rw[<-Qt]at cl Ex;clear kS EK Qt;go_wp2;refine aA ?_;intro V hV;have BX:Hid (ar V wo.heap.size #[.slice x0 n0 c0,.slice x1 n1 c1,.slice x2 n2 c2,.slice x3 n3 c3,.bool x.nf.emp,.bool x.zQ,.int .i64 x.mark] 124):=hid (by rw[hV];exact ar.new wo _ _);have XV:Hid (aa wo V):=hid (by rw[hV];exact((Ext.refl wo).alloc _).below);have EB:V.cell? ⟨b2,fV+k,none⟩=some (.slice a' ln c'):=((ae.ai XV fun _ h=>h:ae (· <wo.heap.size) wo V).cell (p:=⟨b2,fV+k,none⟩) hb2).trans cl;clear hV q0 q1 q2 q3 q4 q5 q6 cl;refine aL false (fun _=>False) (by kernel_rfl) 12 [0,1,0,0,12,28,0,127,255,511,511,1023,4095] (fun i=>i==7) (by kernel_rfl) (fun i=>if i=7 then aX.acm V.heap.size 3 1 sn sx (.int .i64 0)else aX.any _) ?_;intro C hC hne;have HC:=hid hC;have f0:=aC hC (p:=⟨wo.heap.size,0,none⟩) BX.lt (fun h=>h) (BX.cell 0);have f1:=aC hC (p:=⟨wo.heap.size,1,none⟩) BX.lt (fun h=>h) (BX.cell 1);have f2:=aC hC (p:=⟨wo.heap.size,2,none⟩) BX.lt (fun h=>h) (BX.cell 2);have f3:=aC hC (p:=⟨wo.heap.size,3,none⟩) BX.lt (fun h=>h) (BX.cell 3);have f4:=aC hC (p:=⟨wo.heap.size,4,none⟩) BX.lt (fun h=>h) (BX.cell 4);have f5:=aC hC (p:=⟨b2,fV+k,none⟩) (World.block_lt_of_cell? _ _ EB) (fun h=>h) EB;clear hC EB
   repeat (refine au (fun K hK=>?_);first | (refine cg rfl ?_;try go_simp;refine hK _ _ ?_;clear hK K) | (refine bV rfl rfl ?_;unfold aF;go_simp;refine hK _ _ ?_;clear hK K))
   refine au (fun K hK=>?_);refine ct rfl rfl (aX.acm V.heap.size 3 1 sn sx (.int .i64 0)) rfl (fun W hW hN=>?_) (fun v hv=>?_)
   ·have hM:=(HC.out W).1 hW
    clear hW;go_simp;refine bI ((CS1 _ _ _ ((KC.below XV).below hM.below) ((Ex.below XV).below hM.below)).mono ?_);rintro e w2 ⟨vp,rfl,ho,hx⟩;exact⟨_,rfl,Move.ai hx,MG ho,MH (aH ho hM.size)⟩
   obtain⟨ra,rc,rfl⟩:=hv;go_simp;refine hK _ _ ?_;clear hK K
   repeat (refine au (fun K hK=>?_);first | (refine cg rfl ?_;try go_simp;refine hK _ _ ?_;clear hK K) | (refine bV rfl rfl ?_;unfold aF;go_simp;refine hK _ _ ?_;clear hK K))
   refine bM (fun W hW hH=>?_);have hM:=(HC.out W).1 hW;have R0:Hid (W.ownsRow V.heap.size 3 1 (.slice ra sn rc) sn sx):=hid ((hH _ (aw (show _=some _ from rfl:_[0]? =some _))) _ rfl);have BW:=hid (BX.below hM.below BX.lt);have XW:=hid (XV.trans (hM.below.mono XV.size));have hVW:=hM.size;clear hM hW hH HC hne f0 f1 f2 f3 f4 f5;obtain⟨i0,i1,i2,i3,i4,i5,i6⟩:=BW.seven;have U7:w.heap.size<=wo.heap.size:=HX.size;have U8:wo.heap.size<W.heap.size:=BW.lt;obtain⟨us,u1,u2,u3⟩:=HO.out;obtain⟨m,hm⟩:=ag us.length;have ana:m<=64:=by rw[hm,u1,List.length_take,SLn.out];omega
   rw[<-hm]at u2;have HM:=hid hm;obtain⟨a5,c5,rfl⟩:=ownsRow_form u2;have U1:=hid u1;have V2:=hid (ak u2 XW);have V3:=hid fun i u l hu hl=>ak (u3 i u l hu hl) XW
   clear u1 u2 u3 hm;cases hbg:x.zQ with
   | true=>
    rw[hbg]at i5;have HE:Hid (x.step l c=x.nf.step l c):=hid (by unfold PT.step;rw[hbg];rfl);clear hbg
    have RN:Hid (W.ownsRow w.heap.size 3 1 (.slice ra sn rc) (x.step l c).length ((x.step l c).map aM)):=hid (by
     rw[HE.out, <-HSN.out, <-HSX.out]
     exact aH R0 (Nat.le_trans U7 XV.size))
    go_wp2_with (at_builtin;refine wpList_append_own_at _ rfl (.tmp 39) (.tmp 41) 27 rfl w.heap.size 39 iL (.slice none 0 0) 1 24 Tryz.underlying27 zY mR mS mU rfl (by decide) _ _ _ rfl (V2.alloc _) ⟨W.heap.size,0,none⟩ 1 1 [.slice ra sn rc] rfl rfl (eF _ _ _) (by simp[Value.oneCell']) (by unfold maxLen;omega) (by omega) (by simp;omega) ?_;intro v' w2 hown' hgrow hh hat;have jH:=hid hown';have HG:=hid hgrow;clear hown' hgrow hh hat)
    go_roundw
    case rel=>
     refine⟨k+1,by omega,by go_num,?_,?_⟩
     ·rw[p8.out]
      refine bw.snoc (w:=W.alloc (.cells #[.slice ra sn rc] 39)) (v:=.slice a5 m c5) (by rw[<-HM.out];exact HM.trans U1) (by rw[<-HM.out];exact V2.alloc _) (fun i u l hu hl=>(V3 i u l hu hl).alloc _) (RN.alloc _) HG (by rw[<-HM.out];exact jH)
     ·have XX:=HX.trans (XW.mono HX.size)
      exact(XX.alloc XX.size _).grown HG (by have:=XX.size;simp;omega) (fun c e=>(V2.lt c e).1)
    case measure=>simp[intOf];omega
   | false=>
    rw[hbg]at i5;have HE:Hid (x.step l c= -1::x.nf.step l c):=hid (by unfold PT.step;rw[hbg];rfl);clear hbg;have O1:Hid ((W.alloc (.cells #[.int .i64 (-1)] 3)).ownsRow W.heap.size 3 1 (.slice (some ⟨W.heap.size,0,none⟩) 1 1) 1 [.int .i64 (-1)]):=hid ⟨rfl,.inr ⟨W.heap.size,1, #[.int .i64 (-1)],rfl,aG _,World.alloc_heap_new _ _,aG _,by unfold maxLen;omega,rfl,rfl⟩⟩;go_wp2_with (at_builtin;refine Hid.out ?_);refine hid ?_;refine nz rfl (.tmp 36) (.tmp 37) 39 rfl W.heap.size 3 iI (.int .i64 0) 1 8 Tryz.underlying39 y8 kP kQ kR rfl (by decide) _ 1 _ rfl O1 _ sn sx rfl (tS.own (R0.alloc _)) (by rw[HSX.out,aQ,Nat.mul_one];exact HSN.symm) (fun u hu=>by rw[HSX.out]at hu;obtain⟨y,_,rfl⟩:=List.mem_map.1 hu;rfl) (by unfold maxLen;omega) (by omega) (by simp) ?_;intro v1 w1 hown1 QH;have XB:Hid (aa W w1):=hid (((Below.refl _ W).alloc (aG _) _).grown QH (by simp) (fun c e=>by have e2:some W.heap.size=some c:=e;injection e2 with e2;omega));have hN:1+sn=(x.step l c).length:=by rw[HE.out,List.length_cons, <-HSN.out];omega
    have hX:[.int .i64 (-1)]++sx=(x.step l c).map aM:=by rw[HE.out,HSX.out];rfl
    rw[hN,hX]at hown1;obtain⟨sm,hsm⟩:=ag ((x.step l c).length);rw[<-hsm]at hown1;obtain⟨a6,c6,rfl⟩:=ownsRow_form hown1;have RN:Hid (w1.ownsRow w.heap.size 3 1 (.slice a6 sm c6) (x.step l c).length ((x.step l c).map aM)):=hid (by rw[<-hsm];exact aH hown1 (by omega));have Z2:=hid (ak V2 XB);have Z3:=hid fun i u l hu hl=>ak (V3 i u l hu hl) XB
    have hw1:=XB.size;clear hown1 QH hN hX hsm V2 V3 O1;go_wp2_with (at_builtin;refine wpList_append_own_at _ rfl (.tmp 39) (.tmp 41) 27 rfl w.heap.size 39 iL (.slice none 0 0) 1 24 Tryz.underlying27 zY mR mS mU rfl (by decide) _ _ _ rfl (Z2.alloc _) ⟨w1.heap.size,0,none⟩ 1 1 [.slice a6 sm c6] rfl rfl (eF _ _ _) (by simp[Value.oneCell']) (by unfold maxLen;omega) (by omega) (by simp;omega) ?_;intro v' w2 hown' hgrow hh hat;have jH:=hid hown';have HG:=hid hgrow;clear hown' hgrow hh hat);go_roundw;case rel=>
     refine⟨k+1,by omega,by go_num,?_,?_⟩
     ·rw[p8.out]
      refine bw.snoc (w:=w1.alloc (.cells #[.slice a6 sm c6] 39)) (v:=.slice a5 m c5) (by rw[<-HM.out];exact HM.trans U1) (by rw[<-HM.out];exact Z2.alloc _) (fun i u l hu hl=>(Z3 i u l hu hl).alloc _) (RN.alloc _) HG (by rw[<-HM.out];exact jH)
     ·have XX:=(HX.trans (XW.mono HX.size)).trans (XB.mono (Nat.le_trans HX.size XW.size))
      exact(XX.alloc XX.size _).grown HG (by have:=XX.size;simp;omega) (fun c e=>(Z2.lt c e).1)
    case measure=>simp[intOf];omega
  ·obtain rfl:k=n:=by omega
   have Il:¬ ((k:Int)<k):=by omega
   have eT:(eX ps row c).take k=eX ps row c:=by rw[<-SLn.out];exact List.take_length
   rw[eT]at HO;go_wp2;go_ret;exact⟨_,rfl,HO,HX⟩
def QI (Q:World->Value->NF->Prop) (w:World) (x:PT) (f:Nat->Option Value):Prop:=
 ∃ v0 v1 v2 v3,Q w (.agg #[v0,v1,v2,v3,.bool x.nf.emp]) x.nf/\f 0=some v0/\f 1=some v1/\f 2=some v2/\f 3=some v3/\f 4=some (.bool x.nf.emp)/\f 5=some (.bool x.zQ)/\f 6=some (.int .i64 x.mark)
theorem QI.mono {Q R:World->Value->NF->Prop} {w w':World} {x:PT} {f g:Nat->Option Value} (h:QI Q w x f) (hq:∀ v,Q w v x.nf->R w' v x.nf) (hf:∀ j,j<7->∀ u,f j=some u->g j=some u):QI R w' x g:=by obtain⟨v0,v1,v2,v3,h0,h1,h2,h3,h4,h5,h6,h7⟩:=h;exact⟨v0,v1,v2,v3,hq _ h0,hf 0 (by decide) _ h1,hf 1 (by decide) _ h2,hf 2 (by decide) _ h3,hf 3 (by decide) _ h4,hf 4 (by decide) _ h5,hf 5 (by decide) _ h6,hf 6 (by decide) _ h7⟩
theorem ik.below {base:Nat} {w w':World} {v:Value} {a:NF} (h:ik base w v a) (hk:aa w w'):ik base w' v a:=by obtain⟨v0,v1,v2,v3,e,h0,h1,h2,h3⟩:=h;exact⟨v0,v1,v2,v3,e,ak h0 hk,h1.below hk,ak h2 hk,ak h3 hk⟩
theorem ik.base {base base':Nat} {w:World} {v:Value} {a:NF} (h:ik base w v a) (hb:base'<=base):ik base' w v a:=by obtain⟨v0,v1,v2,v3,e,h0,h1,h2,h3⟩:=h;exact⟨v0,v1,v2,v3,e,aH h0 hb,h1.base hb,aH h2 hb,aH h3 hb⟩
theorem rS {w w':World} {b1 b2 s1 s2 n1 n2:Nat} {e1 e2:TypeId} {v1 v2:Value} {x1 x2:List Value} (he:e1≠e2) (h1:w.ownsRow b1 e1 s1 v1 n1 x1) (h2:w.ownsRow b2 e2 s2 v2 n2 x2) (hk:ae (fun x=>x<w.heap.size/\v2.ownBlock≠some x) w w'):w'.ownsRow b1 e1 s1 v1 n1 x1:=
 aj h1 hk fun x hx=>⟨(h1.lt x hx).2,fun e=>by
  rcases ownBlock_ne he h1 h2 with h5 | h5
  ·rw[h5]at hx;cases hx
  ·exact h5 (hx.trans e.symm)⟩
theorem bw.far {w w':World} {b1 b2 s2 n2:Nat} {e2:TypeId} {v1 v2:Value} {x2:List Value} {ll:List (List Int)} (h1:bw b1 w v1 ll) (h2:w.ownsRow b2 e2 s2 v2 n2 x2) (ha:39≠e2) (hb:3≠e2) (hk:ae (fun x=>x<w.heap.size/\v2.ownBlock≠some x) w w'):bw b1 w' v1 ll:=by obtain⟨us,e,o1,o2⟩:=h1;exact⟨us,e,rS ha o1 h2 hk,fun i u l hu hl=>rS hb (o2 i u l hu hl) h2 hk⟩
theorem ik.far {w w':World} {b1 b2 s2 n2:Nat} {e2:TypeId} {v1 v2:Value} {x2:List Value} {a:NF} (h1:ik b1 w v1 a) (h2:w.ownsRow b2 e2 s2 v2 n2 x2) (h0:56≠e2) (ha:39≠e2) (hb:3≠e2) (hk:ae (fun x=>x<w.heap.size/\v2.ownBlock≠some x) w w'):ik b1 w' v1 a:=by obtain⟨v0,v1,v2,v3,e,o0,o1,o2,o3⟩:=h1;exact⟨v0,v1,v2,v3,e,rS h0 o0 h2 hk,o1.far h2 ha hb hk,rS hb o2 h2 hk,rS hb o3 h2 hk⟩
end
section
open Go Go.ChangeShapes Go.WideShapes Go.ChangeAt Go.RowKit Go.Deep
section
variable {H:Type} {enc:TypeId×Value→H} {W:World}
theorem ql {b j:Nat} {u:Value} (h:W.cell? ⟨b,j,none⟩=some u):b<W.heap.size:=by
 unfold World.cell? at h;cases hh:W.heap[b]? with
 | none=>rw[hh]at h;cases h
 | some o=>exact(Array.getElem?_eq_some_iff.1 hh).1
theorem jS (b o i:Nat):(⟨b,o,none⟩:Addr).add i=⟨b,o+i,none⟩:=by
 unfold Addr.add;split
 ·rename_i h;subst h;rfl
 ·rfl
end
end
section
open Go Go.RowKit
inductive RX where
 | nd (kind:Nat) (set:BS) (mn mx:Int) (subs:List RX)
def RX.kind:RX->Nat | .nd k _ _ _ _=>k
def RX.set:RX->BS | .nd _ s _ _ _=>s
def RX.mn:RX->Int | .nd _ _ a _ _=>a
def RX.mx:RX->Int | .nd _ _ _ b _=>b
def RX.subs:RX->List RX | .nd _ _ _ _ l=>l
theorem RX.ind {P:RX->Prop} (h:∀ k s a b l,(∀ t∈l,P t)->P (.nd k s a b l)):∀ t,P t:=by
 intro t;induction t using RX.rec (motive_2:=fun l=>∀ t∈l,P t)with
 | nd k s a b l ih=>exact h k s a b l ih
 | nil=>
  rename_i x hx;cases hx
 | cons t l h1 h2=>
  rename_i x hx;rcases List.mem_cons.1 hx with e | e
  ·rw[e];exact h1
  ·exact h2 _ e
mutual
def RX.size:RX->Nat
 | .nd _ _ _ _ l=>1+RX.sizes l
def RX.sizes:List RX->Nat
 | []=>0
 | t::l=>t.size+RX.sizes l
end
mutual
def RX.pre:RX->List RX
 | .nd k s a b l=>.nd k s a b l::RX.lC l
def RX.lC:List RX->List RX
 | []=>[]
 | t::l=>t.pre++RX.lC l
end
def RX.times (mn mx:Int):Nat:=if mx= -1 then max mn.toNat 1 else max mn.toNat mx.toNat
mutual
def RX.cI:RX->Nat
 | .nd k _ a b l=>min (((if k=2 then 1 else 0)+RX.bH l)*(if k=5 then min (RX.times a b) 10001 else 1)) 10001
def RX.bH:List RX->Nat
 | []=>0
 | t::l=>t.cI+RX.bH l
end
def RX.has (t:RX) (k:Nat):Bool:=t.subs.any fun x=>x.kind==k
def iK (a b:Int):Bool:=if a<0\/16<a\/(a=1/\b=1)then false else decide (b= -1) || (decide (1<=b)&&decide (b<=16)&&decide (a<=b))
def RX.dt (t:RX):Bool:=
 if(t.kind≠2/\t.set≠0)\/(t.kind≠5/\(t.mn≠0\/t.mx≠0))\/(t.kind<3/\0<t.subs.length)then false else
 if t.kind=1 then true else
 if t.kind=2 then decide (t.set≠0)else
 if t.kind=3 then decide (1<t.subs.length)&& !t.has 1&& !t.has 3 else
 if t.kind=4 then decide (1<t.subs.length)&& !t.has 4 else
 if t.kind=5 then decide (t.subs.length=1)&&iK t.mn t.mx&& !t.has 1 else
 decide (t.kind=6)&&decide (t.subs.length=1)
def RX.clean (t:RX):Bool:=decide (t.size<=10000)&&t.pre.all RX.dt
abbrev PB:=BitVec 448
structure GP where
 fst:PB
 cW:PB
 emp:Bool
structure GM where
 aN:List BS
 cK:List PB
def iR (m:GM) (last first:PB):GM:=⟨m.aN,m.cK.mapIdx fun p f=>if last.getLsbD p then f ||| first else f⟩
def cR (m:GM) (a b:GP):GM×GP:=(iR m a.cW b.fst,⟨if a.emp then a.fst ||| b.fst else a.fst,if b.emp then b.cW ||| a.cW else b.cW,a.emp&&b.emp⟩)
def eI (n:Nat):PB:=1#448 <<< n
def eY (mn mx:Int):Nat:=if mx= -1 then(max mn 1).toNat else mx.toNat
def Cb (mn mx:Int) (k:Nat) (a:GP) (x:GM×GP):GM×GP:=
 cR (if mx= -1/\k+1=eY mn mx then iR x.1 x.2.cW x.2.fst else x.1) a ⟨x.2.fst,x.2.cW,x.2.emp || decide (mn<=k)⟩
def dX (mn mx:Int) (f:GM->GM×GP) (m:GM):Nat->GM×GP
 | 0=>(m,⟨0,0,true⟩)
 | k+1=>let y:=dX mn mx f m k;Cb mn mx k y.2 (f y.1)
mutual
def RX.dG:RX->GM->GM×GP
 | .nd k s a b l,m=>
  if k=0 then(m,⟨0,0,false⟩)else
  if k=1 then(m,⟨0,0,true⟩)else
  if k=2 then(⟨m.aN++ [s],m.cK++ [0]⟩,⟨eI m.aN.length,eI m.aN.length,false⟩)else
  if k=3 then RX.jd l (m,⟨0,0,true⟩)else
  if k=4 then RX.fW l (m,⟨0,0,false⟩)else
  if k=5 then RX.rpG a b l m else RX.hdG l m
def RX.jd:List RX->GM×GP->GM×GP
 | [],st=>st
 | t::l,st=>let x:=t.dG st.1;RX.jd l (cR x.1 st.2 x.2)
def RX.fW:List RX->GM×GP->GM×GP
 | [],st=>st
 | t::l,st=>let x:=t.dG st.1;RX.fW l (x.1,⟨st.2.fst ||| x.2.fst,st.2.cW ||| x.2.cW,st.2.emp || x.2.emp⟩)
def RX.rpG (mn mx:Int):List RX->GM->GM×GP
 | [],m=>(m,⟨0,0,true⟩)
 | t::_,m=>dX mn mx (fun m=>t.dG m) m (eY mn mx)
def RX.hdG:List RX->GM->GM×GP
 | [],m=>(m,⟨0,0,false⟩)
 | t::_,m=>t.dG m
end
def dY (x:PB):List Int:=((List.range 448).filter fun p=>x.getLsbD p).map Int.ofNat
def dH (x:PB) (n:Nat):Prop:=∀ p,x.getLsbD p=true->p<n
theorem dH.zero (n:Nat):dH 0 n:=fun p h=>by simp at h
theorem dH.mono {x:PB} {n n':Nat} (h:dH x n) (hn:n<=n'):dH x n':=fun p hp=>aD (h p hp) hn
theorem dH.or {x y:PB} {n:Nat} (h:dH x n) (h':dH y n):dH (x ||| y) n:=fun p hp=>by
 rw[BitVec.getLsbD_or]at hp;rcases Bool.or_eq_true_iff.1 hp with hp | hp
 ·exact h p hp
 ·exact h' p hp
theorem KD (n p:Nat):(eI n).getLsbD p=(decide (p<448)&&decide (p=n)):=by
 unfold eI;rw[BitVec.getLsbD_shiftLeft,BitVec.getLsbD_one];by_cases h1:p<448
 ·by_cases h2:p=n
  ·subst h2;simp[h1]
  ·by_cases h3:p<n
   ·simp[h1,h2,h3]
   ·have h4:p-n≠0:=by omega
    simp[h1,h2,h3,h4]
 ·simp[h1]
theorem dH.bit (n:Nat):dH (eI n) (n+1):=fun p hp=>by
 rw[KD]at hp;simp at hp;omega
structure GM.ok (m:GM):Prop where
 len:m.cK.length=m.aN.length
 cK:∀ f∈m.cK,dH f m.aN.length
 ne:∀ s∈m.aN,s≠0
structure GP.ok (a:GP) (n:Nat):Prop where
 fst:dH a.fst n
 cW:dH a.cW n
theorem GP.ok.mono {a:GP} {n n':Nat} (h:a.ok n) (hn:n<=n'):a.ok n':=⟨h.fst.mono hn,h.cW.mono hn⟩
theorem EL {m:GM} (h:m.ok) {last first:PB} (hf:dH first m.aN.length):(iR m last first).ok:=by
 refine⟨?_,fun f hf'=>?_,h.ne⟩
 ·show(m.cK.mapIdx _).length=_
  rw[List.length_mapIdx];exact h.len
 ·obtain⟨i,hi,rfl⟩:=List.mem_mapIdx.1 hf'
  have h1:=h.cK _ (List.getElem_mem hi);show dH (if last.getLsbD i=true then m.cK[i] ||| first else m.cK[i]) m.aN.length;split
  ·exact h1.or hf
  ·exact h1
theorem EM {m:GM} (h:m.ok) {a b:GP} (ha:a.ok m.aN.length) (hb:b.ok m.aN.length):(cR m a b).1.ok/\(cR m a b).1.aN=m.aN/\(cR m a b).2.ok m.aN.length:=by
 refine⟨EL h hb.fst,rfl,?_,?_⟩
 ·show dH (if a.emp=true then a.fst ||| b.fst else a.fst) _
  split
  ·exact ha.fst.or hb.fst
  ·exact ha.fst
 ·show dH (if b.emp=true then b.cW ||| a.cW else b.cW) _
  split
  ·exact hb.cW.or ha.cW
  ·exact hb.cW
mutual
def RX.cnt:RX->Nat
 | .nd k _ a b l=>if k=0 then 0 else if k=1 then 0 else if k=2 then 1 else if k=3 then RX.gI l else if k=4 then RX.gI l else if k=5 then eY a b*RX.cnt1 l else RX.cnt1 l
def RX.gI:List RX->Nat
 | []=>0
 | t::l=>t.cnt+RX.gI l
def RX.cnt1:List RX->Nat
 | []=>0
 | t::_=>t.cnt
end
structure jk (m:GM) (r:GM×GP) (c:Nat):Prop where
 ok:r.1.ok
 len:r.1.aN.length=m.aN.length+c
 gp:r.2.ok r.1.aN.length
theorem Cc:∀ (l:List RX),(∀ t∈l,∀ m:GM,m.ok->jk m (t.dG m) t.cnt)->∀ (m:GM) (st:GM×GP) (c:Nat),jk m st c->jk m (RX.jd l st) (c+RX.gI l)
 | [],_,m,st,c,h=>by rw[RX.jd,RX.gI];exact h
 | t::l,hl,m,st,c,h=>by
  rw[RX.jd,RX.gI, <-Nat.add_assoc];refine Cc l (fun x hx=>hl x (bC _ hx)) m _ _ ?_;have h1:=hl t (aY ..) st.1 h.ok;obtain⟨g1,g2,g3⟩:=EM h1.ok (h.gp.mono (by rw[h1.len];omega)) h1.gp;refine⟨g1,?_,?_⟩
  ·rw[g2,h1.len,h.len];omega
  ·rw[g2];exact g3
theorem Ce:∀ (l:List RX),(∀ t∈l,∀ m:GM,m.ok->jk m (t.dG m) t.cnt)->∀ (m:GM) (st:GM×GP) (c:Nat),jk m st c->jk m (RX.fW l st) (c+RX.gI l)
 | [],_,m,st,c,h=>by rw[RX.fW,RX.gI];exact h
 | t::l,hl,m,st,c,h=>by
  rw[RX.fW,RX.gI, <-Nat.add_assoc];refine Ce l (fun x hx=>hl x (bC _ hx)) m _ _ ?_;have h1:=hl t (aY ..) st.1 h.ok;have h2:=h.gp.mono (n':=(t.dG st.1).1.aN.length) (by rw[h1.len];omega);refine⟨h1.ok,?_,h2.fst.or h1.gp.fst,h2.cW.or h1.gp.cW⟩;show(t.dG st.1).1.aN.length=_;rw[h1.len,h.len];omega
theorem U9 {mn mx:Int} {k c:Nat} {m:GM} {a:GP} (ha:a.ok m.aN.length) {x:GM×GP} (h:jk m x c):jk m (Cb mn mx k a x) c:=by
 unfold Cb;have h1:(if mx= -1/\k+1=eY mn mx then iR x.1 x.2.cW x.2.fst else x.1).ok/\(if mx= -1/\k+1=eY mn mx then iR x.1 x.2.cW x.2.fst else x.1).aN=x.1.aN:=by
  split
  ·exact⟨EL h.ok h.gp.fst,rfl⟩
  ·exact⟨h.ok,rfl⟩
 obtain⟨g1,g2,g3⟩:=EM h1.1 (a:=a) (b:=⟨x.2.fst,x.2.cW,x.2.emp || decide (mn<=k)⟩) (by rw[h1.2];exact ha.mono (by rw[h.len];omega)) (by rw[h1.2];exact⟨h.gp.fst,h.gp.cW⟩);refine⟨g1,?_,?_⟩
 ·rw[g2,h1.2,h.len]
 ·rw[g2];exact g3
theorem wJ {mn mx:Int} {c:Nat} {f:GM->GM×GP} (hf:∀ m:GM,m.ok->jk m (f m) c) {m:GM} (h:m.ok):∀ k,jk m (dX mn mx f m k) (k*c)
 | 0=>⟨h,by simp[dX],dH.zero _,dH.zero _⟩
 | k+1=>by
  have ih:=wJ hf h (mn:=mn) (mx:=mx) k;have h1:=U9 (mn:=mn) (mx:=mx) (k:=k) ih.gp (hf _ ih.ok);refine⟨h1.ok,?_,h1.gp⟩;show(Cb mn mx k (dX mn mx f m k).2 (f (dX mn mx f m k).1)).1.aN.length=_;rw[h1.len,ih.len,Nat.succ_mul];omega
mutual
def RX.full:RX->Bool
 | .nd k s _ _ l=>(k != 2 || s != 0)&&RX.zZ l
def RX.zZ:List RX->Bool
 | []=>true
 | t::l=>t.full&&RX.zZ l
end
theorem Aa:∀ {l:List RX},RX.zZ l=true->∀ t∈l,t.full=true
 | [],_,t,h=>by cases h
 | x::l,h,t,ht=>by
  rw[RX.zZ,Bool.and_eq_true]at h;rcases List.mem_cons.1 ht with rfl | ht
  ·exact h.1
  ·exact Aa h.2 t ht
theorem nO (t:RX):t.full=true->∀ m:GM,m.ok->jk m (t.dG m) t.cnt:=by
 induction t using RX.ind with
 | h k s a b l ih=>
  intro hf m hm;rw[RX.full,Bool.and_eq_true]at hf;have hl:∀ t∈l,∀ m:GM,m.ok->jk m (t.dG m) t.cnt:=fun t ht=>ih t ht (Aa hf.2 t ht)
  rw[RX.dG,RX.cnt];by_cases h0:k=0
  ·rw[if_pos h0,if_pos h0];exact⟨hm,rfl,dH.zero _,dH.zero _⟩
  rw[if_neg h0,if_neg h0];by_cases h1:k=1
  ·rw[if_pos h1,if_pos h1];exact⟨hm,rfl,dH.zero _,dH.zero _⟩
  rw[if_neg h1,if_neg h1];by_cases h2:k=2
  ·rw[if_pos h2,if_pos h2]
   have hs:s≠0:=by rw[h2]at hf;simpa using hf.1
   have e:(m.aN++ [s]).length=m.aN.length+1:=by simp
   refine⟨⟨by simp[hm.len],fun f hf'=>?_,fun x hx=>?_⟩,e,?_,?_⟩
   ·show dH f (m.aN++ [s]).length
    rw[e];rcases List.mem_append.1 hf' with hf' | hf'
    ·exact(hm.cK f hf').mono (by omega)
    ·rw[List.mem_singleton.1 hf'];exact dH.zero _
   ·rcases List.mem_append.1 hx with hx | hx
    ·exact hm.ne x hx
    ·rw[List.mem_singleton.1 hx];exact hs
   ·show dH (eI m.aN.length) (m.aN++ [s]).length
    rw[e];exact dH.bit _
   ·show dH (eI m.aN.length) (m.aN++ [s]).length
    rw[e];exact dH.bit _
  rw[if_neg h2,if_neg h2];have hz:∀ e,jk m (m,⟨0,0,e⟩) 0:=fun e=>⟨hm,rfl,dH.zero _,dH.zero _⟩
  by_cases h3:k=3
  ·rw[if_pos h3,if_pos h3]
   have:=Cc l hl m _ 0 (hz true);rwa[Nat.zero_add]at this
  rw[if_neg h3,if_neg h3];by_cases h4:k=4
  ·rw[if_pos h4,if_pos h4]
   have:=Ce l hl m _ 0 (hz false);rwa[Nat.zero_add]at this
  rw[if_neg h4,if_neg h4];cases l with
  | nil=>
   by_cases h5:k=5
   ·rw[if_pos h5,if_pos h5,RX.rpG,RX.cnt1];exact hz true
   ·rw[if_neg h5,if_neg h5,RX.hdG,RX.cnt1];exact hz false
  | cons t l=>
   have ht:=hl t (aY ..);by_cases h5:k=5
   ·rw[if_pos h5,if_pos h5,RX.rpG,RX.cnt1];exact wJ ht hm _
   ·rw[if_neg h5,if_neg h5,RX.hdG,RX.cnt1];exact ht m hm
def RX.nf (t:RX):NF:=⟨(t.dG ⟨[],[]⟩).1.aN,(t.dG ⟨[],[]⟩).1.cK.map dY,dY (t.dG ⟨[],[]⟩).2.fst,dY (t.dG ⟨[],[]⟩).2.cW,(t.dG ⟨[],[]⟩).2.emp⟩
theorem wK {x:PB} {n:Nat} (h:dH x n):dV 0 ((n:Int)-1) (dY x)=true:=by
 refine oF (nK _ _) fun y hy=>?_
 obtain⟨q,hq,rfl⟩:=List.mem_map.1 hy;have:=h q (List.mem_filter.1 hq).2;show(0:Int)<=(q:Int)/\(q:Int)<=_;omega
theorem acr {t:RX} (h:t.full=true) (hc:t.cnt<=400):Nt t.nf:=by
 have H:=nO t h ⟨[],[]⟩ ⟨rfl,fun f hf=>(by cases hf),fun s hs=>(by cases hs)⟩;have hl:=H.len;simp only[List.length_nil,Nat.zero_add]at hl;refine⟨?_,?_,wK H.gp.fst,wK H.gp.cW,fun p hp=>?_,fun p hp=>?_⟩
 ·show(t.dG ⟨[],[]⟩).1.aN.length<=400
  omega
 ·show((t.dG ⟨[],[]⟩).1.cK.map dY).length=_
  rw[aQ];exact H.ok.len
 ·show dV 0 _ (((t.dG ⟨[],[]⟩).1.cK.map dY).getD p [])=true
  have WH:p<(t.dG ⟨[],[]⟩).1.cK.length:=by rw[H.ok.len];exact hp
  rw[bu,aO,az WH];exact wK (H.ok.cK _ (List.getElem_mem WH))
 ·show(t.dG ⟨[],[]⟩).1.aN.getD p 0≠0
  have hp3:p<(t.dG ⟨[],[]⟩).1.aN.length:=hp;rw[bu,az hp3];exact H.ok.ne _ (List.getElem_mem hp3)
theorem EN:∀ {l:List RX} {t x:RX},t∈l->x∈t.pre->x∈RX.lC l
 | y::l,t,x,ht,hx=>by
  rw[RX.lC];rcases List.mem_cons.1 ht with rfl | ht
  ·exact List.mem_append_left _ hx
  ·exact List.mem_append_right _ (EN ht hx)
theorem EO (t:RX):t∈t.pre:=by cases t;rw[RX.pre];exact aY ..
theorem Cf {k:Nat} {s:BS} {a b:Int} {l:List RX} {P:RX->Prop} (h:∀ x∈(RX.nd k s a b l).pre,P x):P (.nd k s a b l)/\∀ t∈l,∀ x∈t.pre,P x:=by refine⟨h _ (EO _),fun t ht x hx=>h x ?_⟩;rw[RX.pre];exact bC _ (EN ht hx)
theorem cS (t:RX) (h:t.dt=true):(t.kind=2->t.set≠0)/\(t.kind<3->t.subs=[])/\(t.kind≠0)/\(t.kind<=6)/\(t.kind=5\/t.kind=6->t.subs.length=1)/\(t.kind=5->iK t.mn t.mx=true)/\(t.kind=3\/t.kind=4->1<t.subs.length):=by
 unfold RX.dt at h;generalize t.kind=k at*;generalize t.set=s at*;generalize t.mn=a at*;generalize t.mx=b at*;generalize t.has 1=i1 at*;generalize t.has 3=i3 at*;generalize t.has 4=i4 at*;generalize t.subs=l at*;split at h
 ·cases h
 rename_i h0;have hl:k<3->l=[]:=fun hk=>by
  apply List.eq_nil_of_length_eq_zero;have:¬ (k<3/\0<l.length):=fun e=>h0 (.inr (.inr e))
  omega
 refine⟨fun hk=>?_,hl,fun hk=>?_,?_,fun hk=>?_,fun hk=>?_,fun hk=>?_⟩
 ·subst hk;simpa using h
 ·subst hk;simp at h
 ·split at h
  ·omega
  split at h
  ·omega
  split at h
  ·omega
  split at h
  ·omega
  split at h
  ·omega
  ·simp at h;omega
 ·rcases hk with rfl | rfl
  ·simp at h;exact h.1.1
  ·simp at h;exact h
 ·subst hk;simp at h;exact h.1.2
 ·rcases hk with rfl | rfl
  ·simp at h;exact h.1.1
  ·simp at h;exact h.1
theorem s5 {k:Nat} {s:BS} {a b:Int} {l:List RX} (h:(RX.nd k s a b l).dt=true):(k=2->s≠0)/\(k<3->l=[])/\(k≠0)/\(k<=6)/\(k=5\/k=6->l.length=1)/\(k=5->iK a b=true)/\(k=3\/k=4->1<l.length):=cS _ h
theorem qm (t:RX):(∀ x∈t.pre,x.dt=true)->t.full=true:=by
 induction t using RX.ind with
 | h k s a b l ih=>
  intro h;obtain⟨h1,h2⟩:=Cf h;rw[RX.full,Bool.and_eq_true];refine⟨?_,?_⟩
  ·by_cases hk:k=2
   ·rw[Bool.or_eq_true]
    exact .inr (bne_iff_ne.2 ((s5 h1).1 hk))
   ·simp[hk]
  ·have:∀ l':List RX,(∀ t∈l',t∈l)->RX.zZ l'=true:=by
    intro l';induction l' with
    | nil=>intro _;rfl
    | cons x l' YP=>
     intro hs;rw[RX.zZ,Bool.and_eq_true];exact⟨ih x (hs x (aY ..)) (h2 x (hs x (aY ..))),YP fun t ht=>hs t (bC _ ht)⟩
   exact this l fun t ht=>ht
theorem uj {a b:Int} (h:iK a b=true):RX.times a b=eY a b/\1<=eY a b/\eY a b<=16:=by
 unfold iK at h;split at h
 ·cases h
 ·unfold RX.times eY
  simp only[Bool.or_eq_true,Bool.and_eq_true,decide_eq_true_eq]at h;by_cases hb:b= -1
  ·rw[if_pos hb,if_pos hb];omega
  ·rw[if_neg hb,if_neg hb];omega
theorem ER (t:RX):(∀ x∈t.pre,x.dt=true)->t.cI<=400->t.cnt=t.cI:=by
 induction t using RX.ind with
 | h k s a b l ih=>
  intro h hp;obtain⟨h1,h2⟩:=Cf h;obtain⟨_,hk3,tJ,hk6,h56,h5,_⟩:=s5 h1;rw[RX.cI]at hp ⊢;have acs:∀ l':List RX,(∀ t∈l',t∈l)->RX.bH l'<=400->RX.gI l'=RX.bH l':=by
   intro l';induction l' with
   | nil=>intro _ _;rfl
   | cons x l' YP=>
    intro hs hle;rw[RX.bH]at hle;rw[RX.gI,RX.bH,ih x (hs x (aY ..)) (h2 x (hs x (aY ..))) (by omega),YP (fun t ht=>hs t (bC _ ht)) (by omega)]
  rw[RX.cnt,if_neg tJ];by_cases h1k:k=1
  ·subst h1k
   rw[hk3 (by omega)];simp[RX.bH]
  rw[if_neg h1k];by_cases h2k:k=2
  ·subst h2k
   rw[hk3 (by omega)];simp[RX.bH]
  rw[if_neg h2k];rw[if_neg h2k,Nat.zero_add]at hp ⊢;by_cases h5k:k=5
  ·subst h5k
   obtain⟨e1,e2,e3⟩:=uj (h5 rfl);rw[if_pos rfl,e1]at hp ⊢;have hm:min (eY a b) 10001=eY a b:=by omega
   rw[hm]at hp ⊢;obtain⟨x,rfl⟩:=List.length_eq_one_iff.1 (h56 (.inl rfl));have hx:RX.bH [x]=x.cI:=by simp[RX.bH]
   rw[hx]at hp ⊢;have hle:x.cI<=x.cI*eY a b:=Nat.le_mul_of_pos_right _ e2;rw[if_neg (by omega),if_neg (by omega),if_pos rfl,RX.cnt1,ih x (aY ..) (h2 x (aY ..)) (by omega)];rw[Nat.mul_comm];omega
  ·rw[if_neg h5k,Nat.mul_one]at hp
   simp only[if_neg h5k,Nat.mul_one];have hle:RX.bH l<=400:=by omega
   have e:=acs l (fun t ht=>ht) hle;by_cases h3k:k=3
   ·rw[if_pos h3k,e];omega
   rw[if_neg h3k];by_cases h4k:k=4
   ·rw[if_pos h4k,e];omega
   rw[if_neg h4k];obtain⟨x,rfl⟩:=List.length_eq_one_iff.1 (h56 (.inr (by omega)));rw[RX.cnt1];simp[RX.gI,RX.bH]at e;simp[RX.bH]at hle ⊢;omega
theorem ES {t:RX} (h:t.clean=true) (hp:t.cI<=400):Nt t.nf:=by unfold RX.clean at h;rw[Bool.and_eq_true,List.all_eq_true]at h;exact acr (qm t h.2) (by rw[ER t h.2 hp];exact hp)
def aq (k:Nat) (s:BS) (mn mx:Int) (a:Value):Array Value:= #[.int .u8 k,.int .u64 (wd s 0).toNat,.int .u64 (wd s 1).toNat,.int .u64 (wd s 2).toNat,.int .u64 (wd s 3).toNat,.int .i64 mn,.int .i64 mx,a]
inductive aK (F:Nat->Prop) (w:World):Value->RX->Prop
 | mk (k:Nat) (s:BS) (mn mx:Int) (l:List RX) (a:Value) (b off cap:Nat) (vs:Nat->Value)
  (h0:l=[]->∃ p c,a=.slice p 0 c)
  (h1:l≠[]->a=.slice (some ⟨b,off,none⟩) l.length cap/\F b/\b<w.heap.size/\l.length<=cap)
  (hc:∀ (i:Nat) (t:RX),l[i]? =some t->∃ cs:Array Value,vs i=.agg cs/\∀ (j:Nat) (u:Value),cs[j]? =some u->w.cell? ⟨b,off+i*8+j,none⟩=some u)
  (hr:∀ (i:Nat) (t:RX),l[i]? =some t->aK F w (vs i) t):aK F w (.agg (aq k s mn mx a)) (.nd k s mn mx l)
theorem aK.form {F:Nat->Prop} {w:World} {v:Value} {t:RX} (h:aK F w v t):∃ p c,v=.agg (aq t.kind t.set t.mn t.mx (.slice p t.subs.length c)):=by
 cases h with
 | mk k s mn mx l a b off cap vs h0 h1 hc hr=>
  cases l with
  | nil=>obtain⟨p,c,rfl⟩:=h0 rfl;exact⟨p,c,rfl⟩
  | cons x l=>obtain⟨rfl,_⟩:=h1 (by simp);exact⟨_,_,rfl⟩
theorem aK.keeps {F R:Nat->Prop} {w w':World} (hk:ae R w w') (hR:∀ b,F b->R b) {v:Value} {t:RX} (h:aK F w v t):aK F w' v t:=by
 induction h with
 | mk k s mn mx l a b off cap vs h0 h1 hc hr ih=>
  refine .mk k s mn mx l a b off cap vs h0 (fun hl=>?_) (fun i t hi=>?_) ih
  ·obtain⟨e,hF,hb,mQ⟩:=h1 hl
   exact⟨e,hF,aD hb hk.size,mQ⟩
  ·obtain⟨cs,e,hcs⟩:=hc i t hi
   have hl:l≠[]:=fun e=>by rw[e]at hi;simp at hi
   obtain⟨_,hF,_⟩:=h1 hl;exact⟨cs,e,fun j u hj=>(hk.cell (p:=⟨b,off+i*8+j,none⟩) (hR b hF)).trans (hcs j u hj)⟩
theorem aK.mono {F F':Nat->Prop} {w:World} (hF:∀ b,F b->F' b) {v:Value} {t:RX} (h:aK F w v t):aK F' w v t:=by
 induction h with
 | mk k s mn mx l a b off cap vs h0 h1 hc hr ih=>exact .mk k s mn mx l a b off cap vs h0 (fun hl=>by obtain⟨e,h2,h3⟩:=h1 hl;exact⟨e,hF b h2,h3⟩) hc ih
theorem aK.mV {n:Nat} {w w':World} {v:Value} {t:RX} (h:aK (· <n) w v t) (hk:Below n w w'):aK (· <n) w' v t:=h.keeps (ae.ai hk fun _ h=>h) fun _ h=>h
theorem aK.kept {n:Nat} {w w':World} {v:Value} {t:RX} (h:aK (· <n) w v t) (hk:ae (· <n) w w'):aK (· <n) w' v t:=h.keeps hk fun _ h=>h
theorem aK.elem {F:Nat->Prop} {w:World} {k n c:Nat} {s:BS} {mn mx:Int} {p:Option Addr} {l:List RX} (h:aK F w (.agg (aq k s mn mx (.slice p n c))) (.nd k s mn mx l)) {i:Nat} {t:RX} (hi:l[i]? =some t): ∃ b off p' c',p=some ⟨b,off,none⟩/\F b/\b<w.heap.size/\n<=c/\ (w.cell? ⟨b,off+i*8,none⟩=some (.int .u8 t.kind)/\w.cell? ⟨b,off+i*8+1,none⟩=some (.int .u64 (wd t.set 0).toNat)/\w.cell? ⟨b,off+i*8+2,none⟩=some (.int .u64 (wd t.set 1).toNat)/\w.cell? ⟨b,off+i*8+3,none⟩=some (.int .u64 (wd t.set 2).toNat)/\w.cell? ⟨b,off+i*8+4,none⟩=some (.int .u64 (wd t.set 3).toNat)/\w.cell? ⟨b,off+i*8+5,none⟩=some (.int .i64 t.mn)/\w.cell? ⟨b,off+i*8+6,none⟩=some (.int .i64 t.mx)/\w.cell? ⟨b,off+i*8+7,none⟩=some (.slice p' t.subs.length c'))/\ aK F w (.agg (aq t.kind t.set t.mn t.mx (.slice p' t.subs.length c'))) t:=by
 generalize hv:(Value.agg (aq k s mn mx (.slice p n c)))=v at h;generalize ht:RX.nd k s mn mx l=T at h;cases h with
 | mk k' s' mn' mx' l' a b off cap vs h0 h1 hc hr=>
  injection ht with e1 e2 e3 e4 e5
  subst e1 e2 e3 e4 e5;have hl:l≠[]:=fun e=>by rw[e]at hi;simp at hi
  obtain⟨ea,hF,hb,mQ⟩:=h1 hl;rw[ea]at hv;have e7:(aq k s mn mx (.slice p n c))[7]? =(aq k s mn mx (.slice (some ⟨b,off,none⟩) l.length cap))[7]? :=by injection hv with e;rw[e]
  have e8:Value.slice p n c=.slice (some ⟨b,off,none⟩) l.length cap:=by simpa[aq]using e7
  obtain⟨rfl,rfl,rfl⟩:p=some ⟨b,off,none⟩/\n=l.length/\c=cap:=by injection e8 with a1 a2 a3;exact⟨a1,a2,a3⟩
  have ht:=hr i t hi;obtain⟨cs,ec,hcs⟩:=hc i t hi;obtain⟨p',c',ev⟩:=ht.form;rw[ev]at ht ec;injection ec with ec
  subst ec;exact⟨b,off,p',c',rfl,hF,hb,mQ,⟨hcs 0 _ rfl,hcs 1 _ rfl,hcs 2 _ rfl,hcs 3 _ rfl,hcs 4 _ rfl,hcs 5 _ rfl,hcs 6 _ rfl,hcs 7 _ rfl⟩,ht⟩
theorem aK.leaf (F:Nat->Prop) (w:World) (k:Nat) (s:BS) (mn mx:Int) (p:Option Addr) (c:Nat):aK F w (.agg (aq k s mn mx (.slice p 0 c))) (.nd k s mn mx []):=
 .mk k s mn mx [] _ 0 0 0 (fun _=>undef) (fun _=>⟨p,c,rfl⟩) (fun h=>absurd rfl h) (fun i t h=>by simp at h) (fun i t h=>by simp at h)
theorem pP {P:Program} {fn:Func} {tmps:Array Value} {R:Ending->World->Prop} {v:Value} :∀ (Ds:List Nat) (W:World),Ds.Nodup->(∀ D∈Ds,W.heap[D]? =some (.deferred (some [])))-> ((results fn tmps).run P (Ds.foldl (fun W D=>W.putObj D (.deferred none)) W)=.ok v (Ds.foldl (fun W D=>W.putObj D (.deferred none)) W))->R (.returned v) (Ds.foldl (fun W D=>W.putObj D (.deferred none)) W)-> LeavesInM Fence.wide 0 P fn tmps R (Ds.map fun D=> {target:=.collected D,args:= #[]}) .returning W
 | [],W,_,_,hr,hR=>⟨v,hr,hR⟩
 | D::Ds,W,hn,hD,hr,hR=>by
  obtain⟨h1,h2⟩:=List.nodup_cons.1 hn;refine⟨by simp,.inl ⟨_,_,rfl,run_takeDeferred (hD D (aY ..)),?_⟩⟩;refine pP Ds _ h2 (fun E hE=>?_) hr hR;have hne:E≠D:=fun e=>by rw[e]at hE;exact h1 hE
  exact(World.putObj_heap_other hne).trans (hD E (bC _ hE))
end
section
open Go Go.RowKit Go.Shelf Go.Maps
section
variable {P:Program} {ops:Array Oper}
theorem eZ {rest:List Oper} {o:Oper} {a:Act} {w:World} {Q:Exit->Act->World->Prop} (hw:Region.wanted o (yielded ops a.tmps)=true) (s x:Operand) (t:TypeId) (ho:o.op=.call {callee:=.builtin .append,args:= #[s,x],argTypes:= #[t,t]}) (base:Nat) (e:TypeId) (i:TypeInfo) (z:Value) (size bytes:Nat) (ht:P.underlying t=some (.slice e)) (hi:P.info? e=some i) (hz:i.zero=some z) (hsize:i.size=size) (hby:i.bytes=bytes) (hzs:z.cells.size=size) (hsz:0<size) (v:Value) (k:Nat) (xs:List Value) (hs:a.eval s=v) (hown:w.ownsRow base e size v k xs) (ad:Addr) (m c:Nat) (news:List Value) (hx:a.eval x=.slice (some ad) m c) (hnews:∀ j u,news[j]? =some u->w.cell? (ad.add j)=some u) (hl:news.length=m*size) (h1:∀ u∈news,u.oneCell'=true) (h63:k+m<=maxLen) (hbytes:(k+m)*bytes<=140737488355328) (hbase:base<=w.heap.size) (h:∀ v' w',w'.ownsRow base e size v' (k+m) (xs++news)->w.grownBy w' v.ownBlock->(v'.ownBlock=v.ownBlock\/v'.ownBlock=some w.heap.size)->wpList P ops Q rest (a.put o.dst v') w'): wpList P ops Q (o::rest) a w:=by
 refine jM hw fun K hK=>?_
 obtain⟨v',w',hr,h2,h3,_,h5⟩:=run_append_own_at (P:=P) w base t o.type e i z size bytes ht hi hz hsize hby hzs hsz v k xs hown ad m c news hl hnews h1 h63 hbytes hbase;unfold Oper.wp execOp;simp only[ho,resolve,invoke,builtin,Sem.run_bind,Sem.run_pure,Result.andThen_ok,List.map_toArray,List.map_cons,List.map_nil,hs,hx,hr];exact hK _ _ (h v' w' h2 h3 h5)
theorem nP {rest:List Oper} {o:Oper} {a:Act} {w:World} {Q:Exit->Act->World->Prop} (hw:Region.wanted o (yielded ops a.tmps)=true) (s x:Operand) (t:TypeId) (ho:o.op=.call {callee:=.builtin .append,args:= #[s,x],argTypes:= #[t,t]}) (base:Nat) (e:TypeId) (i:TypeInfo) (z:Value) (size bytes:Nat) (ht:P.underlying t=some (.slice e)) (hi:P.info? e=some i) (hz:i.zero=some z) (hsize:i.size=size) (hby:i.bytes=bytes) (hzs:z.cells.size=size) (hsz:0<size) (b:Addr) (k:Nat) (xs:List Value) (hs:a.eval s=.slice (some b) k k) (AY:xs.length=k*size) (holds:∀ j u,xs[j]? =some u->w.cell? (b.add j)=some u) (ad:Addr) (m c:Nat) (news:List Value) (hx:a.eval x=.slice (some ad) m c) (hnews:∀ j u,news[j]? =some u->w.cell? (ad.add j)=some u) (hl:news.length=m*size) (hm:0<m) (h63:k+m<=maxLen) (hbytes:(k+m)*bytes<=140737488355328) (hbase:base<=w.heap.size) (h:∀ v' w',w'.ownsRow base e size v' (k+m) (xs++news)->aa w w'->v'.ownBlock=some w.heap.size->wpList P ops Q rest (a.put o.dst v') w'): wpList P ops Q (o::rest) a w:=by
 refine jM hw fun K hK=>?_
 subst hsize;subst hby;have agP:k+m<=9223372036854775807:=by simp only[maxLen]at h63;omega
 have hr:=run_append_grow (P:=P) w t o.type e i z ht hi hz b k k xs AY holds ad m c news hl hnews (by omega) (by omega) (growslice_fits (by omega) hbytes);unfold Oper.wp execOp;simp only[ho,resolve,invoke,builtin,Sem.run_bind,Sem.run_pure,Result.andThen_ok,List.map_toArray,List.map_cons,List.map_nil,hs,hx,hr];have Wm:=grownCap_ge w (k+m) k e;have hcm:grownCap w (k+m) k e<=maxLen:=grownCap_le_maxLen w (k+m) k e h63;have hlen:(xs++news).length=(k+m)*i.size:=by rw[aJ,AY,hl,Nat.add_mul]
 refine hK _ _ (h _ _ ⟨hlen,.inr ⟨w.heap.size,_,_,rfl,hbase,heap_alloc_new w.drew _,Wm,hcm,?_,?_⟩⟩ ((Ext.refl w).drew.alloc _).below rfl)
 ·simp only[Array.size_append,List.size_toArray,size_zeroCells,hzs,AY,hl, <-Nat.add_mul]
  congr 1
  omega
 ·simp only[Array.toList_append,List.append_assoc]
  rw[<-List.append_assoc, <-hlen];exact List.take_left
end
def bE (cs:List (Array Value)):List Value:=cs.flatMap Array.toList
theorem fY:∀ {cs:List (Array Value)},(∀ c∈cs,c.size=8)->(bE cs).length=cs.length*8
 | [],_=>rfl
 | c::cs,h=>by
  unfold bE;rw[List.flatMap_cons,aJ,List.length_cons];have:=fY fun x hx=>h x (bC _ hx)
  unfold bE at this;rw[this,Array.length_toList,h c (aY ..)];omega
theorem iC:∀ {cs:List (Array Value)} {i j:Nat} {c:Array Value} {u:Value},(∀ c∈cs,c.size=8)->cs[i]? =some c->c[j]? =some u->(bE cs)[i*8+j]? =some u
 | x::cs,0,j,c,u,h,hi,hj=>by
  simp at hi;subst hi;unfold bE;have hl:=(Array.getElem?_eq_some_iff.1 hj).1;rw[List.flatMap_cons,bK (by rw[Array.length_toList];omega),Nat.zero_mul,Nat.zero_add,Array.getElem?_toList];exact hj
 | x::cs,i+1,j,c,u,h,hi,hj=>by
  have ih:=iC (cs:=cs) (i:=i) (fun y hy=>h y (bC _ hy)) (by simpa using hi) hj;unfold bE at ih ⊢;rw[List.flatMap_cons,cM (by rw[Array.length_toList,h x (aY ..)];omega), <-ih];congr 1;rw[Array.length_toList,h x (aY ..)];omega
theorem lX (a b:List (Array Value)):bE (a++b)=bE a++bE b:=by unfold bE;rw[List.flatMap_append]
theorem cL (k:Nat) (s:BS) (mn mx:Int) (p:Option Addr) (n c:Nat):(aq k s mn mx (.slice p n c)).size=8/\∀ u∈(aq k s mn mx (.slice p n c)).toList,u.oneCell'=true:=by refine⟨rfl,fun u hu=>?_⟩;simp[aq]at hu;rcases hu with rfl | rfl | rfl | rfl | rfl | rfl | rfl | rfl<;>rfl
def cd (base:Nat) (w:World) (v:Value) (l:List RX):Prop:=∃ cs:List (Array Value),cs.length=l.length/\w.ownsRow base 97 8 v l.length (bE cs)/\(∀ c∈cs,c.size=8/\∀ u∈c.toList,u.oneCell'=true)/\
 ∀ (i:Nat) (c:Array Value) (t:RX),cs[i]? =some c->l[i]? =some t->aK (fun x=>base<=x/\x<w.heap.size/\v.ownBlock≠some x) w (.agg c) t
theorem cd.nil (base:Nat) (w:World):cd base w (.slice none 0 0) []:=⟨[],rfl,World.ownsRow_nil _ _ _ _,(fun _ h=>nomatch h),fun i c t h=>by simp at h⟩
theorem cd.form {base:Nat} {w:World} {v:Value} {l:List RX} (h:cd base w v l):∃ a c,v=.slice a l.length c:=by obtain⟨cs,h1,h2,h3,h4⟩:=h;exact ownsRow_form h2
theorem cd.keeps {base:Nat} {R:Nat->Prop} {w w':World} {v:Value} {l:List RX} (h:cd base w v l) (hk:ae R w w') (hR:∀ x,x<w.heap.size->base<=x\/v.ownBlock≠some x->R x):cd base w' v l:=by obtain⟨cs,h1,h2,h3,h4⟩:=h;refine⟨cs,h1,aj h2 hk fun x hx=>hR x (h2.lt x hx).2 (.inl (h2.lt x hx).1),h3,fun i c t hi ht=>?_⟩;exact((h4 i c t hi ht).keeps hk fun x hx=>hR x hx.2.1 (.inl hx.1)).mono fun x hx=>⟨hx.1,aD hx.2.1 hk.size,hx.2.2⟩
theorem cd.below {base:Nat} {w w':World} {v:Value} {l:List RX} (h:cd base w v l) (hk:aa w w'):cd base w' v l:=h.keeps (ae.ai hk fun _ h=>h:ae (· <w.heap.size) w w') fun _ hx _=>hx
theorem cd.elem {base:Nat} {w:World} {a:Option Addr} {n cap:Nat} {l:List RX} (h:cd base w (.slice a n cap) l) {i:Nat} {t:RX} (hi:l[i]? =some t): ∃ g p' c',a=some ⟨g,0,none⟩/\n=l.length/\n<=cap/\base<=g/\g<w.heap.size/\ (w.cell? ⟨g,i*8,none⟩=some (.int .u8 t.kind)/\w.cell? ⟨g,i*8+1,none⟩=some (.int .u64 (wd t.set 0).toNat)/\w.cell? ⟨g,i*8+2,none⟩=some (.int .u64 (wd t.set 1).toNat)/\w.cell? ⟨g,i*8+3,none⟩=some (.int .u64 (wd t.set 2).toNat)/\w.cell? ⟨g,i*8+4,none⟩=some (.int .u64 (wd t.set 3).toNat)/\w.cell? ⟨g,i*8+5,none⟩=some (.int .i64 t.mn)/\w.cell? ⟨g,i*8+6,none⟩=some (.int .i64 t.mx)/\w.cell? ⟨g,i*8+7,none⟩=some (.slice p' t.subs.length c'))/\ aK (fun x=>base<=x/\x<w.heap.size/\x≠g) w (.agg (aq t.kind t.set t.mn t.mx (.slice p' t.subs.length c'))) t:=by
 obtain⟨cs,h1,h2,h3,h4⟩:=h;have gJ:=(List.getElem?_eq_some_iff.1 hi).1;obtain⟨c,hc⟩:∃ c,cs[i]? =some c:=⟨_,az (by omega)⟩;have hr:=h4 i c t hc hi;obtain⟨p',c',e⟩:=hr.form;injection e with e
 subst e;rcases h2.2 with⟨e1,e2⟩ | ⟨g,cap',cur,e1,e2,e3,e4,e5,_⟩
 ·exfalso;omega
 ·injection e1 with a1 a2 a3
  subst a1 a2 a3;have hlt:=h2.lt g rfl;have ce:∀ (j:Nat) (u:Value),(aq t.kind t.set t.mn t.mx (.slice p' t.subs.length c'))[j]? =some u->w.cell? ⟨g,i*8+j,none⟩=some u:=fun j u hj=>by
   have:=h2.cells (g:=g) rfl _ _ (iC (fun c hc=>(h3 c hc).1) hc hj);rw[Addr.add_mid]at this;simpa using this
  refine⟨g,p',c',rfl,rfl,e4,hlt.1,hlt.2,⟨ce 0 _ rfl,ce 1 _ rfl,ce 2 _ rfl,ce 3 _ rfl,ce 4 _ rfl,ce 5 _ rfl,ce 6 _ rfl,ce 7 _ rfl⟩,?_⟩;exact hr.mono fun x hx=>⟨hx.1,hx.2.1,fun e=>hx.2.2 (by rw[e];rfl)⟩
theorem cd.app {base:Nat} {w w':World} {v v':Value} {l l2:List RX} {cs cs2:List (Array Value)} (h1:cs.length=l.length) (h3:∀ c∈cs,c.size=8/\∀ u∈c.toList,u.oneCell'=true) (h4:∀ (i:Nat) (c:Array Value) (t:RX),cs[i]? =some c->l[i]? =some t->aK (fun x=>base<=x/\x<w.heap.size/\v.ownBlock≠some x) w (.agg c) t) (g1:cs2.length=l2.length) (g3:∀ c∈cs2,c.size=8/\∀ u∈c.toList,u.oneCell'=true) (g4:∀ (i:Nat) (c:Array Value) (t:RX),cs2[i]? =some c->l2[i]? =some t->aK (fun x=>base<=x/\x<w.heap.size/\v.ownBlock≠some x) w (.agg c) t) (ho:w'.ownsRow base 97 8 v' (l.length+l2.length) (bE cs++bE cs2)) (hg:w.grownBy w' v.ownBlock) (kK:v'.ownBlock=v.ownBlock\/v'.ownBlock=some w.heap.size):cd base w' v' (l++l2):=by
 have key:∀ (c:Array Value) (t:RX),aK (fun x=>base<=x/\x<w.heap.size/\v.ownBlock≠some x) w (.agg c) t->aK (fun x=>base<=x/\x<w'.heap.size/\v'.ownBlock≠some x) w' (.agg c) t:=fun c t h=>by
  refine(h.keeps (ae.bB hg fun x (hx:base<=x/\x<w.heap.size/\v.ownBlock≠some x)=>⟨hx.2.1,fun e=>hx.2.2 e.symm⟩) fun x hx=>hx).mono fun x hx=>⟨hx.1,aD hx.2.1 hg.size,fun e=>?_⟩
  rcases kK with e2 | e2
  ·exact hx.2.2 (by rw[<-e2,e])
  ·rw[e2]at e
   cases e
   exact Nat.lt_irrefl _ hx.2.1
 refine⟨cs++cs2,by simp[h1,g1],by rw[aJ,lX];exact ho,fun c hc=>(List.mem_append.1 hc).elim (h3 c) (g3 c),fun i c t hi ht=>?_⟩;rcases Nat.lt_or_ge i l.length with gJ | gJ
 ·rw[bK (by omega)]at hi ht
  exact key c t (h4 i c t hi ht)
 ·rw[cM (by omega)]at hi ht
  rw[h1]at hi;exact key c t (g4 _ c t hi ht)
end
section
open Go Go.RowKit
def dZ (n:Nat):List Nat:=[[97],[98],[97,98],[97],[98],[99],[97,98,99],[98,99],[10],[0,255],[97],[98]].getD (n%12) []
def nQ (n:Nat):RX:=.nd 2 (pX fun c=>(dZ n).contains c) 0 0 []
def dJ:RX:=.nd 1 0 0 0 []
def ed (kind:Nat) (x:RX):List RX:=if x.kind=kind then x.subs else if kind=3/\x.kind=1 then []else [x]
def fQ (kind:Nat) (l:List RX):RX:=match l with | []=>dJ | [x]=>x | x::y::r=>.nd kind 0 0 0 (x::y::r)
def cF (kind:Nat) (a b:RX):RX:=fQ kind (ed kind a++ed kind b)
structure dC where
 all:List RX
 mK:Nat
 yy:Nat
def dC.last (P:dC):RX:=P.all.getD (P.all.length-1) dJ
def dC.gX (P:dC):RX:=P.all.getD (P.all.length-2) dJ
def dC.put (P:dC) (k:Nat) (x:RX):List RX:=P.all.take (P.all.length-k)++ [x]
def fe (n:Nat):Nat:=n%3
def jT (n m:Nat):Int:=if m%4<fe n\/m%4=0\/(fe n=1/\m%4=1)then-1 else((m%4:Nat):Int)
def iD (n m:Nat):Nat:=(max (max (fe n:Int) (jT n m)) 1).toNat
def dC.step (P:dC) (s:Nat×Nat×Nat):dC:=
 if s.1%12<4 then⟨P.put 0 (nQ s.2.1),P.mK,P.yy⟩else
 if s.1%12=4 then⟨P.put 0 dJ,P.mK,P.yy⟩else
 if s.1%12<7/\1<P.all.length then⟨P.put 2 (cF 3 P.gX P.last),P.mK,P.yy⟩else
 if s.1%12<9/\1<P.all.length then⟨P.put 2 (cF 4 P.gX P.last),P.mK,P.yy⟩else
 if s.1%12=9/\0<P.all.length/\P.yy<9 then⟨P.put 1 (.nd 6 0 0 0 [P.last]),P.mK,P.yy+1⟩else
 if 9<s.1%12/\0<P.all.length/\P.last.kind≠1 then
  if P.mK*iD s.2.1 s.2.2<=16 then⟨P.put 1 (.nd 5 0 (fe s.2.1) (jT s.2.1 s.2.2) [P.last]),P.mK*iD s.2.1 s.2.2,P.yy⟩else P
 else P
def jl (l:List (Nat×Nat×Nat)):dC:=l.foldl dC.step ⟨[],1,0⟩
def acu (l:List RX):RX:=match l with | []=>nQ 0 | x::r=>r.foldl (cF 4) x
def gY (l:List (Nat×Nat×Nat)):RX:=acu (jl (l.take 25)).all
def RX.fine (t:RX):Prop:=∀ x∈t.pre,x.dt=true
theorem lY {k:Nat} {s:BS} {a b:Int} {l:List RX} :(RX.nd k s a b l).fine↔(RX.nd k s a b l).dt=true/\∀ t∈l,t.fine:=by
 constructor
 ·intro h
  exact Cf h
 ·rintro⟨h1,h2⟩ x hx
  rw[RX.pre]at hx;rcases List.mem_cons.1 hx with rfl | hx
  ·exact h1
  ·have:∀ l':List RX,(∀ t∈l',t.fine)->x∈RX.lC l'->x.dt=true:=by
    intro l';induction l' with
    | nil=>intro _ h;rw[RX.lC]at h;cases h
    | cons y l' ih=>
     intro hf h;rw[RX.lC]at h;rcases List.mem_append.1 h with h | h
     ·exact hf y (aY ..) x h
     ·exact ih (fun t ht=>hf t (bC _ ht)) h
   exact this l h2 hx
theorem s6 {t:RX} (h:t.fine):t.dt=true:=h t (EO t)
theorem MM {t:RX} (h:t.fine):∀ x∈t.subs,x.fine:=by
 cases t with
 | nd k s a b l=>exact(lY.1 h).2
theorem ET (n:Nat):(pX fun c=>(dZ n).contains c)≠0:=by
 have h:n%12<12:=Nat.mod_lt _ (by decide);have key:∀ k,k<12->(pX fun c=>(dZ k).contains c)≠0:=by decide+kernel
 have e:dZ n=dZ (n%12):=by unfold dZ;rw[Nat.mod_mod]
 rw[e];exact key _ h
theorem uk (n:Nat):(nQ n).fine:=by refine lY.2 ⟨?_,fun t h=>by cases h⟩;obtain⟨s,hs⟩:=ag (pX fun c=>(dZ n).contains c);have h:=ET n;rw[<-hs]at h ⊢;unfold RX.dt RX.kind RX.set RX.mn RX.mx RX.subs;simpa using h
theorem uo:dJ.fine:=lY.2 ⟨by decide,fun t h=>by cases h⟩
theorem ez (a b:List RX):RX.sizes (a++b)=RX.sizes a+RX.sizes b:=by
 induction a with
 | nil=>simp[RX.sizes]
 | cons x a ih=>rw[List.cons_append,RX.sizes,RX.sizes,ih];omega
theorem eA (a b:List RX):RX.bH (a++b)=RX.bH a+RX.bH b:=by
 induction a with
 | nil=>simp[RX.bH]
 | cons x a ih=>rw[List.cons_append,RX.bH,RX.bH,ih];omega
theorem size_pos (t:RX):1<=t.size:=by cases t;rw[RX.size];omega
theorem Ab (t:RX):RX.sizes t.subs+1=t.size:=by cases t;rw[RX.size,RX.subs];omega
theorem qo {k:Nat} (hk:k=3\/k=4) {x:RX} (h:x.fine):(∀ t∈ed k x,t.fine/\t.kind≠k/\(k=3->t.kind≠1))/\RX.sizes (ed k x)<=x.size/\(x.kind=k->RX.sizes (ed k x)+1<=x.size)/\min (RX.bH (ed k x)) 10001<=x.cI:=by
 unfold ed;by_cases h1:x.kind=k
 ·rw[if_pos h1]
  have hs:=Ab x;refine⟨fun t ht=>⟨MM h t ht,?_⟩,by omega,fun _=>by omega,?_⟩
  ·have hr:=s6 h
   unfold RX.dt at hr;split at hr
   ·cases hr
   ·have hh:∀ j,x.has j=false->t.kind≠j:=fun j hj=>by
     unfold RX.has at hj;have:=List.any_eq_false.1 hj t ht;simpa using this
    rcases hk with rfl | rfl
    ·simp[h1]at hr
     exact⟨hh 3 hr.2,fun _=>hh 1 hr.1.2⟩
    ·simp[h1]at hr
     exact⟨hh 4 hr.2,fun e=>by omega⟩
  ·cases x with
   | nd k' s a b l=>
    have e:k'=k:=h1;subst e;rw[RX.subs,RX.cI,if_neg (by omega),if_neg (by omega)];omega
 ·rw[if_neg h1]
  by_cases h2:k=3/\x.kind=1
  ·rw[if_pos h2]
   exact⟨fun t ht=>by(cases ht),by simp[RX.sizes],fun e=>absurd e h1,by simp[RX.bH]⟩
  ·rw[if_neg h2]
   refine⟨fun t ht=>?_,by simp[RX.sizes],fun e=>absurd e h1,?_⟩
   ·rw[List.mem_singleton.1 ht]
    exact⟨h,h1,fun e=>fun e2=>h2 ⟨e,e2⟩⟩
   ·simp[RX.bH];omega
theorem Cg {k:Nat} (hk:k=3\/k=4) {l:List RX} (h:∀ t∈l,t.fine/\t.kind≠k/\(k=3->t.kind≠1)):(fQ k l).fine/\(fQ k l).size<=RX.sizes l+1/\(fQ k l).cI<=RX.bH l:=by
 match l with
 | []=>exact⟨uo,by simp[fQ,dJ,RX.size,RX.sizes],by simp[fQ,dJ,RX.cI,RX.bH]⟩
 | [x]=>
  refine⟨(h x (aY ..)).1,?_,?_⟩
  ·simp[fQ,RX.sizes]
  ·simp[fQ,RX.bH]
 | x::y::r=>
  refine⟨lY.2 ⟨?_,fun t ht=>(h t ht).1⟩,?_,?_⟩
  ·have hh:∀ j,(∀ t∈x::y::r,t.kind≠j)->(RX.nd k 0 0 0 (x::y::r)).has j=false:=fun j hj=>by
    unfold RX.has;rw[List.any_eq_false];intro t ht;simpa using hj t ht
   unfold RX.dt;rw[if_neg (by rintro(h | h | h)<;>simp[RX.kind,RX.set,RX.mn,RX.mx]at h;omega)];rcases hk with rfl | rfl
   ·rw[hh 1 fun t ht=>(h t ht).2.2 rfl,hh 3 fun t ht=>(h t ht).2.1]
    simp[RX.kind,RX.subs]
   ·rw[hh 4 fun t ht=>(h t ht).2.1]
    simp[RX.kind,RX.subs]
  ·show RX.size (.nd k 0 0 0 (x::y::r))<=_
   rw[RX.size];omega
  ·show RX.cI (.nd k 0 0 0 (x::y::r))<=_
   rw[RX.cI,if_neg (by omega),if_neg (by omega)];omega
theorem Ch (t:RX):t.cI<=10001:=by cases t;rw[RX.cI];omega
theorem uq {k:Nat} (hk:k=3\/k=4) {a b:RX} (ha:a.fine) (hb:b.fine):(cF k a b).fine/\(cF k a b).size<=a.size+b.size+1/\(cF k a b).cI<=a.cI+b.cI:=by
 obtain⟨a1,a2,_,a4⟩:=qo hk ha;obtain⟨b1,b2,_,b4⟩:=qo hk hb;obtain⟨g1,g2,g3⟩:=Cg hk (l:=ed k a++ed k b) fun t ht=>(List.mem_append.1 ht).elim (a1 t) (b1 t)
 rw[ez]at g2;rw[eA]at g3;have:=Ch (cF k a b);refine⟨g1,?_,?_⟩
 ·show(fQ k (ed k a++ed k b)).size<=_
  omega
 ·have e:(cF k a b).cI=(fQ k (ed k a++ed k b)).cI:=rfl
  omega
theorem QJ (a b:Int) (s:BS) (x:RX):(RX.nd 5 s a b [x]).cI<=x.cI*RX.times a b:=by rw[RX.cI,if_neg (by decide),if_pos rfl,RX.bH,RX.bH,Nat.zero_add,Nat.add_zero];refine Nat.le_trans (Nat.min_le_left _ _) (Nat.mul_le_mul_left _ (Nat.min_le_left _ _))
theorem wM (n m:Nat):iK (fe n) (jT n m)=true/\RX.times (fe n) (jT n m)=iD n m/\1<=iD n m:=by
 have h1:n%3<3:=Nat.mod_lt _ (by decide);have h2:m%4<4:=Nat.mod_lt _ (by decide);unfold iD jT fe;generalize n%3=p at*;generalize m%4=q at*;have key:∀ p:Nat,p<3->∀ q:Nat,q<4->iK (p:Int) (if q<p\/q=0\/(p=1/\q=1)then-1 else(q:Int))=true/\RX.times (p:Int) (if q<p\/q=0\/(p=1/\q=1)then-1 else(q:Int))=(max (max (p:Int) (if q<p\/q=0\/(p=1/\q=1)then-1 else(q:Int))) 1).toNat/\1<=(max (max (p:Int) (if q<p\/q=0\/(p=1/\q=1)then-1 else(q:Int))) 1).toNat:=by decide+kernel
 exact key p h1 q h2
structure dC.ok (P:dC) (c:Nat):Prop where
 fine:∀ t∈P.all,t.fine
 kind:∀ t∈P.all,t.kind≠0
 size:RX.sizes P.all<=c
 cI:RX.bH P.all<=c*P.mK
 mK:1<=P.mK
 Ac:P.mK<=16
 len:P.all.length<=c
theorem lD {l:List RX} (h:0<l.length):l=l.take (l.length-1)++ [l.getD (l.length-1) dJ]:=by
 have e:l.getD (l.length-1) dJ=l[l.length-1]'(by omega):=by rw[bu,az (by omega)];rfl
 rw[e,List.take_append_getElem (by omega),show l.length-1+1=l.length by omega,List.take_length]
theorem Iz {l:List RX} (h:1<l.length):l=l.take (l.length-2)++ [l.getD (l.length-2) dJ,l.getD (l.length-1) dJ]:=by
 have e1:=lD (l:=l) (by omega);have e2:=lD (l:=l.take (l.length-1)) (by simp;omega);rw[List.length_take,Nat.min_eq_left (by omega),show l.length-1-1=l.length-2 by omega]at e2;rw[List.take_take,Nat.min_eq_left (by omega)]at e2;have e3:(l.take (l.length-1)).getD (l.length-2) dJ=l.getD (l.length-2) dJ:=by rw[bu,bu,List.getElem?_take,if_pos (by omega)]
 rw[e3]at e2;rw[e2]at e1;rw[e1.trans (List.append_assoc _ _ _)];simp
theorem oI {l:List RX} {k:Nat} (h:k<l.length):l.getD k dJ∈l:=by rw[bu,az h];exact List.getElem_mem h
theorem oJ {t:RX} (h:t.fine):t.kind≠0:=(cS t (s6 h)).2.2.1
theorem dC.ok.more {P:dC} {c:Nat} (h:P.ok c):P.ok (c+1):=
 ⟨h.fine,h.kind,by have:=h.size;omega,by have:=h.cI;rw[Nat.succ_mul];omega,h.mK,h.Ac,by have:=h.len;omega⟩
theorem dC.ok.push {P:dC} {c:Nat} (h:P.ok c) {x:RX} (hx:x.fine) (hs:x.size<=1) (hp:x.cI<=1):(⟨P.put 0 x,P.mK,P.yy⟩:dC).ok (c+1):=by
 have e:P.put 0 x=P.all++ [x]:=by unfold dC.put;rw[Nat.sub_zero,List.take_length]
 have hf:∀ t∈P.put 0 x,t.fine:=fun t ht=>by
  rw[e]at ht;rcases List.mem_append.1 ht with ht | ht
  ·exact h.fine t ht
  ·rw[List.mem_singleton.1 ht];exact hx
 refine⟨hf,fun t ht=>oJ (hf t ht),?_,?_,h.mK,h.Ac,?_⟩
 ·show RX.sizes (P.put 0 x)<=_
  rw[e,ez];have:=h.size;simp[RX.sizes];omega
 ·show RX.bH (P.put 0 x)<=(c+1)*P.mK
  rw[e,eA,Nat.succ_mul];have:=h.cI;have:=h.mK;simp[RX.bH];omega
 ·show(P.put 0 x).length<=_
  rw[e];have:=h.len;simp;omega
theorem dC.ok.join {P:dC} {c:Nat} (h:P.ok c) {k:Nat} (hk:k=3\/k=4) (hn:1<P.all.length):(⟨P.put 2 (cF k P.gX P.last),P.mK,P.yy⟩:dC).ok (c+1):=by
 have e:=Iz hn;obtain⟨g1,g2,g3⟩:=uq hk (h.fine _ (oI (show P.all.length-2<P.all.length by omega))) (h.fine _ (oI (show P.all.length-1<P.all.length by omega)));have hf:∀ t∈P.put 2 (cF k P.gX P.last),t.fine:=fun t ht=>by
  rcases List.mem_append.1 ht with ht | ht
  ·exact h.fine t (List.mem_of_mem_take ht)
  ·rw[List.mem_singleton.1 ht];exact g1
 have hs:=h.size;have hp:=h.cI;have hl:=h.len;rw[e,ez]at hs;rw[e,eA]at hp;simp only[RX.sizes,RX.bH]at hs hp;refine⟨hf,fun t ht=>oJ (hf t ht),?_,?_,h.mK,h.Ac,?_⟩
 ·show RX.sizes (P.all.take (P.all.length-2)++ [cF k P.gX P.last])<=_
  rw[ez];simp only[RX.sizes];show _+((cF k (P.all.getD (P.all.length-2) dJ) (P.all.getD (P.all.length-1) dJ)).size+0)<=_;omega
 ·show RX.bH (P.all.take (P.all.length-2)++ [cF k P.gX P.last])<=(c+1)*P.mK
  rw[eA,Nat.succ_mul];simp only[RX.bH];show _+((cF k (P.all.getD (P.all.length-2) dJ) (P.all.getD (P.all.length-1) dJ)).cI+0)<=_;omega
 ·show(P.all.take (P.all.length-2)++ [cF k P.gX P.last]).length<=_
  rw[aJ,List.length_take];simp;omega
theorem dC.ok.turn {P:dC} {c:Nat} (h:P.ok c) (hn:0<P.all.length) {x:RX} {f:Nat} (hx:x.fine) (hs:x.size<=P.last.size+1) (hp:x.cI<=P.last.cI*f) (QK:1<=f) (agQ:P.mK*f<=16) (g:Nat):(⟨P.put 1 x,P.mK*f,g⟩:dC).ok (c+1):=by
 have e:=lD hn;have hf:∀ t∈P.put 1 x,t.fine:=fun t ht=>by
  rcases List.mem_append.1 ht with ht | ht
  ·exact h.fine t (List.mem_of_mem_take ht)
  ·rw[List.mem_singleton.1 ht];exact hx
 have hs2:=h.size;have WH:=h.cI;have hl:=h.len;have hu:=h.mK;rw[e,ez]at hs2;rw[e,eA]at WH;simp only[RX.sizes,RX.bH]at hs2 WH;refine⟨hf,fun t ht=>oJ (hf t ht),?_,?_,Nat.mul_pos hu QK,agQ,?_⟩
 ·show RX.sizes (P.all.take (P.all.length-1)++ [x])<=_
  rw[ez];simp only[RX.sizes];have:P.last.size=(P.all.getD (P.all.length-1) dJ).size:=rfl;omega
 ·show RX.bH (P.all.take (P.all.length-1)++ [x])<=(c+1)*(P.mK*f)
  rw[eA];simp only[RX.bH];have e2:P.last.cI=(P.all.getD (P.all.length-1) dJ).cI:=rfl;rw[e2]at hp;have h1:RX.bH (P.all.take (P.all.length-1))+(P.all.getD (P.all.length-1) dJ).cI*f<=(RX.bH (P.all.take (P.all.length-1))+(P.all.getD (P.all.length-1) dJ).cI)*f:=by rw[Nat.add_mul];exact Nat.add_le_add_right (Nat.le_mul_of_pos_right _ QK) _
  have h2:(RX.bH (P.all.take (P.all.length-1))+(P.all.getD (P.all.length-1) dJ).cI)*f<=c*P.mK*f:=Nat.mul_le_mul_right _ (by omega);have h3:(c+1)*(P.mK*f)=c*P.mK*f+P.mK*f:=by rw[Nat.succ_mul,Nat.mul_assoc]
  omega
 ·show(P.all.take (P.all.length-1)++ [x]).length<=_
  rw[aJ,List.length_take];simp;omega
theorem IA {x:RX} (h:x.fine):(RX.nd 6 0 0 0 [x]).fine/\(RX.nd 6 0 0 0 [x]).size<=x.size+1/\(RX.nd 6 0 0 0 [x]).cI<=x.cI*1:=by
 refine⟨lY.2 ⟨?_,fun t ht=>by rw[List.mem_singleton.1 ht];exact h⟩,?_,?_⟩
 ·unfold RX.dt
  simp[RX.kind,RX.set,RX.mn,RX.mx,RX.subs]
 ·simp[RX.size,RX.sizes];omega
 ·rw[RX.cI,if_neg (by decide),if_neg (by decide),RX.bH,RX.bH];omega
theorem QL {x:RX} (h:x.fine) (hk:x.kind≠1) (n m:Nat):(RX.nd 5 0 (fe n) (jT n m) [x]).fine/\(RX.nd 5 0 (fe n) (jT n m) [x]).size<=x.size+1:=by
 refine⟨lY.2 ⟨?_,fun t ht=>by rw[List.mem_singleton.1 ht];exact h⟩,?_⟩
 ·have hh:(RX.nd 5 0 (fe n) (jT n m) [x]).has 1=false:=by
   unfold RX.has RX.subs;simpa using hk
  unfold RX.dt;rw[if_neg (by rintro(h | h | h)<;>simp[RX.kind,RX.set,RX.mn,RX.mx]at h),hh];simp[RX.kind,RX.subs,RX.mn,RX.mx,(wM n m).1]
 ·simp[RX.size,RX.sizes];omega
theorem dC.ok.step {P:dC} {c:Nat} (h:P.ok c) (s:Nat×Nat×Nat):(P.step s).ok (c+1):=by
 unfold dC.step;split
 ·exact h.push (uk _) (by simp[nQ,RX.size,RX.sizes]) (by simp[nQ,RX.cI,RX.bH])
 split
 ·exact h.push uo (by decide) (by decide)
 split
 ·rename_i hc;exact h.join (.inl rfl) hc.2
 split
 ·rename_i hc;exact h.join (.inr rfl) hc.2
 split
 ·rename_i hc
  obtain⟨g1,g2,g3⟩:=IA (h.fine _ (oI (show P.all.length-1<P.all.length by omega)));have:=h.turn hc.2.1 g1 g2 g3 (aG 1) (by rw[Nat.mul_one];exact h.Ac) (P.yy+1);rwa[Nat.mul_one]at this
 split
 ·rename_i hc
  split
  ·rename_i hu
   obtain⟨r1,r2,r3⟩:=wM s.2.1 s.2.2;obtain⟨g1,g2⟩:=QL (h.fine _ (oI (show P.all.length-1<P.all.length by omega))) hc.2.2 s.2.1 s.2.2;exact h.turn hc.2.1 g1 g2 (by rw[<-r2];exact QJ _ _ _ _) r3 hu P.yy
  ·exact h.more
 ·exact h.more
theorem wN (l:List (Nat×Nat×Nat)):(jl l).ok l.length:=by
 have:∀ (l:List (Nat×Nat×Nat)) (P:dC) (c:Nat),P.ok c->(l.foldl dC.step P).ok (c+l.length):=by
  intro l;induction l with
  | nil=>intro P c h;exact h
  | cons s l ih=>
   intro P c h;rw[List.foldl_cons,List.length_cons,show c+(l.length+1)=c+1+l.length by omega];exact ih _ _ (h.step s)
 have h:=this l ⟨[],1,0⟩ 0 ⟨fun t ht=>by(cases ht),fun t ht=>by(cases ht),by simp[RX.sizes],by simp[RX.bH],aG _,by decide,Nat.zero_le _⟩;rwa[Nat.zero_add]at h
theorem qp:∀ (r:List RX) (x:RX),x.fine->(∀ t∈r,t.fine)->(r.foldl (cF 4) x).fine/\(r.foldl (cF 4) x).size<=x.size+RX.sizes r+r.length/\(r.foldl (cF 4) x).cI<=x.cI+RX.bH r
 | [],x,h,_=>⟨h,by simp[RX.sizes],by simp[RX.bH]⟩
 | y::r,x,h,hr=>by
  rw[List.foldl_cons,List.length_cons,RX.sizes,RX.bH];obtain⟨g1,g2,g3⟩:=uq (.inr rfl) h (hr y (aY ..)) (k:=4);obtain⟨k1,k2,k3⟩:=qp r _ g1 fun t ht=>hr t (bC _ ht)
  exact⟨k1,by omega,by omega⟩
structure ID (t:RX):Prop where
 fine:t.fine
 size:t.size<=60
 cI:t.cI<=400
theorem nR (l:List (Nat×Nat×Nat)):ID (gY l):=by
 have H:=wN (l.take 25);have hl:(l.take 25).length<=25:=by rw[List.length_take];omega
 have h16:=H.Ac;have hlen:=H.len;have hsz:=H.size;have TG:RX.bH (jl (l.take 25)).all<=400:=Nat.le_trans H.cI (Nat.le_trans (Nat.mul_le_mul hl h16) (by decide));have WI:=H.fine;unfold gY;generalize (jl (l.take 25)).all=p at*;cases p with
 | nil=>exact⟨uk 0,by decide,by decide+kernel⟩
 | cons x r=>
  rw[RX.sizes]at hsz;rw[RX.bH]at TG;rw[List.length_cons]at hlen;obtain⟨g1,g2,g3⟩:=qp r x (WI x (aY ..)) fun t ht=>WI t (bC _ ht)
  exact⟨g1,by show(r.foldl (cF 4) x).size<=60;omega,by show(r.foldl (cF 4) x).cI<=400;omega⟩
theorem ID.clean {t:RX} (h:ID t):t.clean=true:=by unfold RX.clean;rw[Bool.and_eq_true,List.all_eq_true];exact⟨decide_eq_true (by have:=h.size;omega),h.fine⟩
end
section
open Go Go.RowKit Go.Shelf Go.Maps
def fZ (w:World) (g off:Nat) (s:Nat->BitVec 64):Prop:=g<w.heap.size/\∀ i,i<7->w.cell? ⟨g,off+i,none⟩=some (.int .u64 (s i).toNat)
theorem fZ.keeps {w w':World} {g off:Nat} {s:Nat->BitVec 64} (h:fZ w g off s) {R:Nat->Prop} (hk:ae R w w') (hR:R g):fZ w' g off s:=⟨aD h.1 hk.size,fun i hi=>(hk.cell (p:=⟨g,off+i,none⟩) hR).trans (h.2 i hi)⟩
theorem fZ.QM {w:World} {b:Nat} {s:Nat->BitVec 64} {t:TypeId} (h:ar w b (cJ s) t):fZ w b 0 s:=⟨h.lt,fun i hi=>by rw[Nat.zero_add];exact(h.cell i).trans (lz s hi)⟩
theorem pQ {R:Nat->Prop} {w W:World} (h:ae R w W) (p:Addr) (u:Value):ae R (w.setCell p u) (W.setCell p u):=by
 refine⟨h.os,h.tape,h.output,by simpa[World.setCell]using h.size,fun k hk=>?_⟩;by_cases e:k=p.block
 ·have h1:=h.keep k hk
  subst e;unfold World.setCell;simp only[Array.getElem?_modify,h1]
 ·rw[Below.heap_setCell _ _ _ _ e,Below.heap_setCell _ _ _ _ e]
  exact h.keep k hk
theorem MN (s:Nat->BitVec 64) (b off p:Nat) (hp:p<448) (w:World) (h:fZ w b off s): ah 210 #[.pointer (some ⟨b,off,none⟩),.int .i64 p] w fun e w'=>e=.returned (.bool (sV s p))/\w'=w:=by
 obtain⟨q,hq⟩:=ag (p/64);obtain⟨r,hr⟩:=ag (p%64);have Qw:q<7:=by omega
 have Qx:r<64:=by omega
 have c1:w.cell? ⟨b,off+q,none⟩=some (.int .u64 (s q).toNat):=h.2 q Qw;have e1:(p:Int).tdiv 64=(q:Int):=by rw[Int.tdiv_eq_ediv_of_nonneg (by omega)];omega
 have e2:(p:Int).tmod 64=(r:Int):=by rw[Int.tmod_eq_emod_of_nonneg (by omega)];omega
 have w1:IntKind.i64.wrap (q:Int)=q:=IntWalk.i64_in _ (by omega);have w2:IntKind.i64.wrap (r:Int)=r:=IntWalk.i64_in _ (by omega);have q7i:(q:Int)<7:=by omega
 have r0i:¬ ((r:Int)<0):=by omega
 have j7:sV s p=(s q).getLsbD r:=by unfold sV;rw[<-hq, <-hr]
 rw[j7];clear j7 hq hr h;go_enter Tryz.func210,Tryz.ntmps210;go_wp2;go_ret;exact⟨congrArg (fun b=>Ending.returned (.bool b)) (zR (s q) r),rfl⟩
theorem Ad (s:Nat->BitVec 64) (b off p:Nat) (hp:p<448) (w:World) (h:fZ w b off s) (hz:w.frozen? ⟨b,off+p/64,none⟩=false): ah 201 #[.pointer (some ⟨b,off,none⟩),.int .i64 p] w fun e w'=>(∃ u,e=.returned u)/\ae (· <w.heap.size) (w.setCell ⟨b,off+p/64,none⟩ (.int .u64 (jP s p (p/64)).toNat)) w':=by
 obtain⟨q,hq⟩:=ag (p/64);obtain⟨r,hr⟩:=ag (p%64);have Qw:q<7:=by omega
 have Qx:r<64:=by omega
 have hpw:jP s p (p/64)=s q ||| BitVec.twoPow 64 r:=by unfold jP;rw[if_pos rfl, <-hq, <-hr];rfl
 rw[hpw];rw[<-hq]at hz ⊢;have c1:w.cell? ⟨b,off+q,none⟩=some (.int .u64 (s q).toNat):=h.2 q Qw;have e1:(p:Int).tdiv 64=(q:Int):=by rw[Int.tdiv_eq_ediv_of_nonneg (by omega)];omega
 have e2:(p:Int).tmod 64=(r:Int):=by rw[Int.tmod_eq_emod_of_nonneg (by omega)];omega
 have w1:IntKind.i64.wrap (q:Int)=q:=IntWalk.i64_in _ (by omega);have w2:IntKind.i64.wrap (r:Int)=r:=IntWalk.i64_in _ (by omega);have q7i:(q:Int)<7:=by omega
 have r0i:¬ ((r:Int)<0):=by omega
 have q0i:¬ ((q:Int)<0):=by omega
 have kK:=Hn (s q) Qx;have H:=hid h;have HZ:=hid hz;clear hq hr h hpw hz;go_enter Tryz.func201,Tryz.ntmps201;go_wp2;refine aL false (fun _=>False) (by kernel_rfl) 11 [0,0,2,1,15,31,0,64,192,511,1,2047,4095] (fun i=>i==12) (by kernel_rfl) (fun _=>aX.any _) ?_;intro C hC hne;have HC:=hid hC;have f1:=aC hC (p:=⟨b,off+q,none⟩) H.1 (fun h=>h) c1;clear hC c1
 repeat (refine au (fun K hK=>?_);first | (refine cg rfl ?_;try go_simp;refine hK _ _ ?_;clear hK K) | (refine bV rfl rfl ?_;unfold aF;go_simp;refine hK _ _ ?_;clear hK K))
 refine bM (fun W hW hH=>?_);have hM:=((HC W).1 hW);have HX:=hid hM.below;have c2:W.cell? ⟨b,off+q,none⟩=some (.int .u64 (s q).toNat):=(hM.keeps.cell (p:=⟨b,off+q,none⟩) ⟨H.1,fun h=>h⟩).trans (H.2 q Qw);have z2:W.frozen? ⟨b,off+q,none⟩=false:=by
  have e:W.heap[b]? =w.heap[b]? :=hM.keeps.keep b ⟨H.1,fun h=>h⟩;have e3:=HZ.out;unfold World.frozen? at e3 ⊢;rw[e];exact e3
 clear hM hW hH HC hne f1;go_wp2;have hval:((s q).toNat ||| 2^r%18446744073709551616)=(s q ||| BitVec.twoPow 64 r).toNat:=by rw[BitVec.toNat_or,BitVec.toNat_twoPow]
 refine bodyPost_end (v:=.tuple #[]) (by simp[results,Tryz.results201,go_sem]) rfl ⟨⟨_,rfl⟩,?_⟩;rw[hval];exact pQ (ae.ai HX fun _ h=>h) _ _
def fI (w:World) (g off:Nat) (z:Nat->BitVec 64):Nat->World
 | 0=>w
 | i+1=>(fI w g off z i).setCell ⟨g,off+i,none⟩ (.int .u64 (z i).toNat)
theorem cT (w:World) (g off:Nat) (z:Nat->BitVec 64):∀ i,ae (· ≠g) w (fI w g off z i)
 | 0=>ae.refl _ _
 | i+1=>(cT w g off z i).setCell (fun h=>h rfl) _
theorem nS (w:World) (g off:Nat) (z:Nat->BitVec 64) {j:Nat} {v:Value} (h:w.cell? ⟨g,j,none⟩=some v):∀ i,(off+i<=j)->(fI w g off z i).cell? ⟨g,j,none⟩=some v
 | 0,_=>h
 | i+1,hj=>by
  have ih:=nS w g off z h i (by omega);exact(World.cell?_setCell_other _ _ _ _ (by intro e;injection e with _ e2;omega)).trans ih
theorem pR (w:World) (g off:Nat) (z:Nat->BitVec 64) {j:Nat} (h:w.frozen? ⟨g,j,none⟩=false):∀ i,(fI w g off z i).frozen? ⟨g,j,none⟩=false
 | 0=>h
 | i+1=>by
  have ih:=pR w g off z h i;show((fI w g off z i).setCell _ _).frozen? _=false;rw[World.frozen?_setCell];exact ih
theorem jU (s c:Nat->BitVec 64) (b off:Nat) (w:World) (h:fZ w b off s) (hz:∀ i,i<7->w.frozen? ⟨b,off+i,none⟩=false): ah 205 #[.pointer (some ⟨b,off,none⟩),.agg (cJ c)] w fun e w'=>(∃ u,e=.returned u)/\ae (· <w.heap.size) (fI w b off (fun i=>s i ||| c i) 7) w':=by
 have H:=hid h;have HZ:=hid hz;have OE:=h.1;obtain⟨z,hz0⟩:=ag (fun i=>s i ||| c i:Nat->BitVec 64);rw[<-hz0];have HZ0:=hid hz0;clear h hz hz0;obtain⟨cv,hcv⟩:=ag (cJ c);rw[<-hcv];have HCV:=hid hcv;clear hcv;unfold cJ at HCV;rw[HCV.out];go_enter Tryz.func205,Tryz.ntmps205;go_wp2;refine aA ?_;intro V hV;have B1:Hid (ar V w.heap.size (cJ c) 179):=by rw[hV];exact hid (ar.new _ _ _)
 have X1:Hid (ae (· <w.heap.size) w V):=by rw[hV];exact hid ((Ext.refl _).alloc _).keeps
 have yY:V.heap.size=w.heap.size+1:=by rw[hV];simp
 clear hV;go_loopw [5] (fun iv wr=>∃ i:Nat,i<=7/\iv=.int .i64 i/\ar wr w.heap.size (cJ c) 179/\ae (· <w.heap.size) (fI w b off z i) wr) (fun iv _=>7-(intOf iv).toNat);case atStart=>exact⟨0,by omega,rfl,B1,X1⟩
 case round=>
  obtain⟨i,hi,rfl,hb,hx⟩:=hrel;obtain⟨wo,rfl⟩:=ag (wr:World);have HB:=hid hb;have HX:=hid hx;clear hb hx;by_cases hlt:i<7
  ·have eE:(i:Int)<7:=by omega
   have c1:wo.cell? ⟨b,off+i,none⟩=some (.int .u64 (s i).toNat):=(HX.cell (p:=⟨b,off+i,none⟩) OE).trans (nS w b off z (H.2 i hlt) i (aG _));have c2:wo.cell? ⟨w.heap.size,i,none⟩=some (.int .u64 (c i).toNat):=(HB.cell i).trans (lz c hlt);have z1:wo.frozen? ⟨b,off+i,none⟩=false:=by have e:wo.heap[b]? =(fI w b off z i).heap[b]? :=HX.keep b OE;have e3:=pR w b off z (HZ i hlt) i;unfold World.frozen? at e3 ⊢;rw[e];exact e3
   have hbo:b<wo.heap.size:=aD OE (Nat.le_trans (cT w b off z i).size HX.size);have Z1:=hid z1;clear z1;go_upto_region 4 with fail
   refine aL false (fun _=>False) (by kernel_rfl) 10 [0,0,1,7,15,0,32,96,255,1,1023,2047] (fun i=>i==11) (by kernel_rfl) (fun _=>aX.any _) ?_;intro C hC hne;have HC:=hid hC;have f1:=aC hC (p:=⟨b,off+i,none⟩) hbo (fun h=>h) c1;have f2:=aC hC (p:=⟨w.heap.size,i,none⟩) HB.lt (fun h=>h) c2;clear hC c1 c2
   repeat (refine au (fun K hK=>?_);first | (refine cg rfl ?_;try go_simp;refine hK _ _ ?_;clear hK K) | (refine bV rfl rfl ?_;unfold aF;go_simp;refine hK _ _ ?_;clear hK K))
   refine bM (fun W hW hH=>?_);have hM:=((HC W).1 hW);have KX:Hid (ae (· <wo.heap.size) wo W):=hid (hM.keeps.mono fun k hk=>⟨hk,fun h=>h⟩);have z2:W.frozen? ⟨b,off+i,none⟩=false:=by
    have e:W.heap[b]? =wo.heap[b]? :=KX.keep b hbo;have e3:=Z1.out;unfold World.frozen? at e3 ⊢;rw[e];exact e3
   have c3:W.cell? ⟨b,off+i,none⟩=some (.int .u64 (s i).toNat):=(KX.cell (p:=⟨b,off+i,none⟩) hbo).trans ((HX.cell (p:=⟨b,off+i,none⟩) OE).trans (nS w b off z (H.2 i hlt) i (aG _)));clear hM hW hH HC hne f1 f2;go_wp2;go_roundw;case rel=>
    refine⟨i+1,by omega,by go_num,?_,?_⟩
    ·exact(HB.keeps KX HB.lt).other (by show b≠_;omega) _
    ·rw[A6]
     have e:(s i ||| c i)=z i:=by rw[HZ0.out]
     rw[e];exact pQ (HX.tr (KX.mono fun k hk=>by have h1:=HX.size;have h2:=(cT w b off z i).size;have h3:k<w.heap.size:=hk;omega)) _ _
   case measure=>simp[intOf];omega
  ·obtain rfl:i=7:=by omega
   have eE:¬ (((7:Nat):Int)<7):=by omega
   go_wp2;refine bodyPost_end (v:=.tuple #[]) (by simp[results,Tryz.results205,go_sem]) rfl ⟨⟨_,rfl⟩,HX⟩
attribute [local go_sem] Oper.semAt_some gK dI
theorem Ae (s:Nat->BitVec 64) (B b off:Nat) (w:World) (hB:ar w B #[.pointer (some ⟨b,off,none⟩)] 255) (hb0:fZ w b off s):Seq true Tryz.prog 209 #[.pointer (some ⟨B,0,none⟩)] (fun p:Nat=> #[.int .i64 (p:Int)]) (fun k=>k=B\/k=b) (dO s 448) w:=by
 intro l J Jx W hK hJ Yf hY h0;have HY:=hid hY;have HH:=hid (MN s b off);clear hY;have B0:=hB.keeps hK hB.lt;have B1:=hb0.keeps hK hb0.1;clear hB hb0;refine callsIn_wide (n:=0).1 ?_;refine callsIn_of_wp Tryz.func209 rfl trivial ?_ rfl;simp only[Tryz.ntmps209,List.size_toArray,List.length_cons,List.length_nil,Nat.reduceAdd,Nat.reduceSub,Array.replicate_succ,Array.replicate_zero,List.push_toArray,List.append_toArray,List.nil_append,List.cons_append]
 gi_wp2
 gi_loopw [4] (fun i wr=>∃ (k:Nat) (T:Nat->Prop),k<=448/\i=.int .i64 k/\ar wr B #[.pointer (some ⟨b,off,none⟩)] 255/\fZ wr b off s/\J (dO s k) T wr/\(∀ k,T k->W.heap.size<=k/\k<wr.heap.size)/\ae (fun k=>k=B\/k=b) W wr)
  (fun i _=>448-(intOf i).toNat)
 case atStart=>
  exact⟨0,fun _=>False,by omega,rfl,B0,B1,h0,fun _ h=>h.elim,ae.refl _ _⟩
 case round=>
  obtain⟨k,T,hk,rfl,hB,hb,hj,hT,hR⟩:=hrel;by_cases hlt:k<448
  ·have c0:wr.cell? ⟨B,0,none⟩=some (.pointer (some ⟨b,off,none⟩)):=hB.cell 0
   have UU:=hid hB;have HB:=hid hb;have HJ:=hid hj;have HT:=hid hT;have HR:=hid hR;clear hB hb hj hT hR B0 B1;have bS:=sX s k;by_cases iO:sV s k=true
   ·rw[if_pos iO]at bS
    have HP:=hid bS;have OB:dO s k++ [k]<+:dO s 448:=by rw[<-bS];exact ue s (by omega)
    have PM:=hid OB;have h1:ah 210 #[.pointer (some ⟨b,off,none⟩),.int .i64 k] wr fun e w'=>e=.returned (.bool true)/\w'=wr:=by have:=HH.out k hlt wr HB;rwa[iO]at this
    have H1:=hid h1;clear bS OB h1 iO HH
    gi_wp2_with (gi_at_call 210;refine(callsIn_wide.2 H1).mono ?_;rintro e w1 ⟨rfl,hw⟩;replace hw:=hw.symm;subst hw;obtain⟨fn,tm,Dw,bd,hy,DX⟩:=HY.out (dO s k) k T _ PM HT HR HJ;have OC:=hid DX;clear DX)
    refine OC.mono ?_;rintro e W2 (⟨rfl,kX,hk2⟩ | ⟨rfl,kX,hk2⟩)
    ·have vk:=hid kX
     have pY:=hid hk2;clear kX hk2 hy
     gi_wp2
     go_roundw
     case rel=>
      refine⟨k+1,T,by omega,by go_num,?_,?_,?_,?_,?_⟩
      ·exact UU.keeps pY (.inl (.inl rfl))
      ·exact HB.keeps pY (.inl (.inr rfl))
      ·rw[HP.out];exact vk
      ·exact fun j hj=>⟨(HT j hj).1,aD (HT j hj).2 pY.size⟩
      ·exact HR.tr (pY.mono fun j hj=>.inl hj)
     case measure=>simp[intOf];omega
    ·have vk:=hid kX
     have pY:=hid hk2;clear kX hk2 hy
     gi_wp2
     refine bodyPost_ret (results_none rfl _ _ _) rfl ?_;exact⟨⟨_,rfl⟩,T,fun j hj=>⟨(HT j hj).1,aD (HT j hj).2 pY.size⟩,.inr ⟨_,PM,vk⟩⟩
   ·have tN:sV s k=false:=by simpa using iO
    rw[if_neg iO,List.append_nil]at bS;have HP:=hid bS;have h1:ah 210 #[.pointer (some ⟨b,off,none⟩),.int .i64 k] wr fun e w'=>e=.returned (.bool false)/\w'=wr:=by have:=HH.out k hlt wr HB;rwa[tN]at this
    have H1:=hid h1;clear bS h1 iO tN HH
    gi_wp2_with (gi_at_call 210;refine(callsIn_wide.2 H1).mono ?_;rintro e w1 ⟨rfl,hw⟩;replace hw:=hw.symm;subst hw)
    go_roundw
    case rel=>
     refine⟨k+1,T,by omega,by go_num,UU,HB,?_,HT,HR⟩;rw[HP.out];exact HJ
    case measure=>simp[intOf];omega
  ·obtain rfl:k=448:=by omega
   gi_wp2
   refine bodyPost_end (results_none rfl _ _ _) rfl ?_;exact⟨⟨_,rfl⟩,T,hT,.inl hj⟩
theorem wO (b off:Nat) (w:World):ah 165 #[.pointer (some ⟨b,off,none⟩)] w fun e w'=>e=.returned (.func (.func 209) #[] #[.pointer (some ⟨w.heap.size,0,none⟩)])/\w'=w.alloc (.cells #[.pointer (some ⟨b,off,none⟩)] 255 (0,0)):=by
 go_enter Tryz.func165,Tryz.ntmps165
 go_wp2;go_ret;exact⟨rfl,rfl⟩
theorem IE (s:Nat->BitVec 64) (b off:Nat) (w:World) (hb:fZ w b off s): ah 103 #[.pointer (some ⟨b,off,none⟩)] w fun e w'=>∃ v,e=.returned v/\w'.ownsRow w.heap.size 3 1 v (dO s 448).length ((dO s 448).map wH)/\aa w w':=by
 have eg:∀ args w,(callFunc 209 args).run Tryz.prog w=.ok (.enter 209 args) w:=enters_of Tryz.func209 (by kernel_rfl) rfl;have hlen:(dO s 448).length<=1000000:=Nat.le_trans (Ez _ _) (by decide);have H:Hid (∀ (W:World) (B:Nat),ar W B #[.pointer (some ⟨b,off,none⟩)] 255->fZ W b off s->ah 164 #[.func (.func 209) #[] #[.pointer (some ⟨B,0,none⟩)]] W fun e w'=>∃ v,e=.returned v/\w'.ownsRow W.heap.size 3 1 v (dO s 448).length ((dO s 448).map wH)/\aa W w'):=
  fun W B hB hb=>rP _ W (Ae s B b off W hB hb) eg (fun k hk=>hk.elim (fun e=>by rw[e];exact hB.lt) (fun e=>by rw[e];exact hb.1)) hlen
 have HB:=hid hb;clear eg hlen hb;generalize dO s 448=xs at H ⊢;go_enter Tryz.func103,Tryz.ntmps103;go_wp2_with (first | (go_at_call 165;refine(wO b off _).mono ?_;rintro e w1 ⟨rfl,rfl⟩) | (go_at_call 164;refine(H _ _ ((ar.new _ _ _).at (by simp)) (HB.keeps ((Ext.refl _).alloc _).keeps HB.1)).mono ?_;rintro e w1 ⟨v,rfl,h1,h2⟩;have H1:=hid h1;have H2:=hid h2;clear h1 h2));go_ret;refine⟨v,rfl,aH H1 (by simp),?_⟩;exact((Ext.refl w).alloc _).below.trans (H2.mono (by simp))
end
section
open Go Go.RowKit Go.Shelf Go.Maps
def bW (x:PB):Nat->BitVec 64:=fun i=>x.extractLsb' (64*i) 64
theorem wP (x y:PB) (i:Nat):bW (x ||| y) i=bW x i ||| bW y i:=by unfold bW;apply BitVec.eq_of_getLsbD_eq;intro j hj;simp[hj]
theorem QN (x:PB) {p:Nat} :sV (bW x) p=x.getLsbD p:=by unfold sV bW;rw[BitVec.getLsbD_extractLsb'];have h1:p%64<64:=Nat.mod_lt _ (by decide);rw[show 64*(p/64)+p%64=p by omega];simp[h1]
theorem QO (x:PB) {p:Nat} (hp:p<448) (i:Nat):bW (x ||| eI p) i=jP (bW x) p i:=by
 apply BitVec.eq_of_getLsbD_eq;intro j hj;have e1:(bW (x ||| eI p) i).getLsbD j=(x ||| eI p).getLsbD (64*i+j):=by unfold bW;rw[BitVec.getLsbD_extractLsb'];simp[hj]
 have e2:(bW x i).getLsbD j=x.getLsbD (64*i+j):=by unfold bW;rw[BitVec.getLsbD_extractLsb'];simp[hj]
 rw[e1,BitVec.getLsbD_or,KD];unfold jP;by_cases hi:i=p/64
 ·rw[if_pos hi,BitVec.getLsbD_or,e2]
  congr 1
  rw[BitVec.getLsbD_shiftLeft];by_cases h:64*i+j=p
  ·have kX:j=p%64:=by omega
   have h4:64*i+j<448:=by omega
   rw[decide_eq_true h4,decide_eq_true h,decide_eq_true hj,kX];simp
  ·by_cases h5:j<p%64
   ·simp[h,h5]
   ·have h6:j-p%64≠0:=by omega
    simp[h,h5,h6,hj]
 ·rw[if_neg hi,e2]
  have h:64*i+j≠p:=by omega
  simp[h]
theorem MP (x:PB):(dO (bW x) 448).map Int.ofNat=dY x:=by unfold dO dY;congr 1;exact List.filter_congr fun p _=>QN x
def aB (a:GP):Array Value:= #[.int .u64 (bW a.fst 0).toNat,.int .u64 (bW a.fst 1).toNat,.int .u64 (bW a.fst 2).toNat,.int .u64 (bW a.fst 3).toNat,.int .u64 (bW a.fst 4).toNat,.int .u64 (bW a.fst 5).toNat,.int .u64 (bW a.fst 6).toNat,
 .int .u64 (bW a.cW 0).toNat,.int .u64 (bW a.cW 1).toNat,.int .u64 (bW a.cW 2).toNat,.int .u64 (bW a.cW 3).toNat,.int .u64 (bW a.cW 4).toNat,.int .u64 (bW a.cW 5).toNat,.int .u64 (bW a.cW 6).toNat,.bool a.emp]
theorem MQ (a:GP) {i:Nat} (hi:i<7):(aB a)[i]? =some (.int .u64 (bW a.fst i).toNat):=by
 match i,hi with
 | 0,_=>rfl
 | 1,_=>rfl
 | 2,_=>rfl
 | 3,_=>rfl
 | 4,_=>rfl
 | 5,_=>rfl
 | 6,_=>rfl
theorem MR (a:GP) {i:Nat} (hi:i<7):(aB a)[7+i]? =some (.int .u64 (bW a.cW i).toNat):=by
 match i,hi with
 | 0,_=>rfl
 | 1,_=>rfl
 | 2,_=>rfl
 | 3,_=>rfl
 | 4,_=>rfl
 | 5,_=>rfl
 | 6,_=>rfl
theorem fZ.fst {w:World} {b:Nat} {a:GP} {t:TypeId} (h:ar w b (aB a) t):fZ w b 0 (bW a.fst):=⟨h.lt,fun i hi=>by rw[Nat.zero_add];exact(h.cell i).trans (MQ a hi)⟩
theorem fZ.cW {w:World} {b:Nat} {a:GP} {t:TypeId} (h:ar w b (aB a) t):fZ w b 7 (bW a.cW):=⟨h.lt,fun _ hi=>(h.cell _).trans (MR a hi)⟩
theorem QP (v0 v1 v2 v3 v4 v5 v6 v7 v8 v9 v10 v11 v12 v13 v14 u0 u1 u2 u3 u4 u5 u6:Value) {w:World} {b:Nat} {t:TypeId} (h:ar w b #[v0,v1,v2,v3,v4,v5,v6,v7,v8,v9,v10,v11,v12,v13,v14] t):ar (((((((w.setCell ⟨b,0,none⟩ u0).setCell ⟨b,1,none⟩ u1).setCell ⟨b,2,none⟩ u2).setCell ⟨b,3,none⟩ u3).setCell ⟨b,4,none⟩ u4).setCell ⟨b,5,none⟩ u5).setCell ⟨b,6,none⟩ u6) b #[u0,u1,u2,u3,u4,u5,u6,v7,v8,v9,v10,v11,v12,v13,v14] t:=by have h0:=h.rL 0 u0 (c':= #[u0,v1,v2,v3,v4,v5,v6,v7,v8,v9,v10,v11,v12,v13,v14]) rfl;have h1:=h0.rL 1 u1 (c':= #[u0,u1,v2,v3,v4,v5,v6,v7,v8,v9,v10,v11,v12,v13,v14]) rfl;have h2:=h1.rL 2 u2 (c':= #[u0,u1,u2,v3,v4,v5,v6,v7,v8,v9,v10,v11,v12,v13,v14]) rfl;have h3:=h2.rL 3 u3 (c':= #[u0,u1,u2,u3,v4,v5,v6,v7,v8,v9,v10,v11,v12,v13,v14]) rfl;have h4:=h3.rL 4 u4 (c':= #[u0,u1,u2,u3,u4,v5,v6,v7,v8,v9,v10,v11,v12,v13,v14]) rfl;have h5:=h4.rL 5 u5 (c':= #[u0,u1,u2,u3,u4,u5,v6,v7,v8,v9,v10,v11,v12,v13,v14]) rfl;have h6:=h5.rL 6 u6 (c':= #[u0,u1,u2,u3,u4,u5,u6,v7,v8,v9,v10,v11,v12,v13,v14]) rfl;exact h6
theorem QQ (v0 v1 v2 v3 v4 v5 v6 v7 v8 v9 v10 v11 v12 v13 v14 u0 u1 u2 u3 u4 u5 u6:Value) {w:World} {b:Nat} {t:TypeId} (h:ar w b #[v0,v1,v2,v3,v4,v5,v6,v7,v8,v9,v10,v11,v12,v13,v14] t):ar (((((((w.setCell ⟨b,7,none⟩ u0).setCell ⟨b,8,none⟩ u1).setCell ⟨b,9,none⟩ u2).setCell ⟨b,10,none⟩ u3).setCell ⟨b,11,none⟩ u4).setCell ⟨b,12,none⟩ u5).setCell ⟨b,13,none⟩ u6) b #[v0,v1,v2,v3,v4,v5,v6,u0,u1,u2,u3,u4,u5,u6,v14] t:=by have h0:=h.rL 7 u0 (c':= #[v0,v1,v2,v3,v4,v5,v6,u0,v8,v9,v10,v11,v12,v13,v14]) rfl;have h1:=h0.rL 8 u1 (c':= #[v0,v1,v2,v3,v4,v5,v6,u0,u1,v9,v10,v11,v12,v13,v14]) rfl;have h2:=h1.rL 9 u2 (c':= #[v0,v1,v2,v3,v4,v5,v6,u0,u1,u2,v10,v11,v12,v13,v14]) rfl;have h3:=h2.rL 10 u3 (c':= #[v0,v1,v2,v3,v4,v5,v6,u0,u1,u2,u3,v11,v12,v13,v14]) rfl;have h4:=h3.rL 11 u4 (c':= #[v0,v1,v2,v3,v4,v5,v6,u0,u1,u2,u3,u4,v12,v13,v14]) rfl;have h5:=h4.rL 12 u5 (c':= #[v0,v1,v2,v3,v4,v5,v6,u0,u1,u2,u3,u4,u5,v13,v14]) rfl;have h6:=h5.rL 13 u6 (c':= #[v0,v1,v2,v3,v4,v5,v6,u0,u1,u2,u3,u4,u5,u6,v14]) rfl;exact h6
theorem qq {w:World} {b:Nat} {a:GP} {t:TypeId} (h:ar w b (aB a) t) (x:PB) {z:Nat->BitVec 64} (hz:∀ i,i<7->z i=bW x i):ar (fI w b 0 z 7) b (aB ⟨x,a.cW,a.emp⟩) t:=by have e0:=hz 0 (by decide);have e1:=hz 1 (by decide);have e2:=hz 2 (by decide);have e3:=hz 3 (by decide);have e4:=hz 4 (by decide);have e5:=hz 5 (by decide);have e6:=hz 6 (by decide);unfold aB at h ⊢;dsimp only at h ⊢;rw[<-e0, <-e1, <-e2, <-e3, <-e4, <-e5, <-e6];clear e0 e1 e2 e3 e4 e5 e6 hz;exact QP _ _ _ _ _ _ _ _ _ _ _ _ _ _ _ _ _ _ _ _ _ _ h
theorem qs {w:World} {b:Nat} {a:GP} {t:TypeId} (h:ar w b (aB a) t) (x:PB) {z:Nat->BitVec 64} (hz:∀ i,i<7->z i=bW x i):ar (fI w b 7 z 7) b (aB ⟨a.fst,x,a.emp⟩) t:=by have e0:=hz 0 (by decide);have e1:=hz 1 (by decide);have e2:=hz 2 (by decide);have e3:=hz 3 (by decide);have e4:=hz 4 (by decide);have e5:=hz 5 (by decide);have e6:=hz 6 (by decide);unfold aB at h ⊢;dsimp only at h ⊢;rw[<-e0, <-e1, <-e2, <-e3, <-e4, <-e5, <-e6];clear e0 e1 e2 e3 e4 e5 e6 hz;exact QQ _ _ _ _ _ _ _ _ _ _ _ _ _ _ _ _ _ _ _ _ _ _ h
def ee (l:List PB):List Value:=l.flatMap fun x=>(cJ (bW x)).toList
theorem wQ:∀ {l:List PB} {p i:Nat} {x:PB},l[p]? =some x->i<7->(ee l)[p*7+i]? =some (.int .u64 (bW x i).toNat)
 | y::l,0,_,x,h,hi=>by
  simp at h;subst h;unfold ee;rw[List.flatMap_cons,bK (by simp[cJ];omega),Nat.zero_mul,Nat.zero_add];have:=lz (bW y) hi;simpa using this
 | y::l,p+1,i,x,h,hi=>by
  have ih:=wQ (l:=l) (p:=p) (i:=i) (x:=x) (by simpa using h) hi;unfold ee at ih ⊢;rw[List.flatMap_cons,cM (by simp[cJ];omega)];rw[<-ih];congr 1;simp[cJ];omega
theorem Ci (a b:List PB):ee (a++b)=ee a++ee b:=by unfold ee;rw[List.flatMap_append]
attribute [local go_sem] Oper.semAt_some gK dI
structure fL (base M:Nat) (F:Nat->Prop) (w:World) (m:GM):Prop where
 fm:F M
 lt:∀ x,F x->base<=x/\x<w.heap.size
 row:∃ sv fv,ar w M #[sv,fv] 177/\w.ownsRow base 56 4 sv m.aN.length (aP m.aN)/\(∀ x,sv.ownBlock=some x->F x)/\w.ownsRow base 179 7 fv m.cK.length (ee m.cK)/\(∀ x,fv.ownBlock=some x->F x)
theorem fL.keeps {base M:Nat} {F R:Nat->Prop} {w w':World} {m:GM} (h:fL base M F w m) (hk:ae R w w') (hR:∀ x,F x->R x):fL base M F w' m:=by obtain⟨sv,fv,h1,h2,h3,h4,h5⟩:=h.row;exact⟨h.fm,fun x hx=>⟨(h.lt x hx).1,aD (h.lt x hx).2 hk.size⟩,sv,fv,h1.keeps hk (hR M h.fm),aj h2 hk fun x e=>hR x (h3 x e),h3,aj h4 hk fun x e=>hR x (h5 x e),h5⟩
theorem Af:∀ {l:List PB} {p:Nat} (y:PB),p<l.length->((((((((ee l).set (p*7) (.int .u64 (bW y 0).toNat)).set (p*7+1) (.int .u64 (bW y 1).toNat)).set (p*7+2) (.int .u64 (bW y 2).toNat)).set (p*7+3) (.int .u64 (bW y 3).toNat)).set (p*7+4) (.int .u64 (bW y 4).toNat)).set (p*7+5) (.int .u64 (bW y 5).toNat)).set (p*7+6) (.int .u64 (bW y 6).toNat))=ee (l.set p y)
 | x::l,0,y,_=>by
  unfold ee;rw[List.set_cons_zero,List.flatMap_cons,List.flatMap_cons];simp[cJ]
 | x::l,p+1,y,hp=>by
  have ih:=Af (l:=l) (p:=p) y (by simpa using hp);have e:∀ (l:List PB),ee (x::l)=(cJ (bW x)).toList++ee l:=fun l=>by unfold ee;rw[List.flatMap_cons]
  rw[List.set_cons_succ,e,e, <-ih];have h7:(cJ (bW x)).toList.length=7:=by simp[cJ]
  have hs:∀ (ys:List Value) (j:Nat) (v:Value),((cJ (bW x)).toList++ys).set (7+j) v=(cJ (bW x)).toList++ys.set j v:=fun ys j v=>by
   rw[List.set_append_right _ _ (by omega),h7,Nat.add_sub_cancel_left]
  rw[show(p+1)*7=7+p*7 by omega,hs,show 7+p*7+1=7+(p*7+1) by omega,hs,show 7+p*7+2=7+(p*7+2) by omega,hs,show 7+p*7+3=7+(p*7+3) by omega,hs,show 7+p*7+4=7+(p*7+4) by omega,hs,show 7+p*7+5=7+(p*7+5) by omega,hs,show 7+p*7+6=7+(p*7+6) by omega,hs]
theorem fL.or {base M:Nat} {F:Nat->Prop} {w:World} {m:GM} (h:fL base M F w m) {sv:Value} {g n cap:Nat} (hg:ar w M #[sv,.slice (some ⟨g,0,none⟩) n cap] 177) {p:Nat} (hp:p<m.cK.length) (y:PB) {z:Nat->BitVec 64} (hz:∀ i,i<7->z i=bW y i):fL base M F (fI w g (p*7) z 7) ⟨m.aN,m.cK.set p y⟩:=by
 obtain⟨YQ,fv,h1,h2,h3,h4,h5⟩:=h.row;have e: #[YQ,fv]= #[sv,.slice (some ⟨g,0,none⟩) n cap]:=by
  unfold ar at h1 hg;rw[h1]at hg;injection hg with h6
  injection h6
 have e2:fv=.slice (some ⟨g,0,none⟩) n cap:=by have:=congrArg (fun a:Array Value=>a[1]?) e;simpa using this
 subst e2;have hk:=cT w g (p*7) z 7;have hgM:g≠M:=fun e3=>by
  rcases h4.2 with⟨e4,_⟩ | ⟨g',c',cur,e4,_,h6,_⟩
  ·cases e4
  ·cases e4
   rw[e3]at h6;unfold ar at h1;rw[h1]at h6;injection h6 with h7
   injection h7 with _ h8
   exact absurd h8 (by decide)
 have hn:n=m.cK.length:=by obtain⟨_,_,e4⟩:=ownsRow_form h4;injection e4
 have hgs:∀ x,YQ.ownBlock=some x->x≠g:=fun x e3 e4=>by
  rcases ownBlock_ne (by decide) h2 h4 with h6 | h6
  ·rw[h6]at e3;cases e3
  ·exact h6 (by rw[e3,e4];rfl)
 refine⟨h.fm,fun x hx=>⟨(h.lt x hx).1,aD (h.lt x hx).2 hk.size⟩,YQ,_,h1.keeps hk (fun e3=>hgM e3.symm),aj h2 hk hgs,h3,?_,h5⟩;subst hn;rw[List.length_set, <-Af y hp];have h7:=((((((((((((((h4.stored (p*7+0) (.int .u64 (z 0).toNat)).1).stored (p*7+1) (.int .u64 (z 1).toNat)).1).stored (p*7+2) (.int .u64 (z 2).toNat)).1).stored (p*7+3) (.int .u64 (z 3).toNat)).1).stored (p*7+4) (.int .u64 (z 4).toNat)).1).stored (p*7+5) (.int .u64 (z 5).toNat)).1).stored (p*7+6) (.int .u64 (z 6).toNat)).1);rw[<-hz 0 (by decide), <-hz 1 (by decide), <-hz 2 (by decide), <-hz 3 (by decide), <-hz 4 (by decide), <-hz 5 (by decide), <-hz 6 (by decide)];exact h7
def lF (m:GM) (pre:List Nat) (first:PB):GM:=⟨m.aN,m.cK.mapIdx fun p f=>if pre.contains p then f ||| first else f⟩
theorem MT (m:GM) (first:PB):lF m [] first=m:=by
 unfold lF;have:m.cK.mapIdx (fun p f=>if([]:List Nat).contains p then f ||| first else f)=m.cK:=by
  apply List.ext_getElem
  ·simp
  ·intro i h1 h2;simp
 rw[this]
theorem Ag (m:GM) (pre:List Nat) (first:PB):(lF m pre first).cK.length=m.cK.length:=by unfold lF;simp
theorem IG (m:GM) (pre:List Nat) (first:PB) {p:Nat} {x:PB} (hx:m.cK[p]? =some x):(⟨(lF m pre first).aN,(lF m pre first).cK.set p (x ||| first)⟩:GM)=lF m (pre++ [p]) first:=by
 unfold lF;congr 1;apply List.ext_getElem?;intro j;rw[List.getElem?_set,List.getElem?_mapIdx,List.getElem?_mapIdx];by_cases e:p=j
 ·subst e
  rw[if_pos rfl,hx];have hl:=(List.getElem?_eq_some_iff.1 hx).1;simp[hl]
 ·rw[if_neg e]
  cases m.cK[j]? with
  | none=>rfl
  | some f=>
   have:(pre++ [p]).contains j=pre.contains j:=by rw[Bool.eq_iff_iff];simp;intro e2;exact absurd e2.symm e
   simp only[Option.map_some,this]
theorem MU (m:GM) (last first:PB) (hl:m.cK.length<=448):lF m (dO (bW last) 448) first=iR m last first:=by
 unfold lF iR;congr 1;apply List.ext_getElem
 ·simp
 ·intro i h1 h2
  simp only[List.getElem_mapIdx];have hi:i<448:=by simp at h1;omega
  have:(dO (bW last) 448).contains i=last.getLsbD i:=by rw[Bool.eq_iff_iff,List.contains_iff_mem];unfold dO;rw[List.mem_filter,QN,List.mem_range];simp[hi]
  rw[this]
theorem lG (base M:Nat) (F:Nat→Prop) (m:GM) (last first:PB) (w:World) (h:fL base M F w m) (hl:dH last m.cK.length) (hn:m.cK.length≤448): ah 234 #[.pointer (some ⟨M,0,none⟩),.agg (cJ (bW last)),.agg (cJ (bW first))] w fun e w'=>(∃ u,e=.returned u)∧fL base M F w' (iR m last first)∧ae (fun x=>x<w.heap.size∧¬F x) w w':=by
  have H:=hid h;have HL:=hid hl;have WJ:M<w.heap.size:=(h.lt M h.fm).2;rw[←MU m last first hn];clear h hl;refine cC Tryz.func234 rfl ?_;simp only[Tryz.ntmps234,List.size_toArray,List.length_cons,List.length_nil,Nat.reduceAdd,Nat.reduceSub,Array.replicate_succ,Array.replicate_zero,List.push_toArray,List.append_toArray,List.nil_append,List.cons_append];go_wp2_with (go_at_call 165;refine(wO _ 0 _).mono ?_;rintro e w1 ⟨rfl,rfl⟩);refine aA ?_;intro W0 hW0;have B0:ar W0 w.heap.size #[.pointer (some ⟨M,0,none⟩)] 174:=by rw[hW0];exact(((ar.new _ _ _).alloc _).alloc _).alloc _
  have B1:ar W0 (w.heap.size+1) (cJ (bW last)) 179:=by rw[hW0];exact(((ar.new _ _ _).at (by simp)).alloc _).alloc _
  have B2:ar W0 (w.heap.size+1+1) (cJ (bW first)) 179:=by rw[hW0];exact((ar.new _ _ _).at (by simp)).alloc _
  have B3:ar W0 (w.heap.size+1+1+1) #[.pointer (some ⟨w.heap.size+1,0,none⟩)] 255:=by rw[hW0];exact(ar.new _ _ _).at (by simp)
  have hx:Ext w W0:=by rw[hW0];exact((((Ext.refl w).alloc _).alloc _).alloc _).alloc _
  have hsz:W0.heap.size=w.heap.size+1+1+1+1:=by rw[hW0];simp
  clear hW0;have hF:∀ x,F x→x<w.heap.size:=fun x hx=>(H.lt x hx).2
  have HND:Hid (∀ (pre:List Nat) (x:Nat),pre++ [x]<+:dO (bW last) 448→pre.contains x=false∧x<m.cK.length):=hid fun pre x hp=>by
    have Wj:(dO (bW last) 448).Nodup:=List.nodup_range.filter _;have h2:=Wj.sublist hp.sublist;refine⟨?_,?_⟩
    · rw[Bool.eq_false_iff]
      intro e;rw[List.contains_iff_mem]at e;exact(List.nodup_append.1 h2).2.2 x e x (by simp) rfl
    · have hm:x∈dO (bW last) 448:=hp.subset (by simp)
      unfold dO at hm;have:=(List.mem_filter.1 hm).2;rw[QN]at this;exact HL x this
  have HF:=hid hF;have HMi:=hid (H.keeps hx.keeps hF);have tJ:ae (fun x=>x<w.heap.size∧¬F x) w W0:=hx.mono fun x hx=>hx.1
  have eg:∀ args w,(callFunc 209 args).run Tryz.prog w=.ok (.enter 209 args) w:=enters_of Tryz.func209 (by kernel_rfl) rfl
  refine ir (w:=W0) (d:=true) (Ae (bW last) (w.heap.size+1+1+1) (w.heap.size+1) 0 W0 B3 (fZ.QM B1)) (by rfl) eg (by intro _;rfl) (by intro k hk;rcases hk with hk | hk<;>omega)
    (fun pre _ W=>fL base M F W (lF m pre first)∧ar W w.heap.size #[.pointer (some ⟨M,0,none⟩)] 174∧ar W (w.heap.size+1+1) (cJ (bW first)) 179∧ae (fun x=>x<w.heap.size∧¬F x) w W)
    (fun _ _ _ _=>False)
    (fun ys T T' W W' ⟨h1,h2,h3,h4⟩ hT PN hs hn hk=>⟨h1.keeps hk.1 fun x hx=>⟨(h1.lt x hx).2,fun e=>by have:=(hT x e).1;have:=HF.out x hx;omega⟩,h2.mY hT hk (by omega),h3.mY hT hk (by omega),h4.tr (hk.1.mono fun x hx=>⟨by have:=h4.size;have:=hx.1;omega,fun e=>by have:=(hT x e).1;have:=hx.1;omega⟩)⟩)
    (fun c ys T T' W W' h=>h.elim)
    ⟨by rw[MT];exact HMi,B0,B2,tJ⟩
    (fun x=>⟨#[.pointer (some ⟨M,0,none⟩),.agg (cJ (bW last)),.agg (cJ (bW first)),.pointer (some ⟨w.heap.size,0,none⟩),.pointer (some ⟨w.heap.size+1,0,none⟩),.pointer (some ⟨w.heap.size+1+1,0,none⟩),.int .i64 (x:Int),.func (.func 209) #[] #[.pointer (some ⟨w.heap.size+1+1+1,0,none⟩)],.int .i64 (x:Int),undef,undef,undef,undef,undef,undef,undef,undef],[]⟩) ?assign ?body ?done ?stop
  case assign=>
    intro l x W K hK
    gi_wp2
    exact hK
  case body=>
    rintro lr pre x T W bS hT hR yG hl ⟨i1,i2,i3,i4⟩;obtain⟨hnc,zI⟩:=HND.out pre x bS;obtain⟨f,hf⟩:∃ f,m.cK[x]? =some f:=⟨_,az zI⟩;have Bc:(lF m pre first).cK[x]? =some f:=by show(m.cK.mapIdx _)[x]? =_;rw[List.getElem?_mapIdx,hf];simp only[Option.map_some];rw[hnc];rfl
    obtain⟨sv,fv,r1,r2,r3,r4,r5⟩:=i1.row;have hll:(lF m pre first).cK.length=m.cK.length:=Ag _ _ _;rw[hll]at r4
    obtain⟨g,cap,rfl⟩:∃ g cap,fv=.slice (some ⟨g,0,none⟩) m.cK.length cap:=by
      rcases r4.2 with⟨_,e2⟩ | ⟨g,cap,cur,e2,_⟩
      · exfalso;omega
      · exact⟨g,cap,e2⟩
    have hFg:F g:=r5 g rfl;have hgw:g<w.heap.size:=HF.out g hFg;have hFM:F M:=i1.fm
    have hgM:M≠g:=fun e=>by
      subst e;rcases r4.2 with⟨e4,_⟩ | ⟨g',c',cur,e4,_,h6,_⟩
      · cases e4
      · cases e4
        unfold ar at r1;rw[r1]at h6;injection h6 with h7
        injection h7 with _ h8
        exact absurd h8 (by decide)
    have hwd:fZ W g (x*7) (bW f):=⟨(i1.lt g hFg).2,fun i hi=>by
      have:=r4.cells (g:=g) rfl _ _ (wQ Bc hi);rw[Addr.add_mid]at this
      simpa using this⟩
    have hfz:∀ i,i<7→W.frozen? ⟨g,x*7+i,none⟩=false:=fun i _=>r4.frozenAt _
    have s7:w.heap.size+1+1+1+1≤W.heap.size:=by have:=hR.size;omega
    have q0:W.cell? ⟨w.heap.size,0,none⟩=some (.pointer (some ⟨M,0,none⟩)):=i2.cell 0;have q1:W.cell? ⟨M,1,none⟩=some (.slice (some ⟨g,0,none⟩) m.cK.length cap):=r1.cell 1;have hxi:(x:Int)<m.cK.length:=by omega
    have I1:=hid i1;have I2:=hid i2;have I3:=hid i3;have I4:=hid i4;have R1:=hid r1;have HWD:=hid hwd;have HFZ:=hid hfz;have HT:=hid hT;have ani:=hid Bc;have HFX:=hid hf;have hb3:=i3;obtain⟨nf,Dr⟩:=ag m.cK.length;rw[←Dr]at q1 hxi R1;have KC:=hid Dr;clear i1 i2 i3 i4 r1 r2 r3 r4 r5 hwd hfz hT hR yG hl bS Bc hf hll Dr B0 B1 B2 B3 tJ
    gi_upto_region 3 with fail
    refine sJ (fun _=>trivial) rfl (fun k=>k<W.heap.size∧k≠g) (by kernel_rfl) (fun i=>i==7) (by kernel_rfl) ?_;intro C hC hne W2 hK2 hblk agV hx2;have HC:=hid hC;have f0:=dy hC (p:=⟨w.heap.size,0,none⟩) ⟨I2.lt,by show w.heap.size≠g;omega⟩ q0;have f1:=dy hC (p:=⟨M,1,none⟩) ⟨R1.lt,hgM⟩ q1;have hb2:w.heap.size+1+1<W.heap.size:=I3.lt;have g0:=dy hC (p:=⟨w.heap.size+1+1,0,none⟩) ⟨hb2,by show w.heap.size+1+1≠g;omega⟩ (I3.cell 0);have g1:=dy hC (p:=⟨w.heap.size+1+1,1,none⟩) ⟨hb2,by show w.heap.size+1+1≠g;omega⟩ (I3.cell 1);have g2:=dy hC (p:=⟨w.heap.size+1+1,2,none⟩) ⟨hb2,by show w.heap.size+1+1≠g;omega⟩ (I3.cell 2);have g3:=dy hC (p:=⟨w.heap.size+1+1,3,none⟩) ⟨hb2,by show w.heap.size+1+1≠g;omega⟩ (I3.cell 3);have g4:=dy hC (p:=⟨w.heap.size+1+1,4,none⟩) ⟨hb2,by show w.heap.size+1+1≠g;omega⟩ (I3.cell 4);have g5:=dy hC (p:=⟨w.heap.size+1+1,5,none⟩) ⟨hb2,by show w.heap.size+1+1≠g;omega⟩ (I3.cell 5);have g6:=dy hC (p:=⟨w.heap.size+1+1,6,none⟩) ⟨hb2,by show w.heap.size+1+1≠g;omega⟩ (I3.cell 6);simp only[cJ,List.getElem?_toArray,List.getElem?_cons_zero,List.getElem?_cons_succ]at g0 g1 g2 g3 g4 g5 g6;have pY:=hid hK2;have HBL:=hid hblk;have gF:=hid hx2;clear hC hK2 hblk hx2;refine er.out ?_
    repeat (refine ft (fun K hK=>?_);first | (refine lexN rfl ?_;try go_simp;refine hK _ _ ?_;clear hK K) | (refine Uk rfl rfl ?_;unfold aF;go_simp;refine hK _ _ ?_;clear hK K))
    refine ft (fun K hK=>?_);refine Pf rfl rfl ?_;go_simp;have agW:fZ W2 g (x*7) (bW f):=HWD.keeps gF.keeps HWD.1
    have agX:∀ i,i<7→W2.frozen? ⟨g,x*7+i,none⟩=false:=fun i hi=>by
      have e3:=HFZ.out i hi;unfold World.frozen? at e3 ⊢;rw[HBL.out g];exact e3
    refine DC ((jU (bW f) (bW first) g (x*7) W2 agW agX).mono ?_);rintro e w2 ⟨⟨u,rfl⟩,hx⟩;have YR:=gF.size;have k1:ae (· ≠g) W2 (fI W2 g (x*7) (fun i=>bW f i ||| bW first i) 7):=cT _ _ _ _ _;have k2:ae (fun k=>k<W.heap.size∧k≠g) W w2:=(gF.mono fun k hk=>hk.1:ae (fun k=>k<W.heap.size∧k≠g) W W2).tr ((k1.mono fun k hk=>hk.2).tr (hx.mono fun k hk=>by have:=hk.1;omega));refine⟨_,rfl,(HC _).2 k2,hK _ _ ?_⟩;clear hK K;refine DI ?_;refine⟨k2.mono fun k hk=>?_,?_,?_,?_,?_⟩
    · rcases hk with(hk | hk) | hk
      · exact⟨by omega,by omega⟩
      · exact⟨by omega,by omega⟩
      · have h9:=HT.out k hk
        exact⟨h9.2,by omega⟩
    · have h9:=(I1.keeps gF.keeps fun x hx=>(I1.lt x hx).2)
      have h8:=h9.or (R1.keeps gF.keeps R1.lt) (p:=x) (by rw[Ag];exact zI) (f ||| first) (z:=fun i=>bW f i ||| bW first i) fun i _=>(wP f first i).symm
      rw[IG m pre first HFX.out]at h8;exact h8.keeps hx fun y hy=>by have:=(h9.lt y hy).2;omega
    · exact I2.keeps k2 ⟨I2.lt,by omega⟩
    · exact I3.keeps k2 ⟨I3.lt,by omega⟩
    · exact I4.tr (k2.mono fun k hk=>⟨by have:=hk.1;omega,fun e=>hk.2 (by rw[e];exact hFg)⟩)
  case done=>
    rintro D T W hD yJ hT ⟨i1,i2,i3,i4⟩ mO;have I1:=hid i1;have I4:=hid i4;have HD:=hid hD;have yx:=hid mO;clear i1 i2 i3 i4 yJ hT mO hD B0 B1 B2 B3 tJ;dsimp only;go_wp2;have hDw:=HD.out;refine uL rfl yx (results_none rfl _ _ _) ⟨⟨_,rfl⟩,?_,?_⟩
    · exact I1.keeps ((ae.refl (fun x=>x≠D) _).putObj (fun h=>h rfl) _) fun x hx e=>by have:=HF.out x hx;omega
    · exact I4.putObj (fun h=>by have:=h.1;omega) _
  case stop=>rintro D c pre T W _ _ _ _ h _;exact h.elim
end
end Go.Proofs.YtjgccapbphadjaaGreatDoor
