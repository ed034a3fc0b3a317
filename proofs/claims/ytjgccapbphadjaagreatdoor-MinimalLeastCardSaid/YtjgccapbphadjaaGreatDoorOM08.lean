/- (*maker).step: what a row of state sets leads to by a byte. -/
import Derived.Shelf.Strings.BuilderK
import Derived.Shelf.Strconv.Itoa3
import Derived.Lib.ItoaLen
import Derived.Test.YtjgccapbphadjaaGreatDoorOM07
set_option maxRecDepth 100000
set_option maxHeartbeats 16000000
open Go.Lib (hid)
namespace Go.Proofs.YtjgccapbphadjaaGreatDoor
section
open Go Go.RowKit Go.Shelf Go.Maps
theorem sS (u:Nat):∀ c∈Lib.decDigits u,48<=c.toNat/\c.toNat<=57:=by
 induction u using Nat.strongRecOn with
 | _ u ih=>
  intro c hc;rw[Lib.decDigits]at hc;split at hc
  ·rename_i h
   simp at hc;subst hc;simp;omega
  ·rename_i h
   rcases List.mem_append.1 hc with hc | hc
   ·exact ih (u/10) (by omega) c hc
   ·simp at hc
    subst hc;have:u%10<10:=Nat.mod_lt _ (by decide);simp;omega
def numOf (l:List UInt8):Nat:=l.foldl (fun a c=>a*10+(c.toNat-48)) 0
theorem zS (u:Nat):numOf (Lib.decDigits u)=u:=by
 induction u using Nat.strongRecOn with
 | _ u ih=>
  rw[Lib.decDigits];split
  ·rename_i h
   simp[numOf];omega
  ·rename_i h
   unfold numOf at ih ⊢;rw[List.foldl_append,ih (u/10) (by omega)];have:u%10<10:=Nat.mod_lt _ (by decide);simp;omega
theorem Km {u v:Nat} (h:Lib.decDigits u=Lib.decDigits v):u=v:=by rw[<-zS u, <-zS v,h]
theorem pT (x:Int):∀ c∈Lib.itoa x,c≠44/\c≠59:=by
 have key:∀ c:UInt8,(48<=c.toNat/\c.toNat<=57)->c≠44/\c≠59:=fun c h=>⟨fun e=>by subst e;simp at h,fun e=>by subst e;simp at h⟩
 intro c hc;rw[Lib.itoa]at hc;split at hc
 ·rcases List.mem_cons.1 hc with rfl | hc
  ·decide
  ·exact key c (sS _ c hc)
 ·exact key c (sS _ c hc)
theorem Qg {x y:Int} (h:Lib.itoa x=Lib.itoa y):x=y:=by
 have hne:∀ u (t:List UInt8),Lib.decDigits u≠45::t:=fun u t e=>by
  have:=sS u 45 (by rw[e];exact aW ..);simp at this
 unfold Lib.itoa at h;split at h<;>split at h
 ·have:=Km (List.cons.inj h).2
  omega
 ·exact absurd h.symm (hne _ _)
 ·exact absurd h (hne _ _)
 ·have:=Km h
  omega
theorem Im {α:Type} {s:α} :∀ {a b c d:List α},(∀ x∈a,x≠s)->(∀ x∈b,x≠s)->a++s::c=b++s::d->a=b/\c=d
 | [],[],c,d,_,_,h=>⟨rfl,by simpa using h⟩
 | [],y::b,c,d,_,hb,h=>by
  have:s=y:=by simpa using(List.cons.inj (by simpa using h)).1
  exact absurd this.symm (hb y (aW ..))
 | x::a,[],c,d,ha,_,h=>by
  have:x=s:=by simpa using(List.cons.inj (by simpa using h)).1
  exact absurd this (ha x (aW ..))
 | x::a,y::b,c,d,ha,hb,h=>by
  have h':=List.cons.inj (by simpa using h:x::(a++s::c)=y::(b++s::d));obtain⟨e1,e2⟩:=Im (fun z hz=>ha z (bF _ hz)) (fun z hz=>hb z (bF _ hz)) h'.2;exact⟨by rw[h'.1,e1],e2⟩
def sT (p:Int):List UInt8:=Lib.itoa p++ [44]
def eL (l:List Int):List UInt8:=l.flatMap sT
def tW (l:List Int):List UInt8:=eL l++ [59]
def fC (row:List (List Int)):List UInt8:=row.flatMap tW
theorem jN (p:Int) (l:List Int):eL (p::l)=sT p++eL l:=rfl
theorem EF (l:List Int):∀ c∈eL l,c≠59:=by
 intro c hc;obtain⟨p,_,hp⟩:=List.mem_flatMap.1 hc;rcases List.mem_append.1 hp with h | h
 ·exact(pT p c h).2
 ·simp at h;subst h;decide
theorem zT:∀ {l m:List Int},eL l=eL m->l=m
 | [],[],_=>rfl
 | [],y::m,h=>by
  have:(eL (y::m)).length=0:=by rw[<-h];rfl
  rw[jN]at this;simp[sT]at this
 | x::l,[],h=>by
  have:(eL (x::l)).length=0:=by rw[h];rfl
  rw[jN]at this;simp[sT]at this
 | x::l,y::m,h=>by
  rw[jN,jN]at h;unfold sT at h;simp only[List.append_assoc,List.cons_append,List.nil_append]at h;obtain⟨e1,e2⟩:=Im (fun c hc=>(pT x c hc).1) (fun c hc=>(pT y c hc).1) h;rw[Qg e1,zT e2]
theorem kZ (l:List Int) (row:List (List Int)):fC (l::row)=tW l++fC row:=rfl
theorem rC:∀ {r s:List (List Int)},fC r=fC s->r=s
 | [],[],_=>rfl
 | [],y::s,h=>by
  have:(fC (y::s)).length=0:=by rw[<-h];rfl
  rw[kZ]at this;simp[tW]at this
 | x::r,[],h=>by
  have:(fC (x::r)).length=0:=by rw[h];rfl
  rw[kZ]at this;simp[tW]at this
 | x::r,y::s,h=>by
  rw[kZ,kZ]at h;unfold tW at h;simp only[List.append_assoc,List.cons_append,List.nil_append]at h;obtain⟨e1,e2⟩:=Im (EF x) (EF y) h;rw[zT e1,rC e2]
open Go.ChangeMaps (setBlock heap_setBlock_same)
open Go.WideMaps (keyOf_string_mk)
def jf (l:List UInt8):Value:=.string ⟨l.toArray⟩
theorem EG {a b:List UInt8} (h:jf a=jf b):a=b:=by
 unfold jf at h;injection h with h
 injection h with h
 simpa using h
def lS:Nat->List (List UInt8)->List MapEntry
 | _,[]=>[]
 | n,p::l=>⟨jf p,.int .i64 n,n⟩::lS (n+1) l
theorem EH:∀ (l:List (List UInt8)) (n:Nat),(lS n l).length=l.length
 | [],_=>rfl
 | _::l,n=>by simp[lS,EH l]
theorem nD:∀ (l:List (List UInt8)) (n i:Nat),(lS n l)[i]? =(l[i]?).map fun p=>⟨jf p,.int .i64 (n+i:Nat),n+i⟩
 | [],_,_=>by simp[lS]
 | p::l,n,0=>by simp[lS]
 | p::l,n,i+1=>by
  simp only[lS,List.getElem?_cons_succ,nD l];rw[show n+1+i=n+(i+1) by omega]
theorem tX:∀ (l:List (List UInt8)) (n:Nat) (q:List UInt8),lS n (l++ [q])=lS n l++ [⟨jf q,.int .i64 (n+l.length:Nat),n+l.length⟩]
 | [],n,q=>by simp[lS]
 | p::l,n,q=>by
  simp only[List.cons_append,lS,tX l,List.length_cons];rw[show n+1+l.length=n+(l.length+1) by omega]
def lT (w:World) (b:Nat) (l:List (List UInt8)):Prop:=w.heap[b]? =some (.map (lS 0 l).toArray l.length)
theorem lT.keeps {w w':World} {b:Nat} {l:List (List UInt8)} (h:lT w b l) {R:Nat->Prop} (hk:ae R w w') (hb:R b):lT w' b l:=(hk.keep b hb).trans h
theorem lT.lt {w:World} {b:Nat} {l:List (List UInt8)} (h:lT w b l):b<w.heap.size:=(Array.getElem?_eq_some_iff.1 h).1
theorem lT.below {w w':World} {b:Nat} {l:List (List UInt8)} (h:lT w b l) (hk:aa w w'):lT w' b l:=(hk.block b h.lt).trans h
def yY (r:List UInt8):Prop:=r.length<=maxLen
theorem Tryz.EI:Keyed Tryz.prog 9:=string_keyed Tryz.underlying9
theorem BL (r:List UInt8) (h:yY r):∃ l,keyOf Tryz.prog 9 (jf r)=some l:=⟨_,keyOf_string_mk Tryz.underlying9 (by show r.toArray.size<=maxLen;rw[List.size_toArray];exact h)⟩
theorem EJ {l:List (List UInt8)} (hl:∀ p∈l,yY p):∀ e∈lS 0 l,∃ k,keyOf Tryz.prog 9 e.key=some k:=fun e he=>by
 obtain⟨i,hi⟩:=List.mem_iff_getElem?.1 he;rw[nD]at hi;obtain⟨p,hp,rfl⟩:=Option.map_eq_some_iff.1 hi;exact BL p (hl p (aw hp))
theorem jO {α:Type} [DecidableEq α] {l:List α} (hn:l.Nodup) {i:Nat} {q:α} (h:l[i]? =some q):l.idxOf q=i:=by obtain⟨h1,h2⟩:=List.getElem?_eq_some_iff.1 h;subst h2;exact List.Nodup.idxOf_getElem hn i h1
def ixU (l:List (List UInt8)) (q:List UInt8):Nat:= @List.idxOf _ instBEqOfDecidableEq q l
theorem Ko {w:World} {b:Nat} {l:List (List UInt8)} (h:lT w b l) (hn:l.Nodup) (hl:∀ p∈l,yY p) (q:List UInt8) (hq:yY q): (q∉l/\(Instr.lookup 193 (.map (some b)) (jf q) true).run Tryz.prog w=.ok (.tuple #[.int .i64 0,.bool false]) w)\/ (q∈l/\(Instr.lookup 193 (.map (some b)) (jf q) true).run Tryz.prog w=.ok (.tuple #[.int .i64 (ixU l q),.bool true]) w):=by
 have K:=Tryz.EI;obtain⟨kl,hk⟩:=BL q hq;have hz:(zeroValue 3).run Tryz.prog w=.ok (.int .i64 0) w:=by kernel_rfl
 have hb:w.heap[b]? =some (.map (lS 0 l).toArray l.length):=h;rcases K.find w hk (lS 0 l) (EJ hl)with⟨f1,f2⟩ | ⟨j,e0,f1,f2,f3⟩
 ·refine .inl ⟨fun hm=>?_,?_⟩
  ·obtain⟨i,hi⟩:=List.mem_iff_getElem?.1 hm
   have:=nD l 0 i;rw[hi]at this;exact f2 _ (aw this) rfl
  ·simp[Instr.lookup,run_underlying Tryz.underlying193,MapKept.run_getObj_map hb,K.check w _ hk,f1,hz,Result.andThen]
 ·rw[nD]at f2
  obtain⟨p,hp,rfl⟩:=Option.map_eq_some_iff.1 f2;have e:p=q:=EG f3;subst e;refine .inr ⟨aw hp,?_⟩;rw[show ixU l p=j from jO hn hp];simp[Instr.lookup,run_underlying Tryz.underlying193,MapKept.run_getObj_map hb,K.check w _ hk,f1,Result.andThen]
theorem Qh {w:World} {b:Nat} {l:List (List UInt8)} (h:lT w b l) (hl:∀ p∈l,yY p) (q:List UInt8) (hqk:yY q) (hq:q∉l): ∃ w',(Instr.mapUpdate 193 (.map (some b)) (jf q) (.int .i64 l.length)).run Tryz.prog w=.ok () w'/\lT w' b (l++ [q])/\ae (· ≠b) w w'/\w'.heap.size=w.heap.size:=by
 have K:=Tryz.EI;obtain⟨kl,hk⟩:=BL q hqk;have hb:w.heap[b]? =some (.map (lS 0 l).toArray l.length):=h;rcases K.find w hk (lS 0 l) (EJ hl)with⟨f1,f2⟩ | ⟨j,e0,f1,f2,f3⟩
 ·refine⟨setBlock w b (.map (lS 0 (l++ [q])).toArray (l++ [q]).length),?_,heap_setBlock_same hb _,⟨rfl,rfl,rfl,by simp[setBlock],fun i hi=>by show(w.heap.setIfInBounds b _)[i]? =_;exact Array.getElem?_setIfInBounds_ne (Ne.symm hi)⟩,by simp[setBlock]⟩
  rw[tX];simp[Instr.mapUpdate,run_underlying Tryz.underlying193,MapKept.run_getObj_map hb,K.check w false hk,f1,MapKept.run_setObj_map _ hb,Result.andThen,setBlock]
 ·rw[nD]at f2
  obtain⟨p,hp,rfl⟩:=Option.map_eq_some_iff.1 f2;have e:p=q:=EG f3;subst e;exact absurd (aw hp) hq
theorem Ya {w:World} {b:Nat} {l:List (List UInt8)} (h:lT w b l) (ty:TypeId):(Builtin.len_ #[193] ty #[.map (some b)]).run Tryz.prog w=.ok (.int .i64 l.length) w:=by have hb:w.heap[b]? =some (.map (lS 0 l).toArray l.length):=h;simp[Builtin.len_,run_underlying Tryz.underlying193,MapKept.run_getObj_map hb,goInt,Result.andThen,EH]
theorem pE {w:World} {ops:Array Oper} {rest:List Oper} {o:Oper} {a:Act} {Q:Exit->Act->World->Prop} (hg:o.guard=none) (m:Operand) (hop:o.op=Op.call {callee:=Callee.builtin Builtin.len,args:= #[m],argTypes:= #[193]}) (b:Nat) (l:List (List UInt8)) (hm:a.eval m=.map (some b)) (h:lT w b l) (hK:wpList Tryz.prog ops Q rest (a.put o.dst (.int .i64 l.length)) w):wpList Tryz.prog ops Q (o::rest) a w:=by
 refine wpList_plain hg fun K' hK'=>?_
 unfold Oper.wp;simp[execOp,hop,resolve,invoke,builtin,hm,Ya h o.type,Result.andThen];exact hK' _ _ hK
end
section
open Go Go.RowKit Go.Shelf Go.Maps
def Io (r:List (List Int)):Value:=jf (fC r)
def lp (w:World) (b:Nat) (l:List (List (List Int))):Prop:=lT w b (l.map fC)
theorem lp.keeps {w w':World} {b:Nat} {l:List (List (List Int))} (h:lp w b l) {R:Nat->Prop} (hk:ae R w w') (hb:R b):lp w' b l:=lT.keeps h hk hb
theorem lp.lt {w:World} {b:Nat} {l:List (List (List Int))} (h:lp w b l):b<w.heap.size:=lT.lt h
theorem lp.below {w w':World} {b:Nat} {l:List (List (List Int))} (h:lp w b l) (hk:aa w w'):lp w' b l:=lT.below h hk
def tY (r:List (List Int)):Prop:=(fC r).length<=maxLen
def Yb (l:List (List (List Int))) (q:List (List Int)):Nat:= @List.idxOf _ instBEqOfDecidableEq q l
theorem EK:∀ {l:List (List (List Int))},l.Nodup->(l.map fC).Nodup
 | [],_=>List.nodup_nil
 | a::l,h=>by
  rw[List.nodup_cons]at h;rw[List.map_cons,List.nodup_cons];refine⟨fun hm=>?_,EK (l:=l) h.2⟩;obtain⟨b,hb,e⟩:=List.mem_map.1 hm;exact h.1 (rC e▸hb)
theorem Uv {w:World} {b:Nat} {l:List (List (List Int))} (h:lp w b l) (hn:l.Nodup) (hl:∀ p∈l,tY p) (q:List (List Int)) (hq:tY q): (q∉l/\(Instr.lookup 193 (.map (some b)) (Io q) true).run Tryz.prog w=.ok (.tuple #[.int .i64 0,.bool false]) w)\/ (q∈l/\(Instr.lookup 193 (.map (some b)) (Io q) true).run Tryz.prog w=.ok (.tuple #[.int .i64 (Yb l q),.bool true]) w):=by
 have hN:=EK (l:=l) hn;rcases Ko h hN (fun p hp=>by obtain⟨x,hx,rfl⟩:=List.mem_map.1 hp;exact hl x hx) (fC q) hq with⟨h1,h2⟩ | ⟨h1,h2⟩
 ·exact .inl ⟨fun hm=>h1 (List.mem_map.2 ⟨q,hm,rfl⟩),h2⟩
 ·obtain⟨x,hx,e⟩:=List.mem_map.1 h1
  obtain rfl:=rC e;obtain⟨i,hi⟩:=List.mem_iff_getElem?.1 hx;have e1:Yb l x=i:=jO hn hi;have e2:ixU (l.map fC) (fC x)=i:=jO hN (by rw[aO,hi];rfl);rw[e2]at h2;rw[e1];exact .inr ⟨hx,h2⟩
theorem Yc {w:World} {b:Nat} {l:List (List (List Int))} (h:lp w b l) (hl:∀ p∈l,tY p) (q:List (List Int)) (hqk:tY q) (hq:q∉l): ∃ w',(Instr.mapUpdate 193 (.map (some b)) (Io q) (.int .i64 l.length)).run Tryz.prog w=.ok () w'/\lp w' b (l++ [q])/\ae (· ≠b) w w'/\w'.heap.size=w.heap.size:=by obtain⟨w',h1,h2,h3,h4⟩:=Qh h (fun p hp=>by obtain⟨x,hx,rfl⟩:=List.mem_map.1 hp;exact hl x hx) (fC q) hqk (fun hm=>by obtain⟨x,hx,e⟩:=List.mem_map.1 hm;exact hq (rC e▸hx));rw[aQ]at h1;refine⟨w',h1,?_,h3,h4⟩;unfold lp;rw[List.map_append];exact h2
end
end Go.Proofs.YtjgccapbphadjaaGreatDoor
namespace Go.Proofs
open Go.Shelf
def Tryz.zU:Go.Shelf.Ren:=⟨fun | 169=>240 | n=>n,fun | 70=>312 | 9=>9 | 0=>0 | 72=>314 | 37=>44 | 127=>327 | 3=>3 | 5=>5 | n=>n,fun | n=>n⟩
theorem Tryz.abF:Go.Proofs.Lays.n169 Tryz.prog Tryz.zU:= {
 mixed:=by kernel_rfl
 f169:=Tryz.func240.trans (congrArg some (by kernel_rfl))
 t0:=Tryz.underlying0
 a0:=Tryz.isAgg0
 z0:=Tryz.sizeOf0
 v0:=Tryz.zeroValue0
 t3:=Tryz.underlying3
 a3:=Tryz.isAgg3
 z3:=Tryz.sizeOf3
 v3:=Tryz.zeroValue3
 t9:=Tryz.underlying9
 a9:=Tryz.isAgg9
 z9:=Tryz.sizeOf9
 v9:=Tryz.zeroValue9
 t37:=Tryz.underlying44
 a37:=Tryz.isAgg44
 z37:=Tryz.sizeOf44
 v37:=Tryz.zeroValue44
 t70:=Tryz.underlying312
 a70:=Tryz.isAgg312
 z70:=Tryz.sizeOf312
 v70:=Tryz.zeroValue312
 t72:=Tryz.underlying314
 a72:=Tryz.isAgg314
 z72:=Tryz.sizeOf314
 v72:=Tryz.zeroValue314
 t127:=Tryz.underlying327
 a127:=Tryz.isAgg327
 z127:=Tryz.sizeOf327
 v127:=Tryz.zeroValue327}
theorem Tryz.abG:Builder.Extra Tryz.prog Tryz.zU:= {
 sizeBuilder:=by kernel_rfl
 liesBuilder:=by kernel_rfl
 t5:=Tryz.underlying5
 a5:=Tryz.isAgg5
 z5:=Tryz.sizeOf5
 v5:=Tryz.zeroValue5
 infoByte:=by kernel_rfl
 cellsByte:=by kernel_rfl
 sizeByte:=by kernel_rfl
 neB5:=by decide}
def Tryz.Mm:Go.Shelf.Ren:=⟨fun | 171=>238 | 243=>249 | 246=>262 | 283=>267 | 284=>268 | 285=>269 | 286=>270 | 129=>135 | 317=>272 | 318=>273 | 319=>274 | 320=>275 | 337=>276 | 338=>277 | n=>n,fun | 3=>3 | 9=>9 | 2=>2 | 4=>4 | 171=>339 | 0=>0 | 53=>54 | 37=>44 | 5=>5 | 173=>341 | 212=>346 | 51=>221 | 20=>20 | 213=>347 | 46=>122 | 232=>348 | 233=>349 | n=>n,fun | 17=>0 | 18=>1 | 19=>2 | n=>n⟩
theorem Tryz.abH:Go.Proofs.LaysM.n171 Tryz.prog Tryz.Mm:= {
 mixed:=by kernel_rfl
 f129:=Tryz.func135.trans (congrArg some (by kernel_rfl))
 f171:=Tryz.func238.trans (congrArg some (by kernel_rfl))
 f243:=Tryz.func249.trans (congrArg some (by kernel_rfl))
 f246:=Tryz.func262.trans (congrArg some (by kernel_rfl))
 f283:=Tryz.func267.trans (congrArg some (by kernel_rfl))
 f284:=Tryz.func268.trans (congrArg some (by kernel_rfl))
 f285:=Tryz.func269.trans (congrArg some (by kernel_rfl))
 f286:=Tryz.func270.trans (congrArg some (by kernel_rfl))
 f317:=Tryz.func272.trans (congrArg some (by kernel_rfl))
 f318:=Tryz.func273.trans (congrArg some (by kernel_rfl))
 f319:=Tryz.func274.trans (congrArg some (by kernel_rfl))
 f320:=Tryz.func275.trans (congrArg some (by kernel_rfl))
 f337:=Tryz.func276.trans (congrArg some (by kernel_rfl))
 f338:=Tryz.func277.trans (congrArg some (by kernel_rfl))
 t0:=Tryz.underlying0
 a0:=Tryz.isAgg0
 z0:=Tryz.sizeOf0
 v0:=Tryz.zeroValue0
 t2:=Tryz.underlying2
 a2:=Tryz.isAgg2
 z2:=Tryz.sizeOf2
 v2:=Tryz.zeroValue2
 t3:=Tryz.underlying3
 a3:=Tryz.isAgg3
 z3:=Tryz.sizeOf3
 v3:=Tryz.zeroValue3
 t4:=Tryz.underlying4
 a4:=Tryz.isAgg4
 z4:=Tryz.sizeOf4
 v4:=Tryz.zeroValue4
 t5:=Tryz.underlying5
 a5:=Tryz.isAgg5
 z5:=Tryz.sizeOf5
 v5:=Tryz.zeroValue5
 t9:=Tryz.underlying9
 a9:=Tryz.isAgg9
 z9:=Tryz.sizeOf9
 v9:=Tryz.zeroValue9
 t20:=Tryz.underlying20
 a20:=Tryz.isAgg20
 z20:=Tryz.sizeOf20
 v20:=Tryz.zeroValue20
 t37:=Tryz.underlying44
 a37:=Tryz.isAgg44
 z37:=Tryz.sizeOf44
 v37:=Tryz.zeroValue44
 t46:=Tryz.underlying122
 a46:=Tryz.isAgg122
 z46:=Tryz.sizeOf122
 v46:=Tryz.zeroValue122
 t51:=Tryz.underlying221
 a51:=Tryz.isAgg221
 z51:=Tryz.sizeOf221
 v51:=Tryz.zeroValue221
 t53:=Tryz.underlying54
 a53:=Tryz.isAgg54
 z53:=Tryz.sizeOf54
 v53:=Tryz.zeroValue54
 t171:=Tryz.underlying339
 a171:=Tryz.isAgg339
 z171:=Tryz.sizeOf339
 v171:=Tryz.zeroValue339
 t173:=Tryz.underlying341
 a173:=Tryz.isAgg341
 z173:=Tryz.sizeOf341
 v173:=Tryz.zeroValue341
 t212:=Tryz.underlying346
 a212:=Tryz.isAgg346
 z212:=Tryz.sizeOf346
 v212:=Tryz.zeroValue346
 t213:=Tryz.underlying347
 a213:=Tryz.isAgg347
 z213:=Tryz.sizeOf347
 t232:=Tryz.underlying348
 a232:=Tryz.isAgg348
 z232:=Tryz.sizeOf348
 v232:=Tryz.zeroValue348
 t233:=Tryz.underlying349
 a233:=Tryz.isAgg349
 z233:=Tryz.sizeOf349
 v233:=Tryz.zeroValue349
 g17:=by kernel_rfl
 g18:=by kernel_rfl
 g19:=by kernel_rfl
 i0:=by kernel_rfl
 i2:=by kernel_rfl
 i3:=by kernel_rfl
 i4:=by kernel_rfl
 i5:=by kernel_rfl
 i9:=by kernel_rfl
 i20:=by kernel_rfl
 i37:=by kernel_rfl
 i46:=by kernel_rfl
 i51:=by kernel_rfl
 i53:=by kernel_rfl
 i171:=by kernel_rfl
 i173:=by kernel_rfl
 i212:=by kernel_rfl
 i232:=by kernel_rfl
 i233:=by kernel_rfl
 m17:=by kernel_rfl
 m18:=by kernel_rfl
 m19:=by kernel_rfl}
def Tryz.zV:Go.Shelf.Ren:=⟨fun | 166=>237 | 240=>248 | 276=>261 | n=>n,fun | 0=>0 | 3=>3 | 4=>4 | 5=>5 | 9=>9 | 20=>20 | 37=>44 | 70=>312 | 72=>314 | 75=>316 | 80=>320 | 164=>334 | n=>n,fun | n=>n⟩
theorem Tryz.abI:Go.Proofs.Lays.n166 Tryz.prog Tryz.zV:= {
 mixed:=by kernel_rfl
 f166:=Tryz.func237.trans (congrArg some (by kernel_rfl))
 f240:=Tryz.func248.trans (congrArg some (by kernel_rfl))
 f276:=Tryz.func261.trans (congrArg some (by kernel_rfl))
 t0:=Tryz.underlying0
 a0:=Tryz.isAgg0
 z0:=Tryz.sizeOf0
 v0:=Tryz.zeroValue0
 t3:=Tryz.underlying3
 a3:=Tryz.isAgg3
 z3:=Tryz.sizeOf3
 v3:=Tryz.zeroValue3
 t4:=Tryz.underlying4
 a4:=Tryz.isAgg4
 z4:=Tryz.sizeOf4
 v4:=Tryz.zeroValue4
 t9:=Tryz.underlying9
 a9:=Tryz.isAgg9
 z9:=Tryz.sizeOf9
 v9:=Tryz.zeroValue9
 t20:=Tryz.underlying20
 a20:=Tryz.isAgg20
 z20:=Tryz.sizeOf20
 v20:=Tryz.zeroValue20
 t37:=Tryz.underlying44
 a37:=Tryz.isAgg44
 z37:=Tryz.sizeOf44
 v37:=Tryz.zeroValue44
 t70:=Tryz.underlying312
 a70:=Tryz.isAgg312
 z70:=Tryz.sizeOf312
 v70:=Tryz.zeroValue312
 t72:=Tryz.underlying314
 a72:=Tryz.isAgg314
 z72:=Tryz.sizeOf314
 v72:=Tryz.zeroValue314
 t75:=Tryz.underlying316
 a75:=Tryz.isAgg316
 z75:=Tryz.sizeOf316
 v75:=Tryz.zeroValue316
 t164:=Tryz.underlying334
 a164:=Tryz.isAgg334
 z164:=Tryz.sizeOf334
 v164:=Tryz.zeroValue334}
theorem Tryz.abJ:Builder.Extra Tryz.prog Tryz.zV:= {
 sizeBuilder:=by kernel_rfl
 liesBuilder:=by kernel_rfl
 t5:=Tryz.underlying5
 a5:=Tryz.isAgg5
 z5:=Tryz.sizeOf5
 v5:=Tryz.zeroValue5
 infoByte:=by kernel_rfl
 cellsByte:=by kernel_rfl
 sizeByte:=by kernel_rfl
 neB5:=by decide}
def Tryz.zW:Go.Shelf.Ren:=⟨fun | 167=>239 | 240=>248 | 276=>261 | n=>n,fun | 0=>0 | 3=>3 | 4=>4 | 5=>5 | 9=>9 | 20=>20 | 37=>44 | 70=>312 | 72=>314 | 75=>316 | 80=>320 | 164=>334 | n=>n,fun | n=>n⟩
theorem Tryz.abK:Go.Proofs.Lays.n167 Tryz.prog Tryz.zW:= {
 mixed:=by kernel_rfl
 f167:=Tryz.func239.trans (congrArg some (by kernel_rfl))
 f240:=Tryz.func248.trans (congrArg some (by kernel_rfl))
 f276:=Tryz.func261.trans (congrArg some (by kernel_rfl))
 t0:=Tryz.underlying0
 a0:=Tryz.isAgg0
 z0:=Tryz.sizeOf0
 v0:=Tryz.zeroValue0
 t4:=Tryz.underlying4
 a4:=Tryz.isAgg4
 z4:=Tryz.sizeOf4
 v4:=Tryz.zeroValue4
 t5:=Tryz.underlying5
 a5:=Tryz.isAgg5
 z5:=Tryz.sizeOf5
 v5:=Tryz.zeroValue5
 t9:=Tryz.underlying9
 a9:=Tryz.isAgg9
 z9:=Tryz.sizeOf9
 v9:=Tryz.zeroValue9
 t20:=Tryz.underlying20
 a20:=Tryz.isAgg20
 z20:=Tryz.sizeOf20
 v20:=Tryz.zeroValue20
 t37:=Tryz.underlying44
 a37:=Tryz.isAgg44
 z37:=Tryz.sizeOf44
 v37:=Tryz.zeroValue44
 t70:=Tryz.underlying312
 a70:=Tryz.isAgg312
 z70:=Tryz.sizeOf312
 v70:=Tryz.zeroValue312
 t72:=Tryz.underlying314
 a72:=Tryz.isAgg314
 z72:=Tryz.sizeOf314
 v72:=Tryz.zeroValue314
 t75:=Tryz.underlying316
 a75:=Tryz.isAgg316
 z75:=Tryz.sizeOf316
 v75:=Tryz.zeroValue316
 t164:=Tryz.underlying334
 a164:=Tryz.isAgg334
 z164:=Tryz.sizeOf334
 v164:=Tryz.zeroValue334}
theorem Tryz.abL:Builder.Extra Tryz.prog Tryz.zW:= {
 sizeBuilder:=by kernel_rfl
 liesBuilder:=by kernel_rfl
 t5:=Tryz.underlying5
 a5:=Tryz.isAgg5
 z5:=Tryz.sizeOf5
 v5:=Tryz.zeroValue5
 infoByte:=by kernel_rfl
 cellsByte:=by kernel_rfl
 sizeByte:=by kernel_rfl
 neB5:=by decide}
end Go.Proofs
namespace Go.Proofs.YtjgccapbphadjaaGreatDoor
open Go Go.RowKit Go.Shelf Go.Maps
def nE (W:World):Prop:=Lib.TabIs Tryz.prog W "internal/strconv.uint64pow10" .u64 Lib.pow10Tab
theorem Mn {P:Program} {w w':World} {name:String} (hk:∀ b,b<w.heap.size->w'.heap[b]? =w.heap[b]?) {x:Array Value} (h:w.var? P name=some x):w'.var? P name=some x:=by
 unfold World.var? at*;cases hg:P.globalNamed name with
 | none=>rw[hg]at h;cases h
 | some g=>
  rw[hg]at h;simp only[Option.bind_some]at h ⊢;rcases Nat.lt_or_ge g w.heap.size with h1 | h1
  ·rw[hk g h1];exact h
  ·rw[Array.getElem?_eq_none h1]at h;cases h
theorem nE.below {w w':World} (h:nE w) (hk:aa w w'):nE w':=Mn (fun b hb=>hk.block b hb) h
theorem EL (x:Int) (h0: -9223372036854775808<=x) (h1:x<=9223372036854775807):(sT x).length<=22:=by unfold sT;rw[aG];have:=Lib.itoa_length_le x h0 h1;simp;omega
def RowK (row:List (List Int)):Prop:=row.length<=64/\∀ l∈row,l.length<=401/\∀ x∈l, -1<=x/\x<=400
theorem Mo {l:List Int} (h:∀ x∈l, -1<=x/\x<=400):(eL l).length<=22*l.length:=by
 induction l with
 | nil=>simp[eL]
 | cons p l ih=>
  rw[jN,aG,List.length_cons];have h1:=EL p (by have:=(h p (aW ..)).1;omega) (by have:=(h p (aW ..)).2;omega);have h2:=ih fun x hx=>h x (bF _ hx)
  omega
theorem Qi {row:List (List Int)} {N:Nat} (h:∀ l∈row,l.length<=N/\∀ x∈l, -1<=x/\x<=400):(fC row).length<=(22*N+1)*row.length:=by
 induction row with
 | nil=>simp[fC]
 | cons l row ih=>
  rw[kZ,aG,List.length_cons];have h1:=h l (aW ..);have h2:=Mo h1.2;have h3:=ih fun x hx=>h x (bF _ hx)
  have h4:(tW l).length=(eL l).length+1:=by unfold tW;simp
  have h5:22*l.length<=22*N:=Nat.mul_le_mul_left _ h1.1;rw[Nat.mul_add,Nat.mul_one];omega
theorem RowK.len {row:List (List Int)} (h:RowK row):(fC row).length<=564672:=by have h1:=Qi h.2;have h2:(22*401+1)*row.length<=(22*401+1)*64:=Nat.mul_le_mul_left _ h.1;omega
theorem RowK.in {row:List (List Int)} (h:RowK row):tY row:=by have:=h.len;unfold tY maxLen;omega
theorem rD (row:List (List Int)) (k:Nat):(fC (row.take k)).length<=(fC row).length:=by
 conv=>rhs;rw[<-List.take_append_drop k row]
 unfold fC;rw[List.flatMap_append,aG];omega
theorem Mp (row:List (List Int)) (l:List Int):fC (row++ [l])=fC row++eL l++ [59]:=by unfold fC;rw[List.flatMap_append];simp[tW]
theorem Ip (l:List Int) (p:Int):eL (l++ [p])=eL l++sT p:=by unfold eL;rw[List.flatMap_append];simp
theorem Iq (n:Nat) (w:World) (k:Nat) (os:Array Obj) (hn:n<=w.heap.size):Below n w (Sort.grow (w.drewN k) os) where
 os:=rfl
 tape:=rfl
 output:=rfl
 size:=by unfold Sort.grow;simp[World.drewN]
 block:=fun b hb=>by unfold Sort.grow;show((w.drewN k).heap++os)[b]? =_;rw[Array.getElem?_append_left (by show b<w.heap.size;omega)];rfl
theorem uQ {T e:TypeId} {B b:Nat} {bs:List Value} {w w':World} (h:Lib.IsBuilderF T e B b bs w) (hk:aa w w'):Lib.IsBuilderF T e B b bs w':=by
 have key:∀ p,Lib.BuilderAtF T e B b p bs w->Lib.BuilderAtF T e B b p bs w':=fun p h=>by
  have hlt:=h.lt;obtain⟨h1,v,h2,⟨h3,h4⟩,h5⟩:=h;refine⟨h1,v,(hk.block b hlt).trans h2,⟨h3,?_⟩,h5⟩;rcases h4 with h4 | ⟨g,cap,cur,fz,e1,e2,e3,rest⟩
  ·exact .inl h4
  ·exact .inr ⟨g,cap,cur,fz,e1,e2,(hk.block g (Array.getElem?_eq_some_iff.1 e3).1).trans e3,rest⟩
 exact h.imp (key _) (key _)
theorem yZ (l m:List UInt8):Lib.byteCells l++Lib.strCells ⟨m.toArray⟩=Lib.byteCells (l++m):=by unfold Lib.byteCells Lib.strCells;simp
theorem byteCells_one (l:List UInt8) (c:UInt8):Lib.byteCells l++ [.int .u8 c.toNat]=Lib.byteCells (l++ [c]):=by unfold Lib.byteCells;simp
theorem Uw (v:Value) (row:List (List Int)) (rk:RowK row) (w:World) (h:gT w v row) (Yd:∀ W,aa w W->nE W): ah 212 #[v] w fun e w'=>e=.returned (Io row)/\aa w w':=by
 obtain⟨a,c,rfl⟩:=h.form;obtain⟨n,hn⟩:=ag row.length;obtain⟨R,hR⟩:=ag (Io row);rw[<-hn]at h ⊢;rw[<-hR];have sU:n<=64:=by rw[hn];exact rk.1
 have KL:=hid rk.len;have H:=hid h;have HN:=hid hn;have HR:=hid hR;have HT:=hid Yd;have RK:=hid rk.2;have CI:Hid (∀ (x:Int) (W:World), -1<=x->x<=400->aa w W->ah 238 #[.int .i64 x] W fun e w'=>e=.returned (.string ⟨(Lib.itoa x).toArray⟩)/\aa W w'):=hid fun x W h0 h1 hW=>(Any.strconv_Itoa Tryz.abH x (by omega) (by omega) W (Yd W hW)).mono fun e w' ⟨he,k,os,hw⟩=>⟨he,by rw[hw];exact Iq _ _ _ _ (aD _)⟩
 have CW:Hid (∀ (B b:Nat) (bs:List Value) (s:ByteArray) (W:World),Lib.IsBuilderF 314 5 B b bs W->bs.length+s.size<=140737488355328->B<=W.heap.size->ah 237 #[.pointer (some ⟨b,0,none⟩),.string s] W fun e w'=>e=.returned (.tuple #[.int .i64 s.size,.nilIface])/\(Lib.BuilderAtF 314 5 B b (.pointer (some ⟨b,0,none⟩)) (bs++Lib.strCells s) w'/\Below B W w')):=hid fun B b bs s W h1 h2 h3=>(Any.Builder_WriteString_k Tryz.abI Tryz.abJ B b bs s W h1 h2 h3).mono fun e w' ⟨he,h4,h5,_⟩=>⟨he,h4,h5⟩
 have CB:Hid (∀ (B b:Nat) (bs:List Value) (x:Int) (W:World),Lib.IsBuilderF 314 5 B b bs W->bs.length+1<=140737488355328->B<=W.heap.size->ah 239 #[.pointer (some ⟨b,0,none⟩),.int .u8 x] W fun e w'=>e=.returned .nilIface/\(Lib.BuilderAtF 314 5 B b (.pointer (some ⟨b,0,none⟩)) (bs++ [.int .u8 x]) w'/\Below B W w')):=hid fun B b bs x W h1 h2 h3=>(Any.Builder_WriteByte_k Tryz.abK Tryz.abL B b bs x W h1 h2 h3).mono fun e w' ⟨he,h4,h5,_⟩=>⟨he,h4,h5⟩
 have CS:Hid (∀ (B b:Nat) (l:List UInt8) (W:World),Lib.IsBuilderF 314 5 B b (Lib.byteCells l) W->B<=W.heap.size->ah 240 #[.pointer (some ⟨b,0,none⟩)] W fun e w'=>e=.returned (.string ⟨l.toArray⟩)/\Below B W w'):=hid fun B b l W h1 h3=>(Any.Builder_String_any_k Tryz.abF Tryz.abG B b l W h1 h3).mono fun e w' ⟨he,_,h5,_⟩=>⟨he,h5⟩
 clear h hn hR Yd rk;go_enter Tryz.func212,Tryz.ntmps212;go_wp2;go_loopw [10] (fun iv wr=>∃ k:Nat,k<=n/\iv=.int .i64 k/\Lib.IsBuilderF 314 5 w.heap.size w.heap.size (Lib.byteCells (fC (row.take k))) wr/\aa w wr) (fun iv _=>n-(intOf iv).toNat);case atStart=>
  exact⟨0,by omega,rfl,Lib.IsBuilderF.of (Lib.fresh_isBuilder 314 5 w),((Ext.refl w).alloc _).below⟩
 case round=>
  obtain⟨k,hk,rfl,hb,hx⟩:=hrel;have HB:=hid hb;have HX:=hid hx;have hle:=rD row k;have HLE:=hid hle;clear hb hx hle;obtain⟨wo,rfl⟩:=ag (wr:World);by_cases hlt:k<n
  ·have eG:(k:Int)<n:=by omega
   obtain⟨l,hl⟩:∃ l,row[k]? =some l:=⟨_,az (by have:=HN.out;omega)⟩;obtain⟨b,off,a',c',rfl,hbl,cl,lQ⟩:=H.out.elem hl;have ED:wo.cell? ⟨b,off+k,none⟩=some (.slice a' l.length c'):=((ae.ak HX.out fun _ h=>h:ae (· <w.heap.size) w wo).cell (p:=⟨b,off+k,none⟩) hbl).trans cl;have Ez:=hid lQ;have RL:=hid (RK.out l (aw hl));have pO:Hid (fC (row.take (k+1))=fC (row.take k)++eL l++ [59]):=hid (by rw[List.take_add_one,hl];exact Mp _ _);have LEN:Hid ((fC (row.take (k+1))).length<=564672):=hid (Nat.le_trans (rD row (k+1)) KL.out);obtain⟨m,hm⟩:=ag l.length;have aiW:m<=401:=by rw[hm];exact RL.out.1
   have HM:=hid hm;rw[<-hm]at ED Ez;clear lQ hl hm cl;go_wp2;clear ED;go_loopw [16] (fun iv wi=>∃ j:Nat,j<=m/\iv=.int .i64 j/\Lib.IsBuilderF 314 5 w.heap.size w.heap.size (Lib.byteCells (fC (row.take k)++eL (l.take j))) wi/\aa w wi) (fun iv _=>m-(intOf iv).toNat);case atStart=>
    exact⟨0,by omega,rfl,by rw[List.take_zero];show Lib.IsBuilderF _ _ _ _ (Lib.byteCells (fC (row.take k)++ [])) _;rw[List.append_nil];exact HB.out,HX.out⟩
   case round=>
    obtain⟨j,hj,rfl,hb,hx⟩:=hrel;have iV:=hid hb;have fK:=hid hx;clear hb hx;have uK:(eL (l.take j)).length<=(eL l).length:=by
     conv=>rhs;rw[<-List.take_append_drop j l]
     unfold eL;rw[List.flatMap_append,aG];omega
    have Ye:Hid ((fC (row.take k)++eL (l.take j)).length<=564672):=hid (by have h5:=LEN.out;rw[pO.out,aG,aG]at h5;rw[aG];omega);clear uK;by_cases kR:j<m
    ·have ki:(j:Int)<m:=by omega
     obtain⟨x,zI⟩:∃ x,l[j]? =some x:=⟨_,az (by have:=HM.out;omega)⟩;obtain⟨g2,o2,rfl,_,q2⟩:=(Ez.out.below fK.out).elem zI;replace q2:wr.cell? ⟨g2,o2+j,none⟩=some (.int .i64 x):=q2;have Ut:=RL.out.2 x (aw zI);have HTJ:Hid (fC (row.take k)++eL (l.take (j+1))=fC (row.take k)++eL (l.take j)++sT x):=hid (by rw[List.take_add_one,zI];show fC (row.take k)++eL (l.take j++ [x])=_;rw[Ip,List.append_assoc]);clear zI;go_wp2_with fail
     clear q2;refine(CI.out x wr Ut.1 Ut.2 fK.out).mono ?_;rintro e w1 ⟨rfl,hx⟩;have HB3:=hid (uQ iV.out hx);have od:=hid (fK.out.trans (hx.mono fK.out.size));clear hx;have hlen:=Lib.itoa_length_le x (by have:=Ut.1;omega) (by have:=Ut.2;omega);have zu:(Lib.itoa x).length+1<=9223372036854775807:=by omega
     have WY:∀ W,(Op.stringOp .add ⟨(Lib.itoa x).toArray⟩ ⟨#[44]⟩).run Tryz.prog W=.ok (.string ⟨(sT x).toArray⟩) W:=fun W=>by
      rw[run_string_add_lists (P:=Tryz.prog) W (Lib.itoa x) [44] (by omega) (by decide)];rfl
     have hnk:(sT x).length<=22:=EL x (by have:=Ut.1;omega) (by have:=Ut.2;omega);go_wp2_with fail
     clear WY;refine(CW.out _ _ _ _ _ HB3.out (by rw[Lib.byteCells_length];have h6:=Ye.out;have:(⟨(sT x).toArray⟩:ByteArray).size=(sT x).length:=(by simp[ByteArray.size]);omega) od.out.size).mono ?_;rintro e w2 ⟨rfl,hb,hx⟩;rw[yZ, <-HTJ.out]at hb;have XY:=hid hb;have D9:=hid (od.out.trans hx);clear hb hx;go_wp2;exact⟨⟨j+1,by omega,by go_num,.inr XY.out,D9.out⟩,by simp[intOf];omega⟩
    ·obtain rfl:j=m:=by omega
     have ki:¬ ((j:Int)<j):=by omega
     have fD:l.take j=l:=by rw[HM.out,List.take_length]
     rw[fD]at iV Ye;go_wp2_with fail
     refine(CB.out _ _ _ _ _ iV.out (by rw[Lib.byteCells_length];have h6:=Ye.out;omega) fK.out.size).mono ?_;rintro e w2 ⟨rfl,hb,hx⟩;have hb2:Lib.BuilderAtF 314 5 w.heap.size w.heap.size (.pointer (some ⟨w.heap.size,0,none⟩)) (Lib.byteCells (fC (row.take (k+1)))) w2:=by rw[pO.out, <-byteCells_one];exact hb
     have XY:=hid hb2;have D9:=hid (fK.out.trans hx);clear hb hb2 hx;go_wp2;exact⟨⟨k+1,by omega,by go_num,.inr XY.out,D9.out⟩,by simp[intOf];omega⟩
  ·obtain rfl:k=n:=by omega
   have ki:¬ ((k:Int)<k):=by omega
   have fD:row.take k=row:=by rw[HN.out,List.take_length]
   rw[fD]at HB;go_wp2_with fail
   refine(CS.out _ _ _ _ HB.out HX.out.size).mono ?_;rintro e w2 ⟨rfl,hx⟩;have D9:=hid (HX.out.trans hx);clear hx;go_wp2;go_ret;exact⟨by rw[HR.out];rfl,D9.out⟩
theorem kX.Qj {w:World} {v0 v1 v2 v3 e:Value} {a:NF} (h:kX w (.agg #[v0,v1,v2,v3,e]) a):∃ a0 n0 c0 a1 n1 c1 a2 n2 c2 a3 n3 c3,v0=.slice a0 n0 c0/\v1=.slice a1 n1 c1/\v2=.slice a2 n2 c2/\v3=.slice a3 n3 c3:=by obtain⟨u0,u1,u2,u3,e,h0,h1,h2,h3⟩:=h;obtain⟨a0,c0,rfl⟩:=h0.1.form;obtain⟨a1,c1,rfl⟩:=h1.form;obtain⟨a2,c2,rfl⟩:=h2.form;obtain⟨a3,c3,rfl⟩:=h3.form;cases e;exact⟨_,_,_,_,_,_,_,_,_,_,_,_,rfl,rfl,rfl,rfl⟩
def iW (w:World) (v:Value) (ps:List PT):Prop:=(v=.slice none 0 0/\ps=[])\/∃ b off cap,v=.slice (some ⟨b,off,none⟩) ps.length cap/\b<w.heap.size/\∀ (i:Nat) (x:PT),ps[i]? =some x->
 ∃ v0 v1 v2 v3,kX w (.agg #[v0,v1,v2,v3,.bool x.nf.emp]) x.nf/\w.cell? ⟨b,off+i*7,none⟩=some v0/\w.cell? ⟨b,off+i*7+1,none⟩=some v1/\w.cell? ⟨b,off+i*7+2,none⟩=some v2/\w.cell? ⟨b,off+i*7+3,none⟩=some v3/\
  w.cell? ⟨b,off+i*7+4,none⟩=some (.bool x.nf.emp)/\w.cell? ⟨b,off+i*7+5,none⟩=some (.bool x.zP)/\w.cell? ⟨b,off+i*7+6,none⟩=some (.int .i64 x.mark)
theorem iW.below {w w':World} {v:Value} {ps:List PT} (h:iW w v ps) (hk:aa w w'):iW w' v ps:=by
 rcases h with h | ⟨b,off,cap,hv,hb,h⟩
 ·exact .inl h
 ·have hc:∀ j,w'.cell? ⟨b,j,none⟩=w.cell? ⟨b,j,none⟩:=fun j=>(ae.ak hk fun _ h=>h:ae (· <w.heap.size) w w').cell (p:=⟨b,j,none⟩) hb
  refine .inr ⟨b,off,cap,hv,aA hb hk.size,fun i x hx=>?_⟩;obtain⟨v0,v1,v2,v3,h0,h1,h2,h3,h4,h5,h6,h7⟩:=h i x hx;exact⟨v0,v1,v2,v3,h0.below hk,(hc _).trans h1,(hc _).trans h2,(hc _).trans h3,(hc _).trans h4,(hc _).trans h5,(hc _).trans h6,(hc _).trans h7⟩
theorem iW.form {w:World} {v:Value} {ps:List PT} (h:iW w v ps):∃ a cap,v=.slice a ps.length cap:=by
 rcases h with⟨rfl,rfl⟩ | ⟨b,off,cap,rfl,_⟩
 ·exact⟨_,_,rfl⟩
 ·exact⟨_,_,rfl⟩
theorem iW.elem {w:World} {a:Option Addr} {n cap:Nat} {ps:List PT} (h:iW w (.slice a n cap) ps) {i:Nat} {x:PT} (hi:ps[i]? =some x): ∃ b off v0 v1 v2 v3,a=some ⟨b,off,none⟩/\b<w.heap.size/\kX w (.agg #[v0,v1,v2,v3,.bool x.nf.emp]) x.nf/\w.cell? ⟨b,off+i*7,none⟩=some v0/\w.cell? ⟨b,off+i*7+1,none⟩=some v1/\w.cell? ⟨b,off+i*7+2,none⟩=some v2/\w.cell? ⟨b,off+i*7+3,none⟩=some v3/\ w.cell? ⟨b,off+i*7+4,none⟩=some (.bool x.nf.emp)/\w.cell? ⟨b,off+i*7+5,none⟩=some (.bool x.zP)/\w.cell? ⟨b,off+i*7+6,none⟩=some (.int .i64 x.mark):=by
 rcases h with⟨_,rfl⟩ | ⟨b,off,c,hv,hb,h⟩
 ·simp at hi
 ·cases hv
  obtain⟨v0,v1,v2,v3,h0,rest⟩:=h i x hi;exact⟨b,off,v0,v1,v2,v3,rfl,hb,h0,rest⟩
def Ux (ps:List PT):Prop:=ps.length<=64/\∀ x∈ps,Nt x.nf/\PZ x.nf/\0<=x.mark/\x.mark<=255
theorem ar.seven {w:World} {b:Nat} {x y z u t p q:Value} {ty:TypeId} (h:ar w b #[x,y,z,u,t,p,q] ty):w.cell? ⟨b,0,none⟩=some x/\w.cell? ⟨b,1,none⟩=some y/\w.cell? ⟨b,2,none⟩=some z/\w.cell? ⟨b,3,none⟩=some u/\w.cell? ⟨b,4,none⟩=some t/\w.cell? ⟨b,5,none⟩=some p/\w.cell? ⟨b,6,none⟩=some q:=
 ⟨h.cell 0,h.cell 1,h.cell 2,h.cell 3,h.cell 4,h.cell 5,h.cell 6⟩
def aZ.abM (base:Nat) (e:TypeId) (size n:Nat) (xs:List Value) (x:Value):aZ (Move false (fun _=>False)) where
 P:=fun v=>∃ a c,v=.tuple #[.slice a n c,x]
 H:=fun v W=>∀ u,v=.tuple #[u,x]->W.ownsRow base e size u n xs
 nW:=.tuple #[.slice none n 0,x]
 pw:=⟨none,0,rfl⟩
 st:=fun _ _ _ hm _ h u hu=>aj (h u hu) hm.below
theorem Mq {base:Nat} {e:TypeId} {size n:Nat} {xs:List Value} {x u:Value} {W:World} (h:W.ownsRow base e size u n xs):∃ a c,(Value.tuple #[u,x])=.tuple #[.slice a n c,x]:=by obtain⟨a,c,rfl⟩:=ownsRow_form h;exact⟨a,c,rfl⟩
theorem Mr {base:Nat} {e:TypeId} {size n:Nat} {xs:List Value} {x u:Value} {W:World} (h:W.ownsRow base e size u n xs):∀ u',(Value.tuple #[u,x])=.tuple #[u',x]->W.ownsRow base e size u' n xs:=fun u' e=>by cases e;exact h
theorem Ms {ps:List PT} {row:List (List Int)} {c i:Nat} {x:PT} {l:List Int} (hx:ps[i]? =some x) (hl:row[i]? =some l):(eZ ps row c)[i]? =some (x.step l c):=by unfold eZ;rw[List.getElem?_zipWith,hx,hl]
theorem Mt {ps:List PT} {row:List (List Int)} (h:row.length=ps.length) (c:Nat):(eZ ps row c).length=ps.length:=by simp[eZ,h]
theorem Ir {a:NF} (rt:Nt a) {l:List Int} (h:a.st l=true):l.length<=401:=by
 obtain⟨h1,h2⟩:=dU h;have hle:=rt.le;have hn:(l.map fun x=>(x+1).toNat).Nodup:=by rw[List.nodup_iff_pairwise_ne,List.pairwise_map];exact h1.imp_of_mem fun {a b} ha hb hab=>by have:=h2 a ha;have:=h2 b hb;omega
 have:=List.Nodup.length_le_of_subset hn (l₂:=List.range 401) fun x hx=>by
  obtain⟨y,hy,rfl⟩:=List.mem_map.1 hx;have:=h2 y hy;exact List.mem_range.2 (by omega)
 simpa using this
theorem BU {ps:List PT} (ok:Ux ps) {row:List (List Int)} (h:pC ps row):RowK row:=by refine⟨by rw[h.1];exact ok.1,fun l hl=>?_⟩;obtain⟨i,hi⟩:=List.getElem?_of_mem hl;have gL:=(List.getElem?_eq_some_iff.1 hi).1;have hx:ps[i]? =some (ps[i]'(by rw[<-h.1];exact gL)):=az _;have rt:=(ok.2 _ (aw hx)).1;have hst:=h.2 i _ l hx hi;refine⟨Ir rt hst,fun x hx=>?_⟩;have:=(dU hst).2 x hx;have:=rt.le;omega
theorem Mu (mb:Nat) (pv lv:Value) (ps:List PT) (ok:Ux ps) (row:List (List Int)) (hr:pC ps row) (c:Nat) (hc:c<256) (w:World) (hm:w.cell? ⟨mb,0,none⟩=some pv) (h:iW w pv ps) (hl:gT w lv row): ah 173 #[.pointer (some ⟨mb,0,none⟩),lv,.int .u8 c] w fun e w'=>∃ u,e=.returned u/\br w.heap.size w' u (eZ ps row c)/\aa w w':=by
 obtain⟨iL,zX,mK,mL,mM⟩:=info_parts Tryz.tR;obtain⟨iI,y7,kJ,kK,kL⟩:=info_parts Tryz.mB;obtain⟨pa,pc,rfl⟩:=h.form;obtain⟨la,lc,rfl⟩:=hl.form;obtain⟨n,hn⟩:=ag ps.length;have zv:=hr.1;rw[<-hn]at h hm zv;rw[zv]at hl ⊢;have sU:n<=64:=by rw[hn];exact ok.1
 have CS:Hid (∀ (i:Nat) (x:PT) (l:List Int) (v u:Value) (W:World),ps[i]? =some x->row[i]? =some l->kX W v x.nf->bZ aN W u l->ah 216 #[v,u,.int .u8 c] W fun e w'=>∃ r,e=.returned (.tuple #[r,.int .i64 0])/\w'.ownsRow W.heap.size 3 1 r (x.nf.step l c).length ((x.nf.step l c).map aN)/\aa W w'):=hid fun i x l v u W hx hl hv hu=>by
  have h2:=ok.2 x (aw hx);have hst:=hr.2 i x l hx hl;exact Ml v u x.nf h2.1 l hst c hc W hv h2.2.1 hu (Nat.le_trans (Ir h2.1 hst) (by decide))
 have SL:Hid (∀ (i:Nat) (x:PT) (l:List Int),ps[i]? =some x->(x.nf.step l c).length<=400):=hid fun i x l hx=>by
  have h2:=(ok.2 x (aw hx)).1.le;unfold NF.step;rw[aQ];exact Nat.le_trans (List.length_filter_le _ _) (by simpa using h2)
 have H:=hid h;have HL:=hid hl;have HN:=hid hn;have Yf:=hid zv;have SLn:Hid ((eZ ps row c).length=n):=hid (by rw[Mt hr.1, <-hn]);have sy:mb<w.heap.size:=World.block_lt_of_cell? _ _ hm;clear h hl hr hn zv ok;go_enter Tryz.func173,Tryz.ntmps173;go_wp2;clear hm;go_loopw [7,17] (fun ov iv wr=>∃ k:Nat,k<=n/\iv=.int .i64 k/\br w.heap.size wr ov ((eZ ps row c).take k)/\aa w wr) (fun _ iv _=>n-(intOf iv).toNat);case atStart=>exact⟨0,by omega,rfl,br.nil _ _,Below.refl _ _⟩
 case round=>
  obtain⟨k,hk,rfl,ho,hx⟩:=hrel;obtain⟨wo,rfl⟩:=ag (wr:World);have HO:=hid ho;have HX:=hid hx;clear ho hx;by_cases hlt:k<n
  ·have eG:(k:Int)<n:=by omega
   obtain⟨x,hx⟩:∃ x,ps[k]? =some x:=⟨_,az (by have:=HN.out;omega)⟩;obtain⟨l,hl⟩:∃ l,row[k]? =some l:=⟨_,az (by have:=Yf.out;omega)⟩;obtain⟨b,off,v0,v1,v2,v3,rfl,hb,Dx,q0,q1,q2,q3,q4,q5,q6⟩:=(H.out.below HX.out).elem hx;obtain⟨b2,fV,a',c',rfl,hb2,cl,lQ⟩:=(HL.out.below HX.out).elem hl;have Uy:=hid hx;have HLL:=hid hl;obtain⟨x0,n0,c0,x1,n1,c1,x2,n2,c2,x3,n3,c3,rfl,rfl,rfl,rfl⟩:=Dx.Qj;have Kp:=hid Dx;have Ez:=hid lQ;have pO:Hid ((eZ ps row c).take (k+1)=(eZ ps row c).take k++ [x.step l c]):=hid (by rw[List.take_add_one,Ms hx hl];rfl);clear hx hl Dx lQ;obtain⟨sn,pF⟩:=ag ((x.nf.step l c).length);obtain⟨sx,Oi⟩:=ag ((x.nf.step l c).map aN);have CS1:Hid (∀ (v u:Value) (W:World),kX W v x.nf->bZ aN W u l->ah 216 #[v,u,.int .u8 c] W fun e w'=>∃ r,e=.returned (.tuple #[r,.int .i64 0])/\w'.ownsRow W.heap.size 3 1 r sn sx/\aa W w'):=hid fun v u W hv hu=>by rw[pF,Oi];exact CS.out k x l v u W Uy.out HLL.out hv hu
   have aiY:sn<=400:=by rw[pF];exact SL.out k x l Uy.out
   have HSN:=hid pF;have HSX:=hid Oi;obtain⟨ln,Oh⟩:=ag l.length;rw[<-Oh]at cl Ez;clear pF Oi Oh;go_wp2;refine ax ?_;intro V hV;have BX:Hid (ar V wo.heap.size #[.slice x0 n0 c0,.slice x1 n1 c1,.slice x2 n2 c2,.slice x3 n3 c3,.bool x.nf.emp,.bool x.zP,.int .i64 x.mark] 124):=hid (by rw[hV];exact ar.new wo _ _);have XV:Hid (aa wo V):=hid (by rw[hV];exact((Ext.refl wo).alloc _).below);have ED:V.cell? ⟨b2,fV+k,none⟩=some (.slice a' ln c'):=((ae.ak XV.out fun _ h=>h:ae (· <wo.heap.size) wo V).cell (p:=⟨b2,fV+k,none⟩) hb2).trans cl;clear hV q0 q1 q2 q3 q4 q5 q6 cl;refine aK false (fun _=>False) (by kernel_rfl) 12 [0,1,0,0,12,28,0,127,255,511,511,1023,4095] (fun i=>i==7) (by kernel_rfl) (fun i=>if i=7 then aZ.abM V.heap.size 3 1 sn sx (.int .i64 0)else aZ.any _) ?_;intro C hC hne;have HC:=hid hC;have f0:=aC hC (p:=⟨wo.heap.size,0,none⟩) BX.out.lt (fun h=>h) (BX.out.cell 0);have f1:=aC hC (p:=⟨wo.heap.size,1,none⟩) BX.out.lt (fun h=>h) (BX.out.cell 1);have f2:=aC hC (p:=⟨wo.heap.size,2,none⟩) BX.out.lt (fun h=>h) (BX.out.cell 2);have f3:=aC hC (p:=⟨wo.heap.size,3,none⟩) BX.out.lt (fun h=>h) (BX.out.cell 3);have f4:=aC hC (p:=⟨wo.heap.size,4,none⟩) BX.out.lt (fun h=>h) (BX.out.cell 4);have f5:=aC hC (p:=⟨b2,fV+k,none⟩) (World.block_lt_of_cell? _ _ ED) (fun h=>h) ED;clear hC ED
   repeat (refine au (fun K hK=>?_);first | (refine bX rfl ?_;try go_simp;refine hK _ _ ?_;clear hK K) | (refine bR rfl rfl ?_;unfold aB;go_simp;refine hK _ _ ?_;clear hK K))
   refine au (fun K hK=>?_);refine ck rfl rfl (aZ.abM V.heap.size 3 1 sn sx (.int .i64 0)) rfl (fun W hW hN=>?_) (fun v hv=>?_)
   ·have hM:=(HC.out W).1 hW
    clear hW;go_simp;refine bM ((CS1.out _ _ _ ((Kp.out.below XV.out).below hM.below) ((Ez.out.below XV.out).below hM.below)).mono ?_);rintro e w2 ⟨vp,rfl,ho,hx⟩;exact⟨_,rfl,Move.ak hx,Mq ho,Mr (aF ho hM.size)⟩
   obtain⟨ra,rc,rfl⟩:=hv;go_simp;refine hK _ _ ?_;clear hK K
   repeat (refine au (fun K hK=>?_);first | (refine bX rfl ?_;try go_simp;refine hK _ _ ?_;clear hK K) | (refine bR rfl rfl ?_;unfold aB;go_simp;refine hK _ _ ?_;clear hK K))
   refine bG (fun W hW hH=>?_);have hM:=(HC.out W).1 hW;have R0:Hid (W.ownsRow V.heap.size 3 1 (.slice ra sn rc) sn sx):=hid ((hH _ (aw (show _=some _ from rfl:_[0]? =some _))) _ rfl);have BW:=hid (BX.out.below hM.below BX.out.lt);have XW:=hid (XV.out.trans (hM.below.mono XV.out.size));have hVW:=hM.size;clear hM hW hH HC hne f0 f1 f2 f3 f4 f5;obtain⟨i0,i1,i2,i3,i4,i5,i6⟩:=BW.out.seven;have Uz:w.heap.size<=wo.heap.size:=HX.out.size;have UA:wo.heap.size<W.heap.size:=BW.out.lt;obtain⟨us,u1,u2,u3⟩:=HO.out;obtain⟨m,hm⟩:=ag us.length;have ame:m<=64:=by rw[hm,u1,List.length_take,SLn.out];omega
   rw[<-hm]at u2;have HM:=hid hm;obtain⟨a5,c5,rfl⟩:=ownsRow_form u2;have U1:=hid u1;have V2:=hid (aj u2 XW.out);have V3:=hid fun i u l hu hl=>aj (u3 i u l hu hl) XW.out
   clear u1 u2 u3 hm;cases hbg:x.zP with
   | true=>
    rw[hbg]at i5;have HE:Hid (x.step l c=x.nf.step l c):=hid (by unfold PT.step;rw[hbg];rfl);clear hbg
    have RN:Hid (W.ownsRow w.heap.size 3 1 (.slice ra sn rc) (x.step l c).length ((x.step l c).map aN)):=hid (by
     rw[HE.out, <-HSN.out, <-HSX.out]
     exact aF R0.out (Nat.le_trans Uz XV.out.size))
    go_wp2_with (at_builtin;refine wpList_append_own_at _ rfl (.tmp 39) (.tmp 41) 27 rfl w.heap.size 39 iL (.slice none 0 0) 1 24 Tryz.underlying27 zX mK mL mM rfl (by decide) _ _ _ rfl (V2.out.alloc _) ⟨W.heap.size,0,none⟩ 1 1 [.slice ra sn rc] rfl rfl (eX _ _ _) (by simp[Value.oneCell']) (by unfold maxLen;omega) (by omega) (by simp;omega) ?_;intro v' w2 hown' hgrow hh hat;have j8:=hid hown';have HG:=hid hgrow;clear hown' hgrow hh hat)
    go_roundw
    case rel=>
     refine⟨k+1,by omega,by go_num,?_,?_⟩
     ·rw[pO.out]
      refine br.snoc (w:=W.alloc (.cells #[.slice ra sn rc] 39)) (v:=.slice a5 m c5) (by rw[<-HM.out];exact HM.out.trans U1.out) (by rw[<-HM.out];exact V2.out.alloc _) (fun i u l hu hl=>(V3.out i u l hu hl).alloc _) (RN.out.alloc _) HG.out (by rw[<-HM.out];exact j8.out)
     ·have XX:=HX.out.trans (XW.out.mono HX.out.size)
      exact(XX.alloc XX.size _).grown HG.out (by have:=XX.size;simp;omega) (fun c e=>(V2.out.lt c e).1)
    case measure=>simp[intOf];omega
   | false=>
    rw[hbg]at i5;have HE:Hid (x.step l c= -1::x.nf.step l c):=hid (by unfold PT.step;rw[hbg];rfl);clear hbg;have O1:Hid ((W.alloc (.cells #[.int .i64 (-1)] 3)).ownsRow W.heap.size 3 1 (.slice (some ⟨W.heap.size,0,none⟩) 1 1) 1 [.int .i64 (-1)]):=hid ⟨rfl,.inr ⟨W.heap.size,1, #[.int .i64 (-1)],rfl,aD _,World.alloc_heap_new _ _,aD _,by unfold maxLen;omega,rfl,rfl⟩⟩;go_wp2_with (at_builtin;refine Hid.out ?_);refine hid ?_;refine nh rfl (.tmp 36) (.tmp 37) 39 rfl W.heap.size 3 iI (.int .i64 0) 1 8 Tryz.underlying39 y7 kJ kK kL rfl (by decide) _ 1 _ rfl O1.out _ sn sx rfl (tM.own (R0.out.alloc _)) (by rw[HSX.out,aQ,Nat.mul_one];exact HSN.out.symm) (fun u hu=>by rw[HSX.out]at hu;obtain⟨y,_,rfl⟩:=List.mem_map.1 hu;rfl) (by unfold maxLen;omega) (by omega) (by simp) ?_;intro v1 w1 hown1 Qk;have XB:Hid (aa W w1):=hid (((Below.refl _ W).alloc (aD _) _).grown Qk (by simp) (fun c e=>by have e2:some W.heap.size=some c:=e;injection e2 with e2;omega));have hN:1+sn=(x.step l c).length:=by rw[HE.out,List.length_cons, <-HSN.out];omega
    have hX:[.int .i64 (-1)]++sx=(x.step l c).map aN:=by rw[HE.out,HSX.out];rfl
    rw[hN,hX]at hown1;obtain⟨sm,hsm⟩:=ag ((x.step l c).length);rw[<-hsm]at hown1;obtain⟨a6,c6,rfl⟩:=ownsRow_form hown1;have RN:Hid (w1.ownsRow w.heap.size 3 1 (.slice a6 sm c6) (x.step l c).length ((x.step l c).map aN)):=hid (by rw[<-hsm];exact aF hown1 (by omega));have Z2:=hid (aj V2.out XB.out);have Z3:=hid fun i u l hu hl=>aj (V3.out i u l hu hl) XB.out
    have hw1:=XB.out.size;clear hown1 Qk hN hX hsm V2 V3 O1;go_wp2_with (at_builtin;refine wpList_append_own_at _ rfl (.tmp 39) (.tmp 41) 27 rfl w.heap.size 39 iL (.slice none 0 0) 1 24 Tryz.underlying27 zX mK mL mM rfl (by decide) _ _ _ rfl (Z2.out.alloc _) ⟨w1.heap.size,0,none⟩ 1 1 [.slice a6 sm c6] rfl rfl (eX _ _ _) (by simp[Value.oneCell']) (by unfold maxLen;omega) (by omega) (by simp;omega) ?_;intro v' w2 hown' hgrow hh hat;have j8:=hid hown';have HG:=hid hgrow;clear hown' hgrow hh hat);go_roundw;case rel=>
     refine⟨k+1,by omega,by go_num,?_,?_⟩
     ·rw[pO.out]
      refine br.snoc (w:=w1.alloc (.cells #[.slice a6 sm c6] 39)) (v:=.slice a5 m c5) (by rw[<-HM.out];exact HM.out.trans U1.out) (by rw[<-HM.out];exact Z2.out.alloc _) (fun i u l hu hl=>(Z3.out i u l hu hl).alloc _) (RN.out.alloc _) HG.out (by rw[<-HM.out];exact j8.out)
     ·have XX:=(HX.out.trans (XW.out.mono HX.out.size)).trans (XB.out.mono (Nat.le_trans HX.out.size XW.out.size))
      exact(XX.alloc XX.size _).grown HG.out (by have:=XX.size;simp;omega) (fun c e=>(Z2.out.lt c e).1)
    case measure=>simp[intOf];omega
  ·obtain rfl:k=n:=by omega
   have Ii:¬ ((k:Int)<k):=by omega
   have fD:(eZ ps row c).take k=eZ ps row c:=by rw[<-SLn.out];exact List.take_length
   rw[fD]at HO;go_wp2;go_ret;exact⟨_,rfl,HO.out,HX.out⟩
end Go.Proofs.YtjgccapbphadjaaGreatDoor
