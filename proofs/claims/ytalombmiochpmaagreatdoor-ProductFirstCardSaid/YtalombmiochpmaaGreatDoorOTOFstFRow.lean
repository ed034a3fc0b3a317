/- ProductFirst returns true for any small steps, any bool, any bool, any bytes; the arguments read behind the call as they did. No condition. A tied card: the three listed tables hold at the call what the program's text lays. Printed by wip/gen/drow.py. -/
import Derived.Test.YtalombmiochpmaaGreatDoorCards
import Derived.Test.YtalombmiochpmaaGreatDoorTie
import Derived.Deep.DeepHandedRow
import Derived.Stop.LaidErr
import Derived.Test.YtalombmiochpmaaGreatDoorOR36
set_option maxRecDepth 100000
set_option maxHeartbeats 16000000
open Go.Lib (hid)
namespace Go.Proofs.YtalombmiochpmaaGreatDoor
section
open Go Go.RowKit Go.WideShapes Go.ChangeShapes Go.ChangeAt Go.Deep
section
variable {H:Type} {enc:TypeId×Value→H} {P:Program}
end
section
variable {H:Type} {enc:TypeId×Value→H} {W:World} {base:Nat} {sp:Nat→Bool}
theorem lz {P:Program} {r:Go.Reach} {t e:TypeId} {a:Addr} {len cap:Nat} (ht:P.underlying t=some (.slice e)) (h:Value.okWide P W r base t (.slice (some a) len cap)):a.spot=none/\a.block<W.heap.size:=by
 simp only[Value.okWide,ht,Cell.okWide,Cell.ok]at h;obtain⟨_,_,_,hs,row,cells,Zz,_⟩:=h;refine⟨hs,?_⟩;unfold World.shape? at Zz;cases hh:W.heap[a.block]? with
 | none=>simp[hh]at Zz
 | some o=>exact(Array.getElem?_eq_some_iff.1 hh).1
theorem nt {k:IntKind} {t e:TypeId} {r:Go.Reach} {v:Value} {d:DataW H} {p:List MemPlace} {b0:Nat} (ht:Tryz.prog.underlying t=some (.slice e)) (he:Tryz.prog.underlying e=some (.int k)) (hc:Tryz.prog.cellsOf e=1) (ou:Value.okWide Tryz.prog W r b0 t v) (h:DataW.Trod enc Tryz.prog W 0 (fun _=>true) true t v d p): ∃ (l:List Int),l.length<=maxLen/\(∀ n∈l,(Lit.int k n).wf=true)/\((v=.slice none 0 0/\l=[])\/∃ b off cap,v=.slice (some ⟨b,off,none⟩) l.length cap/\l.length<=cap/\b<W.heap.size/\∀ i x,l[i]? =some x->W.cell? ⟨b,off+i,none⟩=some (.int k x)):=by
 obtain⟨a,len,cap,rfl⟩:=okWide_slice ht ou;obtain⟨fuel,hf⟩:=h;rcases open_ints ht he hc hf with⟨hcs,_⟩ | ⟨a',len',cap',zs,hcs,_,hl,hm,hzs,_,hi,Gh⟩
 ·have:Value.slice a len cap=.slice none 0 0:=by simpa[Value.cells]using hcs
  cases this
  exact⟨[],by simp,by simp,.inl ⟨rfl,rfl⟩⟩
 ·have:Value.slice a len cap=.slice (some a') len' cap':=by simpa[Value.cells]using hcs
  cases this
  obtain⟨hs,hb⟩:=lz ht ou;obtain⟨b,off,spot⟩:=a';have hs':spot=none:=hs;subst hs';rw[if_pos rfl]at hzs;have D7:∀ (o i:Nat),(⟨b,o,none⟩:Addr).add i=⟨b,o+i,none⟩:=fun o i=>by
   unfold Addr.add;split
   ·rename_i h;subst h;rfl
   ·rfl
  have hlen:(zs.take len).length=len:=by rw[List.length_take];omega
  refine⟨zs.take len,by rw[hlen];omega,fun n hn=>Gh n (List.mem_of_mem_take hn),.inr ⟨b,off,cap,by rw[hlen],by rw[hlen];exact hl,hb,fun i x hx=>?_⟩⟩;rw[List.getElem?_take]at hx;split at hx
  ·have hiz:i<zs.length:=(List.getElem?_eq_some_iff.1 hx).1
   have:=hi i hiz;rw[D7,List.getD_eq_getElem?_getD,hx]at this;exact this
  ·cases hx
end
end
section
open Go Go.ChangeShapes Go.WideShapes Go.ChangeAt Go.RowKit
section
variable {H:Type} {enc:TypeId×Value→H} {W:World}
theorem jE {r:Go.Reach} {v:Value} {d:DataW H} {p:List MemPlace} {b0:Nat} (ou:Value.okWide Tryz.prog W r b0 23 v) (h:DataW.Trod enc Tryz.prog W 0 (fun _=>true) true 23 v d p): ∃ l:List Nat,l.length<=maxLen/\(∀ c∈l,c<256)/\aZ bu W v l:=by
 obtain⟨l,hlen,Gh,hl⟩:=nt (e:=5) Tryz.underlying23 Tryz.underlying5 (by kernel_rfl) ou h;refine⟨l.map Int.toNat,by simpa using hlen,fun c hc=>?_,?_⟩
 ·obtain⟨n,hn,rfl⟩:=List.mem_map.1 hc
  have:=jx (Gh n hn);omega
 ·rcases hl with⟨rfl,rfl⟩ | ⟨b,off,cap,rfl,hc,hb,hcell⟩
  ·exact .inl ⟨rfl,rfl⟩
  ·refine .inr ⟨b,off,cap,by rw[List.length_map],hb,by rw[List.length_map];exact hc,fun i x hi=>?_⟩
   rw[List.getElem?_map]at hi;obtain⟨n,hn,rfl⟩:=Option.map_eq_some_iff.1 hi;rw[hcell i n hn];have:=jx (Gh n (List.mem_of_getElem? hn));show some (Value.int .u8 n)=some (Value.int .u8 ((n.toNat:Nat):Int));rw[Int.toNat_of_nonneg this.1]
end
end
section
open Go Go.RowKit Go.Shelf Go.Maps
attribute [local go_sem] encS
theorem aZ.take {α:Type} {enc:α->Value} {w:World} {a:Option Addr} {n cap:Nat} {l:List α} (h:aZ enc w (.slice a n cap) l) (k:Nat) (hk:k<=n):aZ enc w (.slice a k cap) (l.take k):=by
 rcases h with⟨h,rfl⟩ | ⟨b,off,cap',hv,hb,hc,h⟩
 ·cases h
  obtain rfl:k=0:=by omega
  exact .inl ⟨rfl,rfl⟩
 ·cases hv
  have hl:(l.take k).length=k:=by rw[List.length_take];omega
  refine .inr ⟨b,off,cap,by rw[hl],hb,by omega,fun i x hi=>h i x ?_⟩;rw[List.getElem?_take]at hi;split at hi
  ·exact hi
  ·cases hi
theorem aZ.cap {α:Type} {enc:α->Value} {w:World} {a:Option Addr} {n cap:Nat} {l:List α} (h:aZ enc w (.slice a n cap) l):n<=cap:=by
 rcases h with⟨h,rfl⟩ | ⟨b,off,cap',hv,hb,hc,h⟩
 ·cases h;exact Nat.le_refl _
 ·cases hv;omega
end
section
open Go Go.RowKit
def jR (n0:Nat) (Φ:Nat->Value->World->Prop) (A B:World):Prop:=aa (fun k=>k<n0/\k<A.heap.size) A B/\∀ i v,Φ i v A->Φ i v B
theorem jR.trans {n0:Nat} {Φ:Nat->Value->World->Prop} {A B C:World} (h:jR n0 Φ A B) (k:jR n0 Φ B C):jR n0 Φ A C:=
 ⟨h.1.trans k.1 fun _ hk=>⟨hk.1,Nat.lt_of_lt_of_le hk.2 h.1.size⟩,fun i v x=>k.2 i v (h.2 i v x)⟩
theorem jR.below {n0:Nat} {Φ:Nat->Value->World->Prop} {A B:World} (st:∀ i v A B,Below A.heap.size A B->Φ i v A->Φ i v B) (h:Below A.heap.size A B):jR n0 Φ A B:=
 ⟨aa.ag h fun _ hk=>hk.2,fun i v=>st i v A B h⟩
def aH.fact (n0:Nat) (Φ:Nat->Value->World->Prop) (i:Nat) (P:Value->Prop) (oI:Value) (pw:P oI):aH (jR n0 Φ):=⟨P,Φ i,oI,pw,fun v _ _ m _ h=>m.2 i v h⟩
section
variable {P:Program}
theorem Ab (w:World) (base:Nat) (t ty e:TypeId) (i:TypeInfo) (z:Value) (size bytes:Nat) (ht:P.underlying t=some (.slice e)) (hi:P.info? e=some i) (hz:i.zero=some z) (hsize:i.size=size) (hby:i.bytes=bytes) (hzs:z.cells.size=size) (hsz:0<size) (v:Value) (k:Nat) (xs:List Value) (hown:w.ownsRow base e size v k xs) (x:Value) (m:Nat) (news:List Value) (hx:mE w x m news) (hl:news.length=m*size) (h1:∀ u∈news,u.oneCell'=true) (h63:k+m<=maxLen) (hbytes:(k+m)*bytes<=140737488355328) (hbase:base<=w.heap.size): ∃ v' w',(Builtin.append_ #[t,t] ty #[v,x]).run P w=.ok v' w'/\w'.ownsRow base e size v' (k+m) (xs++news)/\w.grownBy w' v.ownBlock/\ (Below w.heap.size w w'\/∃ g cap,v=.slice (some ⟨g,0,none⟩) k cap/\v'=.slice (some ⟨g,0,none⟩) (k+m) cap/\k+m<=cap):=by
 obtain⟨v',w',hr,h2,h3⟩:=ky (P:=P) w base t ty e i z size bytes ht hi hz hsize hby hzs hsz v k xs hown x m news hx hl h1 h63 hbytes hbase;refine⟨v',w',hr,h2,h3,?_⟩;rcases hx with⟨rfl,rfl,rfl⟩ | ⟨ad,c,rfl,hnews⟩
 ·rw[run_append_owned_none (P:=P) (w:=w) base t ty e i size ht hi v k xs hown]at hr
  cases hr
  exact .inl (Below.refl _ _)
 ·rcases hown.2 with⟨rfl,rfl⟩ | ⟨g,cap,cur,rfl,hbg,hg,hnc,hcm,hcs,htake⟩
  ·exact .inl (aa.below (aa.bG h3 fun y hy=>⟨hy,fun e=>by cases e⟩))
  ·by_cases hroom:k+m<=cap
   ·right
    subst hsize;have hr2:=run_append_room (P:=P) w t ty e i ht hi g k cap cur hg ad m c news hl hnews h1 hroom (by rw[hl,hcs, <-Nat.add_mul];exact Nat.mul_le_mul_right _ hroom);rw[hr2]at hr;cases hr;exact⟨g,cap,rfl,rfl,hroom⟩
   ·left
    obtain⟨v2,w2,hr2,_,h4⟩:=iK (P:=P) w base t ty e i z size bytes ht hi hz hsize hby hzs hsz _ k xs hown ad m c news hl hnews h1 h63 hbytes hbase (by omega);rw[hr]at hr2;cases hr2;rcases h4 with⟨g',cap',cur',e1,_,_,e4,_⟩ | ⟨hb,_⟩
    ·cases e1;omega
    ·exact hb
theorem uu {Cl:FuncId->Array Value->World->(Ending->World->Prop)->Prop} {Rd:Nat->FuncId->Array Value->Code->Code->World->(Ending->World->Prop)->Prop} {o:Oper} {a:Act} {W:World} {post:Value->World->Prop} (s x:Operand) (t:TypeId) (ho:o.op=.call {callee:=.builtin .append,args:= #[s,x],argTypes:= #[t,t]}) (base:Nat) (e:TypeId) (i:TypeInfo) (z:Value) (size bytes:Nat) (ht:P.underlying t=some (.slice e)) (hi:P.info? e=some i) (hz:i.zero=some z) (hsize:i.size=size) (hby:i.bytes=bytes) (hzs:z.cells.size=size) (hsz:0<size) (v:Value) (k:Nat) (xs:List Value) (hs:a.eval s=v) (hown:W.ownsRow base e size v k xs) (xv:Value) (m:Nat) (news:List Value) (hx:a.eval x=xv) (wV:mE W xv m news) (hl:news.length=m*size) (h1:∀ u∈news,u.oneCell'=true) (h63:k+m<=maxLen) (hbytes:(k+m)*bytes<=140737488355328) (hbase:base<=W.heap.size) (h:∀ v' w',w'.ownsRow base e size v' (k+m) (xs++news)->W.grownBy w' v.ownBlock->(Below W.heap.size W w'\/∃ g cap,v=.slice (some ⟨g,0,none⟩) k cap/\v'=.slice (some ⟨g,0,none⟩) (k+m) cap/\k+m<=cap)->post v' w'): kj Cl Rd post ((execOp a.eval o).run P W):=by obtain⟨v',w',hr,h2,h3,h4⟩:=Ab (P:=P) W base t o.type e i z size bytes ht hi hz hsize hby hzs hsz v k xs hown xv m news wV hl h1 h63 hbytes hbase;unfold execOp;simp only[ho,resolve,invoke,builtin,Sem.run_bind,Sem.run_pure,Result.andThen_ok,List.map_toArray,List.map_cons,List.map_nil,hs,hx,hr];exact h v' w' h2 h3 h4
end
def sK (n0:Nat) (e:TypeId) (size Ka Kb:Nat) (L1 L2:List Value):Nat->Value->World->Prop
 | 0,v,W=>W.ownsRow n0 e size v Ka L1
 | 1,v,W=>W.ownsRow n0 e size v (Ka+Kb) (L1++L2)
 | _,_,_=>True
theorem ki (n0:Nat) (e:TypeId) (size Ka Kb:Nat) (L1 L2:List Value):∀ i v A B,Below A.heap.size A B->sK n0 e size Ka Kb L1 L2 i v A->sK n0 e size Ka Kb L1 L2 i v B
 | 0,_,_,_,hb,h=>aq (show World.ownsRow _ _ _ _ _ _ _ from h) hb
 | 1,_,_,_,hb,h=>aq (show World.ownsRow _ _ _ _ _ _ _ from h) hb
 | _+2,_,_,_,_,_=>trivial
theorem uw {n0 size Ka Kb g cap:Nat} {e:TypeId} {L1 L2:List Value} {W W':World} (hs:0<size) (ho:W.ownsRow n0 e size (.slice (some ⟨g,0,none⟩) Ka cap) Ka L1) (uJ:W'.ownsRow n0 e size (.slice (some ⟨g,0,none⟩) (Ka+Kb) cap) (Ka+Kb) (L1++L2)) (hg:W.grownBy W' (some g)):∀ i v,sK n0 e size Ka Kb L1 L2 i v W->sK n0 e size Ka Kb L1 L2 i v W'
 | 0,v,h=>by
  have h:W.ownsRow n0 e size v Ka L1:=h;show W'.ownsRow n0 e size v Ka L1;by_cases e2:v.ownBlock=some g
  ·obtain⟨c,h1,h2,_⟩:=iM hs h ho e2 rfl
   cases h2
   subst h1;exact pL h.1 uJ
  ·exact h.kept hg (.inr e2)
 | 1,v,h=>by
  have h:W.ownsRow n0 e size v (Ka+Kb) (L1++L2):=h;show W'.ownsRow n0 e size v (Ka+Kb) (L1++L2);by_cases e2:v.ownBlock=some g
  ·obtain⟨c,h1,h2,_⟩:=iM hs h ho e2 rfl
   cases h2
   subst h1;exact uJ
  ·exact h.kept hg (.inr e2)
 | _+2,_,_=>trivial
end
section
open Go Go.RowKit Go.Shelf Go.Maps
theorem aZ.P8 {α:Type} {enc:α->Value} {w:World} {v:Value} {l:List α} (h:aZ enc w v l) (hl:0<l.length):∃ b off cap,v=.slice (some ⟨b,off,none⟩) l.length cap:=by
 rcases h with⟨_,rfl⟩ | ⟨b,off,cap,hv,_⟩
 ·simp at hl
 ·exact⟨b,off,cap,hv⟩
end
section
open Go Go.RowKit
theorem kY {d:DF} {s c:Nat} (hc:c<256) (hp:bR d s c=true):cg d s<256/\bR d s (cg d s)=true/\∀ e,e<cg d s->bR d s e=false:=by
 have:∃ c,c<256/\bR d s c=true/\∀ e,e<c->bR d s e=false:=by
  induction c using Nat.strongRecOn with
  | ind c ih=>
   by_cases hx:∃ e,e<c/\bR d s e=true
   ·obtain⟨e,h1,h2⟩:=hx
    exact ih e h1 (by omega) h2
   ·exact⟨c,hc,hp,fun e he=>by
     cases hb:bR d s e with
     | false=>rfl
     | true=>exact absurd ⟨e,he,hb⟩ hx⟩
 obtain⟨c,h1,h2,h3⟩:=this;rw[tH h1 h2 h3];exact⟨h1,h2,h3⟩
theorem iy {d:DF} (h:Rt d) {s:Nat} (hs:s<d.nx.length) (h0:0<bE d s) (hl:bE d s<d.nx.length):cg d s<256/\bR d s (cg d s)=true/\(∀ e,e<cg d s->bR d s e=false):=by have hr:=eW h hs hl;obtain⟨m,hm⟩:∃ m,(bE d s).toNat=m+1:=⟨(bE d s).toNat-1,by omega⟩;rw[hm]at hr;obtain⟨k,hk,wR⟩:=hr;have h1:=hZ h (h.cK hs hk) wR;have h2:=kI h hs hk (by omega);obtain⟨b1,b2,_⟩:=jX h hk;refine kY b1 ?_;unfold bR;rw[b2,beq_iff_eq];omega
theorem iZ {d:DF} (h:Rt d) (hl:bE d 0<d.nx.length):∀ j:Nat,(j:Int)<=bE d 0->(aF d j).1<d.nx.length/\bE d (aF d j).1=bE d 0-j/\(aF d j).2.length=j/\∀ c∈(aF d j).2,c<256
 | 0,_=>⟨h.pos,by simp[aF],rfl,fun c hc=>by cases hc⟩
 | j+1,hj=>by
  obtain⟨a,b,c,e⟩:=iZ h hl j (by omega);obtain⟨x,y,_⟩:=iy h a (by omega) (by omega);refine⟨h.cK a (h.part.cU x),?_,by simp[aF,c],fun z hz=>?_⟩
  ·unfold bR at y
   rw[beq_iff_eq]at y;show bE d (eJ d (aF d j).1 (cls d.cl (cg d (aF d j).1)))=_;omega
  ·rcases List.mem_append.1 hz with hz | hz
   ·exact e z hz
   ·simp at hz;subst hz;exact x
end
section
open Go Go.RowKit Go.Shelf Go.Maps
section
variable {p:List BS} {R:Nat→Nat→Prop} (hp:cw p R)
include hp
theorem cw.XP {k c:Nat} {q:BS} (hk:p[k]? =Option.some q) (hc:c<256):q.getLsbD c=true↔cls p c=k:=by rw[hp.lN hc];exact⟨fun h=>⟨q,hk,h⟩,fun ⟨q',h1,h2⟩=>by rw[hk]at h1;cases h1;exact h2⟩
end
end
section
open Go Go.RowKit
theorem fh {d:DF} (h:Rt d):Rt (aK d) where
 pos:=h.pos
 le:=h.le
 mr:=by show(d.mr.map _).length=_;rw[List.length_map];exact h.mr
 cl:=h.cl
 len:=h.len
 jM:=h.jM
 ris:=fun s hs=>by
  show jl ((d.mr.map fun m=>if m.isEmpty then [0]else []).getD s [])=true;rw[List.getD_eq_getElem?_getD,List.getElem?_map,aI (l:=d.mr) [] (by rw[h.mr];exact hs)];show jl (if(d.mr.getD s []).isEmpty then [0]else [])=true;split
  ·exact kf
  ·exact pO
end
section
open Go Go.RowKit Go.Shelf Go.Maps
theorem jF (v bv:Value) (d:DF) (rt:Rt d) (sm:Sm d) (b:List Nat) (hb:∀ c∈b,c<256) (Dw:b.length<=1000000) (w:World) (h:aT w v d) (lV:aZ bu w bv b): Calls Tryz.prog 11 #[v,bv] w fun e w'=>e=.returned (.bool (aG d b))/\Below w.heap.size w w':=by
 obtain⟨l,hl⟩:∃ l,l=d.mr.getD (aU d 0 b) []:=⟨_,rfl⟩;have CM:Hid (∀ W,Below w.heap.size w W->Calls Tryz.prog 28 #[v,bv] W fun e w'=>∃ u,e=.returned (.tuple #[u,.int .i64 0])/\w'.ownsRow W.heap.size 3 1 u l.length (l.map aS)/\Below W.heap.size W w'):=hid fun W hW=>by
  rw[hl];exact iY v bv d rt sm b hb Dw W (h.below hW) (lV.below hW)
 have ha:aG d b=decide (0<(l.length:Int)):=by unfold aG acc;rw[<-hl];cases l<;>simp
 rw[ha];obtain⟨n,hn⟩:∃ n,n=l.length:=⟨_,rfl⟩;rw[<-hn];have HN:=hid hn;obtain⟨v0,v1,v2,rfl,h0,h1,h2⟩:=h;obtain⟨a0,c0,rfl⟩:=h0.1.form;obtain⟨a1,c1,rfl⟩:=h1.form;obtain⟨a2,c2,rfl⟩:=h2.form;generalize d.cl.length=n0 at*;generalize d.nx.length=n1 at*;generalize d.mr.length=n2 at*;obtain⟨ba,bc,rfl⟩:=lV.form;generalize b.length=bn at*;clear h0 h1 h2 lV hb ha hl hn rt sm;go_enter Tryz.func11,Tryz.ntmps11;go_upto_region 1 with fail
 refine aw ?_;intro V hV;have BD:Hid (ah V w.heap.size #[.slice a0 n0 c0,.slice a1 n1 c1,.slice a2 n2 c2] 28):=hid (by rw[hV];exact ah.new w _ _);have XV:Hid (Below w.heap.size w V):=hid (by rw[hV];exact((Ext.refl w).alloc _).below);clear hV;obtain⟨k0,k1,k2⟩:=ay.dB BD.out;go_wp2_with fail
 refine(CM.out V XV.out).mono ?_;rintro e w1 ⟨u,rfl,ho,hx⟩;obtain⟨ua,uc,rfl⟩:=ownsRow_form ho;rw[<-HN.out];have X1:=hid (XV.out.trans (hx.mono XV.out.size));clear ho hx k0 k1 k2;by_cases h0:0<n
 ·have h1:(0:Int)<n:=by omega
  go_wp2;go_ret;exact⟨by simp;omega,X1.out⟩
 ·have h1:¬ (0:Int)<n:=by omega
  go_wp2;go_ret;exact⟨by simp;omega,X1.out⟩
end
section
open Go Go.RowKit
theorem ct {d:DF} (h:Rt d):∀ (w:List Nat) (s:Nat),s<d.nx.length->(∀ c∈w,c<256)->acc d (aU d s w)=true->Reach d w.length s
 | [],_,_,_,ha=>ha
 | c::w,s,hs,hw,ha=>by
  have hk:=h.part.cU (hw c (List.mem_cons_self ..));exact⟨_,hk,ct h w _ (h.cK hs hk) (fun x hx=>hw x (List.mem_cons_of_mem _ hx)) ha⟩
theorem fK (d:DF):∀ j,aU d 0 (aF d j).2=(aF d j).1
 | 0=>rfl
 | j+1=>by
  show aU d 0 ((aF d j).2++ [cg d (aF d j).1])=_;rw[dw,fK d j];rfl
theorem bV (d:DF):∀ j,(aF d j).2.length=j
 | 0=>rfl
 | j+1=>by
  show((aF d j).2++ [cg d (aF d j).1]).length=_;rw[List.length_append,bV d j];rfl
theorem eB (d:DF) (j:Nat):∀ m,j<=m->(aF d m).2.take j=(aF d j).2
 | 0,hj=>by
  obtain rfl:j=0:=by omega
  rfl
 | m+1,hj=>by
  show((aF d m).2++ [cg d (aF d m).1]).take j=_;by_cases e:j=m+1
  ·subst e
   rw[List.take_of_length_le (by rw[List.length_append,bV];exact Nat.le_refl _)];rfl
  ·rw[List.take_append_of_le_length (by rw[bV];omega)]
   exact eB d j m (by omega)
theorem qD (d:DF) {j m:Nat} (hj:j<m):(aF d m).2[j]? =some (cg d (aF d j).1):=by
 have h1:=eB d (j+1) m (by omega);have h2:((aF d m).2.take (j+1))[j]? =(aF d m).2[j]? :=by rw[List.getElem?_take,if_pos (by omega)]
 rw[<-h2,h1];show((aF d j).2++ [cg d (aF d j).1])[j]? =_;rw[List.getElem?_append_right (by rw[bV];exact Nat.le_refl _),bV,Nat.sub_self];rfl
def zS (d:DF) (m s:Nat):Prop:=Reach d m s/\∀ j,j<m->¬Reach d j s
theorem ue {d:DF} {s:Nat} :∀ m,Reach d m s->∃ m0,zS d m0 s:=fun m=>by
 induction m using Nat.strongRecOn with
 | ind m ih=>
  intro hr;by_cases e:∃ j,j<m/\Reach d j s
  ·obtain⟨j,h1,h2⟩:=e;exact ih j h1 h2
  ·exact⟨m,hr,fun j hj wR=>e ⟨j,hj,wR⟩⟩
theorem iz {d:DF} (h:Rt d):∀ (m s:Nat),s<d.nx.length->zS d m s->∃ l:List Nat,l.length=m+1/\l.Nodup/\∀ t∈l,t<d.nx.length/\∃ j,j<=m/\zS d j t
 | 0,s,hs,hm=>⟨[s],rfl,by simp,fun t ht=>by
  obtain rfl:=List.mem_singleton.1 ht
  exact⟨hs,0,Nat.le_refl _,hm⟩⟩
 | m+1,s,hs,hm=>by
  obtain⟨k,hk,hr⟩:=hm.1;obtain⟨l,h1,h2,h3⟩:=iz h m _ (h.cK hs hk) ⟨hr,fun j hj wR=>hm.2 (j+1) (by omega) ⟨k,hk,wR⟩⟩;refine⟨s::l,by rw[List.length_cons,h1],List.nodup_cons.2 ⟨fun pC=>?_,h2⟩,fun t ht=>?_⟩
  ·obtain⟨_,j,hj,eE⟩:=h3 s pC
   exact hm.2 j (by omega) eE.1
  ·rcases List.mem_cons.1 ht with rfl | ht
   ·exact⟨hs,m+1,Nat.le_refl _,hm⟩
   ·obtain⟨g1,j,g2,g3⟩:=h3 t ht
    exact⟨g1,j,by omega,g3⟩
theorem nh {d:DF} (h:Rt d) {s m:Nat} (hs:s<d.nx.length) (hr:Reach d m s):bE d s<d.nx.length:=by
 obtain⟨m0,hm⟩:=ue m hr;obtain⟨l,h1,h2,h3⟩:=iz h m0 s hs hm;have h4:=gK _ l h2 fun t ht=>(h3 t ht).1
 have h5:=hZ h hs hm.1;omega
theorem fL {d:DF} (h:Rt d) {s:List Nat} (hs:aJ d=some s):bE d 0<d.nx.length/\s=(aF d (bE d 0).toNat).2:=by
 unfold aJ at hs;split at hs
 ·cases hs
 ·have:=(jm h h.pos).2
  exact⟨by omega,(Option.some.inj hs).symm⟩
theorem eU {d:DF} (h:Rt d) {s:List Nat} (hs:aJ d=some s):aG d s=true/\(∀ c∈s,c<256)/\s.length<d.nx.length:=by obtain⟨h1,rfl⟩:=fL h hs;have h0:=(jm h h.pos).1;obtain⟨a1,a2,a3,a4⟩:=iZ h h1 (bE d 0).toNat (by omega);refine⟨?_,a4,by rw[a3];omega⟩;unfold aG;rw[fK];have h2:=eW h a1 (by omega);rw[show(bE d (aF d (bE d 0).toNat).1).toNat=0 by omega]at h2;exact h2
theorem jD {d:DF} (h:Rt d) {s w:List Nat} (hs:aJ d=some s) (hw:∀ c∈w,c<256) (ha:aG d w=true):s.length<=w.length:=by obtain⟨h1,rfl⟩:=fL h hs;have h2:=hZ h h.pos (ct h w 0 h.pos hw ha);rw[bV];omega
theorem eC {d:DF} (h:Rt d) (hs:aJ d=none) (w:List Nat) (hw:∀ c∈w,c<256):aG d w=false:=by
 cases e:aG d w with
 | false=>rfl
 | true=>
  exfalso;have h2:=ct h w 0 h.pos hw e;unfold aJ at hs;split at hs
  ·rename_i hf
   have:=nh h h.pos h2;omega
  ·cases hs
theorem nr {d:DF} (h:Rt d) {s w:List Nat} (hs:aJ d=some s) (hw:∀ c∈w,c<256) (ha:aG d w=true) (hl:w.length=s.length) {j x y:Nat} (ht:w.take j=s.take j) (hx:w[j]? =some x) (hy:s[j]? =some y):y<=x:=by
 obtain⟨h1,rfl⟩:=fL h hs;have h0:=(jm h h.pos).1;have hj:j<(bE d 0).toNat:=by have:=(List.getElem?_eq_some_iff.1 hy).1;rwa[bV]at this
 rw[qD d hj]at hy;cases hy;rw[eB d j _ (by omega)]at ht;obtain⟨a1,a2,a3,a4⟩:=iZ h h1 j (by omega);have xL:x<256:=hw x (List.mem_of_getElem? hx);obtain⟨b1,b2,b3⟩:=iy h a1 (by omega) (by omega);refine Nat.le_of_not_lt fun hlt=>?_
 have hn:=b3 x hlt
 -- but the word goes on to a state with marks
 have hk:=h.part.cU xL;have hwd:w=w.take j++x::w.drop (j+1):=by
  have eE:=(List.getElem?_eq_some_iff.1 hx);obtain⟨hj3,hj4⟩:=eE
  conv=>lhs;rw[<-List.take_append_drop j w,List.drop_eq_getElem_cons hj3,hj4]
 have hr:acc d (aU d (eJ d (aF d j).1 (cls d.cl x)) (w.drop (j+1)))=true:=by have h5:=ha;unfold aG at h5;rw[hwd,ht]at h5;unfold aU at h5;rw[List.foldl_append]at h5;have h6:=fK d j;unfold aU at h6;rw[h6]at h5;exact h5
 have h7:=hZ h (h.cK a1 hk) (ct h _ _ (h.cK a1 hk) (fun c hc=>hw c (List.mem_of_mem_drop hc)) hr);rw[List.length_drop,hl,bV]at h7;have h8:=kI h a1 hk (by omega);unfold bR at hn;rw[beq_eq_false_iff_ne]at hn;omega
structure cY (P:List Nat->Bool) (s:List Nat):Prop where
 ok:P s=true
 jN:∀ c∈s,c<256
 short:∀ w:List Nat,(∀ c∈w,c<256)->P w=true->s.length<=w.length
 lex:∀ w:List Nat,(∀ c∈w,c<256)->P w=true->w.length=s.length->∀ j x y,w.take j=s.take j->w[j]? =some x->s[j]? =some y->y<=x
theorem rA {d:DF} (h:Rt d) {s:List Nat} (hs:aJ d=some s):cY (aG d) s/\s.length<d.nx.length:=
 ⟨⟨(eU h hs).1,(eU h hs).2.1,fun _ hw ha=>jD h hs hw ha,fun _ hw ha hl _ _ _ ht hx hy=>nr h hs hw ha hl ht hx hy⟩,(eU h hs).2.2⟩
theorem vB {d:DF} (h:Rt d):(bH d=([],false,0)/\(aJ d).isSome=false/\∀ w:List Nat,(∀ c∈w,c<256)->aG d w=false)\/(∃ s,bH d=(s,true,0)/\(aJ d).isSome=true/\cY (aG d) s/\s.length<d.nx.length):=by
 unfold bH;rw[if_pos ((aC d).2 h)];cases e:aJ d with
 | none=>exact .inl ⟨rfl,rfl,eC h e⟩
 | some s=>exact .inr ⟨s,rfl,rfl,rA h e⟩
end
section
open Go Go.RowKit Go.Shelf Go.Maps
attribute [local go_sem] encS
theorem nW (v:Value) (d:DF) (sm:Sm d) (w:World) (h:aT w v d): Calls Tryz.prog 25 #[v] w fun e w'=>e=.returned (.tuple #[.bool (d.right&& !(aJ d).isSome),.int .i64 (bH d).2.2])/\Below w.heap.size w w':=by
 have CF:Hid (∀ W,Below w.heap.size w W->Calls Tryz.prog 21 #[v] W fun e w'=>∃ u,e=.returned (.tuple #[u,.bool (bH d).2.1,.int .i64 (bH d).2.2])/\w'.ownsRow W.heap.size 5 1 u (bH d).1.length ((bH d).1.map bu)/\Below W.heap.size W w'):=fun W hW=>ib v d sm W (h.below hW)
 obtain⟨v0,v1,v2,rfl,h0,h1,h2⟩:=h;clear h0 h1 h2 sm;have hE:(d.right=true/\(bH d).2.1=(aJ d).isSome/\(bH d).2.2=0)\/(d.right=false/\(bH d).2.1=false/\(bH d).2.2=182):=by
  unfold bH;cases d.right
  ·exact .inr ⟨rfl,rfl,rfl⟩
  ·exact .inl ⟨rfl,rfl,rfl⟩
 generalize hl:(bH d).1=fl at*;generalize (bH d).2.1=fb at*;generalize (bH d).2.2=fe at*;generalize (aJ d).isSome=fs at*;generalize d.right=r at*;clear hl;go_enter Tryz.func25,Tryz.ntmps25;go_wp2_with fail
 refine az ?_;intro V hV;have X1:Hid (Below w.heap.size w V):=by rw[hV];exact((Ext.refl w).alloc _).below
 clear hV;refine(CF.out V X1.out).mono ?_;rintro e w2 ⟨u,rfl,_,hx⟩;have X2:=hid (X1.out.trans (hx.mono X1.out.size));clear hx X1 CF;rcases hE with⟨rfl,rfl,rfl⟩ | ⟨rfl,rfl,rfl⟩
 ·cases fb
  ·go_wp2
   exact bodyPost_ret (v:=.tuple #[.bool true,.int .i64 0]) (by simp[results,Tryz.results25,go_sem]) rfl ⟨rfl,X2.out⟩
  ·go_wp2
   exact bodyPost_ret (v:=.tuple #[.bool false,.int .i64 0]) (by simp[results,Tryz.results25,go_sem]) rfl ⟨rfl,X2.out⟩
 ·go_wp2
  exact bodyPost_ret (v:=.tuple #[.bool false,.int .i64 182]) (by simp[results,Tryz.results25,go_sem]) rfl ⟨rfl,X2.out⟩
end
section
open Go Go.RowKit Go.Shelf Go.Maps
theorem sI {p:DF} (rt:Rt p) (sp:Sm p) (W:World) (v:Value) (h:aT W v p): Calls Tryz.prog 14 #[v] W (fW p.cl.length p.nx.length p.mr.length 0 (aK p) W):=(mN v p sp W h).mono fun e w' ⟨r,hr,hd,hx⟩=>by
 rw[if_pos ((aC p).2 rt)]at hr hd;obtain⟨a0,c0,a1,c1,a2,c2,e2⟩:=hd.form;have hl:(aK p).mr.length=p.mr.length:=List.length_map ..;rw[hl]at e2;exact⟨a0,c0,a1,c1,a2,c2,by rw[hr,e2];rfl,by rw[e2]at hd;exact hd,hx⟩
def uA (n:Nat) (l:List Nat) (bo:Bool) (W:World) (e:Ending) (w':World):Prop:=∃ a c,e=.returned (.tuple #[.slice a n c,.bool bo,.int .i64 0])/\aZ bu w' (.slice a n c) l/\Below W.heap.size W w'
def fq (d:DF) (v:Value) (l:List Nat) (x:Bool):Prop:=∀ (W:World) (u:Value),aT W u d->aZ bu W v l->Calls Tryz.prog 11 #[u,v] W fun e w'=>e=.returned (.bool x)/\Below W.heap.size W w'
theorem eD {d:DF} (rt:Rt d) (v:Value) {l:List Nat} (hl:l.length<=4000/\∀ c∈l,c<256) {x:Bool} (hx:x=aG d l):fq d v l x:=fun W u h h'=>by
 rw[hx];exact jF u v d rt rt.sm l hl.2 (by have:=hl.1;omega) W h h'
theorem DB {W:World} {b:Nat} {u0 u1 u2:Value} (h:ah W b #[u0,u1,u2] 28) (x0 x1 x2:Value):ah (((W.setCell ⟨b,0,none⟩ x0).setCell ⟨b,1,none⟩ x1).setCell ⟨b,2,none⟩ x2) b #[x0,x1,x2] 28/\aa (· ≠b) W (((W.setCell ⟨b,0,none⟩ x0).setCell ⟨b,1,none⟩ x1).setCell ⟨b,2,none⟩ x2):=
 ⟨((h.set 0 _).set 1 _).set 2 _,(((aa.refl _ _).setCell (p:=⟨b,0,none⟩) (fun h=>h rfl) _).setCell (p:=⟨b,1,none⟩) (fun h=>h rfl) _).setCell (p:=⟨b,2,none⟩) (fun h=>h rfl) _⟩
end
section
open Go Go.RowKit
def sumTo (f:Nat->Nat):Nat->Nat
 | 0=>0
 | n+1=>sumTo f n+f n
theorem iA {f g:Nat->Nat} :∀ n,(∀ c,c<n->f c=g c)->sumTo f n=sumTo g n
 | 0,_=>rfl
 | n+1,h=>by rw[sumTo,sumTo,iA n fun c hc=>h c (by omega),h n (by omega)]
theorem DI (f g:Nat->Nat):∀ n,sumTo (fun c=>f c+g c) n=sumTo f n+sumTo g n
 | 0=>rfl
 | n+1=>by rw[sumTo,sumTo,sumTo,DI f g n];omega
theorem Ac:∀ n,sumTo (fun _=>0) n=0
 | 0=>rfl
 | n+1=>by rw[sumTo,Ac n]
theorem wP (a:Nat):∀ n,sumTo (fun _=>a) n=n*a
 | 0=>by rw[sumTo,Nat.zero_mul]
 | n+1=>by rw[sumTo,wP a n,Nat.succ_mul]
theorem Jg (g:Nat->Nat) (j:Nat):∀ K,sumTo (fun k=>if j=k then g k else 0) K=if j<K then g j else 0
 | 0=>by rw[sumTo,if_neg (by omega)]
 | K+1=>by
  rw[sumTo,Jg g j K];by_cases e:j=K
  ·subst e;rw[if_neg (by omega),if_pos rfl,if_pos (by omega),Nat.zero_add]
  ·rw[if_neg e,Nat.add_zero]
   by_cases e2:j<K
   ·rw[if_pos e2,if_pos (by omega)]
   ·rw[if_neg e2,if_neg (by omega)]
theorem wQ (g κ:Nat->Nat) (K:Nat):∀ N,(∀ c,c<N->κ c<K)->sumTo (fun c=>g (κ c)) N=sumTo (fun k=>((List.range N).filter fun c=>κ c==k).length*g k) K
 | 0,_=>by
  rw[sumTo,iA K (g:=fun _=>0) fun k _=>by simp,Ac]
 | N+1,h=>by
  rw[sumTo,wQ g κ K N fun c hc=>h c (by omega)];have e:∀ k,((List.range (N+1)).filter fun c=>κ c==k).length*g k=((List.range N).filter fun c=>κ c==k).length*g k+if κ N=k then g k else 0:=fun k=>by
   rw[List.range_succ,List.filter_append,List.length_append,Nat.add_mul];by_cases e:κ N=k
   ·rw[if_pos e];simp[e]
   ·rw[if_neg e];simp[e]
  rw[iA K fun k _=>e k,DI,Jg g (κ N) K,if_pos (h N (by omega))]
def Bh (d:DF):Nat->Nat->Nat
 | 0,s=>if acc d s then 1 else 0
 | n+1,s=>sumTo (fun c=>Bh d n (eJ d s (cls d.cl c))) 256
theorem P9 {d:DF} (h:Rt d) {k:Nat} (hk:k<d.cl.length):oB (d.cl.getD k 0)=((List.range 256).filter fun c=>cls d.cl c==k).length:=by
 unfold oB bF;refine congrArg List.length (List.filter_congr fun c hc=>?_);have hc:=List.mem_range.1 hc;have e:=h.part.XP (aI (l:=d.cl) 0 hk) hc;cases hb:(d.cl.getD k 0).getLsbD c with
 | true=>exact(beq_iff_eq.2 (e.1 hb)).symm
 | false=>
  refine(beq_eq_false_iff_ne.2 fun hk=>?_).symm;rw[e.2 hk]at hb;cases hb
theorem UF {d:DF} (h:Rt d) (n s:Nat):Bh d (n+1) s=sumTo (fun k=>oB (d.cl.getD k 0)*Bh d n (eJ d s k)) d.cl.length:=by show sumTo (fun c=>Bh d n (eJ d s (cls d.cl c))) 256=_;rw[wQ (fun k=>Bh d n (eJ d s k)) (cls d.cl) d.cl.length 256 fun c hc=>h.part.cU hc];exact iA _ fun k hk=>by rw[P9 h hk]
theorem UG {A S X:Nat} {M:Int} (hM:0<=M):min (min (A:Int) M+S*min (X:Int) M) M=min (((A+S*X:Nat)):Int) M:=by
 rw[Int.natCast_add,Int.natCast_mul];by_cases hx:(X:Int)<=M
 ·rw[show min (X:Int) M=X by omega]
  have:(0:Int)<=S*X:=Int.mul_nonneg (Int.natCast_nonneg _) (Int.natCast_nonneg _);omega
 ·rw[show min (X:Int) M=M by omega]
  cases S with
  | zero=>simp only[Int.natCast_zero,Int.zero_mul];omega
  | succ S=>
   have h1:(0:Int)<=S*M:=Int.mul_nonneg (Int.natCast_nonneg _) hM;have h2:(0:Int)<=S*X:=Int.mul_nonneg (Int.natCast_nonneg _) (Int.natCast_nonneg _);rw[Int.natCast_succ,Int.add_mul,Int.add_mul,Int.one_mul,Int.one_mul];omega
theorem FE:(0:Int)<=eY:=by unfold eY;omega
theorem DJ {d:DF} {many:List Int} {x:Nat->Nat} {s:Nat} :∀ k,(∀ j,j<k->many.getD (eJ d s j) 0=min ((x (eJ d s j):Nat):Int) eY)->ia d many s k=min ((sumTo (fun j=>oB (d.cl.getD j 0)*x (eJ d s j)) k:Nat):Int) eY
 | 0,_=>by
  have:=FE;unfold ia sumTo;omega
 | k+1,h=>by
  unfold ia;rw[DJ k fun j hj=>h j (by omega),h k (by omega),UG FE];rfl
theorem Jh {d:DF} (h:Rt d):∀ n t,t<d.nx.length->(dS d n).getD t 0=min ((Bh d n t:Nat):Int) eY
 | 0,t,ht=>by
  unfold dS Bh;rw[iQ,if_pos ht];have:(1:Int)<=eY:=by unfold eY;omega
  split<;>omega
 | n+1,t,ht=>by
  unfold dS;rw[iQ,if_pos ht,DJ (x:=Bh d n) _ fun j hj=>Jh h n _ (h.cK ht hj),UF h]
def zU (f:List Nat->Nat):Nat->Nat
 | 0=>f []
 | n+1=>sumTo (fun c=>zU (fun w=>f (c::w)) n) 256
theorem Ad:∀ (n:Nat) {f g:List Nat->Nat},(∀ w,w.length=n->(∀ c∈w,c<256)->f w=g w)->zU f n=zU g n
 | 0,f,g,h=>h [] rfl fun _ hc=>by cases hc
 | n+1,f,g,h=>iA 256 fun c hc=>Ad n fun w hw hb=>h (c::w) (by rw[List.length_cons,hw]) fun x hx=>by
  rcases List.mem_cons.1 hx with rfl | hx
  ·exact hc
  ·exact hb x hx
theorem Ae (a:Nat):∀ n,zU (fun _=>a) n=256^n*a
 | 0=>by rw[zU,Nat.pow_zero,Nat.one_mul]
 | n+1=>by
  show sumTo (fun _=>zU (fun _=>a) n) 256=_;rw[wP,Ae a n,Nat.pow_succ,Nat.mul_comm (256^n) 256,Nat.mul_assoc]
def ind (b:Bool):Nat:=if b then 1 else 0
def cnt (d:DF) (n:Nat):Nat:=zU (fun w=>ind (aG d w)) n
theorem UH (d:DF):∀ n s,Bh d n s=zU (fun w=>ind (acc d (aU d s w))) n
 | 0,_=>rfl
 | n+1,_=>iA 256 fun _ _=>UH d n _
theorem UI (d:DF) (n:Nat):Bh d n 0=cnt d n:=UH d n 0
theorem UJ {d:DF} (h:Rt d) {n most:Int} (hn:0<=n/\n<=64) (hm:0<=most/\most<=eY):kJ d n most=(min (min (cnt d n.toNat:Int) eY) most,0):=by unfold kJ;rw[if_neg (by omega),Jh h _ 0 h.pos,UI]
theorem UK {p:DF} (n:Nat) (h:∀ w:List Nat,w.length=n->(∀ c∈w,c<256)->aG p w=false):cnt p n=0:=by unfold cnt;rw[Ad n (g:=fun _=>0) fun w hl hw=>by rw[h w hl hw];rfl,Ae,Nat.mul_zero]
theorem L8 {d:DF} (h:Rt d) {n:Nat} (hn:n<=64) {most:Int} (hm:0<=most/\most<=eY) (h0:∀ w:List Nat,w.length=n->(∀ c∈w,c<256)->aG d w=false):kJ d n most=(0,0):=by rw[UJ h (n:=n) (by omega) hm,Int.toNat_natCast,UK n h0];have:=FE;congr 1;omega
def dP (l:List Nat):List UInt8:=Lib.bytesOf (l.map Int.ofNat)
theorem jG {P:Program} {w:World} {v:Value} {l:List Nat} (h:aZ bu w v l):(Extern.Bytes.bytesOf v).run P w=.ok ⟨(dP l).toArray⟩ w:=by
 rcases h with⟨rfl,rfl⟩ | ⟨g,off,c,rfl,_,_,hc⟩
 ·rfl
 ·have hl:=Lib.run_loadBytesX (P:=P) w (l.map Int.ofNat) ⟨g,off,none⟩ .empty (fun j x hj=>by
   rw[List.getElem?_map]at hj;obtain⟨y,h1,rfl⟩:=Option.map_eq_some_iff.1 hj;have e:(⟨g,off,none⟩:Addr).add j=⟨g,off+j,none⟩:=by unfold Addr.add;split<;>simp_all
   rw[e]
   exact hc j y h1)
  rw[List.length_map]at hl;show(Extern.Bytes.loadBytes ⟨g,off,none⟩ l.length .empty).run P w=_;rw[hl];congr 1;apply ByteArray.ext;show(#[]:Array UInt8)++(Lib.bytesOf (l.map Int.ofNat)).toArray=_;simp[dP]
theorem mm {P:Program} {w:World} {v v':Value} {a b:List Nat} (h:aZ bu w v a) (h':aZ bu w v' b):(Extern.BytealgCompare.compare #[v,v']).run P w=.ok (.int .i64 (Lib.compareBytes (dP a) (dP b))) w:=by
 change Sem.run P (do pure (goInt (Extern.BytealgCompare.cmp (<-Extern.Bytes.bytesOf v) (<-Extern.Bytes.bytesOf v')))) w=_
 simp only[Sem.run_bind,jG h,jG h',Result.andThen,Sem.run_pure,Lib.cmp_eq];rfl
theorem Af {x y:Nat} (hx:x<256) (hy:y<256):((x:Int).toNat.toUInt8<(y:Int).toNat.toUInt8)↔x<y:=by rw[UInt8.lt_iff_toNat_lt];simp[Nat.mod_eq_of_lt hx,Nat.mod_eq_of_lt hy]
theorem jc:∀ (a b:List Nat),(∀ c∈a,c<256)->(∀ c∈b,c<256)->a.length=b.length->Lib.compareBytes (dP a) (dP b)<0->∃ (j:Nat) (x y:Nat),a.take j=b.take j/\a[j]? =some x/\b[j]? =some y/\x<y
 | [],[],_,_,_,h=>by exact absurd h (by decide)
 | [],_::_,_,_,hl,_=>by simp at hl
 | _::_,[],_,_,hl,_=>by simp at hl
 | x::a,y::b,ha,hb,hl,h=>by
  have hx:=ha x (List.mem_cons_self ..);have hy:=hb y (List.mem_cons_self ..);have e:Lib.compareBytes (dP (x::a)) (dP (y::b))=if(x:Int).toNat.toUInt8<(y:Int).toNat.toUInt8 then-1 else if(y:Int).toNat.toUInt8<(x:Int).toNat.toUInt8 then 1 else Lib.compareBytes (dP a) (dP b):=rfl
  rw[e]at h;by_cases h1:x<y
  ·exact⟨0,x,y,rfl,rfl,rfl,h1⟩
  ·rw[if_neg (fun h2=>h1 ((Af hx hy).1 h2))]at h
   by_cases h3:y<x
   ·rw[if_pos ((Af hy hx).2 h3)]at h;omega
   ·rw[if_neg (fun h2=>h3 ((Af hy hx).1 h2))]at h
    obtain⟨j,p,q,g1,g2,g3,g4⟩:=jc a b (fun c hc=>ha c (List.mem_cons_of_mem _ hc)) (fun c hc=>hb c (List.mem_cons_of_mem _ hc)) (by simpa using hl) h;obtain rfl:x=y:=by omega
    exact⟨j+1,p,q,by rw[List.take_succ_cons,List.take_succ_cons,g1],g2,g3,g4⟩
theorem cY.before {P:List Nat->Bool} {s w:List Nat} (h:cY P s) (hw:∀ c∈w,c<256) (hP:P w=true) (hl:w.length=s.length):0<=Lib.compareBytes (dP w) (dP s):=by
 refine Int.not_lt.1 fun hlt=>?_
 obtain⟨j,x,y,g1,g2,g3,g4⟩:=jc w s hw h.jN hl hlt;have:=h.lex w hw hP hl j x y g1 g2 g3;omega
theorem cY.shorter {P:List Nat->Bool} {s w:List Nat} (h:cY P s) (hw:∀ c∈w,c<256) (hl:w.length<s.length):P w=false:=by
 cases e:P w with
 | false=>rfl
 | true=>have:=h.short w hw e;omega
theorem cY.take {P:List Nat->Bool} {s:List Nat} (h:cY P s) {k:Nat} (hk:k<s.length):P (s.take k)=false:=
 h.shorter (fun c hc=>h.jN c (List.mem_of_mem_take hc)) (by rw[List.length_take];omega)
theorem cY.less {P:List Nat->Bool} {s:List Nat} (h:cY P s) {k c x:Nat} (hx:s[k]? =some x) (hc:c<x):P (s.take k++ [c]++s.drop (k+1))=false:=by
 have hk:=(List.getElem?_eq_some_iff.1 hx).1;have xL:=h.jN x (List.mem_of_getElem? hx);have hb:∀ y∈s.take k++ [c]++s.drop (k+1),y<256:=fun y hy=>by
  rcases List.mem_append.1 hy with hy | hy
  ·rcases List.mem_append.1 hy with hy | hy
   ·exact h.jN y (List.mem_of_mem_take hy)
   ·obtain rfl:=List.mem_singleton.1 hy;omega
  ·exact h.jN y (List.mem_of_mem_drop hy)
 have eH:(s.take k).length=k:=by rw[List.length_take];omega
 cases e:P (s.take k++ [c]++s.drop (k+1))with
 | false=>rfl
 | true=>
  have h1:=h.lex _ hb e (by rw[List.length_append,List.length_append,eH,List.length_drop];simp;omega) k c x (by rw[List.append_assoc,List.take_append_of_le_length (by omega),List.take_of_length_le (by omega)]) (by rw[List.append_assoc,List.getElem?_append_right (by omega),eH,Nat.sub_self];rfl) hx;omega
end
section
open Go Go.RowKit Go.Shelf Go.Maps
theorem aZ.aly {α:Type} {enc:α->Value} {w:World} {v:Value} {l:List α} (h:aZ enc w v l):mE w v l.length (l.map enc):=by
 rcases h with⟨rfl,rfl⟩ | ⟨b,off,cap,rfl,_,_,hc⟩
 ·exact .inl ⟨rfl,rfl,rfl⟩
 ·refine .inr ⟨⟨b,off,none⟩,cap,rfl,fun j u hj=>?_⟩
  rw[List.getElem?_map]at hj;obtain⟨x,hx,rfl⟩:=Option.map_eq_some_iff.1 hj;rw[Addr.add_mid];exact hc j x hx
theorem aZ.cells {α:Type} {enc:α->Value} {w:World} {b off n cap:Nat} {l:List α} (h:aZ enc w (.slice (some ⟨b,off,none⟩) n cap) l):n=l.length/\b<w.heap.size/\n<=cap/\∀ i x,l[i]? =some x->w.cell? ⟨b,off+i,none⟩=some (enc x):=by
 rcases h with⟨h,_⟩ | ⟨b',off',cap',hv,hb,hc,h⟩
 ·cases h
 ·cases hv
  exact⟨rfl,hb,hc,h⟩
theorem aZ.XQ {w:World} {b off n cap:Nat} {l:List Nat} (h:aZ bu w (.slice (some ⟨b,off,none⟩) n cap) l) (k m c:Nat):mE w (.slice (some ⟨b,off+k,none⟩) m c) m ((l.drop k).map bu):=
 .inr ⟨_,_,rfl,fun j u hj=>by
  rw[List.getElem?_map]at hj;obtain⟨x,h1,rfl⟩:=Option.map_eq_some_iff.1 hj;rw[List.getElem?_drop]at h1;have e:(⟨b,off+k,none⟩:Addr).add j=⟨b,off+(k+j),none⟩:=by unfold Addr.add;split<;>simp_all[Nat.add_assoc]
  rw[e]
  exact h.cells.2.2.2 _ _ h1⟩
theorem aco {w:World} (a:Addr) (c:Nat):mE w (.slice (some a) 0 c) 0 []:=.inr ⟨_,_,rfl,fun j u hj=>by simp at hj⟩
theorem qG {P:Program} {Cl:FuncId->Array Value->World->(Ending->World->Prop)->Prop} {Rd:Nat->FuncId->Array Value->Code->Code->World->(Ending->World->Prop)->Prop} {o:Oper} {a:Act} {W:World} {post:Value->World->Prop} (t e:TypeId) (len:Nat) (parts:Array (Nat×Operand)) (ho:o.op=.buildSlice t len parts) (vs:List (Nat×Value)) (hv:parts.toList.map (fun p=>(p.1,a.eval p.2))=vs) (cells:Array Value) (ie:TypeInfo) (z:Value) (hu:P.underlying t=some (.slice e)) (hie:P.info? e=some ie) (hz:ie.zero=some z) (EZ:¬len*ie.size>2^24) (Sh:¬len*ie.size=0) (hf:Instr.fill (fun i=>some (i*ie.size,ie.size)) ((Array.range (len*ie.size)).map (z.cells[· %z.cells.size]!)) vs=some cells) (h:post (.slice (some ⟨W.heap.size,0,none⟩) len len) (W.alloc (.cells cells e))):kj Cl Rd post ((execOp a.eval o).run P W):=by
 unfold execOp;have e1:(parts.map fun (i,x)=>(i,a.eval x))=vs.toArray:=by
  rw[<-hv];apply Array.toList_inj.1;rw[Array.toList_map]
 simp only[ho,Sem.run_bind,e1,run_buildSlice W t e len vs.toArray cells ie z hu hie hz EZ Sh hf,Result.andThen_ok];exact h
theorem agN (y:Int):Instr.fill (fun i=>some (i*1,1)) ((Array.range (5*1)).map ((Value.int IntKind.u8 0).cells[· % (Value.int IntKind.u8 0).cells.size]!)) ([(0,.int .u8 0),(1,.int .u8 97),(2,.int .u8 98),(3,.int .u8 99),(4,.int .u8 y)]:List (Nat×Value))=some #[.int .u8 0,.int .u8 97,.int .u8 98,.int .u8 99,.int .u8 y]:=by simp[Instr.fill,Value.cells,Array.range];rfl
def aH.rowOf (n:Nat) (cs:Array Value) (t:TypeId):aH (Move false (fun _=>False)) where
 P:=fun v=>∃ b,v=.slice (some ⟨b,0,none⟩) n n
 H:=fun v W=>∀ b,v=.slice (some ⟨b,0,none⟩) n n->ah W b cs t
 oI:=.slice (some ⟨0,0,none⟩) n n
 pw:=⟨0,rfl⟩
 st:=fun _ _ _ hm _ h b hb=>(h b hb).below hm.below (h b hb).lt
theorem vC (l:List Nat):∀ u∈l.map bu,u.oneCell'=true:=fun u hu=>by obtain⟨y,_,rfl⟩:=List.mem_map.1 hu;rfl
theorem L9 {d:DF} (h:Rt d) (hl:d.nx.length<=40):(bH d=([],false,0)/\(aJ d).isSome=false/\∀ w:List Nat,(∀ c∈w,c<256)->aG d w=false)\/(∃ s,bH d=(s,true,0)/\(aJ d).isSome=true/\cY (aG d) s/\s.length<=40):=by
 rcases vB h with h1 | ⟨s,h1,h2,h3,h4⟩
 ·exact .inl h1
 ·exact .inr ⟨s,h1,h2,h3,by omega⟩
theorem FH (u v:Value) (a b:List Nat) (w:World) (h:aZ bu w u a) (h':aZ bu w v b): Calls Tryz.prog 26 #[u,v] w fun e w'=>e=.returned (.int .i64 (Lib.compareBytes (dP a) (dP b)))/\w'=w:=by
 have hx:(callFunc 53 #[u,v]).run Tryz.prog w=.ok (.value (.int .i64 (Lib.compareBytes (dP a) (dP b)))) w:=by rw[run_callFunc_extern (e:=Extern.BytealgCompare.compare) Tryz.func53 (by decide) rfl rfl rfl,mm h h'];rfl
 obtain⟨a0,c0,rfl⟩:=h.form;obtain⟨a1,c1,rfl⟩:=h'.form;generalize Lib.compareBytes (dP a) (dP b)=cc at*;generalize a.length=n0 at*;generalize b.length=n1 at*;clear h h';go_enter Tryz.func26,Tryz.ntmps26;go_wp2;go_ret;exact⟨rfl,rfl⟩
theorem FK (v bv:Value) (tr:RX) (p:DF) (cp:Int) (yh:cp=0\/cp=181) (hp:cp=0->Rt p/\p.nx.length<=40) (cG tur:Bool) (b:List Nat) (w:World) (hv:∃ a n c,v=.slice a n c) (hb:∀ c∈b,c<256) (lV:aZ bu w bv b) (hA:∀ W,Below w.heap.size w W->Calls Tryz.prog 9 #[] W fun e w'=>e=.returned (.bool true)/\Below W.heap.size W w') (hM:∀ W,Below w.heap.size w W->Calls Tryz.prog 24 #[v] W fun e w'=>∃ u,e=.returned u/\aL (· <w'.heap.size) w' u tr/\Below W.heap.size W w') (hO:∀ W u,Below w.heap.size w W->aL (· <W.heap.size) W u tr->Calls Tryz.prog 23 #[u,.bool cG,.int .i64 40] W (fW p.cl.length p.nx.length p.mr.length cp p W)): Calls Tryz.prog 7 #[v,.bool cG,.bool tur,bv] w fun e w'=>e=.returned (.bool true)/\Below w.heap.size w w':=by
 obtain⟨n0,dD⟩:∃ n,n=p.cl.length:=⟨_,rfl⟩;obtain⟨n1,gR⟩:∃ n,n=p.nx.length:=⟨_,rfl⟩;obtain⟨n2,jB⟩:∃ n,n=p.mr.length:=⟨_,rfl⟩;rw[<-dD, <-gR, <-jB]at hO;obtain⟨va,vn,vc,rfl⟩:=hv;obtain⟨ba,bc,rfl⟩:=lV.form;have Ug:=hid hb;have PG:=hid lV;obtain⟨bn,Dw⟩:∃ n,n=b.length:=⟨_,rfl⟩;obtain⟨bm,Yt⟩:∃ m,m=min bn 40:=⟨_,rfl⟩;have il:min (bn:Int) 40=(bm:Int):=by omega
 have Ji:bm<=bn:=by omega
 have nu:bm<=40:=by omega
 rw[<-Dw]at PG lV ⊢;have vD:bm<=bc:=Nat.le_trans Ji lV.cap;obtain⟨bb,Ni⟩:∃ x,x=b.take bm:=⟨_,rfl⟩;have kq:Hid (∀ W,Below w.heap.size w W->aZ bu W (.slice ba bm bc) bb):=hid fun W hW=>by rw[Ni];exact((PG.out.below hW).take bm Ji)
 have Ag:Hid (∀ c∈bb,c<256):=hid fun c hc=>by rw[Ni]at hc;exact Ug.out c (List.mem_of_mem_take hc)
 have FP:Hid (bm=bb.length):=hid (by rw[Ni,List.length_take];omega);have HA:=hid hA;have HM:=hid hM;have HO:=hid hO;have HP:=hid hp;have lJ:=hid dD;have ku:=hid gR;have j9:=hid jB;clear hA hM hO hp dD gR jB hb lV Dw Yt Ni Ug PG;obtain⟨iB,Qp,wY,tJ,yK⟩:=info_parts Tryz.Eh;go_enter Tryz.func7,Tryz.ntmps7;go_wp2_with fail
 refine(HA.out w (Below.refl _ _)).mono ?_;rintro e w1 ⟨rfl,hx⟩;have X1:=hid hx;clear hx HA;go_wp2_with fail
 refine(HM.out w1 X1.out).mono ?_;rintro e w2 ⟨u,rfl,ht,hx⟩;have X2:=hid (X1.out.trans (hx.mono X1.out.size));have HT:=hid ht;obtain⟨tp,tc,rfl⟩:=ht.form;generalize tr.kind=nk at*;clear ht hx HM X1;go_wp2_with fail
 refine(HO.out w2 _ X2.out HT.out).mono ?_;rintro e w3 ⟨a0,c0,a1,c1,a2,c2,rfl,ho,hx⟩;have OP:=hid ho;have X3:=hid (X2.out.trans (hx.mono X2.out.size));clear ho hx HO HT X2;go_upto_region 4 with fail
 refine aw ?_;intro V hV;have BP:Hid (ah V w3.heap.size #[.slice a0 n0 c0,.slice a1 n1 c1,.slice a2 n2 c2] 28):=hid (by rw[hV];exact ah.new w3 _ _);have XV:Hid (Below w3.heap.size w3 V):=hid (by rw[hV];exact((Ext.refl w3).alloc _).below);clear hV;have IP:=hid (OP.out.below XV.out);have X4:=hid (X3.out.trans (XV.out.mono X3.out.size));have S3:Hid (w.heap.size<=w3.heap.size):=hid X3.out.size;clear OP XV X3;rcases yh with rfl | rfl
 case inr=>
  go_wp2;go_ret;exact⟨rfl,X4.out⟩
 case inl=>
 obtain⟨rp,Hz⟩:=HP.out rfl;obtain⟨d,hd⟩:∃ d,d=(if tur then aK p else p):=⟨_,rfl⟩;have hd0:Rt d/\d.nx.length<=40/\n0=d.cl.length/\n1=d.nx.length/\n2=d.mr.length:=by
  rw[hd];cases tur with
  | false=>exact⟨rp,Hz,lJ.out,ku.out,j9.out⟩
  | true=>exact⟨fh rp,Hz,lJ.out,ku.out,by rw[j9.out];exact(List.length_map ..).symm⟩
 obtain⟨rd,agO,oU,oQ,mz⟩:=hd0;have RP:=hid rp;have RD:=hid rd;have HD:=hid hd;have alA:=hid agO;have CN:Hid (∀ W u,aT W u p->Calls Tryz.prog 14 #[u] W (fW n0 n1 n2 0 (aK p) W)):=hid fun W u h=>by
  rw[lJ.out,ku.out,j9.out];exact sI RP.out RP.out.sm W u h
 have di:=BP.out.lt;clear rp Hz hd rd agO oU oQ mz HP
 go_upto_if 35 with fail
 go_cut [10,11,12] from 35 to 44 (fun v v1 v2 wx=>v=.int .i64 0/\∃ f0 g0 f1 g1 f2 g2,ah wx w3.heap.size #[.slice f0 n0 g0,.slice f1 n1 g1,.slice f2 n2 g2] 28/\aT wx (.agg #[.slice f0 n0 g0,.slice f1 n1 g1,.slice f2 n2 g2]) d/\Below w.heap.size w wx)
 case first=>
  cases tur with
  | false=>
   have e:d=p:=HD.out;subst e;go_wp2_with fail
   go_meet
   exact⟨rfl,a0,c0,a1,c1,a2,c2,BP.out,IP.out.df,X4.out⟩
  | true=>
   have e:d=aK p:=HD.out;subst e;obtain⟨p0,p1,p2⟩:=ay.dB BP.out;go_wp2_with fail
   refine(CN.out V _ IP.out.df).mono ?_;rintro e w4 ⟨f0,g0,f1,g1,f2,g2,rfl,ho,hx⟩;have ON:=hid ho;have X5:=hid (X4.out.trans (hx.mono X4.out.size));have BP4:=hid (BP.out.below hx BP.out.lt);have S4:Hid (w3.heap.size<V.heap.size/\V.heap.size<=w4.heap.size):=hid ⟨BP.out.lt,hx.size⟩;clear ho hx p0 p1 p2 X4 BP;go_upto_region 8 with fail
   refine aw ?_;intro V1 hV;have BN:Hid (ah V1 w4.heap.size #[.slice f0 n0 g0,.slice f1 n1 g1,.slice f2 n2 g2] 28):=hid (by rw[hV];exact ah.new w4 _ _);have XN:Hid (Below w4.heap.size w4 V1):=hid (by rw[hV];exact((Ext.refl w4).alloc _).below);clear hV;have BP5:=hid (BP4.out.below XN.out BP4.out.lt);have X6:=hid (X5.out.trans (XN.out.mono X5.out.size));have ON5:=hid (ON.out.below XN.out);clear BP4 XN X5 ON;obtain⟨p0,p1,p2⟩:=ay.dB BN.out;obtain⟨⟨r0,r1,r2⟩,z0,z1,z2⟩:=BP5.out.three;go_wp2_with fail
   go_meet
   have K:=(DB BP5.out (.slice f0 n0 g0) (.slice f1 n1 g1) (.slice f2 n2 g2));have s4:=S4.out;have s3:=S3.out;exact⟨rfl,f0,g0,f1,g1,f2,g2,K.1,(ON5.out.keeps K.2 (fun x hx _=>by show x≠w3.heap.size;omega)).df,X6.out.trans (K.2.mono (fun x (hx:x<w.heap.size)=>by show x≠w3.heap.size;omega):aa (· <w.heap.size) V1 _).below⟩
 case rest=>
 obtain⟨rfl,f0,g0,f1,g1,f2,g2,hB,hI,hX⟩:=hcut;have BD:=hid hB;have ID:=hid hI;have Y0:=hid hX;clear hB hI hX BP IP X4 CN HD RP S3 lJ ku j9 di;obtain⟨W0,rfl⟩:∃ W0:World,W0=wc:=⟨_,rfl⟩;obtain⟨x,hx⟩:∃ x,x=aG d bb:=⟨_,rfl⟩;have hb4:bb.length<=4000/\∀ c∈bb,c<256:=⟨by rw[<-FP.out];omega,Ag.out⟩;have CAB:Hid (∀ v,fq d v bb x):=hid fun v=>eD RD.out v hb4 hx
 obtain⟨p0,p1,p2⟩:=ay.dB BD.out;rcases L9 RD.out alA.out with⟨e1,e2,e3⟩ | ⟨s,e1,e2,e3,e4⟩
 ·have hxf:x=false:=by rw[hx];exact e3 bb Ag.out
  subst hxf;have C1:Hid (∀ W u,aT W u d->Calls Tryz.prog 21 #[u] W (uA 0 [] false W)):=hid fun W u h=>(ib u d RD.out.sm W h).mono fun e w' ⟨r,hr,ho,hx⟩=>by
   rw[e1]at hr ho;obtain⟨a,c,rfl⟩:=ownsRow_form ho;exact⟨a,c,hr,dp ho rfl,hx⟩
  have C2:Hid (∀ W u,aT W u d->Calls Tryz.prog 25 #[u] W fun e w'=>e=.returned (.tuple #[.bool true,.int .i64 0])/\Below W.heap.size W w'):=hid fun W u h=>by
   have h5:=nW u d RD.out.sm W h;rwa[e2,(aC d).2 RD.out,e1]at h5
  clear e1 e2 e3 hx hb4;go_wp2_with fail
  refine(C1.out W0 _ ID.out).mono ?_;rintro e w5 ⟨sa,sc,rfl,_,hx⟩;have Y1:Hid (Below W0.heap.size W0 w5):=hid hx;clear hx p0 p1 p2;obtain⟨p0,p1,p2⟩:=ay.dB (BD.out.below Y1.out BD.out.lt);go_wp2_with fail
  refine(C2.out w5 _ (ID.out.below Y1.out)).mono ?_;rintro e w6 ⟨rfl,hx⟩;have Y2:Hid (Below W0.heap.size W0 w6):=hid (Y1.out.trans (hx.mono Y1.out.size));clear hx p0 p1 p2;obtain⟨p0,p1,p2⟩:=ay.dB (BD.out.below Y2.out BD.out.lt);go_wp2_with fail
  refine(CAB.out _ w6 _ (ID.out.below Y2.out) (kq.out w6 (Y0.out.trans (Y2.out.mono Y0.out.size)))).mono ?_;rintro e w7 ⟨rfl,hx⟩;have Y3:Hid (Below W0.heap.size W0 w7):=hid (Y2.out.trans (hx.mono Y2.out.size));clear hx p0 p1 p2;go_wp2;go_ret;exact⟨rfl,Y0.out.trans (Y3.out.mono Y0.out.size)⟩
 ·obtain⟨sn,Gl⟩:∃ n,n=s.length:=⟨_,rfl⟩
  have C1:Hid (∀ W u,aT W u d->Calls Tryz.prog 21 #[u] W (uA sn s true W)):=hid fun W u h=>(ib u d RD.out.sm W h).mono fun e w' ⟨r,hr,ho,hx⟩=>by
   rw[e1]at hr ho;obtain⟨a,c,rfl⟩:=ownsRow_form ho;rw[Gl];exact⟨a,c,hr,dp ho rfl,hx⟩
  have C2:Hid (∀ W u,aT W u d->Calls Tryz.prog 25 #[u] W fun e w'=>e=.returned (.tuple #[.bool false,.int .i64 0])/\Below W.heap.size W w'):=hid fun W u h=>by
   have h5:=nW u d RD.out.sm W h;rwa[e2,(aC d).2 RD.out,e1]at h5
  have Qq:s.length<=4000/\∀ c∈s,c<256:=⟨by omega,e3.jN⟩;have CS:Hid (∀ v,fq d v s true):=hid fun v=>eD RD.out v Qq e3.ok.symm
  have CT:Hid (∀ (k:Nat) v,k<sn->fq d v (s.take k) false):=hid fun k v hk=>eD RD.out v ⟨by rw[List.length_take];omega,fun c hc=>e3.jN c (List.mem_of_mem_take hc)⟩ (e3.take (by omega)).symm
  have CL:Hid (∀ (k c y:Nat) v,s[k]? =some y->c<y->fq d v (s.take k++ [c]++s.drop (k+1)) false):=hid fun k c y v hk hc=>eD RD.out v ⟨by
    have:=(List.getElem?_eq_some_iff.1 hk).1;simp only[List.length_append,List.length_take,List.length_drop,List.length_singleton];omega,fun z hz=>by
    have hy:=e3.jN y (List.mem_of_getElem? hk);rcases List.mem_append.1 hz with hz | hz
    ·rcases List.mem_append.1 hz with hz | hz
     ·exact e3.jN z (List.mem_of_mem_take hz)
     ·obtain rfl:=List.mem_singleton.1 hz;omega
    ·exact e3.jN z (List.mem_of_mem_drop hz)⟩ (e3.less hk hc).symm
  have CC:Hid (∀ (k:Nat) W u,k<sn->aT W u d->Calls Tryz.prog 18 #[u,.int .i64 k,.int .i64 9] W fun e w'=>e=.returned (.tuple #[.int .i64 0,.int .i64 0])/\Below W.heap.size W w'):=hid fun k W u hk h=>by
   have h5:=kU u d RD.out.sm k 9 W h
   rwa[show kT d k 9=(0,0) by
    unfold kT
    rw[if_pos ((aC d).2 RD.out),L8 RD.out (by omega) ⟨by decide,by decide⟩ fun w hl hw=>e3.shorter hw (by omega)]]at h5
  have FX:Hid (x=true->sn<=bm/\(bm=sn->0<=Lib.compareBytes (dP bb) (dP s))):=hid fun e=>by
   rw[hx]at e;have h1:=e3.short bb Ag.out e;have h2:=FP.out;exact⟨by omega,fun h=>e3.before Ag.out e (by omega)⟩
  have q1:¬ ((40:Int)<(sn:Int)):=by omega
  have ao4:sn<=40:=by omega
  have agP:Hid (∀ c∈s,c<256):=hid Qq.2;have MI:=hid Gl;clear e1 e2 e3 e4 hx hb4 Gl Qq;go_wp2_with fail
  refine(C1.out W0 _ ID.out).mono ?_;rintro e w5 ⟨sa,sc,rfl,hs,hx⟩;have Y1:Hid (Below W0.heap.size W0 w5):=hid hx;have HS5:=hid hs;clear hx p0 p1 p2 hs C1;obtain⟨p0,p1,p2⟩:=ay.dB (BD.out.below Y1.out BD.out.lt);go_wp2_with fail
  refine(C2.out w5 _ (ID.out.below Y1.out)).mono ?_;rintro e w6 ⟨rfl,hx⟩;have Y2:Hid (Below W0.heap.size W0 w6):=hid (Y1.out.trans (hx.mono Y1.out.size));have HS6:=hid (HS5.out.below hx);clear hx p0 p1 p2 C2 Y1 HS5;go_upto_region 16 with fail
  obtain⟨p0,p1,p2⟩:=ay.dB (BD.out.below Y2.out BD.out.lt);have HB6:=hid (kq.out w6 (Y0.out.trans (Y2.out.mono Y0.out.size)));go_cut [110] from 88 to 110 (fun v wx=>v=.bool false/\Below w6.heap.size w6 wx);case first=>
   go_wp2_with fail
   refine(CAB.out _ w6 _ (ID.out.below Y2.out) HB6.out).mono ?_;rintro e w7 ⟨rfl,hx⟩;have X7:Hid (Below w6.heap.size w6 w7):=hid hx;clear hx p0 p1 p2;cases x with
   | false=>
    go_wp2_with fail
    go_meet
    exact⟨rfl,X7.out⟩
   | true=>
    obtain⟨hle,Ma⟩:=FX.out rfl;have g1:¬ ((bm:Int)<(sn:Int)):=by omega
    by_cases GX:bm=sn
    ·have g2:((bm:Int)==(sn:Int))=true:=by simp[GX]
     have hc0:=Ma GX;have CMP:=FH (.slice ba bm bc) (.slice sa sn sc) bb s w7 (HB6.out.below X7.out) (HS6.out.below X7.out);generalize Lib.compareBytes (dP bb) (dP s)=cc at hc0 CMP;have g3:¬ (cc<0):=by omega
     clear GX Ma hle;go_wp2_with fail
     refine(CMP).mono ?_;rintro e w8 ⟨rfl,hw⟩;replace hw:=hw.symm;subst hw;go_wp2_with fail
     go_meet
     exact⟨by simp;omega,X7.out⟩
    ·have g2:((bm:Int)==(sn:Int))=false:=by simp;omega
     clear GX Ma hle;go_wp2_with fail
     go_meet
     exact⟨by simp;omega,X7.out⟩
  case rest=>
  obtain⟨rfl,hX⟩:=hcut;obtain⟨W1,rfl⟩:∃ W1:World,W1=wc:=⟨_,rfl⟩;clear p0 p1 p2;have Vo:=hid ((BD.out.below Y2.out BD.out.lt).below hX (Nat.lt_of_lt_of_le BD.out.lt Y2.out.size));have ID1:=hid ((ID.out.below Y2.out).below hX);have HS:=hid (HS6.out.below hX);have Y3:=hid ((Y0.out.trans (Y2.out.mono Y0.out.size)).trans (hX.mono (Nat.le_trans Y0.out.size Y2.out.size)));clear hX BD ID Y0 Y2 HS6 HB6 kq CAB FX Ag FP;go_wp2_with fail
  go_loopw [113] (fun iv wr=>∃ k:Nat,k<=sn/\iv=.int .i64 k/\Below W1.heap.size W1 wr) (fun iv _=>sn-(intOf iv).toNat)
  case atStart=>exact⟨0,Nat.zero_le _,rfl,Below.refl _ _⟩
  case round=>
   obtain⟨k,hk,rfl,hx⟩:=hrel;obtain⟨wo,rfl⟩:∃ wo:World,wo=wr:=⟨_,rfl⟩;have XO:=hid hx;clear hx;by_cases hlt:k<sn
   ·have gz:(k:Int)<sn:=by omega
    obtain⟨p0,p1,p2⟩:=ay.dB (Vo.out.below XO.out Vo.out.lt);go_wp2_with fail
    refine(CC.out k wo _ hlt (ID1.out.below XO.out)).mono ?_;rintro e w7 ⟨rfl,hx⟩;have X7:=hid (XO.out.trans (hx.mono XO.out.size));clear hx p0 p1 p2;have BD7:=hid (Vo.out.below X7.out Vo.out.lt);have ID7:=hid (ID1.out.below X7.out);have HS7:=hid (HS.out.below X7.out);have D9:k<=sc:=Nat.le_trans hk HS7.out.cap;have auk:(k:Int)<=sc:=by omega
    have Ge:(0:Int)<=k:=by omega
    obtain⟨p0,p1,p2⟩:=ay.dB BD7.out;go_upto_region 22 with fail
    refine aD false (fun _=>False) (by kernel_rfl) 13 [0,1,3,7,15,31,63,127,127,127,895,2047,4095] (fun i=>i==11) (by kernel_rfl) (fun i=>if i=11 then aH.gU _ (.bool false)else aH.any _) ?_;intro C hC hne;have HC:=hid hC;have f0:=ak hC (p:=⟨w3.heap.size,0,none⟩) BD7.out.lt (fun h=>h) p0;have f1:=ak hC (p:=⟨w3.heap.size,1,none⟩) BD7.out.lt (fun h=>h) p1;have f2:=ak hC (p:=⟨w3.heap.size,2,none⟩) BD7.out.lt (fun h=>h) p2;clear hC p0 p1 p2
    repeat (refine ae (fun K hK=>?_);first | (refine aR rfl ?_;try go_simp;refine hK _ _ ?_;clear hK K) | (refine aO rfl rfl ?_;unfold ai;go_simp;refine hK _ _ ?_;clear hK K))
    refine ae (fun K hK=>?_);refine bg rfl rfl (aH.gU _ (.bool false)) rfl (fun W hW hN=>?_) (fun v hv=>?_)
    ·have hM:=(HC.out W).1 hW
     clear hW;go_simp;refine aB ((CT.out k _ hlt W _ (ID7.out.below hM.below) ((HS7.out.below hM.below).take k hk)).mono ?_);rintro e w2 ⟨rfl,hx⟩;exact⟨_,rfl,Move.ag hx,rfl,trivial⟩
    replace hv:v=_:=hv;subst hv;go_simp;refine hK _ _ ?_;clear hK K
    repeat (refine ae (fun K hK=>?_);first | (refine aR rfl ?_;try go_simp;refine hK _ _ ?_;clear hK K) | (refine aO rfl rfl ?_;unfold ai;go_simp;refine hK _ _ ?_;clear hK K))
    refine bh (fun W hW hH=>?_);have hM:=(HC.out W).1 hW;have X8:=hid (X7.out.trans (hM.below.mono X7.out.size));clear hM hW hH HC hne f0 f1 f2 BD7 ID7 HS7;have HS8:=hid (HS.out.below X8.out);have BD8:=hid (Vo.out.below X8.out Vo.out.lt);obtain⟨y,hy⟩:∃ y,s[k]? =some y:=⟨_,List.getElem?_eq_getElem (by rw[<-MI.out];exact hlt)⟩;have ao6:y<256:=agP.out y (List.mem_of_getElem? hy);obtain⟨sg,so,rfl⟩:∃ sg so,sa=some ⟨sg,so,none⟩:=by obtain⟨b9,o9,c9,e9⟩:=HS8.out.P8 (by rw[<-MI.out];omega);cases e9;exact⟨_,_,rfl⟩
    obtain⟨fy,alF,hcell⟩:=HS8.out.cells.2;have sy:=hcell k y hy;replace sy:W.cell? ⟨sg,so+k,none⟩=some (.int .u8 y):=sy;have HY:=hid hy;obtain⟨ym,hym⟩:∃ m,m=min y 1:=⟨_,rfl⟩;obtain⟨yz,hyz⟩:∃ m,m=y-ym:=⟨_,rfl⟩;have q2:min (y:Int) 1=(ym:Int):=by omega
    have q3:IntKind.u8.wrap ((y:Int)-(ym:Int))=(yz:Int):=by rw[IntWalk.u8_in _ (by omega)];omega
    have acr:yz<256:=by omega
    clear hy hcell hym hyz;go_upto_region 24 with fail
    refine aD false (fun _=>False) (by kernel_rfl) 13 [0,0,3,7,0,0,48,112,240,511,1023,2047,0] (fun i=>i==10) (by kernel_rfl) (fun i=>if i=10 then aH.rowOf 5 #[.int .u8 0,.int .u8 97,.int .u8 98,.int .u8 99,.int .u8 yz] 5 else aH.any _) ?_;intro C hC hne;have HC:=hid hC;have f0:=ak hC (p:=⟨sg,so+k,none⟩) fy (fun h=>h) sy;clear hC sy
    repeat (refine ae (fun K hK=>?_);first | (refine aR rfl ?_;try go_simp;refine hK _ _ ?_;clear hK K) | (refine aO rfl rfl ?_;unfold ai;go_simp;refine hK _ _ ?_;clear hK K))
    refine ae (fun K hK=>?_);refine bg rfl rfl (aH.rowOf 5 #[.int .u8 0,.int .u8 97,.int .u8 98,.int .u8 99,.int .u8 yz] 5) rfl (fun W hW hN=>?_) (fun v hv=>?_)
    ·clear hW hK K hN
     refine qG 23 5 5 #[(0,.const (.int .u8 0)),(1,.const (.int .u8 97)),(2,.const (.int .u8 98)),(3,.const (.int .u8 99)),(4,.tmp 144)] rfl [(0,.int .u8 0),(1,.int .u8 97),(2,.int .u8 98),(3,.int .u8 99),(4,.int .u8 yz)] rfl #[.int .u8 0,.int .u8 97,.int .u8 98,.int .u8 99,.int .u8 yz] iB (.int .u8 0) Tryz.underlying23 Qp wY (by rw[tJ];decide) (by rw[tJ];decide) (by rw[tJ];exact agN yz) ?_;exact⟨Move.ag ((Ext.refl _).alloc _).below,⟨_,rfl⟩,fun b hb=>by cases hb;exact ah.new _ _ _⟩
    obtain⟨bl,rfl⟩:=hv;go_simp;refine hK _ _ ?_;clear hK K
    repeat (refine ae (fun K hK=>?_);first | (refine aR rfl ?_;try go_simp;refine hK _ _ ?_;clear hK K) | (refine aO rfl rfl ?_;unfold ai;go_simp;refine hK _ _ ?_;clear hK K))
    refine bh (fun W2 hW hH=>?_);have hM:=(HC.out W2).1 hW;have BL:Hid (ah W2 bl #[.int .u8 0,.int .u8 97,.int .u8 98,.int .u8 99,.int .u8 yz] 5):=hid (hH _ (List.mem_of_getElem? (show _=some _ from rfl:_[0]? =some _)) bl rfl);have X9:=hid (X8.out.trans (hM.below.mono X8.out.size));have alG:sg<W2.heap.size:=Nat.lt_of_lt_of_le fy hM.below.size;clear hM hW hH HC hne f0 fy HS8 BD8 q2 q3;have mA:=hid (HS.out.below X9.out);have BD9:=hid (Vo.out.below X9.out Vo.out.lt);have ID9:=hid (ID1.out.below X9.out);go_wp2_with fail
    go_loopw [147] (fun iv wr=>∃ j:Nat,j<=5/\iv=.int .i64 j/\Below W2.heap.size W2 wr) (fun iv _=>5-(intOf iv).toNat)
    case atStart=>exact⟨0,by omega,rfl,Below.refl _ _⟩
    case round=>
     obtain⟨j,hj,rfl,hx⟩:=hrel;obtain⟨wi,rfl⟩:∃ wi:World,wi=wr:=⟨_,rfl⟩;have XI:=hid hx;clear hx;by_cases hlj:j<5
     ·have nz:(j:Int)<5:=by omega
      obtain⟨c,jL,hcc⟩:∃ c:Nat,c<256/\wi.cell? ⟨bl,j,none⟩=some (.int .u8 c):=by
       rw[(BL.out.below XI.out BL.out.lt).cell j];rcases(show j=0\/j=1\/j=2\/j=3\/j=4 by omega)with rfl | rfl | rfl | rfl | rfl
       ·exact⟨0,by decide,rfl⟩
       ·exact⟨97,by decide,rfl⟩
       ·exact⟨98,by decide,rfl⟩
       ·exact⟨99,by decide,rfl⟩
       ·exact⟨yz,acr,rfl⟩
      go_upto_region 27 with fail
      clear hcc;go_wp2_with (at_builtin;refine Hid.out ?_);refine hid ?_;obtain⟨A0,Nh⟩:∃ A:World,A=wi.alloc (.cells #[] 5 (0,0)):=⟨_,rfl⟩;have O0:Hid (A0.ownsRow wi.heap.size 5 1 (.slice (some ⟨wi.heap.size,0,none⟩) 0 0) 0 []):=hid (by rw[Nh];exact⟨rfl,.inr ⟨wi.heap.size,0, #[],rfl,Nat.le_refl _,World.alloc_heap_new _ _,Nat.le_refl _,by simp,rfl,rfl⟩⟩);have XA0:Hid (Below wi.heap.size wi A0):=hid (by rw[Nh];exact((Ext.refl wi).alloc _).below);have SA0:wi.heap.size<=A0.heap.size:=XA0.out.size;have hsk:mE A0 (.slice (some ⟨sg,so,none⟩) k sc) k ((s.take k).map bu):=by
       have h1:=(((mA.out.below XI.out).below XA0.out).take k hk).aly;rwa[show(s.take k).length=k by rw[List.length_take, <-MI.out];omega]at h1
      have HSK:=hid hsk;rw[<-Nh];clear Nh hsk;refine kA rfl (.tmp 151) (.tmp 154) 23 rfl wi.heap.size 5 iB (.int .u8 0) 1 1 Tryz.underlying23 Qp wY tJ yK rfl (by decide) _ 0 [] rfl O0.out _ k _ rfl HSK.out (by rw[List.length_map,List.length_take, <-MI.out];omega) (vC _) (by unfold maxLen;omega) (by omega) SA0 ?_;intro v' A1 ho hg;rw[Nat.zero_add,List.nil_append]at ho;obtain⟨t0,t1,rfl⟩:=ownsRow_form ho;have O1:=hid ho;have XA1:Hid (Below wi.heap.size wi A1):=hid (XA0.out.trans ((Below.refl _ _).grown hg SA0 (fun c e=>(O0.out.lt c e).1)));have SA1:wi.heap.size<=A1.heap.size:=XA1.out.size;clear ho hg O0 XA0 HSK SA0;go_wp2_with (at_builtin;refine Hid.out ?_);refine hid ?_;refine wpList_append_own_at _ rfl (.tmp 155) (.tmp 157) 23 rfl wi.heap.size 5 iB (.int .u8 0) 1 1 Tryz.underlying23 Qp wY tJ yK rfl (by decide) _ _ _ rfl (O1.out.alloc _) ⟨A1.heap.size,0,none⟩ 1 1 [.int .u8 c] rfl rfl (jA _ _ _) (by simp[Value.oneCell']) (by unfold maxLen;omega) (by omega) (by simp;omega) ?_;intro v' A2 ho hg _ _;obtain⟨t2,t3,rfl⟩:=ownsRow_form ho;have O2:Hid (A2.ownsRow wi.heap.size 5 1 (.slice t2 (k+1) t3) (k+1) ((s.take k++ [c]).map bu)):=hid (by rw[List.map_append];exact ho);have XA2:Hid (Below wi.heap.size wi A2):=hid (XA1.out.trans (((Below.refl _ _).alloc SA1 _).grown hg (by simp;omega) (fun c e=>(O1.out.lt c e).1)));clear ho hg O1 XA1 SA1;have SI:=hid XI.out.size;have XJ:=hid (XI.out.trans (XA2.out.mono XI.out.size));have Xj:=hid (mA.out.below XJ.out);obtain⟨fy,agS,hcell⟩:=Xj.out.cells.2;have sy:=hcell k y HY.out;replace sy:A2.cell? ⟨sg,so+k,none⟩=some (.int .u8 y):=sy;have BDA:=hid (BD9.out.below XJ.out BD9.out.lt);obtain⟨p0,p1,p2⟩:=ay.dB BDA.out;clear hcell;go_upto_region 28 with fail
      obtain⟨k1,uO⟩:∃ n,n=k+1:=⟨_,rfl⟩;have q5:IntKind.i64.wrap ((k:Int)+1)=(k1:Int):=by rw[IntWalk.i64_in _ (by omega)];omega
      have auo:k1<=sn:=by omega
      have aup:(k1:Int)<=sn:=by omega
      have auq:k1<=sc:=by omega
      have aur:(k1:Int)<=sc:=by omega
      have aus:(0:Int)<=k1:=by omega
      have aut:(sn:Int)<=sc:=by omega
      have Nw:=hid uO;clear uO;by_cases hcy:c<y
      ·have l1:(c:Int)<y:=by omega
       have l2:decide ((c:Int)<y)=true:=decide_eq_true l1;have l3:decide (c<y)=true:=decide_eq_true hcy;obtain⟨m,hm⟩:∃ n,n=sn-k1:=⟨_,rfl⟩;have auu:m<=40:=by omega
       have HMM:=hid hm;have agT:sg<wi.heap.size:=Nat.lt_of_lt_of_le alG SI.out;have rK:w3.heap.size<wi.heap.size:=Nat.lt_of_lt_of_le BD9.out.lt SI.out;have hbA:w3.heap.size<A2.heap.size:=BDA.out.lt;have SWA:wi.heap.size<=A2.heap.size:=XA2.out.size;have LS:Hid (((s.drop k1).map bu).length=m*1):=hid (by rw[List.length_map,List.length_drop, <-MI.out,hm];omega)
       have LT:Hid ((s.take k++ [c]++s.drop (k+1)).length=k+1+m):=hid (by
        rw[List.length_append,List.length_append,List.length_take,List.length_drop, <-MI.out,hm,Nw.out];show min k sn+1+(sn-(k+1))=_
        omega)
       have CLK:Hid (∀ v,fq d v (s.take k++ [c]++s.drop (k+1)) false):=hid fun v=>CL.out k c y v HY.out hcy
       have UW:Hid (∀ W,jR wi.heap.size (sK wi.heap.size 5 1 (k+1) m ((s.take k++ [c]).map bu) ((s.drop k1).map bu)) A2 W->Below W2.heap.size W2 W):=hid fun W hM=>XJ.out.trans (hM.1.mono fun x (hx:x<W2.heap.size)=>by
        have h1:=SI.out;have h2:=XA2.out.size
        exact⟨by omega,by omega⟩:aa (· <W2.heap.size) A2 W).below
       have wV:∃ xv:Value,((k1=sc/\xv=.slice (some ⟨sg,so,none⟩) (sn-k1) 0)\/(k1≠sc/\xv=.slice (some ⟨sg,so+k1,none⟩) (sn-k1) (sc-k1)))/\∀ W,Below W2.heap.size W2 W->mE W xv m ((s.drop k1).map bu):=by
        by_cases hc:k1=sc
        ·have oU:m=0:=by omega
         have hd0:s.drop k1=[]:=List.drop_eq_nil_of_le (by rw[<-MI.out];omega);refine⟨_,.inl ⟨hc,rfl⟩,fun W _=>?_⟩;rw[<-hm,oU,hd0];exact aco _ _
        ·exact⟨_,.inr ⟨hc,rfl⟩,fun W hW=>by rw[<-hm];exact(mA.out.below hW).XQ k1 m _⟩
       obtain⟨xv,hxv,wV⟩:=wV;have Ep:=hid Nw.out;have HSR:=hid wV;have HXV:=hid hxv;clear wV hm hxv Xj agS alF Nw HMM;rcases HXV.out with⟨lZ,e9⟩ | ⟨lZ,e9⟩
       ·subst e9
        subst lZ;refine aY (jR wi.heap.size (sK wi.heap.size 5 1 (k+1) m ((s.take k++ [c]).map bu) ((s.drop k1).map bu))) (jR.below (ki _ _ _ _ _ _ _) (Ext.refl A2).drew.below) (fun _ _ _ h k=>h.trans k) (by kernel_rfl) 16 [0,0,0,6,14,31,63,127,127,127,127,1151,3711,8063,16383,32767] (fun i=>i==13 || i==14) (by kernel_rfl) (fun i=>if i=13 then aH.fact _ _ 1 (fun v=>∃ a c,v=.slice a (k+1+m) c) (.slice none (k+1+m) 0) ⟨none,0,rfl⟩else if i=14 then aH.gU _ (.bool false)else aH.any _) ?_;intro C hC hne;have HC:=hid hC;have fs:∀ W: {W//C W},W.1.cell? ⟨sg,so+k,none⟩=some (.int .u8 y):=fun W=>(((hC W.1).1 W.2).1.cell (p:=⟨sg,so+k,none⟩) ⟨agT,fy⟩).trans sy
        have wM:∀ W: {W//C W},W.1.cell? ⟨w3.heap.size,0,none⟩=some (.slice f0 n0 g0):=fun W=>(((hC W.1).1 W.2).1.cell (p:=⟨w3.heap.size,0,none⟩) ⟨rK,hbA⟩).trans p0
        have wN:∀ W: {W//C W},W.1.cell? ⟨w3.heap.size,1,none⟩=some (.slice f1 n1 g1):=fun W=>(((hC W.1).1 W.2).1.cell (p:=⟨w3.heap.size,1,none⟩) ⟨rK,hbA⟩).trans p1
        have wO:∀ W: {W//C W},W.1.cell? ⟨w3.heap.size,2,none⟩=some (.slice f2 n2 g2):=fun W=>(((hC W.1).1 W.2).1.cell (p:=⟨w3.heap.size,2,none⟩) ⟨rK,hbA⟩).trans p2
        clear hC p0 p1 p2 sy
        repeat (refine ae (fun K hK=>?_);first | (refine aR rfl ?_;try go_simp;refine hK _ _ ?_;clear hK K) | (refine aO rfl rfl ?_;unfold ai;go_simp;refine hK _ _ ?_;clear hK K))
        refine ae (fun K hK=>?_);refine bg rfl rfl (aH.fact _ _ 1 (fun v=>∃ a c,v=.slice a (k+1+m) c) (.slice none (k+1+m) 0) ⟨none,0,rfl⟩) rfl (fun W hW hN=>?_) (fun v hv=>?_)
        ·have hM:=(HC.out W).1 hW
         have h0:W.ownsRow wi.heap.size 5 1 (.slice t2 (k+1) t3) (k+1) ((s.take k++ [c]).map bu):=hM.2 0 _ O2.out;have xI:wi.heap.size<=W.heap.size:=Nat.le_trans SWA hM.1.size;have wV:=HSR.out W (UW.out W hM);clear hW hK K hN hM;refine uu (.tmp 167) (.tmp 171) 23 rfl wi.heap.size 5 iB (.int .u8 0) 1 1 Tryz.underlying23 Qp wY tJ yK rfl (by decide) (.slice t2 (k+1) t3) (k+1) _ rfl h0 _ m _ rfl wV LS.out (vC _) (by unfold maxLen;omega) (by omega) xI ?_;intro v' w' ho hg halt;rcases halt with hb | ⟨g,cap,y1,y2,y3⟩
         ·exact⟨jR.below (ki _ _ _ _ _ _ _) hb,ownsRow_form ho,ho⟩
         ·subst y2
          rw[y1]at h0 hg;exact⟨⟨aa.bG hg fun x hx=>⟨hx.2,fun e=>by cases e;have:=(h0.lt _ rfl).1;have:=hx.1;omega⟩,uw (by decide) h0 ho hg⟩,⟨_,_,rfl⟩,ho⟩
        obtain⟨a15,c15,rfl⟩:=hv;go_simp;refine hK _ _ ?_;clear hK K
        repeat (refine ae (fun K hK=>?_);first | (refine aR rfl ?_;try go_simp;refine hK _ _ ?_;clear hK K) | (refine aO rfl rfl ?_;unfold ai;go_simp;refine hK _ _ ?_;clear hK K))
        refine ae (fun K hK=>?_);refine bg rfl rfl (aH.gU _ (.bool false)) rfl (fun W hW hN=>?_) (fun v hv=>?_)
        ·have hM:=(HC.out W).1 hW
         have h0:W.ownsRow wi.heap.size 5 1 (.slice a15 (k+1+m) c15) (k+1+m) ((s.take k++ [c]).map bu++(s.drop k1).map bu):=hN.at 0 rfl (by kernel_rfl);rw[<-List.map_append,Ep.out]at h0;have acs:aZ bu W (.slice a15 (k+1+m) c15) (s.take k++ [c]++s.drop (k+1)):=dp h0 LT.out.symm;have hU:=UW.out W hM;clear hW hK K hN hM h0;go_simp;refine aB ((CLK.out _ W _ (ID9.out.below hU) acs).mono ?_);rintro e w2 ⟨rfl,hx⟩;exact⟨_,rfl,jR.below (ki _ _ _ _ _ _ _) hx,rfl,trivial⟩
        replace hv:v=_:=hv;subst hv;go_simp;refine hK _ _ ?_;clear hK K
        repeat (refine ae (fun K hK=>?_);first | (refine aR rfl ?_;try go_simp;refine hK _ _ ?_;clear hK K) | (refine aO rfl rfl ?_;unfold ai;go_simp;refine hK _ _ ?_;clear hK K))
        refine bh (fun W hW hH=>?_);have hM:=(HC.out W).1 hW;have XM:=hid (UW.out W hM);clear hM hW hH HC hne fs wM wN wO;go_wp2;go_roundw;case rel=>exact⟨j+1,by omega,by go_num,XM.out⟩
        case measure=>simp[intOf];omega
       ·subst e9
        have jV:k1<sc:=by omega
        have auv:(k1:Int)<sc:=by omega
        have auw:¬ (sc=k1):=by omega
        clear lZ;refine aY (jR wi.heap.size (sK wi.heap.size 5 1 (k+1) m ((s.take k++ [c]).map bu) ((s.drop k1).map bu))) (jR.below (ki _ _ _ _ _ _ _) (Ext.refl A2).drew.below) (fun _ _ _ h k=>h.trans k) (by kernel_rfl) 16 [0,0,0,6,14,31,63,127,127,127,127,1151,3711,8063,16383,32767] (fun i=>i==13 || i==14) (by kernel_rfl) (fun i=>if i=13 then aH.fact _ _ 1 (fun v=>∃ a c,v=.slice a (k+1+m) c) (.slice none (k+1+m) 0) ⟨none,0,rfl⟩else if i=14 then aH.gU _ (.bool false)else aH.any _) ?_;intro C hC hne;have HC:=hid hC;have fs:∀ W: {W//C W},W.1.cell? ⟨sg,so+k,none⟩=some (.int .u8 y):=fun W=>(((hC W.1).1 W.2).1.cell (p:=⟨sg,so+k,none⟩) ⟨agT,fy⟩).trans sy
        have wM:∀ W: {W//C W},W.1.cell? ⟨w3.heap.size,0,none⟩=some (.slice f0 n0 g0):=fun W=>(((hC W.1).1 W.2).1.cell (p:=⟨w3.heap.size,0,none⟩) ⟨rK,hbA⟩).trans p0
        have wN:∀ W: {W//C W},W.1.cell? ⟨w3.heap.size,1,none⟩=some (.slice f1 n1 g1):=fun W=>(((hC W.1).1 W.2).1.cell (p:=⟨w3.heap.size,1,none⟩) ⟨rK,hbA⟩).trans p1
        have wO:∀ W: {W//C W},W.1.cell? ⟨w3.heap.size,2,none⟩=some (.slice f2 n2 g2):=fun W=>(((hC W.1).1 W.2).1.cell (p:=⟨w3.heap.size,2,none⟩) ⟨rK,hbA⟩).trans p2
        clear hC p0 p1 p2 sy
        repeat (refine ae (fun K hK=>?_);first | (refine aR rfl ?_;try go_simp;refine hK _ _ ?_;clear hK K) | (refine aO rfl rfl ?_;unfold ai;go_simp;refine hK _ _ ?_;clear hK K))
        refine ae (fun K hK=>?_);refine bg rfl rfl (aH.fact _ _ 1 (fun v=>∃ a c,v=.slice a (k+1+m) c) (.slice none (k+1+m) 0) ⟨none,0,rfl⟩) rfl (fun W hW hN=>?_) (fun v hv=>?_)
        ·have hM:=(HC.out W).1 hW
         have h0:W.ownsRow wi.heap.size 5 1 (.slice t2 (k+1) t3) (k+1) ((s.take k++ [c]).map bu):=hM.2 0 _ O2.out;have xI:wi.heap.size<=W.heap.size:=Nat.le_trans SWA hM.1.size;have wV:=HSR.out W (UW.out W hM);clear hW hK K hN hM;refine uu (.tmp 167) (.tmp 171) 23 rfl wi.heap.size 5 iB (.int .u8 0) 1 1 Tryz.underlying23 Qp wY tJ yK rfl (by decide) (.slice t2 (k+1) t3) (k+1) _ rfl h0 _ m _ rfl wV LS.out (vC _) (by unfold maxLen;omega) (by omega) xI ?_;intro v' w' ho hg halt;rcases halt with hb | ⟨g,cap,y1,y2,y3⟩
         ·exact⟨jR.below (ki _ _ _ _ _ _ _) hb,ownsRow_form ho,ho⟩
         ·subst y2
          rw[y1]at h0 hg;exact⟨⟨aa.bG hg fun x hx=>⟨hx.2,fun e=>by cases e;have:=(h0.lt _ rfl).1;have:=hx.1;omega⟩,uw (by decide) h0 ho hg⟩,⟨_,_,rfl⟩,ho⟩
        obtain⟨a15,c15,rfl⟩:=hv;go_simp;refine hK _ _ ?_;clear hK K
        repeat (refine ae (fun K hK=>?_);first | (refine aR rfl ?_;try go_simp;refine hK _ _ ?_;clear hK K) | (refine aO rfl rfl ?_;unfold ai;go_simp;refine hK _ _ ?_;clear hK K))
        refine ae (fun K hK=>?_);refine bg rfl rfl (aH.gU _ (.bool false)) rfl (fun W hW hN=>?_) (fun v hv=>?_)
        ·have hM:=(HC.out W).1 hW
         have h0:W.ownsRow wi.heap.size 5 1 (.slice a15 (k+1+m) c15) (k+1+m) ((s.take k++ [c]).map bu++(s.drop k1).map bu):=hN.at 0 rfl (by kernel_rfl);rw[<-List.map_append,Ep.out]at h0;have acs:aZ bu W (.slice a15 (k+1+m) c15) (s.take k++ [c]++s.drop (k+1)):=dp h0 LT.out.symm;have hU:=UW.out W hM;clear hW hK K hN hM h0;go_simp;refine aB ((CLK.out _ W _ (ID9.out.below hU) acs).mono ?_);rintro e w2 ⟨rfl,hx⟩;exact⟨_,rfl,jR.below (ki _ _ _ _ _ _ _) hx,rfl,trivial⟩
        replace hv:v=_:=hv;subst hv;go_simp;refine hK _ _ ?_;clear hK K
        repeat (refine ae (fun K hK=>?_);first | (refine aR rfl ?_;try go_simp;refine hK _ _ ?_;clear hK K) | (refine aO rfl rfl ?_;unfold ai;go_simp;refine hK _ _ ?_;clear hK K))
        refine bh (fun W hW hH=>?_);have hM:=(HC.out W).1 hW;have XM:=hid (UW.out W hM);clear hM hW hH HC hne fs wM wN wO;go_wp2;go_roundw;case rel=>exact⟨j+1,by omega,by go_num,XM.out⟩
        case measure=>simp[intOf];omega
      ·have l1:¬ ((c:Int)<y):=by omega
       have l2:decide ((c:Int)<y)=false:=decide_eq_false l1;have l3:decide (c<y)=false:=decide_eq_false hcy;refine aD false (fun _=>False) (by kernel_rfl) 16 [0,0,0,6,14,31,63,127,127,127,127,1151,3711,8063,16383,32767] (fun i=>i==13 || i==14) (by kernel_rfl) (fun _=>aH.any _) ?_;intro C hC hne;have HC:=hid hC;have fs:=ak hC (p:=⟨sg,so+k,none⟩) fy (fun h=>h) sy;clear hC p0 p1 p2 sy
       repeat (refine ae (fun K hK=>?_);first | (refine aR rfl ?_;try go_simp;refine hK _ _ ?_;clear hK K) | (refine aO rfl rfl ?_;unfold ai;go_simp;refine hK _ _ ?_;clear hK K))
       refine bh (fun W hW hH=>?_);have hM:=(HC.out W).1 hW;have XM:=hid (XJ.out.trans (hM.below.mono XJ.out.size));clear hM hW hH HC hne fs;go_wp2;go_roundw;case rel=>exact⟨j+1,by omega,by go_num,XM.out⟩
       case measure=>simp[intOf];omega
     ·obtain rfl:j=5:=by omega
      have hjn:¬ ((5:Int)<5):=by omega
      have XJ:=hid (X9.out.trans (XI.out.mono X9.out.size));go_wp2;go_roundw;case rel=>exact⟨k+1,by omega,by go_num,XJ.out⟩
      case measure=>simp[intOf];omega
   ·obtain rfl:k=sn:=by omega
    have KD:¬ ((k:Int)<(k:Int)):=by omega
    obtain⟨p0,p1,p2⟩:=ay.dB (Vo.out.below XO.out Vo.out.lt);go_wp2_with fail
    refine(CS.out _ wo _ (ID1.out.below XO.out) (HS.out.below XO.out)).mono ?_;rintro e w7 ⟨rfl,hx⟩;have X7:=hid (XO.out.trans (hx.mono XO.out.size));clear hx p0 p1 p2;go_wp2;go_ret;exact⟨rfl,Y3.out.trans (X7.out.mono Y3.out.size)⟩
theorem vE (v bv:Value) (x:List (Nat×Nat×Nat)) (xL:x.length<=1000000000000000) (cG tur:Bool) (b:List Nat) (hb:∀ c∈b,c<256) (w:World) (h:cJ w v x) (lV:aZ bu w bv b) (hT:∀ W,Below w.heap.size w W->gL W): Calls Tryz.prog 7 #[v,.bool cG,.bool tur,bv] w fun e w'=>e=.returned (.bool true)/\Below w.heap.size w w':=by
 obtain⟨a,c,e⟩:=h.form;have key:∃ (p:DF) (cp:Int),jO (T1 x cG) 40=(p,cp)/\(cp=0\/cp=181)/\(cp=0->Rt p/\p.nx.length<=40):=by
  rcases ez x cG with⟨p,h1,h2,h3⟩ | h
  ·exact⟨p,0,h1,.inl rfl,fun _=>⟨h2,h3⟩⟩
  ·exact⟨_,181,h,.inr rfl,fun e=>by cases e⟩
 obtain⟨p,cp,h1,h2,h3⟩:=key;exact FK v bv (dc x) p cp h2 h3 cG tur b w ⟨_,_,_,e⟩ hb lV (fun W _=>kX W) (fun W hW=>eO v x xL W (h.below hW)) fun W u hW hu=>eQ u x cG h1 rfl rfl rfl W hu fun V hV=>hT V (hW.trans (hV.mono hW.size))
end
section
open Go Go.ChangeShapes Go.WideShapes Go.ChangeAt Go.RowKit
theorem Jj:Tryz.prog.globalNamed "internal/strconv.uint64pow10" =some 1:=by kernel_rfl
theorem xw:(Tryz.prog.globals[1]?).map (·.type)=some 258:=by kernel_rfl
theorem Bi:Tryz.prog.cellsOf 258=20:=by kernel_rfl
theorem Bj:Tryz.prog.cellsOf 57=1:=by kernel_rfl
theorem FQ {W:World} (h:laidMetH Tryz.prog Rows.productFirstRow.laid W):gL W:=by have h1:laidMet Tryz.prog [("math/bits.deBruijn32tab",Rows.laid_math_bits_deBruijn32tab),("math/bits.deBruijn64tab",Rows.laid_math_bits_deBruijn64tab),("internal/strconv.uint64pow10",Lib.tabData .u64 Lib.pow10Tab)] W:=h;exact Lib.tabIs_of_head (rest:=[]) Jj xw Tryz.underlying258 Tryz.underlying57 Bj Bi h1.tail.tail
noncomputable def qH (cs:Array Value):Obj->Obj
 | .cells _ t frozen=>.cells cs t frozen
 | o=>o
noncomputable def nX (os:Os):World:=
 {World.holding Tryz.prog os ⟨#[], #[],[]⟩with heap:=(((World.holding Tryz.prog os ⟨#[], #[],[]⟩).heap.modify 1 (qH #[.int .u64 1,.int .u64 10,.int .u64 100,.int .u64 1000,.int .u64 10000,.int .u64 100000,.int .u64 1000000,.int .u64 10000000,.int .u64 100000000,.int .u64 1000000000,.int .u64 10000000000,.int .u64 100000000000,.int .u64 1000000000000,.int .u64 10000000000000,.int .u64 100000000000000,.int .u64 1000000000000000,.int .u64 10000000000000000,.int .u64 100000000000000000,.int .u64 1000000000000000000,.int .u64 10000000000000000000])).modify 2 (qH #[.int .u8 0,.int .u8 1,.int .u8 28,.int .u8 2,.int .u8 29,.int .u8 14,.int .u8 24,.int .u8 3,.int .u8 30,.int .u8 22,.int .u8 20,.int .u8 15,.int .u8 25,.int .u8 17,.int .u8 4,.int .u8 8,.int .u8 31,.int .u8 27,.int .u8 13,.int .u8 23,.int .u8 21,.int .u8 19,.int .u8 16,.int .u8 7,.int .u8 26,.int .u8 12,.int .u8 18,.int .u8 6,.int .u8 11,.int .u8 5,.int .u8 10,.int .u8 9])).modify 3 (qH #[.int .u8 0,.int .u8 1,.int .u8 56,.int .u8 2,.int .u8 57,.int .u8 49,.int .u8 28,.int .u8 3,.int .u8 61,.int .u8 58,.int .u8 42,.int .u8 50,.int .u8 38,.int .u8 29,.int .u8 17,.int .u8 4,.int .u8 62,.int .u8 47,.int .u8 59,.int .u8 36,.int .u8 45,.int .u8 43,.int .u8 51,.int .u8 22,.int .u8 53,.int .u8 39,.int .u8 33,.int .u8 30,.int .u8 24,.int .u8 18,.int .u8 12,.int .u8 5,.int .u8 63,.int .u8 55,.int .u8 48,.int .u8 27,.int .u8 60,.int .u8 41,.int .u8 37,.int .u8 16,.int .u8 46,.int .u8 35,.int .u8 44,.int .u8 21,.int .u8 52,.int .u8 32,.int .u8 23,.int .u8 11,.int .u8 54,.int .u8 26,.int .u8 40,.int .u8 15,.int .u8 34,.int .u8 20,.int .u8 31,.int .u8 10,.int .u8 25,.int .u8 14,.int .u8 19,.int .u8 9,.int .u8 13,.int .u8 8,.int .u8 7,.int .u8 6])}
theorem Mb (os:Os):laidMet Tryz.prog Rows.productFirstRow.laid ((nX os).forCall (fun _ _=>0) ⟨#[], #[.slice none 0 0,.bool false,.bool false,.slice none 0 0],[]⟩).memory:=
 laidMet_of_run' 8 (by kernel_rfl) (by kernel_rfl)
theorem FT (os:Os) {H:Type} (enc:TypeId×Value->H):∃ places,DataW.whole enc Tryz.prog ((nX os).forCall (fun _ _=>0) ⟨#[], #[.slice none 0 0,.bool false,.bool false,.slice none 0 0],[]⟩).memory Tryz.f7.params.toList Rows.productFirstSpec.vars false (#[.slice none 0 0,.bool false,.bool false,.slice none 0 0]:Array Value).toList 8=some ([.nil,.lit (.bool false),.lit (.bool false),.nil],[],places):=
 ⟨[],by kernel_rfl⟩
theorem Bk (os:Os) (started:os.Started) (H:Type) (enc:TypeId×Value->H) (F:Stop.Interp): ReturnsInHanded {} Tryz.checked os 7 .any ((OpenSpec.ofChange Rows.productFirstSpec).preRow enc Tryz.prog Tryz.f7 Rows.productFirstRow.domain false Rows.productFirstRow.laid) (((OpenSpec.ofChange Rows.productFirstSpec).at F).post enc Tryz.prog Tryz.f7 false true false false):=by
 obtain⟨places,hx⟩:=FT os enc;refine returnsInHanded_of_row (C:=Tryz.checked) (s:=OpenSpec.ofChange Rows.productFirstSpec) Tryz.own started (by kernel_rfl) Tryz.func7
  (witness_row_at (enc:=enc) (C:=Tryz.checked) false (nX os) #[.slice none 0 0,.bool false,.bool false,.slice none 0 0] rfl (by kernel_rfl) (by kernel_rfl) (by kernel_rfl)
   (OpenSpec.preRow_of_cond 8 hx (by kernel_rfl) (fun k hk=>by cases hk) (by kernel_rfl) (Mb os))) ?_
 intro W base args ds gs before uq hW _ _ FD hL _ _;have hval:∀ (j:Nat) t v,Tryz.f7.params[j]? =some t->args[j]? =some v->Value.okWide Tryz.prog W .any base t v:=uq;have hT:∀ V,Below W.heap.size W V->gL V:=fun V hV=>(FQ hL).below hV
 have hW1:DataW.Whole enc Tryz.prog Tryz.f7.params.toList Rows.productFirstSpec.vars false W args.toList ds gs before:=hW;have Et:=hW1;obtain⟨p,q,Nh,hV,rfl,hfz,Vy⟩:=hW1;have hA:DataW.TrodAll enc Tryz.prog W 0 (fun _=>true) true Tryz.f7.params.toList args.toList ds p:=Nh;have hsz:(DataW.weightsEach Tryz.prog (Tryz.f7.params.toList++Rows.productFirstSpec.plain.varTypes Tryz.prog) (ds++gs)).all (· <=reachBytes)=true:=FD;rw[Tryz.params7]at hA hval hsz;obtain⟨v0,v1,v2,v3,d0,d1,d2,d3,p0,p1,p2,p3,rfl,rfl,rfl,h0,h1,h2,h3⟩:=trodAll_four hA;obtain⟨l0,s0,g0⟩:=eP (hval 0 _ v0 rfl rfl) h0 (fV hsz (j:=0) rfl rfl);obtain⟨b1,rfl,rfl,rfl⟩:=open_bool Tryz.underlying4 (hval 1 _ v1 rfl rfl) h1;obtain⟨b2,rfl,rfl,rfl⟩:=open_bool Tryz.underlying4 (hval 2 _ v2 rfl rfl) h2;obtain⟨l3,_,r3,s3⟩:=jE (hval 3 _ v3 rfl rfl) h3;refine(vE v0 v3 l0 g0 b1 b2 l3 r3 W s0 s3 hT).mono fun e W' ⟨he,hw⟩=>⟨_,he,?_⟩
 exact pE (s:=Rows.productFirstSpec) Tryz.laidOut rfl (by rw[Tryz.params7];exact of_decide_eq_true (by kernel_rfl)) rfl Tryz.underlying4 rfl Et hw
theorem Jk:Rows.ProductFirstSaid:=
 OpenClaim.holds_of_cond 7 Tryz.f7 rfl rfl rfl rfl rfl rfl rfl ⟨rfl,rfl,rfl,rfl,rfl⟩ rfl rfl rfl rfl rfl (by kernel_rfl) Tryz.func7 (by kernel_rfl)
  (of_decide_eq_true (by kernel_rfl)) (by unfold Func.isWrapper;first | (rw[if_pos (by decide+kernel)];kernel_rfl) | (rw[if_neg (by decide+kernel)];exact⟨rfl,rfl⟩))
  (fun os started H enc _ F=>by rw[OpenClaim.pre_eq_preRow];exact Bk os started H enc F)
theorem FV (f:FuncId) (fn:Func) (hf:Tryz.pinned.checked.prog.funcNamed "repartee/reparteelaw19.ProductFirst" =some f) (hfn:Tryz.pinned.checked.prog.funcs[f]? =some fn): true=Tryz.pinned.checked.prog.looks []/\∀ (j:Nat) t,fn.params[j]? =some t->Tryz.pinned.checked.prog.wantsStandIn t=false:=by
 obtain rfl:f=7:=Option.some.inj ((show Tryz.prog.funcNamed "repartee/reparteelaw19.ProductFirst" =some 7 by kernel_rfl).symm.trans hf) |>.symm;obtain rfl:fn=Tryz.f7:=(Option.some.inj (Tryz.func7.symm.trans hfn)).symm;refine⟨by kernel_rfl,fun j t ht=>?_⟩;rw[Tryz.params7]at ht;have h2:t=22\/t=4\/t=23:=by have:=Array.mem_of_getElem? ht;simpa using this
 rcases h2 with rfl | rfl | rfl
 ·exact(show Tryz.prog.wantsStandIn 22=false by kernel_rfl)
 ·exact(show Tryz.prog.wantsStandIn 4=false by kernel_rfl)
 ·exact(show Tryz.prog.wantsStandIn 23=false by kernel_rfl)
theorem pfirst_card:Rows.ProductFirstCardSaid:=
 Claim7.holds_tied_plain_at .later [] _ _ _ _ Jk (fun _ h=>by cases h) (by kernel_rfl) (fun _ h=>by cases h) productFirst_row_tie rfl ⟨rfl,rfl⟩ (by kernel_rfl) rfl FV (by kernel_rfl)
end
end Go.Proofs.YtalombmiochpmaaGreatDoor
