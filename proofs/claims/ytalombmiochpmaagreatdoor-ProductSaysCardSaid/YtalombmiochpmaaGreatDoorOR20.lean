/- A position put into a part in memory. -/
import Derived.Test.YtalombmiochpmaaGreatDoorOR19
set_option maxRecDepth 100000
set_option maxHeartbeats 16000000
open Go.Lib (hid)
namespace Go.Proofs.YtalombmiochpmaaGreatDoor
open Go Go.RowKit Go.Shelf Go.Maps
theorem MU (i:Nat):bW (0:PB) i=0:=by apply BitVec.eq_of_getLsbD_eq;intro j hj;unfold bW;simp
def zeroV (e:Bool):Array Value:= #[.int .u64 0,.int .u64 0,.int .u64 0,.int .u64 0,.int .u64 0,.int .u64 0,.int .u64 0,.int .u64 0,.int .u64 0,.int .u64 0,.int .u64 0,.int .u64 0,.int .u64 0,.int .u64 0,.bool e]
theorem jq (e:Bool):ax ⟨0,0,e⟩=zeroV e:=by unfold ax zeroV;simp only[MU];rfl
theorem ah.zero {w:World} {b:Nat} {e:Bool} {t:TypeId} (h:ah w b (zeroV e) t):w.cell? ⟨b,0,none⟩=some (.int .u64 0)/\w.cell? ⟨b,1,none⟩=some (.int .u64 0)/\w.cell? ⟨b,2,none⟩=some (.int .u64 0)/\w.cell? ⟨b,3,none⟩=some (.int .u64 0)/\w.cell? ⟨b,4,none⟩=some (.int .u64 0)/\w.cell? ⟨b,5,none⟩=some (.int .u64 0)/\w.cell? ⟨b,6,none⟩=some (.int .u64 0)/\w.cell? ⟨b,7,none⟩=some (.int .u64 0)/\w.cell? ⟨b,8,none⟩=some (.int .u64 0)/\w.cell? ⟨b,9,none⟩=some (.int .u64 0)/\w.cell? ⟨b,10,none⟩=some (.int .u64 0)/\w.cell? ⟨b,11,none⟩=some (.int .u64 0)/\w.cell? ⟨b,12,none⟩=some (.int .u64 0)/\w.cell? ⟨b,13,none⟩=some (.int .u64 0)/\w.cell? ⟨b,14,none⟩=some (.bool e):=
 ⟨h.cell 0,h.cell 1,h.cell 2,h.cell 3,h.cell 4,h.cell 5,h.cell 6,h.cell 7,h.cell 8,h.cell 9,h.cell 10,h.cell 11,h.cell 12,h.cell 13,h.cell 14⟩
theorem Lh (k:Nat) (s:BS) (mn mx:Int) (a:Value) (w:World):Calls Tryz.prog 126 #[.agg (au k s mn mx a)] w fun e w'=>e=.returned (.agg (zeroV true))/\aa (fun x=>x<w.heap.size) w w':=by
 unfold au;go_enter Tryz.func126,Tryz.ntmps126;go_wp2;refine bB ?_;intro V hV;have R1:Hid (ah V (w.heap.size+1) (zeroV true) 139):=by
  rw[hV];exact hid (ah.at (ah.new _ _ _) (by simp))
 have X1:aa (fun x=>x<w.heap.size) w V:=by rw[hV];exact(((Ext.refl w).alloc _).alloc _).keeps
 clear hV;obtain⟨m0,m1,m2,m3,m4,m5,m6,m7,m8,m9,m10,m11,m12,m13,m14⟩:=R1.out.zero;refine bodyPost_ret (v:=.agg (zeroV true)) (by simp[results,Tryz.results126,zeroV,go_sem,m0,m1,m2,m3,m4,m5,m6,m7,m8,m9,m10,m11,m12,m13,m14]) rfl ⟨rfl,X1⟩
theorem Tryz.abg:(Tryz.prog.info? 26).map (fun i=>(i.zero,i.size,i.bytes))=some (some (.slice none 0 0),1,24):=by kernel_rfl
def jd (F:Nat->Prop) (w:World) (base:Nat) (e:TypeId) (v:Value) (n:Nat) (xs:List Value):Prop:=w.ownsRow base e 1 v n xs/\∀ x,v.ownBlock=some x->F x
theorem jd.keeps {F:Nat->Prop} {w w':World} {base n:Nat} {e:TypeId} {v:Value} {xs:List Value} (h:jd F w base e v n xs) {R:Nat->Prop} (hk:aa R w w') (hr:∀ x,x<w.heap.size->F x->R x):jd F w' base e v n xs:=
 ⟨aj h.1 hk fun x e=>hr x (h.1.lt x e).2 (h.2 x e),h.2⟩
theorem jd.nil (F:Nat->Prop) (w:World) (base:Nat) (e:TypeId):jd F w base e (.slice none 0 0) 0 []:=⟨World.ownsRow_nil _ _ _ _,fun x e=>by cases e⟩
theorem jd.mono {F F':Nat->Prop} {w:World} {base n:Nat} {e:TypeId} {v:Value} {xs:List Value} (h:jd F w base e v n xs) (hf:∀ x,x<w.heap.size->F x->F' x):jd F' w base e v n xs:=⟨h.1,fun x e=>hf x (h.1.lt x e).2 (h.2 x e)⟩
def Tq (F:Nat->Prop) (w:World) (base:Nat) (us:List Value) (ll:List (List Int)):Prop:=∀ (i:Nat) (u:Value) (l:List Int),us[i]? =some u->ll[i]? =some l->jd F w base 3 u l.length (l.map aS)
def OY (F:Nat->Prop) (w:World) (base:Nat) (v:Value) (ll:List (List Int)):Prop:=∃ us,jd F w base 47 v ll.length us/\Tq F w base us ll
theorem OY.own {F:Nat->Prop} {w:World} {base:Nat} {v:Value} {ll:List (List Int)} (h:OY F w base v ll):aW base w v ll:=by
 obtain⟨us,h1,h2⟩:=h;have hl:us.length=ll.length:=by have:=h1.1.1;omega
 exact⟨us,hl,by rw[hl];exact h1.1,fun i u l hu hl=>(h2 i u l hu hl).1⟩
theorem OY.of {F:Nat->Prop} {w:World} {base:Nat} {v:Value} {ll:List (List Int)} (h:aW base w v ll) (hf:∀ x,base<=x->F x):OY F w base v ll:=by obtain⟨us,h1,h2,h3⟩:=h;rw[h1]at h2;exact⟨us,⟨h2,fun x e=>hf x (h2.lt x e).1⟩,fun i u l hu hl=>⟨h3 i u l hu hl,fun x e=>hf x ((h3 i u l hu hl).lt x e).1⟩⟩
theorem jd.base {F:Nat->Prop} {w:World} {base base' n:Nat} {e:TypeId} {v:Value} {xs:List Value} (h:jd F w base e v n xs) (hb:base'<=base):jd F w base' e v n xs:=⟨aA h.1 hb,h.2⟩
theorem OY.base {F:Nat->Prop} {w:World} {base base':Nat} {v:Value} {ll:List (List Int)} (h:OY F w base v ll) (hb:base'<=base):OY F w base' v ll:=by obtain⟨us,h1,h2⟩:=h;exact⟨us,h1.base hb,fun i u l hu hl=>(h2 i u l hu hl).base hb⟩
structure Mk (F:Nat->Prop) (w:World) (base mb ob f:Nat) (pv cv:Value) (ps:List PT) (rows:List (List (List Int))) (nx:List (List Int)) (sv nv kv:Value) (us ns ks:List Value):Prop where
 blk:ah w mb #[pv,.int .i64 f,sv,.map (some ob),cv,nv,kv] 147
 map:nL w ob rows
 fm:F mb
 fo:F ob
 bm:base<=mb
 bo:base<=ob
 st:jd F w base 26 sv rows.length us
 Ve:∀ (i:Nat) (u:Value) (r:List (List Int)),us[i]? =some u->rows[i]? =some r->OY F w base u r/\mH u nv/\mH u kv
 xj:jd F w base 47 nv nx.length ns
 Qt:Tq F w base ns nx
 wE:jd F w base 47 kv rows.length ks
 Qu:Tq F w base ks (rows.map (ej ps))
 far:mH nv kv
theorem Mk.keeps {F:Nat->Prop} {w w':World} {base mb ob f:Nat} {pv cv:Value} {ps:List PT} {rows:List (List (List Int))} {nx:List (List Int)} {sv nv kv:Value} {us ns ks:List Value} (h:Mk F w base mb ob f pv cv ps rows nx sv nv kv us ns ks) {R:Nat->Prop} (hk:aa R w w') (hr:∀ x,x<w.heap.size->F x->R x):Mk F w' base mb ob f pv cv ps rows nx sv nv kv us ns ks where
 blk:=h.blk.keeps hk (hr _ h.blk.lt h.fm)
 map:=h.map.keeps hk (hr _ h.map.lt h.fo)
 fm:=h.fm
 fo:=h.fo
 bm:=h.bm
 bo:=h.bo
 st:=h.st.keeps hk hr
 Ve:=fun i u r hu hl=>by
  obtain⟨⟨vs,h1,h2⟩,h3⟩:=h.Ve i u r hu hl;exact⟨⟨vs,h1.keeps hk hr,fun i u l hu hl=>(h2 i u l hu hl).keeps hk hr⟩,h3⟩
 xj:=h.xj.keeps hk hr
 Qt:=fun i u l hu hl=>(h.Qt i u l hu hl).keeps hk hr
 wE:=h.wE.keeps hk hr
 Qu:=fun i u l hu hl=>(h.Qu i u l hu hl).keeps hk hr
 far:=h.far
theorem Mk.mono {F F':Nat->Prop} {w:World} {base mb ob f:Nat} {pv cv:Value} {ps:List PT} {rows:List (List (List Int))} {nx:List (List Int)} {sv nv kv:Value} {us ns ks:List Value} (h:Mk F w base mb ob f pv cv ps rows nx sv nv kv us ns ks) (hf:∀ x,x<w.heap.size->F x->F' x):Mk F' w base mb ob f pv cv ps rows nx sv nv kv us ns ks where
 blk:=h.blk
 map:=h.map
 fm:=hf _ h.blk.lt h.fm
 fo:=hf _ h.map.lt h.fo
 bm:=h.bm
 bo:=h.bo
 st:=h.st.mono hf
 Ve:=fun i u r hu hl=>by
  obtain⟨⟨vs,h1,h2⟩,h3⟩:=h.Ve i u r hu hl;exact⟨⟨vs,h1.mono hf,fun i u l hu hl=>(h2 i u l hu hl).mono hf⟩,h3⟩
 xj:=h.xj.mono hf
 Qt:=fun i u l hu hl=>(h.Qt i u l hu hl).mono hf
 wE:=h.wE.mono hf
 Qu:=fun i u l hu hl=>(h.Qu i u l hu hl).mono hf
 far:=h.far
theorem Mk.below {F:Nat->Prop} {w w':World} {base mb ob f:Nat} {pv cv:Value} {ps:List PT} {rows:List (List (List Int))} {nx:List (List Int)} {sv nv kv:Value} {us ns ks:List Value} (h:Mk F w base mb ob f pv cv ps rows nx sv nv kv us ns ks) (hk:Below w.heap.size w w'):Mk F w' base mb ob f pv cv ps rows nx sv nv kv us ns ks:=h.keeps (aa.ag hk fun _ h=>h:aa (· <w.heap.size) w w') fun _ h _=>h
def YG (F:Nat->Prop) (w:World) (base mb ob f:Nat) (pv cv:Value) (ps:List PT) (rows:List (List (List Int))) (nx:List (List Int)):Prop:=∃ sv nv kv us ns ks,Mk F w base mb ob f pv cv ps rows nx sv nv kv us ns ks
theorem vt {w:World} {base size n:Nat} {e:TypeId} {v:Value} {xs:List Value} (h:w.ownsRow base e size v n xs) {b:Nat} {o:Obj} (hb:w.heap[b]? =some o) (ho:∀ c fz,o≠ .cells c e fz):∀ x,v.ownBlock=some x->x≠b:=fun x hx e2=>by
 subst e2;rcases h.2 with⟨rfl,_⟩ | ⟨g,c,cur,rfl,_,hg,_⟩
 ·cases hx
 ·have:g=x:=by simpa[Value.ownBlock]using hx
  subst this;rw[hb]at hg;exact ho _ _ (Option.some.inj hg)
theorem Fe (base:Nat) (v:Value) (n:Nat) (l:List Int) (w:World) (ho:w.ownsRow base 3 1 v n (l.map aS)) (hn:n<=1000000): Calls Tryz.prog 141 #[v] w fun e w'=>∃ u,e=.returned u/\w'.ownsRow base 3 1 u (Lib.compact l).length ((Lib.compact l).map aS)/\aa (fun x=>x<w.heap.size/\v.ownBlock≠some x) w w'/\ ((v=.slice none 0 0/\u=.slice none 0 0)\/∃ g cap,v=.slice (some ⟨g,0,none⟩) n cap/\u=.slice (some ⟨g,0,none⟩) (Lib.compact l).length cap):=by
 have hl:l.length=n:=by have:=ho.1;simpa using this
 rcases ho.2 with⟨rfl,rfl⟩ | ⟨g,cap,cur,rfl,hbg,hg,hnc,hcm,_⟩
 ·have hl0:l=[]:=List.eq_nil_of_length_eq_zero hl
  subst hl0;exact(Any.slices_Compact_int_empty Tryz.Hu none 0 w).mono fun e w' ⟨he,hw⟩=>⟨_,he,by rw[hw];exact ho,by rw[hw];exact aa.refl _ _,.inl ⟨rfl,rfl⟩⟩
 ·have hc:∀ j,j<l.length->w.cell? ⟨g,0+j,none⟩=some (.int .i64 (l.getD j 0)):=fun j hj=>by
   rw[Nat.zero_add,ho.cellAt j (by omega),List.getElem?_map,List.getElem?_eq_getElem hj];simp[aS,hj]
  have:=Any.slices_Compact_int_cells Tryz.Hu g 0 n cap l w (by omega) (by omega) hnc hc (fun j _=>ho.frozenAt _);rw[List.take_of_length_le (by omega)]at this;refine this.mono fun e w' ⟨he,q,hw⟩=>⟨_,he,?_⟩
  have hle:=Lib.compact_length_le l;have hd:(w.drewN q).ownsRow base 3 1 (.slice (some ⟨g,0,none⟩) n cap) n (l.map aS):=ho;obtain⟨a1,a2⟩:=rM hd (ys:=(Lib.compact l++List.replicate (n-(Lib.compact l).length) 0).map (Value.int .i64)) (by rw[List.length_map,List.length_append,List.length_replicate];omega);have hd2:aa (· ≠g) w (w.drewN q):=⟨rfl,rfl,rfl,Nat.le_refl _,fun _ _=>rfl⟩;rw[hw];refine⟨?_,(hd2.tr a2).mono fun x hx e=>hx.2 (by rw[e];rfl),.inr ⟨g,cap,rfl,rfl⟩⟩;have:=Hv a1 (m:=(Lib.compact l).length) (by omega);have e:List.take (Lib.compact l).length ((Lib.compact l++List.replicate (n-(Lib.compact l).length) 0).map (Value.int .i64))=(Lib.compact l).map aS:=by rw[List.map_append,List.take_left' (by rw[List.length_map])];rfl
  rw[e]at this;exact this
structure Aq (n9 base n cn:Nat) (kv cu:Value) (ks cx:List Value) (A B:World):Prop where
 keep:aa (fun x=>x<n9/\x<A.heap.size/\kv.ownBlock≠some x) A B
 old:A.ownsRow base 47 1 kv n ks->B.ownsRow base 47 1 kv n ks
 com:A.ownsRow n9 3 1 cu cn cx->B.ownsRow n9 3 1 cu cn cx
 box:∀ b,n9<=b->ah A b #[cu] 47->ah B b #[cu] 47
 new:∀ v,A.ownsRow base 47 1 v (n+1) (ks++ [cu])->B.ownsRow base 47 1 v (n+1) (ks++ [cu])
section
variable {n9 base n cn:Nat} {kv cu:Value} {ks cx:List Value} {A B C:World}
theorem Aq.trans (h:Aq n9 base n cn kv cu ks cx A B) (k:Aq n9 base n cn kv cu ks cx B C):Aq n9 base n cn kv cu ks cx A C:=
 ⟨h.keep.trans k.keep fun _ hx=>⟨hx.1,Nat.lt_of_lt_of_le hx.2.1 h.keep.size,hx.2.2⟩,fun a=>k.old (h.old a),fun a=>k.com (h.com a),fun b hb a=>k.box b hb (h.box b hb a),fun v a=>k.new v (h.new v a)⟩
theorem Aq.below (h:Below A.heap.size A B):Aq n9 base n cn kv cu ks cx A B:=
 ⟨aa.ag h fun _ hx=>hx.2.1,fun a=>aq a h,fun a=>aq a h,fun _ _ a=>a.below h a.lt,fun _ a=>aq a h⟩
theorem Aq.drew:Aq n9 base n cn kv cu ks cx A A.drew:=.below (Ext.refl A).drew.below
theorem Aq.size (h:Aq n9 base n cn kv cu ks cx A B):A.heap.size<=B.heap.size:=h.keep.size
theorem Aq.compact {am:Nat} {mv:Value} {l:List Int} (ho:A.ownsRow n9 3 1 mv am (l.map aS)) (hb:aa (fun x=>x<A.heap.size/\mv.ownBlock≠some x) A B) (hc:B.ownsRow n9 3 1 cu cn cx):Aq n9 base n cn kv cu ks cx A B where
 keep:=hb.mono fun x hx=>⟨hx.2.1,fun e=>by have:=(ho.lt x e).1;omega⟩
 old:=fun a=>aj a hb fun x hx=>⟨(a.lt x hx).2,fun e=>by
  rcases ownBlock_ne (by decide) a ho with h | h
  ·rw[h]at hx;cases hx
  ·exact h (by rw[hx,e])⟩
 com:=fun _=>hc
 box:=fun b _ a=>a.keeps hb ⟨a.lt,fun e=>dA a ho (by decide) b e rfl⟩
 new:=fun v a=>aj a hb fun x hx=>⟨(a.lt x hx).2,fun e=>by
  rcases ownBlock_ne (by decide) a ho with h | h
  ·rw[h]at hx;cases hx
  ·exact h (by rw[hx,e])⟩
theorem Aq.append {v:Value} (hk:A.ownsRow base 47 1 kv n ks) (WR:∀ x,kv.ownBlock=some x->x<n9) (ho:B.ownsRow base 47 1 v (n+1) (ks++ [cu])) (hg:A.grownBy B kv.ownBlock) (lY:Below A.heap.size A B\/∃ g cap,kv=.slice (some ⟨g,0,none⟩) n cap/\v=.slice (some ⟨g,0,none⟩) (n+1) cap/\n+1<=cap):Aq n9 base n cn kv cu ks cx A B:=by
 rcases lY with h | ⟨g,cap,e1,e2,_⟩
 ·exact .below h
 ·have hkx:ks.length=n*1:=hk.1
  refine⟨aa.bG hg fun x hx=>⟨hx.2.1,fun e=>hx.2.2 e.symm⟩,fun _=>?_,fun a=>a.kept hg ?_,fun b hb a=>a.grown hg fun e=>?_,fun v' a=>?_⟩
  ·rw[e1];rw[e2]at ho;exact pL hkx ho
  ·exact ownBlock_ne (by decide) a hk
  ·have:=WR b e.symm;omega
  ·by_cases eb:v'.ownBlock=some g
   ·obtain⟨c1,f1,f2,_,_⟩:=iM (by decide) a hk eb (by rw[e1];rfl)
    rw[e1]at f2;cases f2;rw[f1];rw[e2]at ho;exact ho
   ·refine a.kept hg (.inr fun e=>eb ?_)
    rw[e,e1];rfl
end
def zo.com (n9 base n cn:Nat) (kv cu:Value) (ks cx:List Value):aH (Aq n9 base n cn kv cu ks cx):=⟨fun v=>v=cu,fun _ W=>W.ownsRow n9 3 1 cu cn cx,cu,rfl,fun _ _ _ hm _ h=>hm.com h⟩
def zo.box (n9 base n cn:Nat) (kv cu:Value) (ks cx:List Value):aH (Aq n9 base n cn kv cu ks cx) where
 P:=fun v=>∃ b,n9<=b/\v=.slice (some ⟨b,0,none⟩) 1 1
 H:=fun v W=>∀ b,v=.slice (some ⟨b,0,none⟩) 1 1->ah W b #[cu] 47
 oI:=.slice (some ⟨n9,0,none⟩) 1 1
 pw:=⟨n9,Nat.le_refl _,rfl⟩
 st:=fun v _ _ hm ⟨b,hb,e⟩ h b' e'=>by
  rw[e]at e';cases e';exact hm.box _ hb (h _ e)
def zo.new (n9 base n cn:Nat) (kv cu:Value) (ks cx:List Value):aH (Aq n9 base n cn kv cu ks cx) where
 P:=fun v=>∃ a c,v=.slice a (n+1) c
 H:=fun v W=>W.ownsRow base 47 1 v (n+1) (ks++ [cu])/\(v.ownBlock=kv.ownBlock\/∀ x,v.ownBlock=some x->n9<=x)
 oI:=.slice none (n+1) 0
 pw:=⟨none,0,rfl⟩
 st:=fun v _ _ hm _ h=>⟨hm.new v h.1,h.2⟩
theorem A9 {am:Nat} {ma:Option Addr} {mc:Nat} {l:List Int} {u:Value} (hl:l.length=am) (h:((Value.slice ma am mc)=.slice none 0 0/\u=.slice none 0 0)\/∃ g cap,(Value.slice ma am mc)=.slice (some ⟨g,0,none⟩) am cap/\u=.slice (some ⟨g,0,none⟩) (Lib.compact l).length cap):u=.slice ma (Lib.compact l).length mc:=by
 rcases h with⟨e,rfl⟩ | ⟨g,cap,e,rfl⟩
 ·cases e
  have hn:l=[]:=List.eq_nil_of_length_eq_zero hl;subst hn;rfl
 ·cases e
  rfl
theorem nO {P:Program} {Cl:FuncId->Array Value->World->(Ending->World->Prop)->Prop} {Rd:Nat->FuncId->Array Value->Code->Code->World->(Ending->World->Prop)->Prop} {o:Oper} {a:Act} {W:World} {post:Value->World->Prop} (s x:Operand) (t:TypeId) (ho:o.op=.call {callee:=.builtin .append,args:= #[s,x],argTypes:= #[t,t]}) (base:Nat) (e:TypeId) (i:TypeInfo) (z:Value) (size bytes:Nat) (ht:P.underlying t=some (.slice e)) (hi:P.info? e=some i) (hz:i.zero=some z) (hsize:i.size=size) (hby:i.bytes=bytes) (hzs:z.cells.size=size) (hsz:0<size) (v:Value) (k:Nat) (xs:List Value) (hs:a.eval s=v) (hown:W.ownsRow base e size v k xs) (ad:Addr) (m c:Nat) (news:List Value) (hx:a.eval x=.slice (some ad) m c) (hnews:∀ j u,news[j]? =some u->W.cell? (ad.add j)=some u) (hl:news.length=m*size) (h1:∀ u∈news,u.oneCell'=true) (h63:k+m<=maxLen) (hbytes:(k+m)*bytes<=140737488355328) (hbase:base<=W.heap.size) (hm:0<m) (h:∀ v' w',w'.ownsRow base e size v' (k+m) (xs++news)->W.grownBy w' v.ownBlock->((Below W.heap.size W w'/\v'.ownBlock=some W.heap.size)\/∃ g cap,v=.slice (some ⟨g,0,none⟩) k cap/\v'=.slice (some ⟨g,0,none⟩) (k+m) cap/\k+m<=cap)->post v' w'): kj Cl Rd post ((execOp a.eval o).run P W):=by
 obtain⟨v',w',hr,h2,h3⟩:=iK (P:=P) W base t o.type e i z size bytes ht hi hz hsize hby hzs hsz v k xs hown ad m c news hl hnews h1 h63 hbytes hbase hm;obtain⟨v'',w'',wR,h2',h3'⟩:=ky (P:=P) W base t o.type e i z size bytes ht hi hz hsize hby hzs hsz v k xs hown (.slice (some ad) m c) m news (.inr ⟨_,_,rfl,hnews⟩) hl h1 h63 hbytes hbase;rw[hr]at wR;cases wR;unfold execOp;simp only[ho,resolve,invoke,builtin,Sem.run_bind,Sem.run_pure,Result.andThen_ok,List.map_toArray,List.map_cons,List.map_nil,hs,hx,hr];refine h v' w' h2 h3' ?_;rcases h3 with⟨g,cap,cur,e1,e2,e3,e4,e5,_⟩ | ⟨hb,e⟩
 ·exact .inr ⟨g,cap,e1,e5,by first | exact e3 | exact e4⟩
 ·exact .inl ⟨hb,e⟩
theorem Io {wm wg:World} {ob mb base L:Nat} {rows:List (List (List Int))} {cs:Array Value} {sv kv:Value} {us ks:List Value} (hm:nL wm ob rows) (hb:ah wm mb cs 147) (hs:wm.ownsRow base 26 1 sv L us) (hk:wm.ownsRow base 47 1 kv L ks) (K:aa (fun x=>x<wm.heap.size/\x≠ob/\x≠mb/\sv.ownBlock≠some x/\kv.ownBlock≠some x) wm wg) {b n:Nat} {e:TypeId} {v:Value} {xs:List Value} (h:wm.ownsRow b e 1 v n xs) (h1:147≠e) (h2:e≠26) (h3:e≠47\/mH v kv):wg.ownsRow b e 1 v n xs:=
 aj h K fun x hx=>⟨(h.lt x hx).2,vt h hm (fun c fz e=>by cases e) x hx,dA hb h h1 x hx,fun e2=>by
  rcases ownBlock_ne h2 h hs with h5 | h5
  ·rw[h5]at hx;cases hx
  ·exact h5 (by rw[hx,e2]),fun e2=>by
  rcases h3 with h3 | h3
  ·rcases ownBlock_ne h3 h hk with h5 | h5
   ·rw[h5]at hx;cases hx
   ·exact h5 (by rw[hx,e2])
  ·rcases h3 with h5 | h5
   ·rw[h5]at hx;cases hx
   ·exact h5 (by rw[hx,e2])⟩
theorem Mk.more {F:Nat->Prop} {wm wg:World} {base mb ob f cn L:Nat} {pv cv:Value} {ps:List PT} {rows:List (List (List Int))} {nx:List (List Int)} {sv nv kv sv' kv' lv cu:Value} {us ns ks cx:List Value} {r:List (List Int)} (M:Mk F wm base mb ob f pv cv ps rows nx sv nv kv us ns ks) (hL:L=rows.length) (K:aa (fun x=>x<wm.heap.size/\x≠ob/\x≠mb/\sv.ownBlock≠some x/\kv.ownBlock≠some x) wm wg) (hblk:ah wg mb #[pv,.int .i64 f,sv',.map (some ob),cv,nv,kv'] 147) (hmap:nL wg ob (rows++ [r])) (hst:jd F wg base 26 sv' (L+1) (us++ [lv])) (hlv:OY F wg base lv r) (Oc:mH lv nv) (hf2:mH lv kv') (Ip:jd F wg base 47 kv' (L+1) (ks++ [cu])) (hcu:jd F wg base 3 cu cn cx) (hcn:cn=(ej ps r).length) (Rg:cx=(ej ps r).map aS) (hkf:∀ v,(∀ x,v.ownBlock=some x->x<wm.heap.size)->mH v kv->mH v kv'):Mk F wg base mb ob f pv cv ps (rows++ [r]) nx sv' nv kv' (us++ [lv]) ns (ks++ [cu]) where
 blk:=hblk
 map:=hmap
 fm:=M.fm
 fo:=M.fo
 bm:=M.bm
 bo:=M.bo
 st:=by rw[List.length_append, <-hL];exact hst
 Ve:=fun i u q hu hq=>by
  have Vc:us.length=L:=by have:=M.st.1.1;omega
  by_cases hi:i<L
  ·rw[List.getElem?_append_left (by omega)]at hu hq
   obtain⟨⟨vs,h1,h2⟩,h3,h4⟩:=M.Ve i u q hu hq;exact⟨⟨vs,⟨Io M.map M.blk M.st.1 M.wE.1 K h1.1 (by decide) (by decide) (.inr h4),h1.2⟩,fun i u l hu hl=>⟨Io M.map M.blk M.st.1 M.wE.1 K (h2 i u l hu hl).1 (by decide) (by decide) (.inl (by decide)),(h2 i u l hu hl).2⟩⟩,h3,hkf u (fun x e=>(h1.1.lt x e).2) h4⟩
  ·have jK:=(List.getElem?_eq_some_iff.1 hu).1
   simp at jK;obtain rfl:i=L:=by omega
   rw[List.getElem?_append_right (by omega),Vc,Nat.sub_self]at hu;rw[List.getElem?_append_right (by omega), <-hL,Nat.sub_self]at hq;cases hu;cases hq;exact⟨hlv,Oc,hf2⟩
 xj:=⟨Io M.map M.blk M.st.1 M.wE.1 K M.xj.1 (by decide) (by decide) (.inr M.far),M.xj.2⟩
 Qt:=fun i u l hu hl=>⟨Io M.map M.blk M.st.1 M.wE.1 K (M.Qt i u l hu hl).1 (by decide) (by decide) (.inl (by decide)),(M.Qt i u l hu hl).2⟩
 wE:=by rw[List.length_append, <-hL];exact Ip
 Qu:=fun i u l hu hl=>by
  have Vc:ks.length=L:=by have:=M.wE.1.1;omega
  rw[List.map_append]at hl;by_cases hi:i<L
  ·rw[List.getElem?_append_left (by omega)]at hu
   rw[List.getElem?_append_left (by rw[List.length_map];omega)]at hl;exact⟨Io M.map M.blk M.st.1 M.wE.1 K (M.Qu i u l hu hl).1 (by decide) (by decide) (.inl (by decide)),(M.Qu i u l hu hl).2⟩
  ·have jK:=(List.getElem?_eq_some_iff.1 hu).1
   simp at jK;obtain rfl:i=L:=by omega
   rw[List.getElem?_append_right (by omega),Vc,Nat.sub_self]at hu;rw[List.getElem?_append_right (by rw[List.length_map];omega),List.length_map, <-hL,Nat.sub_self]at hl;cases hu;cases hl;rw[<-hcn, <-Rg];exact hcu
 far:=hkf nv (fun x e=>(M.xj.1.lt x e).2) M.far
structure sT (fv:Value) (n9 base n mb:Nat) (F:Nat->Prop) (S1 F1:List Value) (sx fx:Array Value) (A B:World):Prop where
 keep:aa (fun x=>x<n9/\x<A.heap.size/\¬F x) A B
 ns:∀ v,A.ownsRow base 59 4 v (n+1) S1->B.ownsRow base 59 4 v (n+1) S1
 nf:∀ v,A.ownsRow base 137 7 v (n+1) F1->B.ownsRow base 137 7 v (n+1) F1
 bs:∀ b,n9<=b->ah A b sx 59->ah B b sx 59
 bf:∀ b,n9<=b->ah A b fx 137->ah B b fx 137
 sto:∀ a c,ah A mb #[.slice a (n+1) c,fv] 135->ah B mb #[.slice a (n+1) c,fv] 135
section
variable {n9 base n mb:Nat} {F:Nat→Prop} {S1 F1 S0 F0:List Value} {sx fx:Array Value} {sv fv:Value} {A B C:World}
theorem sT.trans (h:sT fv n9 base n mb F S1 F1 sx fx A B) (k:sT fv n9 base n mb F S1 F1 sx fx B C):sT fv n9 base n mb F S1 F1 sx fx A C:=
 ⟨h.keep.trans k.keep fun _ hx=>⟨hx.1,Nat.lt_of_lt_of_le hx.2.1 h.keep.size,hx.2.2⟩,fun v a=>k.ns v (h.ns v a),fun v a=>k.nf v (h.nf v a),fun b hb a=>k.bs b hb (h.bs b hb a),fun b hb a=>k.bf b hb (h.bf b hb a),fun a c e=>k.sto a c (h.sto a c e)⟩
theorem sT.below (h:Below A.heap.size A B):sT fv n9 base n mb F S1 F1 sx fx A B:=
 ⟨aa.ag h fun _ hx=>hx.2.1,fun _ a=>aq a h,fun _ a=>aq a h,fun _ _ a=>a.below h a.lt,fun _ _ a=>a.below h a.lt,fun _ _ a=>a.below h a.lt⟩
theorem sT.drew:sT fv n9 base n mb F S1 F1 sx fx A A.drew:=.below (Ext.refl A).drew.below
theorem sT.size (h:sT fv n9 base n mb F S1 F1 sx fx A B):A.heap.size<=B.heap.size:=h.keep.size
theorem sT.apS {v:Value} (hk:A.ownsRow base 59 4 sv n S0) (WR:∀ x,sv.ownBlock=some x->x<n9/\F x) (hm:ah A mb #[sv,fv] 135) (ho:B.ownsRow base 59 4 v (n+1) S1) (hg:A.grownBy B sv.ownBlock) (lY:Below A.heap.size A B\/∃ g cap,sv=.slice (some ⟨g,0,none⟩) n cap/\v=.slice (some ⟨g,0,none⟩) (n+1) cap/\n+1<=cap):sT fv n9 base n mb F S1 F1 sx fx A B:=by
 rcases lY with h | ⟨g,cap,e1,e2,_⟩
 ·exact .below h
 ·have hne:mb≠g:=fun e=>dA hm hk (by decide) mb (by rw[e1,e];rfl) rfl
  refine⟨aa.bG hg fun x hx=>⟨hx.2.1,fun e=>hx.2.2 (WR x e.symm).2⟩,fun v' a=>?_,fun v' a=>a.kept hg (ownBlock_ne (by decide) a hk),fun b hb a=>a.grown hg fun e=>?_,fun b hb a=>a.grown hg fun e=>?_,fun a c e=>?_⟩
  ·by_cases eb:v'.ownBlock=some g
   ·obtain⟨c1,f1,f2,_,_⟩:=iM (by decide) a hk eb (by rw[e1];rfl)
    rw[e1]at f2;cases f2;rw[f1];rw[e2]at ho;exact ho
   ·refine a.kept hg (.inr fun e=>eb ?_)
    rw[e,e1];rfl
  ·have:=(WR b e.symm).1;omega
  ·have:=(WR b e.symm).1;omega
  ·exact e.grown hg fun e=>by rw[e1]at e;exact hne (Option.some.inj e)
theorem sT.apF {v:Value} (hk:A.ownsRow base 137 7 fv n F0) (WR:∀ x,fv.ownBlock=some x->x<n9/\F x) (hm:ah A mb #[sv,fv] 135) (ho:B.ownsRow base 137 7 v (n+1) F1) (hg:A.grownBy B fv.ownBlock) (lY:Below A.heap.size A B\/∃ g cap,fv=.slice (some ⟨g,0,none⟩) n cap/\v=.slice (some ⟨g,0,none⟩) (n+1) cap/\n+1<=cap):sT fv n9 base n mb F S1 F1 sx fx A B:=by
 rcases lY with h | ⟨g,cap,e1,e2,_⟩
 ·exact .below h
 ·have hne:mb≠g:=fun e=>dA hm hk (by decide) mb (by rw[e1,e];rfl) rfl
  refine⟨aa.bG hg fun x hx=>⟨hx.2.1,fun e=>hx.2.2 (WR x e.symm).2⟩,fun v' a=>a.kept hg (ownBlock_ne (by decide) a hk),fun v' a=>?_,fun b hb a=>a.grown hg fun e=>?_,fun b hb a=>a.grown hg fun e=>?_,fun a c e=>?_⟩
  ·by_cases eb:v'.ownBlock=some g
   ·obtain⟨c1,f1,f2,_,_⟩:=iM (by decide) a hk eb (by rw[e1];rfl)
    rw[e1]at f2;cases f2;rw[f1];rw[e2]at ho;exact ho
   ·refine a.kept hg (.inr fun e=>eb ?_)
    rw[e,e1];rfl
  ·have:=(WR b e.symm).1;omega
  ·have:=(WR b e.symm).1;omega
  ·exact e.grown hg fun e=>by rw[e1]at e;exact hne (Option.some.inj e)
theorem sT.store (v:Value) (hm:ah A mb #[sv,fv] 135) (hn:∃ a c,sv=.slice a n c) (hF:F mb) (xg:mb<n9):sT fv n9 base n mb F S1 F1 sx fx A (A.setCell ⟨mb,0,none⟩ v):=by have hk:aa (· ≠mb) A (A.setCell ⟨mb,0,none⟩ v):=(aa.refl (· ≠mb) A).setCell (fun h=>h rfl) _;refine⟨hk.mono fun x hx e=>hx.2.2 (by rw[e];exact hF),fun v a=>aj a hk fun x hx=>dA hm a (by decide) x hx,fun v a=>aj a hk fun x hx=>dA hm a (by decide) x hx,fun b hb a=>a.keeps hk (by omega),fun b hb a=>a.keeps hk (by omega),fun a c e=>?_⟩;obtain⟨a',c',rfl⟩:=hn;have h1:=hm.cell 0;have h2:=e.cell 0;rw[h1]at h2;simp at h2
def tS.box (fv:Value) (n9 base n mb:Nat) (F:Nat->Prop) (S1 F1:List Value) (sx fx:Array Value):aH (sT fv n9 base n mb F S1 F1 sx fx) where
 P:=fun v=>∃ b,n9<=b/\v=.slice (some ⟨b,0,none⟩) 1 1
 H:=fun v W=>∀ b,v=.slice (some ⟨b,0,none⟩) 1 1->ah W b sx 59
 oI:=.slice (some ⟨n9,0,none⟩) 1 1
 pw:=⟨n9,Nat.le_refl _,rfl⟩
 st:=fun v _ _ hm ⟨b,hb,e⟩ h b' e'=>by
  rw[e]at e';cases e';exact hm.bs _ hb (h _ e)
def tS.aeX (fv:Value) (n9 base n mb:Nat) (F:Nat->Prop) (S1 F1:List Value) (sx fx:Array Value):aH (sT fv n9 base n mb F S1 F1 sx fx) where
 P:=fun v=>∃ b,n9<=b/\v=.slice (some ⟨b,0,none⟩) 1 1
 H:=fun v W=>∀ b,v=.slice (some ⟨b,0,none⟩) 1 1->ah W b fx 137
 oI:=.slice (some ⟨n9,0,none⟩) 1 1
 pw:=⟨n9,Nat.le_refl _,rfl⟩
 st:=fun v _ _ hm ⟨b,hb,e⟩ h b' e'=>by
  rw[e]at e';cases e';exact hm.bf _ hb (h _ e)
def tS.aeY (fv:Value) (n9 base n mb:Nat) (F:Nat->Prop) (S1 F1:List Value) (sx fx:Array Value) (sv:Value):aH (sT fv n9 base n mb F S1 F1 sx fx) where
 P:=fun v=>∃ a c,v=.slice a (n+1) c
 H:=fun v W=>W.ownsRow base 59 4 v (n+1) S1/\(v.ownBlock=sv.ownBlock\/∀ x,v.ownBlock=some x->n9<=x)
 oI:=.slice none (n+1) 0
 pw:=⟨none,0,rfl⟩
 st:=fun v _ _ hm _ h=>⟨hm.ns v h.1,h.2⟩
def tS.aeZ (fv:Value) (n9 base n mb:Nat) (F:Nat->Prop) (S1 F1:List Value) (sx fx:Array Value):aH (sT fv n9 base n mb F S1 F1 sx fx) where
 P:=fun v=>∃ a c,v=.slice a (n+1) c
 H:=fun v W=>W.ownsRow base 137 7 v (n+1) F1/\(v.ownBlock=fv.ownBlock\/∀ x,v.ownBlock=some x->n9<=x)
 oI:=.slice none (n+1) 0
 pw:=⟨none,0,rfl⟩
 st:=fun v _ _ hm _ h=>⟨hm.nf v h.1,h.2⟩
def tS.sto (fv:Value) (n9 base n mb:Nat) (F:Nat->Prop) (S1 F1:List Value) (sx fx:Array Value) (sv:Value):aH (sT fv n9 base n mb F S1 F1 sx fx) where
 P:=fun _=>True
 H:=fun _ W=>∃ a c,ah W mb #[.slice a (n+1) c,fv] 135/\W.ownsRow base 59 4 (.slice a (n+1) c) (n+1) S1/\((Value.slice a (n+1) c).ownBlock=sv.ownBlock\/∀ x,(Value.slice a (n+1) c).ownBlock=some x->n9<=x)
 oI:=undef
 pw:=trivial
 st:=fun _ _ _ hm _ ⟨a,c,h1,h2,h3⟩=>⟨a,c,hm.sto a c h1,hm.ns _ h2,h3⟩
end
theorem Tr (x y:PB) (e:Bool) {p:Nat} (hp:p<448):(ax ⟨x,y,e⟩).setIfInBounds (0+p/64) (.int .u64 (kK (bW x) p (p/64)).toNat)=ax ⟨x ||| eZ p,y,e⟩:=by
 have h1:∀ j,bW (x ||| eZ p) j=kK (bW x) p j:=fun j=>Ta x hp j
 have h2:∀ j,j≠p/64->kK (bW x) p j=bW x j:=fun j hj=>by unfold kK;rw[if_neg hj]
 obtain⟨q,hq⟩:∃ q,q=p/64:=⟨_,rfl⟩;rw[<-hq]at h2 ⊢;obtain⟨v,hv⟩:∃ v,v=kK (bW x) p:=⟨_,rfl⟩;rw[<-hv]at h1 h2 ⊢;have SF:q<7:=by omega
 unfold ax;simp only[h1];have h7:q=0\/q=1\/q=2\/q=3\/q=4\/q=5\/q=6:=by omega
 rcases h7 with rfl | rfl | rfl | rfl | rfl | rfl | rfl
 ·rw[h2 1 (by decide),h2 2 (by decide),h2 3 (by decide),h2 4 (by decide),h2 5 (by decide),h2 6 (by decide)];rfl
 ·rw[h2 0 (by decide),h2 2 (by decide),h2 3 (by decide),h2 4 (by decide),h2 5 (by decide),h2 6 (by decide)];rfl
 ·rw[h2 0 (by decide),h2 1 (by decide),h2 3 (by decide),h2 4 (by decide),h2 5 (by decide),h2 6 (by decide)];rfl
 ·rw[h2 0 (by decide),h2 1 (by decide),h2 2 (by decide),h2 4 (by decide),h2 5 (by decide),h2 6 (by decide)];rfl
 ·rw[h2 0 (by decide),h2 1 (by decide),h2 2 (by decide),h2 3 (by decide),h2 5 (by decide),h2 6 (by decide)];rfl
 ·rw[h2 0 (by decide),h2 1 (by decide),h2 2 (by decide),h2 3 (by decide),h2 4 (by decide),h2 6 (by decide)];rfl
 ·rw[h2 0 (by decide),h2 1 (by decide),h2 2 (by decide),h2 3 (by decide),h2 4 (by decide),h2 5 (by decide)];rfl
theorem Ts (x y:PB) (e:Bool) {p:Nat} (hp:p<448):(ax ⟨x,y,e⟩).setIfInBounds (7+p/64) (.int .u64 (kK (bW y) p (p/64)).toNat)=ax ⟨x,y ||| eZ p,e⟩:=by
 have h1:∀ j,bW (y ||| eZ p) j=kK (bW y) p j:=fun j=>Ta y hp j
 have h2:∀ j,j≠p/64->kK (bW y) p j=bW y j:=fun j hj=>by unfold kK;rw[if_neg hj]
 obtain⟨q,hq⟩:∃ q,q=p/64:=⟨_,rfl⟩;rw[<-hq]at h2 ⊢;obtain⟨v,hv⟩:∃ v,v=kK (bW y) p:=⟨_,rfl⟩;rw[<-hv]at h1 h2 ⊢;have SF:q<7:=by omega
 unfold ax;simp only[h1];have h7:q=0\/q=1\/q=2\/q=3\/q=4\/q=5\/q=6:=by omega
 rcases h7 with rfl | rfl | rfl | rfl | rfl | rfl | rfl
 ·rw[h2 1 (by decide),h2 2 (by decide),h2 3 (by decide),h2 4 (by decide),h2 5 (by decide),h2 6 (by decide)];rfl
 ·rw[h2 0 (by decide),h2 2 (by decide),h2 3 (by decide),h2 4 (by decide),h2 5 (by decide),h2 6 (by decide)];rfl
 ·rw[h2 0 (by decide),h2 1 (by decide),h2 3 (by decide),h2 4 (by decide),h2 5 (by decide),h2 6 (by decide)];rfl
 ·rw[h2 0 (by decide),h2 1 (by decide),h2 2 (by decide),h2 4 (by decide),h2 5 (by decide),h2 6 (by decide)];rfl
 ·rw[h2 0 (by decide),h2 1 (by decide),h2 2 (by decide),h2 3 (by decide),h2 5 (by decide),h2 6 (by decide)];rfl
 ·rw[h2 0 (by decide),h2 1 (by decide),h2 2 (by decide),h2 3 (by decide),h2 4 (by decide),h2 6 (by decide)];rfl
 ·rw[h2 0 (by decide),h2 1 (by decide),h2 2 (by decide),h2 3 (by decide),h2 4 (by decide),h2 5 (by decide)];rfl
end Go.Proofs.YtalombmiochpmaaGreatDoor
