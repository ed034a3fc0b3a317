/- The law's awake. Printed by wip/gen/awk18.py. -/
import Derived.Test.YtbiboekhakbnpaaGreatDoorOF35
set_option maxRecDepth 100000
set_option maxHeartbeats 16000000
open Go.Lib (hid)
namespace Go.Proofs.YtbiboekhakbnpaaGreatDoor
open Go Go.RowKit Go.Shelf Go.Maps
def jn (w:World):List Value->List (List Int)->Prop
 | [],[]=>True
 | u::us,l::ll=>bg aF w u l/\jn w us ll
 | _,_=>False
theorem jn.len {w:World} :∀ {us:List Value} {ll:List (List Int)},jn w us ll->us.length=ll.length
 | [],[],_=>rfl
 | u::us,l::ll,h=>by simp only[List.length_cons];rw[jn.len h.2]
 | [],_::_,h=>h.elim
 | _::_,[],h=>h.elim
theorem jn.at {w:World} :∀ {us:List Value} {ll:List (List Int)},jn w us ll->∀ (i:Nat) (u:Value) (l:List Int),us[i]? =some u->ll[i]? =some l->bg aF w u l
 | [],[],_,i,u,l,hu,_=>by simp at hu
 | x::us,y::ll,h,i,u,l,hu,hl=>by
  cases i with
  | zero=>
   simp at hu hl;subst hu hl;exact h.1
  | succ i=>exact jn.at h.2 i u l (by simpa using hu) (by simpa using hl)
 | [],_::_,h,_,_,_,_,_=>h.elim
 | _::_,[],h,_,_,_,_,_=>h.elim
theorem QQ {w:World} {B n:Nat} {c:Array Value} {t:TypeId} (us:List Value) {ll:List (List Int)} (h:ak w B c t) (hc:c.toList=us) (hn:n=us.length) (hr:jn w us ll):lG w (.slice (some ⟨B,0,none⟩) n n) ll:=by subst hn;exact⟨us,hr.len,fA us h (by rw[hc];simp) rfl (Nat.le_refl _),hr.at⟩
theorem FT {w:World} {B n:Nat} {c:Array Value} {t:TypeId} (l:List BS) (h:ak w B c t) (hc:c.toList=aD l) (hn:n=l.length):mo w (.slice (some ⟨B,0,none⟩) n n) l:=⟨Ew l h hc hn,fun a n cap e=>by cases e;exact Nat.le_refl _⟩
theorem NG {w:World} {B n:Nat} {c:Array Value} {t:TypeId} (l:List Int) (h:ak w B c t) (hc:c.toList=l.map aF) (hn:n=l.length):bg aF w (.slice (some ⟨B,0,none⟩) n n) l:=by subst hn;exact fA l h hc rfl (Nat.le_refl _)
theorem QR {w:World} :bg aF w (.slice none 0 0) []:=.inl ⟨rfl,rfl⟩
attribute [local go_sem] encS
def DfT (n0 n1 n2:Nat) (code:Int) (d:DF) (e:Ending) (w':World):Prop:=∃ a0 c0 a1 c1 a2 c2,e=.returned (.tuple #[.agg #[.slice a0 n0 c0,.slice a1 n1 c1,.slice a2 n2 c2],.int .i64 code])/\gN w' (.agg #[.slice a0 n0 c0,.slice a1 n1 c1,.slice a2 n2 c2]) d
def NfT (base:Nat) (a:NF) (e:Ending) (w':World):Prop:=∃ a0 n0 c0 a1 n1 c1 a2 n2 c2 a3 n3 c3,e=.returned (.agg #[.slice a0 n0 c0,.slice a1 n1 c1,.slice a2 n2 c2,.slice a3 n3 c3,.bool false])/\dM base w' (.agg #[.slice a0 n0 c0,.slice a1 n1 c1,.slice a2 n2 c2,.slice a3 n3 c3,.bool false]) a
theorem uJ (l:List Nat) (h:l.length<=1000):vR (dt l):=by refine⟨by simp[dt];omega,by simp[dt];omega,by simp[dt],by simp[dt],fun r hr=>?_⟩;obtain⟨i,_,rfl⟩:=List.mem_map.1 hr;by_cases e:i+1<l.length<;>simp[e]
def FU:NF:=⟨[fh [97,98]],[[]],[0],[0],false⟩
theorem QS:vR FU:=⟨by decide,by decide,by decide,by decide,fun l hl=>by
 have:l=[]:=by simpa[FU]using hl
 subst this;decide⟩
theorem Hc {w:World} {b:Nat} {v0 v1 v2 v3:Value} {x:PT} {t:TypeId} (h:ak w b #[v0,v1,v2,v3,.bool x.nf.emp,.bool x.A0,.int .i64 x.mark] t) (hn:dO w (.agg #[v0,v1,v2,v3,.bool x.nf.emp]) x.nf):dh w (.slice (some ⟨b,0,none⟩) 1 1) [x]:=by
 obtain⟨h0,h1,h2,h3,h4,h5,h6⟩:=h.seven;refine .inr ⟨b,0,1,rfl,h.lt,fun i y hy=>?_⟩;cases i with
 | zero=>cases hy;exact⟨v0,v1,v2,v3,hn,h0,h1,h2,h3,h4,h5,h6⟩
 | succ i=>simp at hy
theorem QT {w:World} {b:Nat} {v0 v1 v2 v3 u0 u1 u2 u3:Value} {x y:PT} {t:TypeId} (h:ak w b #[v0,v1,v2,v3,.bool x.nf.emp,.bool x.A0,.int .i64 x.mark,u0,u1,u2,u3,.bool y.nf.emp,.bool y.A0,.int .i64 y.mark] t) (hn:dO w (.agg #[v0,v1,v2,v3,.bool x.nf.emp]) x.nf) (hm:dO w (.agg #[u0,u1,u2,u3,.bool y.nf.emp]) y.nf):dh w (.slice (some ⟨b,0,none⟩) 2 2) [x,y]:=by
 refine .inr ⟨b,0,2,rfl,h.lt,fun i z hz=>?_⟩;match i,hz with
 | 0,hz=>cases hz;exact⟨v0,v1,v2,v3,hn,h.cell 0,h.cell 1,h.cell 2,h.cell 3,h.cell 4,h.cell 5,h.cell 6⟩
 | 1,hz=>cases hz;exact⟨u0,u1,u2,u3,hm,h.cell 7,h.cell 8,h.cell 9,h.cell 10,h.cell 11,h.cell 12,h.cell 13⟩
 | i+2,hz=>simp at hz
theorem Hd (W:World):Calls Tryz.prog 36 #[.string ⟨#[97,98]⟩] W fun e w'=>NfT W.heap.size (dt [97,98]) e w'/\Below W.heap.size W w':=(uD ⟨#[97,98]⟩ [97,98] rfl (by decide) (by decide) (by decide) W).mono fun e w' ⟨u,he,hd,hx⟩=>by
 obtain⟨a0,n0,c0,a1,n1,c1,a2,n2,c2,a3,n3,c3,rfl⟩:=hd.form;exact⟨⟨_,_,_,_,_,_,_,_,_,_,_,_,he,hd⟩,hx⟩
theorem Vy (W:World):Calls Tryz.prog 36 #[.string ⟨#[97]⟩] W fun e w'=>NfT W.heap.size (dt [97]) e w'/\Below W.heap.size W w':=(uD ⟨#[97]⟩ [97] rfl (by decide) (by decide) (by decide) W).mono fun e w' ⟨u,he,hd,hx⟩=>by
 obtain⟨a0,n0,c0,a1,n1,c1,a2,n2,c2,a3,n3,c3,rfl⟩:=hd.form;exact⟨⟨_,_,_,_,_,_,_,_,_,_,_,_,he,hd⟩,hx⟩
theorem He {ps:List PT} {f:Int} {d:DF} (he:fJ ps f=(d,0)) (sm:∀ x∈ps,vR x.nf) {n0 n1 n2:Nat} (h0:d.cl.length=n0) (h1:d.nx.length=n1) (h2:d.mr.length=n2) (W:World) (v:Value) (h:dh W v ps) (hT:∀ V,Below W.heap.size W V->gO V): Calls Tryz.prog 11 #[v,.int .i64 f] W fun e w'=>(DfT n0 n1 n2 0 d e w'/\∃ u,e=.returned (.tuple #[u,.int .i64 0])/\aP W.heap.size w' u d)/\Below W.heap.size W w':=(mL v ps f W h sm hT).mono fun e w' ⟨u,hr,hd,hx⟩=>by
 rw[he]at hr hd;have hd':=hd;obtain⟨a0,c0,a1,c1,a2,c2,rfl⟩:=hd.form;replace hd:aP W.heap.size w' (.agg #[.slice a0 d.cl.length c0,.slice a1 d.nx.length c1,.slice a2 d.mr.length c2]) d:=hd;replace hr:e=.returned (.tuple #[.agg #[.slice a0 d.cl.length c0,.slice a1 d.nx.length c1,.slice a2 d.mr.length c2],.int .i64 0]):=hr;refine⟨⟨?_,_,hr,hd⟩,hx⟩;rw[h0,h1,h2]at hr hd;exact⟨_,_,_,_,_,_,hr,hd.df⟩
theorem NH:∀ x∈SN,vR x.nf:=fun x hx=>by
 have:x=⟨dt [97,98],false,5⟩:=by simpa[SN]using hx
 subst this;exact uJ _ (by decide)
theorem QU:∀ x∈Nq,vR x.nf:=fun x hx=>by
 have:x=⟨dt [97,98],true,0⟩:=by simpa[Nq]using hx
 subst this;exact uJ _ (by decide)
theorem QV:∀ x∈Nr,vR x.nf:=fun x hx=>by
 have h:x=⟨dt [97],false,0⟩\/x=⟨FU,false,7⟩:=by simpa[Nr,FU]using hx
 rcases h with rfl | rfl
 ·exact uJ _ (by decide)
 ·exact QS
theorem Vz (W:World) (v:Value) (h:dh W v SN) (hT:∀ V,Below W.heap.size W V->gO V):Calls Tryz.prog 11 #[v,.int .i64 2] W fun e w'=>(∃ a0 n0 c0 a1 n1 c1 a2 n2 c2,e=.returned (.tuple #[.agg #[.slice a0 n0 c0,.slice a1 n1 c1,.slice a2 n2 c2],.int .i64 181]))/\Below W.heap.size W w':=(mL v SN 2 W h NH hT).mono fun e w' ⟨u,hr,hd,hx⟩=>by
 obtain⟨a0,c0,a1,c1,a2,c2,rfl⟩:=hd.form;rw[Vd]at hr;exact⟨⟨_,_,_,_,_,_,_,_,_,hr⟩,hx⟩
theorem FV:Rt Ns:=gi G9
theorem Hf:Rt zb:=gi Nu
theorem uK {d:DF} (rt:Rt d) {b:List Nat} {l:List Int} (hl:d.mr.getD (cA d 0 b) []=l) (hb:∀ c∈b,c<256) (hn:b.length<=1000000) (W:World) (v bv:Value) (h:gN W v d) (h':bg en W bv b):Calls Tryz.prog 13 #[v,bv] W fun e w'=>(∃ a c,e=.returned (.tuple #[.slice a l.length c,.int .i64 0])/\bg aF w' (.slice a l.length c) l)/\Below W.heap.size W w':=(fI v bv d rt rt.Ui b hb hn W h h').mono fun e w' ⟨u,he,ho,hx⟩=>by
 rw[hl]at ho;obtain⟨a,c,rfl⟩:=ownsRow_form ho;exact⟨⟨a,c,he,cH ho rfl⟩,hx⟩
theorem CV {d:DF} (rt:Rt d) {b:List Nat} {n m:Int} (hf:gK d b (n,m,true)) (hb:∀ c∈b,c<256) (hn:b.length<=1000000) (W:World) (v bv:Value) (h:gN W v d) (h':bg en W bv b):Calls Tryz.prog 12 #[v,bv] W fun e w'=>e=.returned (.tuple #[.int .i64 n,.int .i64 m,.bool true,.int .i64 0])/\Below W.heap.size W w':=(y9 v bv d rt rt.Ui b hb hn W h h').mono fun e w' ⟨r,h1,he,hx⟩=>by
 rw[gK.uniq h1 hf]at he;exact⟨he,hx⟩
theorem CX {l:List Int} (hn:l.length<=1000000) (W:World) (u v:Value) (h:bg aF W u l) (h':bg aF W v l):Calls Tryz.prog 16 #[u,v] W fun e w'=>e=.returned (.bool true)/\Below W.heap.size W w':=(jg u v l l W h h' hn).mono fun e w' ⟨he,hx⟩=>by
 rw[beq_self_eq_true]at he;exact⟨he,hx.below⟩
theorem QW (w:World) (o:Obj) (C:Array Value) (n c:Nat):(convert 23 23 (.slice (some ⟨w.heap.size+1,0,none⟩) n c)).run Tryz.prog ((w.alloc o).alloc (.cells C 5))=.ok (.slice (some ⟨w.heap.size+1,0,none⟩) n c) ((w.alloc o).alloc (.cells C 5 (C.size,C.size+1))):=by
 have h:=Lib.run_convert_bytes_const (P:=Tryz.prog) (w.alloc o) 23 5 C n c Tryz.underlying23 Tryz.underlying5;have e:(w.alloc o).heap.size=w.heap.size+1:=by simp
 rw[e]at h;exact h
def xH (base:Nat) (d:DF) (W:World) (b:Nat):Prop:=∃ a0 c0 a1 c1 a2 c2,ak W b #[.slice a0 d.cl.length c0,.slice a1 d.nx.length c1,.slice a2 d.mr.length c2] 31/\aP base W (.agg #[.slice a0 d.cl.length c0,.slice a1 d.nx.length c1,.slice a2 d.mr.length c2]) d
structure cD (w0:World) (d:DF) (A B:World):Prop where
 keeps:aa (· <w0.heap.size) A B
 other:∀ b,b<A.heap.size->(∀ c,¬ak A b c 31)->B.heap[b]? =A.heap[b]?
 old:∀ b,w0.heap.size<=b->(∃ c,ak A b c 31/\c.size=3)->∃ c,ak B b c 31/\c.size=3
 new:∀ b,w0.heap.size<=b->xH w0.heap.size d A b->xH w0.heap.size d B b
section
variable {w0:World} {d:DF} {A B C:World}
theorem cD.far (h:cD w0 d A B):aa (fun b=>b<A.heap.size/\∀ c,¬ak A b c 31) A B:=⟨h.keeps.os,h.keeps.tape,h.keeps.output,h.keeps.size,fun b hb=>h.other b hb.1 hb.2⟩
theorem cD.size (h:cD w0 d A B):A.heap.size<=B.heap.size:=h.keeps.size
theorem cD.trans (h:cD w0 d A B) (k:cD w0 d B C):cD w0 d A C:=
 ⟨h.keeps.tr k.keeps,fun b hb hc=>(k.other b (Nat.lt_of_lt_of_le hb h.size) fun c hB=>hc c ((h.other b hb hc).symm.trans hB)).trans (h.other b hb hc),fun b hb hx=>k.old b hb (h.old b hb hx),fun b hb hx=>k.new b hb (h.new b hb hx)⟩
theorem cD.below (h:Below A.heap.size A B) (hs:w0.heap.size<=A.heap.size):cD w0 d A B:=
 ⟨aa.ah h fun _ hk=>Nat.lt_of_lt_of_le hk hs,fun b hb _=>h.block b hb,fun _ _ ⟨c,hc,he⟩=>⟨c,hc.below h hc.lt,he⟩,fun _ _ ⟨a0,c0,a1,c1,a2,c2,h1,h2⟩=>⟨a0,c0,a1,c1,a2,c2,h1.below h h1.lt,h2.below h⟩⟩
theorem cD.drew:cD w0 d w0 w0.drew:=.below (Ext.refl w0).drew.below (Nat.le_refl _)
theorem cD.row (h:cD w0 d A B) {base size n:Nat} {e:TypeId} {v:Value} {xs:List Value} (ho:A.ownsRow base e size v n xs) (he:31≠e):B.ownsRow base e size v n xs:=
 ae ho h.far fun x hx=>⟨(ho.lt x hx).2,fun _ hc=>bI hc ho he x hx rfl⟩
theorem cD.ll (h:cD w0 d A B) {base:Nat} {v:Value} {ll:List (List Int)} (ho:aC base A v ll):aC base B v ll:=by obtain⟨us,e,o1,o2⟩:=ho;exact⟨us,e,h.row o1 (by decide),fun i u l hu hl=>h.row (o2 i u l hu hl) (by decide)⟩
theorem cD.nf (h:cD w0 d A B) {base:Nat} {v:Value} {a:NF} (ho:dM base A v a):dM base B v a:=by obtain⟨v0,v1,v2,v3,e,o0,o1,o2,o3⟩:=ho;exact⟨v0,v1,v2,v3,e,h.row o0 (by decide),h.ll o1,h.row o2 (by decide),h.row o3 (by decide)⟩
theorem cD.df (h:cD w0 d A B) {base:Nat} {v:Value} {a:DF} (ho:aP base A v a):aP base B v a:=by obtain⟨v0,v1,v2,e,o0,o1,o2⟩:=ho;exact⟨v0,v1,v2,e,h.row o0 (by decide),h.ll o1,h.ll o2⟩
theorem cD.blk (h:cD w0 d A B) {b:Nat} {c:Array Value} {t:TypeId} (hb:ak A b c t) (ht:t≠31):ak B b c t:=
 hb.keeps h.far ⟨hb.lt,fun _ hc'=>T6 hb hc' ht rfl⟩
theorem cD.store {b:Nat} {c:Array Value} (hb:w0.heap.size<=b) (hB:ak A b c 31) (hk:aa (· ≠b) A B) (hn:xH w0.heap.size d B b):cD w0 d A B:=by
 have hn':=hn;refine⟨hk.mono fun x (hx:x<w0.heap.size)=>by show x≠b;omega,fun x _ hc=>hk.keep x fun e=>hc c (e▸hB),fun x _ ⟨c',hc',he⟩=>?_,fun x _ hx=>?_⟩
 ·by_cases e:x=b
  ·subst e
   obtain⟨a0,c0,a1,c1,a2,c2,h1,h2⟩:=hn;exact⟨_,h1,rfl⟩
  ·exact⟨c',hc'.keeps hk e,he⟩
 ·by_cases e:x=b
  ·subst e;exact hn
  ·obtain⟨a0,c0,a1,c1,a2,c2,h1,h2⟩:=hx
   exact⟨a0,c0,a1,c1,a2,c2,h1.keeps hk e,h2.past hB (by decide) (by decide) (by decide) hk⟩
end
namespace EffS
def nf (w0:World) (d:DF) (a:NF):RegG.aO (cD w0 d) where
 P:=fun v=>∃ a0 n0 c0 a1 n1 c1 a2 n2 c2 a3 n3 c3,v=.agg #[.slice a0 n0 c0,.slice a1 n1 c1,.slice a2 n2 c2,.slice a3 n3 c3,.bool false]
 H:=fun _ v W=>dM w0.heap.size W v a
 jX:=.agg #[.slice none 0 0,.slice none 0 0,.slice none 0 0,.slice none 0 0,.bool false]
 pw:=⟨none,0,0,none,0,0,none,0,0,none,0,0,rfl⟩
 st:=fun _ _ _ _ hm _ h=>hm.nf h
def lit (w0:World) (d:DF) (a:NF) (z0 z1 z2 z3:Value):RegG.aO (cD w0 d) where
 P:=fun v=>∃ b,v=.slice (some ⟨b,0,none⟩) 2 2
 H:=fun _ v W=>∀ b,v=.slice (some ⟨b,0,none⟩) 2 2->∃ y0 y1 y2 y3,ak W b #[y0,y1,y2,y3,.bool false,.bool false,.int .i64 0,z0,z1,z2,z3,.bool false,.bool false,.int .i64 7] 46/\dM w0.heap.size W (.agg #[y0,y1,y2,y3,.bool false]) a
 jX:=.slice (some ⟨0,0,none⟩) 2 2
 pw:=⟨_,rfl⟩
 st:=fun _ _ _ _ hm _ h b e=>by
  obtain⟨y0,y1,y2,y3,h1,h2⟩:=h b e;exact⟨y0,y1,y2,y3,hm.blk h1 (by decide),hm.nf h2⟩
def ofD (w0:World) (d:DF) (n0 n1 n2:Nat):RegG.aO (cD w0 d) where
 P:=fun v=>∃ a0 c0 a1 c1 a2 c2,v=.tuple #[.agg #[.slice a0 n0 c0,.slice a1 n1 c1,.slice a2 n2 c2],.int .i64 0]
 H:=fun _ v W=>∀ u,v=.tuple #[u,.int .i64 0]->aP w0.heap.size W u d
 jX:=.tuple #[.agg #[.slice none n0 0,.slice none n1 0,.slice none n2 0],.int .i64 0]
 pw:=⟨none,0,none,0,none,0,rfl⟩
 st:=fun _ _ _ _ hm _ h u e=>hm.df (h u e)
def alloc (w0:World) (d:DF):RegG.aO (cD w0 d) where
 P:=fun v=>∃ b,w0.heap.size<=b/\v=.pointer (some ⟨b,0,none⟩)
 H:=fun _ v W=>∀ b,v=.pointer (some ⟨b,0,none⟩)->w0.heap.size<=b/\∃ c,ak W b c 31/\c.size=3
 jX:=.pointer (some ⟨w0.heap.size,0,none⟩)
 pw:=⟨_,Nat.le_refl _,rfl⟩
 st:=fun _ _ _ _ hm _ h b e=>⟨(h b e).1,hm.old b (h b e).1 (h b e).2⟩
def store (w0:World) (d:DF):RegG.aO (cD w0 d) where
 P:=fun _=>True
 H:=fun y _ W=>∀ b,y=.pointer (some ⟨b,0,none⟩)->w0.heap.size<=b->xH w0.heap.size d W b
 jX:=undef
 pw:=trivial
 st:=fun _ _ _ _ hm _ h b e hb=>hm.new b hb (h b e hb)
end EffS
end Go.Proofs.YtbiboekhakbnpaaGreatDoor
namespace Go.Proofs.YtbiboekhakbnpaaGreatDoor
open Go Go.RowKit Go.Shelf Go.Maps
attribute [local go_sem] encS
theorem lY (w:World) (hT:∀ W,Below w.heap.size w W->gO W): Calls Tryz.prog 9 #[] w fun e w'=>e=.returned (.bool true)/\Below w.heap.size w w':=by
 have HT:=hid hT;clear hT;have TT:Hid (∀ A,Below w.heap.size w A->∀ V,Below A.heap.size A V->gO V):=hid fun A hA V hV=>HT.out V (hA.trans (hV.mono hA.size))
 obtain⟨sab,VA⟩:∃ s,s=fh [97,98]:=⟨_,rfl⟩;have C1:Hid (∀ W,Calls Tryz.prog 37 #[.string ⟨#[97,98]⟩] W fun e w'=>e=.returned (.agg (encS sab))/\Below W.heap.size W w'):=hid fun W=>by rw[VA];exact xi ⟨#[97,98]⟩ [97,98] rfl (by decide) W
 have aeN:=hid VA;have kc:=fun (w:World) (C:Array Value) (n c:Nat)=>Lib.run_convert_bytes_const (P:=Tryz.prog) w 23 5 C n c Tryz.underlying23 Tryz.underlying5
 have kc1:=fun (w:World) (o:Obj) (C:Array Value) (n c:Nat)=>QW w o C n c
 clear VA HT;go_enter Tryz.func9,Tryz.ntmps9;go_wp2_with fail
 refine(Hd w).mono ?_;rintro e w1 ⟨⟨J6,J7,J8,J9,Ka,Kb,Kc,Kd,Ke,Kf,Kg,Kh,rfl,hd⟩,hx⟩;have X:=hid hx;have NW:=hid hd;clear hd hx;go_wp2_with fail
 refine aw ?_;intro V1 hV;have hb:Below w1.heap.size w1 V1:=by rw[hV];exact((Ext.refl w1).alloc _).below
 have BP:Hid (ak V1 w1.heap.size #[.slice J6 J7 J8,.slice J9 Ka Kb,.slice Kc Kd Ke,.slice Kf Kg Kh,.bool false,.bool false,.int .i64 5] 46):=hid (by rw[hV];exact ak.new _ _ _);replace X:=hid (X.out.trans (hb.mono X.out.size));replace NW:=hid (NW.out.below hb);clear hb hV;have PT:=hid (Hc (x:=⟨dt [97,98],false,5⟩) BP.out NW.out.nf);replace PT:Hid (dh V1 (.slice (some ⟨w1.heap.size,0,none⟩) 1 1) SN):=PT;clear BP;clear NW;refine(He G9 NH (n0:=3) (n1:=3) (n2:=3) rfl rfl rfl V1 _ PT.out (TT.out V1 X.out)).mono ?_;rintro e w2 ⟨⟨⟨da0,dc0,da1,dc1,da2,dc2,rfl,hd⟩,_⟩,hx⟩;replace X:=hid (X.out.trans (hx.mono X.out.size));replace PT:=hid (PT.out.below hx);have DF:=hid hd;clear hd hx;go_wp2_with fail
 refine aw ?_;intro V2 hV;have hb:Below w2.heap.size w2 V2:=by rw[hV];exact((Ext.refl w2).alloc _).below
 have B2:Hid (ak V2 w2.heap.size #[.slice da0 3 dc0,.slice da1 3 dc1,.slice da2 3 dc2] 31):=hid (by rw[hV];exact ak.new _ _ _);replace X:=hid (X.out.trans (hb.mono X.out.size));replace PT:=hid (PT.out.below hb);replace DF:=hid (DF.out.below hb);clear hb hV;refine(Vz V2 _ PT.out (TT.out V2 X.out)).mono ?_;rintro e w3 ⟨⟨ea0,en0,ec0,ea1,en1,ec1,ea2,en2,ec2,rfl⟩,hx⟩;replace X:=hid (X.out.trans (hx.mono X.out.size));replace PT:=hid (PT.out.below hx);replace DF:=hid (DF.out.below hx);replace B2:=hid (B2.out.below hx B2.out.lt);clear hx;clear PT;have i0:∀ o,(w3.alloc o).cell? ⟨w2.heap.size,0,none⟩=some (.slice da0 3 dc0):=fun o=>(B2.out.alloc o).cell 0
 have i1:∀ o,(w3.alloc o).cell? ⟨w2.heap.size,1,none⟩=some (.slice da1 3 dc1):=fun o=>(B2.out.alloc o).cell 1
 have i2:∀ o,(w3.alloc o).cell? ⟨w2.heap.size,2,none⟩=some (.slice da2 3 dc2):=fun o=>(B2.out.alloc o).cell 2
 go_wp2_with fail
 refine aw ?_;intro V3 hV;have hb:Below w3.heap.size w3 V3:=by rw[hV];exact(((Ext.refl w3).alloc _).alloc _).below
 have dI:bg en V3 (.slice (some ⟨w3.heap.size+1,0,none⟩) 3 3) [120,97,98]:=by rw[hV];exact fA [120,97,98] (kz (by simp)) rfl rfl (by decide)
 replace X:=hid (X.out.trans (hb.mono X.out.size));replace DF:=hid (DF.out.below hb);replace B2:=hid (B2.out.below hb B2.out.lt);clear hb hV i0 i1 i2;refine(uK FV FH (by decide) (by decide) V3 _ _ DF.out dI).mono ?_;rintro e w4 ⟨⟨ma,mc,rfl,ho⟩,hx⟩;replace X:=hid (X.out.trans (hx.mono X.out.size));replace DF:=hid (DF.out.below hx);replace B2:=hid (B2.out.below hx B2.out.lt);have MR:=hid ho;clear dI hx ho;obtain⟨⟨i0,i1,i2⟩,_⟩:=B2.out.three;go_wp2_with fail
 refine aw ?_;intro V4 hV;have hb:Below w4.heap.size w4 V4:=by rw[hV];exact((Ext.refl w4).alloc _).below
 have dI:bg en V4 (.slice (some ⟨w4.heap.size,0,none⟩) 3 3) [97,98,120]:=by rw[hV];exact fA [97,98,120] (World.alloc_heap_new _ _) rfl rfl (by decide)
 replace X:=hid (X.out.trans (hb.mono X.out.size));replace DF:=hid (DF.out.below hb);replace B2:=hid (B2.out.below hb B2.out.lt);replace MR:=hid (MR.out.below hb);clear hb hV i0 i1 i2;refine(uK FV Cv (by decide) (by decide) V4 _ _ DF.out dI).mono ?_;rintro e w5 ⟨⟨na,nc,rfl,_⟩,hx⟩;replace X:=hid (X.out.trans (hx.mono X.out.size));replace DF:=hid (DF.out.below hx);replace B2:=hid (B2.out.below hx B2.out.lt);replace MR:=hid (MR.out.below hx);clear dI hx;obtain⟨⟨i0,i1,i2⟩,_⟩:=B2.out.three;go_wp2_with fail
 refine aw ?_;intro V5 hV;have hb:Below w5.heap.size w5 V5:=by rw[hV];exact((Ext.refl w5).alloc _).below
 have dI:bg en V5 (.slice (some ⟨w5.heap.size,0,none⟩) 5 5) [97,97,98,97,98]:=by rw[hV];exact fA [97,97,98,97,98] (World.alloc_heap_new _ _) rfl rfl (by decide)
 replace X:=hid (X.out.trans (hb.mono X.out.size));replace DF:=hid (DF.out.below hb);replace B2:=hid (B2.out.below hb B2.out.lt);replace MR:=hid (MR.out.below hb);clear hb hV i0 i1 i2;refine(CV FV Cx (by decide) (by decide) V5 _ _ DF.out dI).mono ?_;rintro e w6 ⟨rfl,hx⟩;replace X:=hid (X.out.trans (hx.mono X.out.size));replace DF:=hid (DF.out.below hx);replace B2:=hid (B2.out.below hx B2.out.lt);replace MR:=hid (MR.out.below hx);clear dI hx;clear DF;obtain⟨⟨i0,i1,i2⟩,_⟩:=B2.out.three;go_wp2_with fail
 refine aw ?_;intro V6 hV;have hb:Below w6.heap.size w6 V6:=by rw[hV];exact((Ext.refl w6).alloc _).below
 have dI:bg aF V6 (.slice (some ⟨w6.heap.size,0,none⟩) 1 1) [5]:=by rw[hV];exact fA [5] (World.alloc_heap_new _ _) rfl rfl (by decide)
 replace X:=hid (X.out.trans (hb.mono X.out.size));replace B2:=hid (B2.out.below hb B2.out.lt);replace MR:=hid (MR.out.below hb);clear hb hV i0 i1 i2;refine(CX (l:=[5]) (by decide) V6 _ _ MR.out dI).mono ?_;rintro e w7 ⟨rfl,hx⟩;replace X:=hid (X.out.trans (hx.mono X.out.size));replace B2:=hid (B2.out.below hx B2.out.lt);replace MR:=hid (MR.out.below hx);clear dI hx;clear MR B2;go_wp2_with fail
 refine(Hd w7).mono ?_;rintro e w8 ⟨⟨QX,QY,QZ,Q8,Q9,Ra,Rb,Rc,Re,Rf,Rg,Rh,rfl,hd⟩,hx⟩;replace X:=hid (X.out.trans (hx.mono X.out.size));have NW:=hid hd;clear hd hx;go_wp2_with fail
 refine aw ?_;intro V8 hV;have hb:Below w8.heap.size w8 V8:=by rw[hV];exact((Ext.refl w8).alloc _).below
 have BP:Hid (ak V8 w8.heap.size #[.slice QX QY QZ,.slice Q8 Q9 Ra,.slice Rb Rc Re,.slice Rf Rg Rh,.bool false,.bool true,.int .i64 0] 46):=hid (by rw[hV];exact ak.new _ _ _);replace X:=hid (X.out.trans (hb.mono X.out.size));replace NW:=hid (NW.out.below hb);clear hb hV;have PT:=hid (Hc (x:=⟨dt [97,98],true,0⟩) BP.out NW.out.nf);replace PT:Hid (dh V8 (.slice (some ⟨w8.heap.size,0,none⟩) 1 1) Nq):=PT;clear BP;clear NW;refine(He Ve QU (n0:=3) (n1:=4) (n2:=4) rfl rfl rfl V8 _ PT.out (TT.out V8 X.out)).mono ?_;rintro e w9 ⟨⟨⟨ba0,bc0,ba1,bc1,ba2,bc2,rfl,_⟩,_⟩,hx⟩;replace X:=hid (X.out.trans (hx.mono X.out.size));clear hx PT;go_wp2_with fail
 refine aw ?_;intro V9 hV;have hb:Below w9.heap.size w9 V9:=by rw[hV];exact((Ext.refl w9).alloc _).below
 have BB:Hid (ak V9 w9.heap.size #[.slice ba0 3 bc0,.slice ba1 4 bc1,.slice ba2 4 bc2] 31):=hid (by rw[hV];exact ak.new _ _ _);replace X:=hid (X.out.trans (hb.mono X.out.size));clear hb hV;refine(He Zx (fun _ h=>by cases h) (n0:=1) (n1:=1) (n2:=1) rfl rfl rfl V9 (.slice none 0 0) (.inl ⟨rfl,rfl⟩) (TT.out V9 X.out)).mono ?_;rintro e zT ⟨⟨⟨na0,nc0,na1,nc1,na2,nc2,rfl,_⟩,_⟩,hx⟩;replace X:=hid (X.out.trans (hx.mono X.out.size));replace BB:=hid (BB.out.below hx BB.out.lt);clear hx;go_wp2_with fail
 refine aw ?_;intro V10 hV;have hb:Below zT.heap.size zT V10:=by rw[hV];exact((Ext.refl zT).alloc _).below
 have BN:Hid (ak V10 zT.heap.size #[.slice na0 1 nc0,.slice na1 1 nc1,.slice na2 1 nc2] 31):=hid (by rw[hV];exact ak.new _ _ _);replace X:=hid (X.out.trans (hb.mono X.out.size));replace BB:=hid (BB.out.below hb BB.out.lt);clear hb hV;refine(C1.out V10).mono ?_;rintro e gQ ⟨rfl,hx⟩;replace X:=hid (X.out.trans (hx.mono X.out.size));replace BB:=hid (BB.out.below hx BB.out.lt);replace BN:=hid (BN.out.below hx BN.out.lt);clear hx;go_wp2;refine au ?_;intro rI hV;have hb:Below gQ.heap.size gQ rI:=by rw[hV];exact((((((Ext.refl gQ).alloc _).alloc _).alloc _).alloc _).alloc _).below
 have Zy:rI.heap.size=gQ.heap.size+5:=by rw[hV];simp
 have K0:ak rI gQ.heap.size (encS sab) 70:=by rw[hV];exact((((ak.new _ _ _).alloc _).alloc _).alloc _).alloc _
 have K1:ak rI (gQ.heap.size+1) #[.int .i64 0] 3:=by rw[hV];exact((((ak.new _ _ _).at (by simp)).alloc _).alloc _).alloc _
 have K2:ak rI (gQ.heap.size+2) #[.int .i64 0] 3:=by rw[hV];exact(((ak.new _ _ _).at (by simp)).alloc _).alloc _
 have K3:ak rI (gQ.heap.size+3) #[.slice none 0 0] 37:=by rw[hV];exact((ak.new _ _ _).at (by simp)).alloc _
 have BA:Hid (ak rI (gQ.heap.size+4) #[.slice (some ⟨gQ.heap.size,0,none⟩) 1 1,.slice (some ⟨gQ.heap.size+3,0,none⟩) 1 1,.slice (some ⟨gQ.heap.size+1,0,none⟩) 1 1,.slice (some ⟨gQ.heap.size+2,0,none⟩) 1 1,.bool false] 44):=hid (by rw[hV];exact(ak.new _ _ _).at (by simp))
 have NA:Hid (dO rI (.agg #[.slice (some ⟨gQ.heap.size,0,none⟩) 1 1,.slice (some ⟨gQ.heap.size+3,0,none⟩) 1 1,.slice (some ⟨gQ.heap.size+1,0,none⟩) 1 1,.slice (some ⟨gQ.heap.size+2,0,none⟩) 1 1,.bool false]) FU):=hid (by
  rw[aeN.out]at K0
  refine⟨_,_,_,_,rfl,FT [fh [97,98]] K0 (by simp[aD]) rfl,QQ [.slice none 0 0] K3 rfl rfl ⟨QR,trivial⟩,NG [0] K1 rfl rfl,NG [0] K2 rfl rfl⟩)
 replace X:=hid (X.out.trans (hb.mono X.out.size));replace BB:=hid (BB.out.below hb BB.out.lt);replace BN:=hid (BN.out.below hb BN.out.lt);clear hb hV K0 K1 K2 K3;obtain⟨DT,hDT⟩:∃ d,d=zb:=⟨_,rfl⟩;have HDT:=hid hDT;clear hDT;have hlen:DT.cl.length=3/\DT.nx.length=3/\DT.mr.length=3:=by rw[HDT.out];exact⟨rfl,rfl,rfl⟩
 have HLEN:=hid hlen;clear hlen;refine RegG.aU (cD rI DT) (cD.drew) (fun _ _ _ h k=>h.trans k) (by kernel_rfl) 11 [0,1,0,4,15,31,63,127,127,0,767,2047] (fun i=>i==0 || i==4 || i==5 || i==9 || i==10) (by kernel_rfl) (fun j=>if j=10 then some 17 else none) (fun j hj=>(by first | rfl | (have iz:12<=j:=hj;first | exact if_neg (by omega) | (split<;>first | omega | rfl)))) (by kernel_rfl) (fun i=>if i=0 then EffS.nf rI DT (dt [97])else if i=4 then EffS.lit rI DT (dt [97]) (.slice (some ⟨gQ.heap.size,0,none⟩) 1 1) (.slice (some ⟨gQ.heap.size+3,0,none⟩) 1 1) (.slice (some ⟨gQ.heap.size+1,0,none⟩) 1 1) (.slice (some ⟨gQ.heap.size+2,0,none⟩) 1 1)else if i=5 then EffS.ofD rI DT 3 3 3 else if i=9 then EffS.alloc rI DT else if i=10 then EffS.store rI DT else RegG.aO.any _) ?_;intro C hC hne;have HC:=hid hC;have o0:∀ W: {W//C W},W.1.cell? ⟨gQ.heap.size+4,0,none⟩=some (.slice (some ⟨gQ.heap.size,0,none⟩) 1 1):=fun W=>(BA.out.keeps ((hC W.1).1 W.2).keeps BA.out.lt).cell 0
 have o1:∀ W: {W//C W},W.1.cell? ⟨gQ.heap.size+4,1,none⟩=some (.slice (some ⟨gQ.heap.size+3,0,none⟩) 1 1):=fun W=>(BA.out.keeps ((hC W.1).1 W.2).keeps BA.out.lt).cell 1
 have o2:∀ W: {W//C W},W.1.cell? ⟨gQ.heap.size+4,2,none⟩=some (.slice (some ⟨gQ.heap.size+1,0,none⟩) 1 1):=fun W=>(BA.out.keeps ((hC W.1).1 W.2).keeps BA.out.lt).cell 2
 have o3:∀ W: {W//C W},W.1.cell? ⟨gQ.heap.size+4,3,none⟩=some (.slice (some ⟨gQ.heap.size+2,0,none⟩) 1 1):=fun W=>(BA.out.keeps ((hC W.1).1 W.2).keeps BA.out.lt).cell 3
 have o4:∀ W: {W//C W},W.1.cell? ⟨gQ.heap.size+4,4,none⟩=some (.bool false):=fun W=>(BA.out.keeps ((hC W.1).1 W.2).keeps BA.out.lt).cell 4
 clear hC
 repeat (refine RegG.ai (fun K hK=>?_);first | (refine RegG.br rfl ?_;try go_simp;refine hK _ _ ?_;clear hK K) | (refine RegG.aZ rfl rfl ?_;unfold ar;go_simp;refine hK _ _ ?_;clear hK K))
 refine RegG.ai (fun K hK=>?_);refine RegG.bA rfl rfl (EffS.nf rI DT (dt [97])) rfl (fun W hW hN=>?_) (fun v hv=>?_)
 ·have hM:=(HC.out W).1 hW
  clear hW hK K
  (go_simp;refine aT ((Vy W).mono ?_);rintro e w2 ⟨⟨za0,zn0,zc0,za1,zn1,zc1,za2,zn2,zc2,za3,zn3,zc3,rfl,hd⟩,hx⟩;exact⟨_,rfl,.below hx hM.size,⟨_,_,_,_,_,_,_,_,_,_,_,_,rfl⟩,hd.base hM.size⟩)
 obtain⟨za0,zn0,zc0,za1,zn1,zc1,za2,zn2,zc2,za3,zn3,zc3,rfl⟩:=hv;go_simp;refine hK _ _ ?_;clear hK K
 repeat (refine RegG.ai (fun K hK=>?_);first | (refine RegG.br rfl ?_;try go_simp;refine hK _ _ ?_;clear hK K) | (refine RegG.aZ rfl rfl ?_;unfold ar;go_simp;refine hK _ _ ?_;clear hK K))
 refine RegG.ai (fun K hK=>?_);refine RegG.bA rfl rfl (EffS.lit rI DT (dt [97]) (.slice (some ⟨gQ.heap.size,0,none⟩) 1 1) (.slice (some ⟨gQ.heap.size+3,0,none⟩) 1 1) (.slice (some ⟨gQ.heap.size+1,0,none⟩) 1 1) (.slice (some ⟨gQ.heap.size+2,0,none⟩) 1 1)) rfl (fun W hW hN=>?_) (fun v hv=>?_)
 ·have hM:=(HC.out W).1 hW
  clear hW hK K
  (have hq:dM rI.heap.size W (.agg #[.slice za0 zn0 zc0,.slice za1 zn1 zc1,.slice za2 zn2 zc2,.slice za3 zn3 zc3,.bool false]) (dt [97]):=hN.at 0 rfl (by kernel_rfl);clear hN;go_simp;exact⟨.below ((Ext.refl _).alloc _).below hM.size,⟨_,rfl⟩,fun b hb=>by cases hb;exact⟨_,_,_,_,ak.new _ _ _,hq.below ((Ext.refl _).alloc _).below⟩⟩)
 obtain⟨bl,rfl⟩:=hv;go_simp;refine hK _ _ ?_;clear hK K
 repeat (refine RegG.ai (fun K hK=>?_);first | (refine RegG.br rfl ?_;try go_simp;refine hK _ _ ?_;clear hK K) | (refine RegG.aZ rfl rfl ?_;unfold ar;go_simp;refine hK _ _ ?_;clear hK K))
 refine RegG.ai (fun K hK=>?_);refine RegG.bA rfl rfl (EffS.ofD rI DT 3 3 3) rfl (fun W hW hN=>?_) (fun v hv=>?_)
 ·have hM:=(HC.out W).1 hW
  have hl:∀ b,(Value.slice (some ⟨bl,0,none⟩) 2 2)=.slice (some ⟨b,0,none⟩) 2 2->_:=hN.at 0 rfl (by kernel_rfl);obtain⟨y0,y1,y2,y3,hb1,hb2⟩:=hl bl rfl;have ny:Below w.heap.size w W:=X.out.trans (hM.keeps.mono fun x (hx:x<w.heap.size)=>Nat.lt_of_lt_of_le hx X.out.size:aa (· <w.heap.size) rI W).below;have WR:dO W (.agg #[.slice (some ⟨gQ.heap.size,0,none⟩) 1 1,.slice (some ⟨gQ.heap.size+3,0,none⟩) 1 1,.slice (some ⟨gQ.heap.size+1,0,none⟩) 1 1,.slice (some ⟨gQ.heap.size+2,0,none⟩) 1 1,.bool false]) FU:=NA.out.below hM.keeps.below;have hp:dh W (.slice (some ⟨bl,0,none⟩) 2 2) Nr:=QT (x:=⟨dt [97],false,0⟩) (y:=⟨FU,false,7⟩) hb1 hb2.nf WR;clear hW hK K hN hl hb1 hb2;go_simp;refine aT ((He Nu QV (n0:=3) (n1:=3) (n2:=3) rfl rfl rfl W _ hp (TT.out W ny)).mono ?_);rintro e w2 ⟨⟨⟨ZX,ZY,ZZ,Z4,Z9,tc2,rfl,_⟩,u,hu,hd⟩,hx⟩;rw[<-HDT.out]at hd;refine⟨_,rfl,.below hx hM.size,⟨_,_,_,_,_,_,rfl⟩,fun u' hu'=>?_⟩;have e1:u'=u:=by
   have h1:Ending.returned (.tuple #[u',.int .i64 0])=.returned (.tuple #[u,.int .i64 0]):=by rw[<-hu,hu']
   injection h1 with h1
   injection h1 with h1
   simpa using h1
  subst e1;exact hd.base hM.size
 obtain⟨ZX,ZY,ZZ,Z4,Z9,tc2,rfl⟩:=hv;go_simp;refine hK _ _ ?_;clear hK K
 repeat (refine RegG.ai (fun K hK=>?_);first | (refine RegG.br rfl ?_;try go_simp;refine hK _ _ ?_;clear hK K) | (refine RegG.aZ rfl rfl ?_;unfold ar;go_simp;refine hK _ _ ?_;clear hK K))
 refine RegG.ai (fun K hK=>?_);refine RegG.bA rfl rfl (EffS.alloc rI DT) rfl (fun W hW hN=>?_) (fun v hv=>?_)
 ·have hM:=(HC.out W).1 hW
  clear hW hN hK K;go_simp;exact⟨.below ((Ext.refl _).alloc _).below hM.size,⟨_,hM.size,rfl⟩,fun b hb=>by cases hb;exact⟨hM.size,_,ak.new _ _ _,rfl⟩⟩
 obtain⟨bo,Sk,rfl⟩:=hv;go_simp;refine hK _ _ ?_;clear hK K;refine RegG.ai (fun K hK=>?_);refine RegG.bA rfl rfl (EffS.store rI DT) rfl (fun W hW hN=>?_) (fun v hv=>?_)
 ·have hM:=(HC.out W).1 hW
  obtain⟨_,c,hb,hcs⟩:=(hN.at 0 rfl (by kernel_rfl)) bo rfl;have hd:aP rI.heap.size W (.agg #[.slice ZX 3 ZY,.slice ZZ 3 Z4,.slice Z9 3 tc2]) DT:=(hN.at 1 rfl (by kernel_rfl)) _ rfl;obtain⟨x0,x1,x2,rfl⟩:∃ x0 x1 x2,c= #[x0,x1,x2]:=by
   have h4:c.toList.length=3:=by rw[Array.length_toList,hcs]
   match hc:c.toList,h4 with
   | [x0,x1,x2],_=>exact⟨x0,x1,x2,by rw[<-Array.toArray_toList (xs:=c),hc]⟩
  have HB:=hid hb;have HD:=hid hd;have y0:(W.cell? ⟨bo,0,none⟩)=some x0:=hb.cell 0;have y1:(W.cell? ⟨bo,1,none⟩)=some x1:=hb.cell 1;have y2:(W.cell? ⟨bo,2,none⟩)=some x2:=hb.cell 2;have z0:=hb.frozen 0;have z1:=hb.frozen 1;have z2:=hb.frozen 2;clear hW hN hK K hb hcs hM hd;go_simp;have hm:aa (· ≠bo) W (((W.setCell ⟨bo,0,none⟩ (.slice ZX 3 ZY)).setCell ⟨bo,1,none⟩ (.slice ZZ 3 Z4)).setCell ⟨bo,2,none⟩ (.slice Z9 3 tc2)):=
   (((aa.refl _ _).setCell (p:=⟨bo,0,none⟩) (fun h=>h rfl) _).setCell (p:=⟨bo,1,none⟩) (fun h=>h rfl) _).setCell (p:=⟨bo,2,none⟩) (fun h=>h rfl) _
  have vu:xH rI.heap.size DT (((W.setCell ⟨bo,0,none⟩ (.slice ZX 3 ZY)).setCell ⟨bo,1,none⟩ (.slice ZZ 3 Z4)).setCell ⟨bo,2,none⟩ (.slice Z9 3 tc2)) bo:=by
   obtain⟨e0,e1,e2⟩:=HLEN.out;refine⟨ZX,ZY,ZZ,Z4,Z9,tc2,?_,?_⟩
   ·rw[e0,e1,e2];exact((HB.out.set 0 _).set 1 _).set 2 _
   ·rw[e0,e1,e2];exact HD.out.past HB.out (by decide) (by decide) (by decide) hm
  refine⟨cD.store Sk HB.out hm vu,trivial,fun b e _=>?_⟩;have e':(Value.pointer (some ⟨bo,0,none⟩))=.pointer (some ⟨b,0,none⟩):=e;cases e';exact vu
 go_simp;refine hK _ _ ?_;clear hK K hv
 repeat (refine RegG.ai (fun K hK=>?_);first | (refine RegG.br rfl ?_;try go_simp;refine hK _ _ ?_;clear hK K) | (refine RegG.aZ rfl rfl ?_;unfold ar;go_simp;refine hK _ _ ?_;clear hK K))
 refine RegG.aY (fun W hW hH=>?_);have hM:=(HC.out W).1 hW;have aeP:xH rI.heap.size DT W bo:=(hH _ (List.mem_of_getElem? (show _=some _ from rfl:_[0]? =some _))) bo rfl Sk;have hb:Below rI.heap.size rI W:=hM.keeps.below;clear hW hH HC hM hne;replace X:=hid (X.out.trans (hb.mono X.out.size));replace BB:=hid (BB.out.below hb BB.out.lt);replace BN:=hid (BN.out.below hb BN.out.lt);replace BA:=hid (BA.out.below hb BA.out.lt);replace NA:=hid (NA.out.below hb);obtain⟨qa0,qc0,qa1,qc1,qa2,qc2,Pe,hod⟩:=aeP;obtain⟨e0,e1,e2⟩:=HLEN.out;rw[e0,e1,e2,HDT.out]at hod;rw[e0,e1,e2]at Pe;have BQ:=hid Pe;have DQ:=hid hod.df;clear Pe hod e0 e1 e2 hb HLEN HDT o0 o1 o2 o3 o4;clear BA NA;obtain⟨⟨i0,i1,i2⟩,_⟩:=BQ.out.three;go_wp2_with fail
 refine aw ?_;intro V13 hV;have hb:Below W.heap.size W V13:=by rw[hV];exact((Ext.refl W).alloc _).below
 have dI:bg en V13 (.slice (some ⟨W.heap.size,0,none⟩) 2 2) [120,97]:=by rw[hV];exact fA [120,97] (World.alloc_heap_new _ _) rfl rfl (by decide)
 replace X:=hid (X.out.trans (hb.mono X.out.size));replace BB:=hid (BB.out.below hb BB.out.lt);replace BN:=hid (BN.out.below hb BN.out.lt);replace BQ:=hid (BQ.out.below hb BQ.out.lt);replace DQ:=hid (DQ.out.below hb);clear hb hV i0 i1 i2;refine(uK Hf Cw (by decide) (by decide) V13 _ _ DQ.out dI).mono ?_;rintro e WW ⟨⟨ra,rc,rfl,ho⟩,hx⟩;replace X:=hid (X.out.trans (hx.mono X.out.size));replace BB:=hid (BB.out.below hx BB.out.lt);replace BN:=hid (BN.out.below hx BN.out.lt);replace BQ:=hid (BQ.out.below hx BQ.out.lt);replace DQ:=hid (DQ.out.below hx);have MR:=hid ho;clear dI hx ho;obtain⟨⟨i0,i1,i2⟩,_⟩:=BQ.out.three;go_wp2_with fail
 refine aw ?_;intro V14 hV;have hb:Below WW.heap.size WW V14:=by rw[hV];exact((Ext.refl WW).alloc _).below
 have dI:bg en V14 (.slice (some ⟨WW.heap.size,0,none⟩) 2 2) [120,97]:=by rw[hV];exact fA [120,97] (World.alloc_heap_new _ _) rfl rfl (by decide)
 replace X:=hid (X.out.trans (hb.mono X.out.size));replace BB:=hid (BB.out.below hb BB.out.lt);replace BN:=hid (BN.out.below hb BN.out.lt);replace BQ:=hid (BQ.out.below hb BQ.out.lt);replace DQ:=hid (DQ.out.below hb);replace MR:=hid (MR.out.below hb);clear hb hV i0 i1 i2;refine(CV Hf ze (by decide) (by decide) V14 _ _ DQ.out dI).mono ?_;rintro e WY ⟨rfl,hx⟩;replace X:=hid (X.out.trans (hx.mono X.out.size));replace BB:=hid (BB.out.below hx BB.out.lt);replace BN:=hid (BN.out.below hx BN.out.lt);replace BQ:=hid (BQ.out.below hx BQ.out.lt);replace DQ:=hid (DQ.out.below hx);replace MR:=hid (MR.out.below hx);clear dI hx;clear BQ DQ;obtain⟨⟨i0,i1,i2⟩,_⟩:=BB.out.three;obtain⟨⟨j0,j1,j2⟩,_⟩:=BN.out.three;go_wp2_with fail
 refine aw ?_;intro V15 hV;have hb:Below WY.heap.size WY V15:=by rw[hV];exact((Ext.refl WY).alloc _).below
 have dI:bg aF V15 (.slice (some ⟨WY.heap.size,0,none⟩) 2 2) [0,7]:=by rw[hV];exact fA [0,7] (World.alloc_heap_new _ _) rfl rfl (by decide)
 replace X:=hid (X.out.trans (hb.mono X.out.size));replace BB:=hid (BB.out.below hb BB.out.lt);replace BN:=hid (BN.out.below hb BN.out.lt);replace MR:=hid (MR.out.below hb);clear hb hV i0 i1 i2 j0 j1 j2;refine(CX (l:=[0,7]) (by decide) V15 _ _ MR.out dI).mono ?_;rintro e Ri ⟨rfl,hx⟩;replace X:=hid (X.out.trans (hx.mono X.out.size));replace BB:=hid (BB.out.below hx BB.out.lt);replace BN:=hid (BN.out.below hx BN.out.lt);replace MR:=hid (MR.out.below hx);clear dI hx;go_wp2;go_ret;exact⟨rfl,X.out⟩
end Go.Proofs.YtbiboekhakbnpaaGreatDoor
