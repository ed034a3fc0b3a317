/- dfa.Of. -/
import Derived.Test.YtjgccapbphadjaaGreatDoorOX10
import Derived.Lib.SlBuf
set_option maxRecDepth 100000
set_option maxHeartbeats 16000000
open Go.Lib (hid)
open Go.Value renaming slice->An,int->AN,pointer->Bm,tuple->By,oneCell'->EV,bool->Ft,agg->F_
open Option renaming none->As,some->AF
open Go.Lib renaming hid->AI
open List renaming getElem?_eq_some_iff->AM,length_replicate->Bs,replicate->B',getElem?_replicate->DE,range->DP,map_append->D0,take_of_length_le->D',getElem?_of_mem->FF,take_add_one->GO,not_mem_nil->G',getElem?_range->Is,mem_cons->It,mem_map->Iv,all_eq_true->Kx,take_length->K_,append_nil->Ly,mem_range->MY,zip->Q_
open Go.Ending renaming returned->AS
open Go.IntKind renaming i64->AT,u64->GB,u8->Rr
open Int renaming ofNat->A_,toNat_natCast->I'
open Go renaming World->A',bodyPost_ret->C_,wpList_append_own_at->DQ,info_parts->D_,Ending->M_,callsD_of_wpS->NX,TypeId->O',Leaves->P_
open Nat renaming le_trans->B_,zero_le->FG,sub_self->H_,ne_of_lt->H',le_of_lt->IF,min->IT,sub_zero->I_,zero_add->On
open Go.World renaming ownsRow_nil->Cd,block_lt_of_cell?->G_,alloc_heap_new->If,size_alloc->J'
open Go.Proofs.Tryz renaming results61->C',prog->DS,underlying27->E_,underlying39->IN,underlying26->J_,results170->L7,results114->L_,ntmps170->N_,func170->N',ntmps61->OR,func61->O_,f114->P'
open Go.RowKit renaming Hid->DH,Below->Lo
open Go.Operand renaming tmp->GS
open Bool renaming true->GW,false->Lw
namespace Go.Proofs.YtjgccapbphadjaaGreatDoor
open Go Go.RowKit Go.Shelf Go.Maps
theorem J8 {ps:List PT} {fuel:Nat} {st:List (List (List Int))×List (List Nat)} (h:si ps fuel=AF st):Ye fuel (partsOf (cw ps)).length (py ps) (lK ps) fuel st:=by
 unfold si at h;split at h
 ·cases h
 ·rename_i hf
  exact Aw (by omega) (AB ps) (fun row k hr _=>qW hr _) fuel h
theorem Rg {ps:List PT} {fuel:Nat} (hf2:fuel<=4000) {st:List (List (List Int))×List (List Nat)} (h:si ps fuel=AF st):Rt ⟨partsOf (cw ps),st.2.map fun r=>r.map A_,st.1.map (dH ps)⟩:=by
 have I:=J8 h;have hlen:st.2.length=st.1.length:=by have:=I.len;have:=I.le;omega
 have hrow:∀ s,s<st.2.length->((st.2.map fun r=>r.map A_).getD s [])=(st.2.getD s []).map A_/\(st.2.getD s [])∈st.2:=fun s hs=>by
  have e:=bn (l:=st.2) [] hs;refine⟨?_,ax e⟩;rw[bB,aN,e];rfl
 refine⟨?_,?_,?_,ud _,?_,?_,?_⟩
 ·show 1<=(st.2.map fun r=>r.map A_).length
  have:=(AM.1 I.head).1;simp;omega
 ·show(st.2.map fun r=>r.map A_).length<=4000
  have:=I.le;simp;omega
 ·simp[hlen]
 ·intro s hs
  rw[aP]at hs;obtain⟨e,hm⟩:=hrow s hs;show((st.2.map fun r=>r.map A_).getD s []).length=_;rw[e,aP];exact(I.rows _ hm).1
 ·intro s hs t ht
  rw[aP]at hs;obtain⟨e,hm⟩:=hrow s hs;replace ht:t∈((st.2.map fun r=>r.map A_).getD s []):=ht;rw[e]at ht;obtain⟨q,hq,rfl⟩:=Iv.1 ht;have h2:=(I.rows _ hm).2 q hq;show(0:Int)<=(q:Int)/\(q:Int)<(((st.2.map fun r=>r.map A_).length:Nat):Int);rw[aP];omega
 ·intro s hs
  rw[aP]at hs;show qQ ((st.1.map (dH ps)).getD s [])=GW;rw[bB,aN,aB (by omega)];exact Hb ps _
theorem My {ps:List PT} {fuel:Int} {d:DF} (h:kR ps fuel=(d,0)):Rt d:=by
 unfold kR at h;split at h
 ·cases h
 ·split at h
  ·cases h
  ·split at h
   ·cases h
   ·rename_i hf
    split at h
    ·cases h
    ·rename_i st hst
     have e:(⟨partsOf (cw ps),st.2.map fun r=>r.map A_,st.1.map (dH ps)⟩:DF)=d:=(Prod.mk.inj h).1;rw[<-e];exact Rg (by omega) hst
section
variable {α:Type} [DecidableEq α]
end
theorem Mz {ps:List PT} {f:Int} (h:(kR ps f).2=0):¬64<ps.length/\ps.all PT.ok=GW/\0<=f/\f<=4000/\∃ st,si ps f.toNat=AF st/\(kR ps f).1=⟨partsOf (cw ps),st.2.map fun r=>r.map A_,st.1.map (dH ps)⟩:=by
 unfold kR at h ⊢;split at h
 ·exact absurd h (by decide)
 ·rename_i h1
  split at h
  ·exact absurd h (by decide)
  ·rename_i h2
   split at h
   ·exact absurd h (by decide)
   ·rename_i h3
    rw[if_neg h1,if_neg h2,if_neg h3];rcases e:si ps f.toNat with _ | st
    ·rw[e]at h
     have h':(181:Int)=0:=h;omega
    ·exact⟨h1,by simpa using h2,by omega,by omega,st,rfl,rfl⟩
theorem Rt.Rh {d:DF} (h:Rt d):Sm d:=by
 have hn:=h.le;have hk:=h.Av;have idx:∀ (ll:List (List Int)) (l:List Int),l∈ll->∃ i,i<ll.length/\ll.getD i []=l:=fun ll l hl=>by
  obtain⟨i,hi⟩:=FF hl;exact⟨i,(AM.1 hi).1,getD_some hi⟩
 refine⟨by omega,by omega,by have:=h.mr;omega,fun l hl=>?_,fun l hl=>?_⟩
 ·obtain⟨i,h1,h2⟩:=idx _ _ hl
  have:=h.len i h1;rw[h2]at this;omega
 ·obtain⟨i,h1,h2⟩:=idx _ _ hl
  have hr:=h.Ud i (by have:=h.mr;omega);rw[h2]at hr;by_cases h0:l.length=0
  ·omega
  ·have:=J7 hr (l.length-1) (by omega)
   omega
def Ri (v0 v1 v2 v3:Value) (x:PT):List Value:=[v0,v1,v2,v3,Ft x.nf.emp,Ft x.za,AN AT x.mark]
theorem U4 {xs:List Value} {k i j:Nat} (hl:xs.length=k*7) (c:List Value) (hj:j<7) (hi:i<k):(xs++c)[i*7+j]? =xs[i*7+j]? :=bH (by omega)
theorem Ik {xs:List Value} {k j:Nat} (hl:xs.length=k*7) (c:List Value):(xs++c)[k*7+j]? =c[j]? :=by rw[cF (by omega),hl];congr 1;omega
theorem gX.form {base:Nat} {w:A'} {v:Value} {a:NF} (h:gX base w v a):∃ a0 n0 c0 a1 n1 c1 a2 n2 c2 a3 n3 c3,v=F_ #[An a0 n0 c0,An a1 n1 c1,An a2 n2 c2,An a3 n3 c3,Ft a.emp]:=by obtain⟨v0,v1,v2,v3,rfl,h0,h1,h2,h3⟩:=h;obtain⟨a0,c0,rfl⟩:=ownsRow_form h0;obtain⟨a1,c1,rfl⟩:=h1.form;obtain⟨a2,c2,rfl⟩:=ownsRow_form h2;obtain⟨a3,c3,rfl⟩:=ownsRow_form h3;exact⟨_,_,_,_,_,_,_,_,_,_,_,_,rfl⟩
theorem Tryz.Zr:(DS.info? 124).map (fun i=>(i.zero,i.size,i.bytes))=AF (AF (F_ #[An As 0 0,An As 0 0,An As 0 0,An As 0 0,Ft Lw,Ft Lw,AN AT 0]),7,120):=by kernel_rfl
def eV (base:Nat) (w:A') (v:Value) (ps:List PT):Prop:=∃ cs:List Value,w.ownsRow base 124 7 v ps.length cs/\∀ (i:Nat) (x:PT),ps[i]? =AF x->P8 (gX base) w x fun j=>cs[i*7+j]?
theorem eV.nil (base:Nat) (w:A'):eV base w (An As 0 0) []:=⟨[],Cd _ _ _ _,fun i x h=>by simp at h⟩
theorem eV.form {base:Nat} {w:A'} {v:Value} {ps:List PT} (h:eV base w v ps):∃ a c,v=An a ps.length c:=by obtain⟨cs,h1,_⟩:=h;exact ownsRow_form h1
theorem eV.below {base:Nat} {w w':A'} {v:Value} {ps:List PT} (h:eV base w v ps) (hk:aa w w'):eV base w' v ps:=by obtain⟨cs,h1,h2⟩:=h;exact⟨cs,ai h1 hk,fun i x hx=>(h2 i x hx).mono (fun _ hv=>hv.below hk) fun _ _ _ hu=>hu⟩
theorem eV.pts {base:Nat} {w:A'} {v:Value} {ps:List PT} (h:eV base w v ps):iX w v ps:=by
 obtain⟨cs,h1,h2⟩:=h;have hlt:=h1.lt;rcases h1.2 with⟨rfl,e2⟩ | ⟨g,cap,cur,rfl,e2,e3,e4,e5,_⟩
 ·exact .inl ⟨rfl,List.eq_nil_of_length_eq_zero e2⟩
 ·refine .inr ⟨g,0,cap,rfl,(hlt g rfl).2,fun i x hx=>?_⟩
  obtain⟨v0,v1,v2,v3,h0,c0,c1,c2,c3,c4,c5,c6⟩:=h2 i x hx;have ce:∀ (j:Nat) (u:Value),cs[i*7+j]? =AF u->w.cell? ⟨g,0+i*7+j,As⟩=AF u:=fun j u hj=>by
   have:=h1.cells (g:=g) rfl _ _ hj;rw[Addr.add_mid]at this;rw[show 0+i*7+j=i*7+j by omega];simpa using this
  exact⟨v0,v1,v2,v3,h0.nf,ce 0 _ c0,ce 1 _ c1,ce 2 _ c2,ce 3 _ c3,ce 4 _ c4,ce 5 _ c5,ce 6 _ c6⟩
theorem eV.more {base:Nat} {w w':A'} {v v' v0 v1 v2 v3:Value} {ps:List PT} {cs:List Value} {x:PT} (h1:w.ownsRow base 124 7 v ps.length cs) (h2:∀ (i:Nat) (x:PT),ps[i]? =AF x->P8 (gX base) w x fun j=>cs[i*7+j]?) (hn:gX base w (F_ #[v0,v1,v2,v3,Ft x.nf.emp]) x.nf) (hg:w.grownBy w' v.ownBlock) (ho:w'.ownsRow base 124 7 v' (ps.length+1) (cs++Ri v0 v1 v2 v3 x)):eV base w' v' (ps++ [x]):=by
 have tI:ae (fun y=>y<w.heap.size/\v.ownBlock≠AF y) w w':=ae.aZ hg fun y hy=>⟨hy.1,fun e=>hy.2 e.symm⟩
 have hl:=h1.1;refine⟨cs++Ri v0 v1 v2 v3 x,by rw[aJ];exact ho,fun i y hy=>?_⟩;by_cases e:i<ps.length
 ·rw[bH e]at hy
  exact(h2 i y hy).mono (fun _ hv=>hv.far h1 (by decide) (by decide) (by decide) tI) fun j hj u hu=>(U4 hl _ hj e).trans hu
 ·have hl2:=(AM.1 hy).1
  rw[aJ,List.length_singleton]at hl2;obtain rfl:i=ps.length:=by omega
  rw[cF (aF _),H_]at hy;cases hy;refine⟨v0,v1,v2,v3,hn.far h1 (by decide) (by decide) (by decide) tI,?_,?_,?_,?_,?_,?_,?_⟩<;>exact Ik hl _
theorem wE {n:Nat} {l:List Int} (h:dQ 0 ((n:Int)-1) l=GW):l.length<=n:=by
 obtain⟨h1,h2⟩:=dR h;have hn:(l.map fun x=>x.toNat).Nodup:=by rw[List.nodup_iff_pairwise_ne,List.pairwise_map];exact h1.imp_of_mem fun {a b} ha hb hab=>by have:=h2 a ha;have:=h2 b hb;omega
 have:=List.Nodup.length_le_of_subset hn (l₂:=DP n) fun x hx=>by
  obtain⟨y,hy,rfl⟩:=Iv.1 hx;have:=h2 y hy;exact MY.2 (by omega)
 simpa using this
theorem Nt.smn {a:NF} (h:Nt a):Py a:=by have hle:=h.le;refine⟨by omega,by have:=h.cB;omega,by have:=wE h.fst;omega,by have:=wE h.cL;omega,fun l hl=>?_⟩;obtain⟨p,hp⟩:=FF hl;have hpl:=(AM.1 hp).1;have:=wE (h.row p (by rw[<-h.cB];exact hpl));rw[bB,hp]at this;have e:(AF l).getD []=l:=rfl;rw[e]at this;omega
def Zs (s:List (Nat×Nat×Nat)×Bool×Nat):PT:=⟨(gP s.1).nf,s.2.1,s.2.2⟩
def U5 (l:List (List (Nat×Nat×Nat)×Bool×Nat)):List PT:=(l.take 4).map Zs
def rD (n0 n1 n2:Nat) (code:Int) (d:DF) (W:A') (e:M_) (w':A'):Prop:=
 ∃ a0 c0 a1 c1 a2 c2,e=AS (By #[F_ #[An a0 n0 c0,An a1 n1 c1,An a2 n2 c2],AN AT code])/\aM W.heap.size w' (F_ #[An a0 n0 c0,An a1 n1 c1,An a2 n2 c2]) d/\aa W w'
theorem aM.fj {w:A'} {b:Nat} {t:O'} {v0 v1 v2:Value} (h:ar w b #[v0,v1,v2] t):w.cell? ⟨b,0,As⟩=AF v0/\w.cell? ⟨b,1,As⟩=AF v1/\w.cell? ⟨b,2,As⟩=AF v2:=⟨h.cell 0,h.cell 1,h.cell 2⟩
def dw (ps:List PT) (ls:List Nat) (row:List (List Int)) (k:Nat):List (List Int):=eQ ps row (ls.getD k 0)
def wF (ps:List PT) (ls:List Nat) (f:Nat):Option (List (List (List Int))×List (List Nat)):=
 if f=0 then As else ji f (dw ps ls) ls.length (lK ps) f
theorem U6 {f:Nat} {rows:List (List (List Int))} {row:List Nat} {q:List (List Int)} (h:q∈rows):tZ f (rows,row) q=AF (rows,row++ [Yu rows q]):=Pv (st:=(rows,row)) h
theorem Rj {f:Nat} {rows:List (List (List Int))} {row:List Nat} {q:List (List Int)} (h:q∉rows) (hf:rows.length<f):tZ f (rows,row) q=AF (rows++ [q],row++ [rows.length]):=Pu (st:=(rows,row)) h (H' hf)
theorem MC {f:Nat} {rows:List (List (List Int))} {row:List Nat} {q:List (List Int)} (h:q∉rows) (hf:rows.length=f):tZ f (rows,row) q=none:=Ls (st:=(rows,row)) h hf
theorem J9 {ps:List PT} {ls:List Nat} {f n:Nat} (hf:1<=f) {st:List (List (List Int))×List (List Nat)} (h:ji f (dw ps ls) ls.length (lK ps) n=AF st):Ye f ls.length (py ps) (lK ps) n st:=
 Aw hf (AB ps) (fun _ _ hr _=>qW hr _) n h
theorem U7 {ps:List PT} {ls:List Nat} {f n:Nat} (hf:1<=f) {st:List (List (List Int))×List (List Nat)} (h:ji f (dw ps ls) ls.length (lK ps) n=AF st) (hn:st.1.length=n):wF ps ls f=AF st:=by unfold wF;rw[if_neg (by omega)];exact Pm h (by omega) f (by have:=(J9 hf h).le;omega)
theorem Rk {ps:List PT} {ls:List Nat} {f n:Nat} {rows:List (List (List Int))} {xG:List (List Nat)} (h:ji f (dw ps ls) ls.length (lK ps) n=AF (rows,xG)) {p:List (List Int)} (hp:rows[n]? =AF p): ji f (dw ps ls) ls.length (lK ps) (n+1)=(gJ f (dw ps ls p) rows ls.length).map fun r=>(r.1,xG++ [r.2]):=by rw[ji,h];show pQ f (dw ps ls) ls.length n (rows,xG)=_;unfold pQ;simp only[hp]
theorem U8 {ps:List PT} {ls:List Nat} {f n k:Nat} (hf:1<=f) {rows:List (List (List Int))} {xG:List (List Nat)} (h:ji f (dw ps ls) ls.length (lK ps) n=AF (rows,xG)) {p:List (List Int)} (hp:rows[n]? =AF p) {Rl:List (List (List Int))} {row':List Nat} (hr:gJ f (dw ps ls p) rows k=AF (Rl,row')) (hk:k<ls.length) (hq:dw ps ls p k∉Rl) (oW:f<=Rl.length):wF ps ls f=none:=by
 have I:=J9 hf h;have R:=qR (P:=fun _=>True) I.nodup I.le (fun _ _=>trivial) k (fun _ _=>trivial) hr;have h1:gJ f (dw ps ls p) rows (k+1)=none:=by rw[gJ,hr];exact MC hq (Nat.le_antisymm R.le oW)
 have h2:=GU h1 ls.length (by omega);have h3:=Rk h hp;rw[h2]at h3;have hn:n<rows.length:=(AM.1 hp).1;have hle:rows.length<=f:=I.le;unfold wF;rw[if_neg (by omega)];exact Ln h3 f (by omega)
theorem wG {wm wg:A'} {mb base L:Nat} {cs:Array Value} {nv:Value} {ns:List Value} (hb:ar wm mb cs 196) (hn:wm.ownsRow base 39 1 nv L ns) (K:ae (fun x=>x<wm.heap.size/\x≠mb/\nv.ownBlock≠AF x) wm wg) {b n:Nat} {e:O'} {v:Value} {xs:List Value} (h:wm.ownsRow b e 1 v n xs) (h1:196≠e) (h3:e≠39\/∀ x,v.ownBlock=AF x->nv.ownBlock≠AF x):wg.ownsRow b e 1 v n xs:=
 ak h K fun x hx=>⟨(h.lt x hx).2,bZ hb h h1 x hx,fun e2=>by
  rcases h3 with h3 | h3
  ·rcases ownBlock_ne h3 h hn with h5 | h5
   ·rw[h5]at hx;cases hx
   ·exact h5 (by rw[hx,e2])
  ·exact h3 x hx e2⟩
theorem oN.not {u v:Value} (h:oN u v):∀ x,u.ownBlock=AF x->v.ownBlock≠AF x:=fun x e e2=>by
 rcases h with h | h
 ·rw[h]at e;cases e
 ·exact h (by rw[e,e2])
theorem oN.not' {u v:Value} (h:oN u v):∀ x,v.ownBlock=AF x->u.ownBlock≠AF x:=fun x e e2=>h.not x e2 e
theorem Mk.next {F:Nat->Prop} {wm wg:A'} {base mb ob f L:Nat} {pv cv:Value} {ps:List PT} {rows:List (List (List Int))} {nx:List (List Int)} {sv nv kv nv' xv:Value} {us ns ks:List Value} {l:List Int} (M:Mk F wm base mb ob f pv cv ps rows nx sv nv kv us ns ks) (hL:L=nx.length) (K:ae (fun x=>x<wm.heap.size/\x≠mb/\nv.ownBlock≠AF x) wm wg) (hblk:ar wg mb #[pv,AN AT f,sv,.map (AF ob),cv,nv',kv] 196) (Tu:gU F wg base 39 nv' (L+1) (ns++ [xv])) (hx:gU F wg base 3 xv l.length (l.map aG)) (Cs:nv'.ownBlock=nv.ownBlock\/∀ x,nv'.ownBlock=AF x->wm.heap.size<=x):Mk F wg base mb ob f pv cv ps rows (nx++ [l]) sv nv' kv us (ns++ [xv]) ks where
 blk:=hblk
 map:=M.map.keeps K ⟨M.map.lt,(fun e=>by have h2:wm.heap[mb]? =_:=M.blk;have h3:wm.heap[ob]? =_:=M.map;rw[e,h2]at h3;cases h3),fun e=>lS M.ui.1 M.map (fun c fz e=>by cases e) ob e rfl⟩
 fm:=M.fm
 fo:=M.fo
 bm:=M.bm
 bo:=M.bo
 st:=⟨wG M.blk M.ui.1 K M.st.1 (by decide) (.inl (by decide)),M.st.2⟩
 Tk:=fun i u q hu hq=>by
  obtain⟨⟨vs,h1,h2⟩,h3,h4⟩:=M.Tk i u q hu hq;exact⟨⟨vs,⟨wG M.blk M.ui.1 K h1.1 (by decide) (.inr h3.not),h1.2⟩,fun i u l hu hl=>⟨wG M.blk M.ui.1 K (h2 i u l hu hl).1 (by decide) (.inl (by decide)),(h2 i u l hu hl).2⟩⟩,h3.step Cs fun b e=>(h1.1.lt b e).2,h4⟩
 ui:=by rw[aJ, <-hL];exact Tu
 NQ:=fun i u l' hu hl=>by
  have hul:ns.length=L:=by have:=M.ui.1.1;omega
  by_cases hi:i<L
  ·rw[bH (by omega)]at hu
   rw[bH (by omega)]at hl;exact⟨wG M.blk M.ui.1 K (M.NQ i u l' hu hl).1 (by decide) (.inl (by decide)),(M.NQ i u l' hu hl).2⟩
  ·have fT:=(AM.1 hu).1
   simp at fT;obtain rfl:i=L:=by omega
   rw[cF (by omega),hul,H_]at hu;rw[cF (by omega), <-hL,H_]at hl;cases hu;cases hl;exact hx
 tF:=⟨wG M.blk M.ui.1 K M.tF.1 (by decide) (.inr M.far.not'),M.tF.2⟩
 NS:=fun i u l hu hl=>⟨wG M.blk M.ui.1 K (M.NS i u l hu hl).1 (by decide) (.inl (by decide)),(M.NS i u l hu hl).2⟩
 far:=by
  rcases Cs with h | h
  ·rcases M.far with h5 | h5
   ·exact .inl (h.trans h5)
   ·exact .inr (by rw[h];exact h5)
  ·cases e:nv'.ownBlock with
   | none=>exact .inl e
   | some x=>exact .inr fun e2=>by have:=h x e;have:=(M.tF.1.lt x (by rw[<-e2,e])).2;omega
def fY (ps:List PT) (row:List (List Int)) (k:Nat):List Int:=((Q_ ps row).take k).filterMap fun y=>if y.1.nf.acc y.2 then AF y.1.mark else As
theorem Il {ps:List PT} {row:List (List Int)} {k:Nat} {x:PT} {l:List Int} (hx:ps[k]? =AF x) (hl:row[k]? =AF l):fY ps row (k+1)=fY ps row k++if x.nf.acc l then [x.mark]else []:=by
 have hz:(Q_ ps row)[k]? =AF (x,l):=by rw[List.getElem?_zip_eq_some];exact⟨hx,hl⟩
 unfold fY;rw[GO,hz,List.filterMap_append];by_cases h:x.nf.acc l=GW<;>simp[h]
theorem MD {ps:List PT} {row:List (List Int)} (h:row.length=ps.length):fY ps row ps.length=gN ps row:=by unfold fY gN;rw[D'];rw[List.length_zip,h];omega
theorem MG (ps:List PT) (row:List (List Int)) (k:Nat):(fY ps row k).length<=k:=by unfold fY;exact B_ (List.length_filterMap_le _ _) (by rw[List.length_take];omega)
def Zt (F:Nat→Prop) (base mb ob f:Nat) (pv cv:Value) (ps:List PT) (rows:List (List (List Int))) (nx:List (List Int)) (r:List (List Int)) (w1 w:A') (e:M_) (w':A'):Prop:=
  ae (fun x=>x<w1.heap.size∧(x<base∨¬F x)) w w'∧
  ((r∈rows∧e=AS (AN AT (Yu rows r))∧Wl F w' base mb ob f pv cv ps rows nx)∨
   (r∉rows∧rows.length<f∧e=AS (AN AT rows.length)∧Wl F w' base mb ob f pv cv ps (rows++ [r]) nx)∨
   (r∉rows∧f≤rows.length∧e=.panicked [{v:=.iface 265 (F_ #[]),recovered:=Lw}]))
theorem zI (F:Nat->Prop) (base mb ob f:Nat) (pv cv:Value) (ps:List PT) (rows:List (List (List Int))) (nx:List (List Int)) (ok:Uy ps) (w1 w:A') (hM:Wl F w1 base mb ob f pv cv ps rows nx) (hk:aa w1 w) (hF:∀ x,w1.heap.size<=x->F x) (lv:Value) (r:List (List Int)) (hl:aS w1.heap.size w lv r) (hr:py ps r) (hn:rows.Nodup) (tJ:∀ p∈rows,py ps p) (hf:f<=4000) (hlen:rows.length<=f) (hP:∀ W,Lo base w1 W->iX W pv ps) (hT:∀ W,Lo base w1 W->nB W): ah 171 #[Bm (AF ⟨mb,0,As⟩),lv] w fun e w'=>Zt F base mb ob f pv cv ps rows nx r w1 w e w':=by
 obtain⟨iLL,ahF,ac7,ac8,ac9⟩:=D_ Tryz.YF;obtain⟨iL,uC,j6,j7,j8⟩:=D_ Tryz.pd;obtain⟨iI,uD,jl,jm,jn⟩:=D_ Tryz.ki;obtain⟨sv,nv,kv,us,ns,ks,M⟩:=hM;have hb1:base<=w1.heap.size:=B_ M.bm (IF M.blk.lt);have HB0:DH (Lo base w1 w):=AI (hk.mono hb1);have CK:DH (ah 212 #[lv] w fun e w'=>e=AS (Hh r)/\aa w w'):=AI (Ux lv r (AW ok hr) w hl.ll fun W hW=>hT W (HB0.trans (hW.mono (B_ hb1 hk.size))));have MW:=AI (M.below hk);have M1:=AI M;have HK:=AI hk;have HL:=AI hl;have KI:DH (∀ p∈rows,tA p):=AI fun p hp=>(AW ok (tJ p hp)).in
 have KR:DH (tA r):=AI (AW ok hr).in;have HP:=AI hP;have OK:=AI ok;have HR:=AI hr;have HNn:=AI hn;have HF:=AI hF;obtain⟨L,hL⟩:=ag rows.length;have Co:=AI hL;have hLf:L<=f:=by omega
 have hst:=M.st.1;rw[<-hL]at hst;obtain⟨sa,sc,rfl⟩:=ownsRow_form hst;obtain⟨la,lc,rfl⟩:=hl.form;obtain⟨K0,yJ⟩:=ag (Hh r);obtain⟨n,JO⟩:=ag ps.length;have sA:n<=64:=by rw[JO];exact ok.1
 obtain⟨pa,pc,rfl⟩:=(hP w1 (Below.refl _ _)).form;rw[<-JO]at MW M1 HP hP M ⊢;have Rm:=AI JO;rw[<-yJ]at CK;have NJ:=AI yJ;have Zu:base<=w.heap.size:=B_ hb1 hk.size;clear M hk hl hr hn tJ hP hT hF hL hst yJ ok hlen JO;go_enter Tryz.func171,Tryz.ntmps171;go_wp2_with fail
 refine CK.mono ?_;rintro e wa ⟨rfl,hx⟩;have MA:=AI (MW.below hx);have XA:=AI hx;have LA:=AI (HL.below hx);clear hx MW CK;obtain⟨m0,m1,m2,m3,m4,m5,m6⟩:=MA.blk.seven;have oV:=Uw MA.map HNn KI r KR;rw[<-NJ.out]at oV;rcases oV with⟨hq,hlk⟩ | ⟨hq,hlk⟩
 ·have HQ:=AI hq
  clear hq;go_wp2_with fail
  by_cases oW:f<=L
  ·have hfi:(f:Int)<=(L:Int):=by omega
   have d1:decide ((f:Int)<=(L:Int))=true:=decide_eq_true hfi
   go_quiet (fail)
   go_wp2_with fail
   exact⟨rfl,(ae.aj XA fun x hx=>ay hx.1 HK.size:ae (fun x=>x<w1.heap.size/\(x<base\/¬F x)) w wa).drewN _,.inr (.inr ⟨HQ,by rw[<-Co.out];exact oW,rfl⟩)⟩
  ·have hfi:¬ ((f:Int)<=(L:Int)):=by omega
   have d1:decide ((f:Int)<=(L:Int))=false:=decide_eq_false hfi
   go_quiet (fail)
   go_wp2_with fail
   refine aw ?_;intro wb hwb;have MB:DH (Mk F wb base mb ob f (An pa n pc) cv ps rows nx (An sa L sc) nv kv us ns ks):=AI (by rw[hwb];exact MA.keeps ((ae.refl (fun _=>True) wa).drewN _) fun _ _ _=>trivial);have LB:DH (aS w1.heap.size wb (An la r.length lc) r):=AI (by rw[hwb];exact LA);have XB:DH (aa w wb):=AI (by rw[hwb];exact((ae.aj XA fun _ h=>h:ae (· <w.heap.size) w wa).drewN _).below);have ahH:wb.heap.size=wa.heap.size:=by rw[hwb];rfl
   clear hwb m0 m1 m2 m3 m4 m5 m6 MA LA XA hlk;obtain⟨m0,m1,m2,m3,m4,m5,m6⟩:=MB.blk.seven;refine aI Lw (fun _=>False) (by kernel_rfl) 10 [0,1,3,7,0,0,32,96,224,480,1023] (fun i=>i==10) (by kernel_rfl) (fun _=>aU.any _) ?_;intro C hC hne;have HC:=AI hC;have f2:=aD hC (p:=⟨mb,2,As⟩) MB.blk.lt (fun h=>h) m2;have f3:=aD hC (p:=⟨mb,3,As⟩) MB.blk.lt (fun h=>h) m3;clear hC m0 m1 m2 m3 m4 m5 m6
   repeat (refine au (fun K hK=>?_);first | (refine bL rfl ?_;try go_simp;refine hK _ _ ?_;clear hK K) | (refine bJ rfl rfl ?_;unfold az;go_simp;refine hK _ _ ?_;clear hK K))
   refine bC (fun wm hW hH=>?_);have jq:=(HC.out wm).1 hW;have MW:=AI (MB.below jq.below);have LW:=AI (LB.below jq.below);have XW:=AI (XB.trans (jq.below.mono XB.size));clear jq hW hH HC hne f2 f3 MB LB XB ahH;obtain⟨wc,hput,Im,xN,Zv⟩:=Yv (w:=wm) MW.map KI r KR HQ;rw[<-NJ.out, <-Co.out]at hput;have BC:=AI (MW.blk.keeps xN (fun e=>by have h1:=MW.map;have h2:wm.heap[mb]? =_:=MW.blk;rw[e]at h2;have h3:wm.heap[ob]? =_:=h1;rw[h2]at h3;cases h3));have SC:DH (wc.ownsRow base 27 1 (An sa L sc) L us):=AI (by have h5:=ak MW.st.1 xN (fun x hx=>lS MW.st.1 MW.map (fun c fz e=>by cases e) x hx);rw[<-Co.out]at h5;exact h5);have hbc:base<=wc.heap.size:=by rw[Zv];exact B_ Zu XW.size
   have Va:=AI Zv;clear Zv;obtain⟨c0,c1,c2,c3,c4,c5,c6⟩:=BC.seven;go_wp2_with (at_builtin;refine Hid.out ?_);refine AI ?_;refine DQ _ rfl (GS 52) (GS 54) 194 rfl base 27 iLL (An As 0 0) 1 24 Tryz.underlying194 ahF ac7 ac8 ac9 rfl (by decide) _ _ _ rfl (SC.alloc _) ⟨wc.heap.size,0,As⟩ 1 1 [An la r.length lc] rfl rfl (dO _ _ _) (by simp[EV]) (by unfold maxLen;omega) (by omega) (by simp;omega) ?_;intro v' wd hown' hgrow hh hat;have HO:=AI hown';have HG:=AI hgrow;have Ld:=AI hat;clear hown' hgrow hh hat;obtain⟨sa2,sc2,rfl⟩:=ownsRow_form HO;have BD:=AI ((BC.alloc _).grown HG (fun e=>bZ BC SC (by decide) mb e.symm rfl));clear c0 c1 c2 c3 c4 c5 c6 hput;obtain⟨c0,c1,c2,c3,c4,c5,c6⟩:=BD.seven;have z2:=BD.frozen 2;go_wp2;refine aw ?_;intro we hwe;have BE:DH (ar we mb #[An pa n pc,AN AT f,An sa2 (L+1) sc2,.map (AF ob),cv,nv,kv] 196):=AI (by rw[hwe];exact BD.set 2 _);have Zw:∀ x,(An sa L sc).ownBlock=AF x->base<=x/\x<w1.heap.size:=fun x e=>M1.st.1.lt x e
   have KG:DH (ae (fun x=>x<wm.heap.size/\(An sa L sc).ownBlock≠AF x) wc wd):=AI (((ae.refl _ _).alloc (fun x hx=>by rw[Va.out];exact hx.1) _).tr (ae.aZ HG fun x hx=>⟨by have:=hx.1;rw[<-Va.out]at this;simp;omega,fun e=>hx.2 e.symm⟩))
   have KE:DH (ae (fun x=>x<wm.heap.size/\x≠ob/\x≠mb/\(An sa L sc).ownBlock≠AF x) wm we):=AI (by
    rw[hwe]
    exact((xN.mono fun x hx=>hx.2.1).tr (KG.mono fun x hx=>⟨hx.1,hx.2.2.2⟩)).setCell (fun h=>h.2.2.1 rfl) _)
   have SE:DH (we.ownsRow base 27 1 (An sa2 (L+1) sc2) (L+1) (us++ [An la r.length lc])):=AI (by
    rw[hwe]
    exact ak HO ((ae.refl (· ≠mb) wd).setCell (p:=⟨mb,2,As⟩) (fun h=>h rfl) _) fun x hx=>bZ BD HO (by decide) x hx)
   have ME:DH (kW we ob (rows++ [r])):=AI (by
    rw[hwe];have h5:ob≠mb:=fun e=>by
     have h2:wc.heap[mb]? =_:=BC.out;have h3:wc.heap[ob]? =_:=Im;rw[e,h2]at h3;cases h3
    have h6:kW wd ob (rows++ [r]):=Im.keeps KG ⟨by rw[<-Va.out];exact Im.lt,fun e=>lS SC Im (fun c fz e=>by cases e) ob e rfl⟩
    exact h6.keeps ((ae.refl (· ≠mb) wd).setCell (p:=⟨mb,2,As⟩) (fun h=>h rfl) _) h5)
   have XE:DH (Lo base w1 we):=AI ((HB0.trans (XW.mono Zu)).trans (KE.mono fun x hx=>⟨ay (ay hx Zu) XW.size,by have h1:x<base:=hx;have:=M1.bo;omega,by have h1:x<base:=hx;have:=M1.bm;omega,fun e=>by have h1:x<base:=hx;have:=(Zw x e).1;omega⟩:ae (· <base) wm we).below);have LE:DH (aS w1.heap.size we (An la r.length lc) r):=AI (LW.keeps KE fun x h1 h2=>⟨h2,by have:=M1.map.lt;omega,by have:=M1.blk.lt;omega,fun e=>by have:=(Zw x e).2;omega⟩);have hrn:r.length=n:=by rw[Rm.out];exact HR.1
   have HRN:=AI hrn;have adb:base<=we.heap.size:=by rw[hwe];have:=BD.lt;have:=M1.bm;simp;omega
   clear hwe c0 c1 c2 c3 c4 c5 c6 z2 hrn Zw;go_loopw [8,63] (fun mv iv wr=>∃ k:Nat,k<=n/\iv=AN AT k/\wr.ownsRow we.heap.size 3 1 mv (fY ps r k).length ((fY ps r k).map aG)/\aa we wr) (fun _ iv _=>n-(intOf iv).toNat);case atStart=>exact⟨0,by omega,rfl,Cd _ _ _ _,Below.refl _ _⟩
   case round=>
    obtain⟨k,hk,rfl,ho,hx⟩:=hrel;obtain⟨wo,rfl⟩:=ag (wr:A');have HX:=AI hx;have nV:=MG ps r k;obtain⟨am,ham⟩:=ag ((fY ps r k).length);rw[<-ham]at ho nV;obtain⟨ma,mc,rfl⟩:=ownsRow_form ho;have HOm:=AI ho;have HAM:=AI ham;clear hx ho ham;by_cases hlt:k<n
    ·have ed:(k:Int)<n:=by omega
     have Ek:(k:Int)<(r.length:Int):=by have:=HRN.out;omega
     obtain⟨x,hx⟩:∃ x,ps[k]? =AF x:=⟨_,aB (by have:=Rm.out;omega)⟩;obtain⟨l,hl⟩:∃ l,r[k]? =AF l:=⟨_,aB (by have:=HRN.out;omega)⟩;obtain⟨b,off,v0,v1,v2,v3,rfl,hb,Cs,q0,q1,q2,q3,q4,q5,q6⟩:=(HP.out wo (XE.trans (HX.mono adb))).elem hx;obtain⟨b2,fL,a',c',rfl,hb2,cl,mm⟩:=(LE.ll.below HX).elem hl;obtain⟨x0,n0,y0,x1,n1,y1,x2,n2,y2,x3,n3,y3,rfl,rfl,rfl,rfl⟩:=Cs.PY;have JS:=AI Cs;have yV:=AI mm;have h2:=OK.2 x (ax hx);have hst:=HR.2 k x l hx hl;obtain⟨B,hB⟩:=ag (x.nf.acc l);have CA:DH (∀ (v u:Value) (W:A'),kT W v x.nf->bw aG W u l->ah 213 #[v,u] W fun e w'=>e=AS (By #[Ft B,AN AT 0])/\aa W w'):=AI fun v u W hv hu=>by rw[hB];exact AR v u x.nf h2.1 l hst W hv h2.2.1 hu (B_ (Hk h2.1 hst) (by decide))
     have pM:DH (fY ps r (k+1)=fY ps r k++if B then [x.mark]else []):=AI (by rw[hB];exact Il hx hl);clear hx hl Cs mm h2 hst hB;go_wp2;refine aw ?_;intro V hV;have BX:DH (ar V wo.heap.size #[An x0 n0 y0,An x1 n1 y1,An x2 n2 y2,An x3 n3 y3,Ft x.nf.emp,Ft x.za,AN AT x.mark] 124):=AI (by rw[hV];exact ar.new wo _ _);have XV:DH (aa wo V):=AI (by rw[hV];exact((Ext.refl wo).alloc _).below);have DW:V.cell? ⟨b2,fL+k,As⟩=AF (An a' l.length c'):=((ae.aj XV fun _ h=>h:ae (· <wo.heap.size) wo V).cell (p:=⟨b2,fL+k,As⟩) hb2).trans cl;clear hV q0 q1 q2 q3 q4 q5 q6 cl;refine aI Lw (fun _=>False) (by kernel_rfl) 11 [0,1,0,0,12,28,63,127,255,255,511,2047] (fun i=>i==6) (by kernel_rfl) (fun i=>if i=6 then aU.Cm _ (By #[Ft B,AN AT 0])else aU.any _) ?_;intro C hC hne;have HC:=AI hC;have f0:=aD hC (p:=⟨wo.heap.size,0,As⟩) BX.lt (fun h=>h) (BX.cell 0);have f1:=aD hC (p:=⟨wo.heap.size,1,As⟩) BX.lt (fun h=>h) (BX.cell 1);have f2:=aD hC (p:=⟨wo.heap.size,2,As⟩) BX.lt (fun h=>h) (BX.cell 2);have f3:=aD hC (p:=⟨wo.heap.size,3,As⟩) BX.lt (fun h=>h) (BX.cell 3);have f4:=aD hC (p:=⟨wo.heap.size,4,As⟩) BX.lt (fun h=>h) (BX.cell 4);have f5:=aD hC (p:=⟨b2,fL+k,As⟩) (G_ _ _ DW) (fun h=>h) DW;clear hC DW
     repeat (refine au (fun K hK=>?_);first | (refine bL rfl ?_;try go_simp;refine hK _ _ ?_;clear hK K) | (refine bJ rfl rfl ?_;unfold az;go_simp;refine hK _ _ ?_;clear hK K))
     refine au (fun K hK=>?_);refine bS rfl rfl (aU.Cm _ (By #[Ft B,AN AT 0])) rfl (fun W hW hN=>?_) (fun v hv=>?_)
     ·have hM:=(HC.out W).1 hW
      clear hW;go_simp;refine bA ((CA _ _ _ ((JS.below XV).below hM.below) ((yV.below XV).below hM.below)).mono ?_);rintro e w2 ⟨rfl,hx⟩;exact⟨_,rfl,Move.aj hx,rfl,trivial⟩
     replace hv:v=_:=hv;subst hv;go_simp;refine hK _ _ ?_;clear hK K
     repeat (refine au (fun K hK=>?_);first | (refine bL rfl ?_;try go_simp;refine hK _ _ ?_;clear hK K) | (refine bJ rfl rfl ?_;unfold az;go_simp;refine hK _ _ ?_;clear hK K))
     refine bC (fun W hW hH=>?_);have jq:=(HC.out W).1 hW;have BW:=AI (BX.below jq.below BX.lt);have XW2:=AI (XV.trans (jq.below.mono XV.size));clear jq hW hH HC hne f0 f1 f2 f3 f4 f5;have i6:=BW.seven.2.2.2.2.2.2;have OW:=AI (ai HOm XW2);have UC:wo.heap.size<W.heap.size:=BW.lt;have ahK:we.heap.size<=wo.heap.size:=HX.size;cases B with
     | false=>
      go_wp2;go_roundw;case rel=>exact⟨k+1,by omega,by go_num,by rw[pM.out];simp only[Bool.false_eq_true,if_false,Ly];rw[<-HAM.out];exact OW,HX.trans (XW2.mono ahK)⟩
      case measure=>simp[intOf];omega
     | true=>
      go_wp2_with (at_builtin;refine DQ _ rfl (GS 79) (GS 82) 39 rfl we.heap.size 3 iI (AN AT 0) 1 8 IN uD jl jm jn rfl (by decide) _ _ _ rfl (OW.alloc _) ⟨W.heap.size,0,As⟩ 1 1 [AN AT x.mark] rfl rfl (dO _ _ _) (by simp[EV]) (by unfold maxLen;omega) (by omega) (by simp;omega) ?_;intro v' w2 hown' hgrow hh hat;have jF:=AI hown';have HG2:=AI hgrow;clear hown' hgrow hh hat)
      go_roundw
      case rel=>
       refine⟨k+1,by omega,by go_num,?_,?_⟩
       ·rw[pM.out]
        simp only[if_true];rw[aJ,D0, <-HAM.out];exact jF
       ·have XX:=HX.trans (XW2.mono HX.size)
        exact(XX.alloc XX.size _).grown HG2 (by have:=XX.size;simp;omega) (fun c e=>(OW.lt c e).1)
      case measure=>simp[intOf];omega
    ·obtain rfl:k=n:=by omega
     have Cq:¬ ((k:Int)<k):=by omega
     have CSo:DH (ah 214 #[An ma am mc] wo fun e w'=>e=AS (By #[])/\w'.ownsRow we.heap.size 3 1 (An ma am mc) am ((fk (fY ps r k)).map aG)/\ae (fun x=>x<wo.heap.size/\(An ma am mc).ownBlock≠AF x) wo w'):=AI (LH _ _ _ _ _ HOm (by omega));go_wp2_with fail
     refine CSo.mono ?_;rintro e wf ⟨rfl,ho,hx⟩;have OF:=AI ho;have Mw:∀ x,(An ma am mc).ownBlock=AF x->we.heap.size<=x:=fun x e=>(HOm.lt x e).1
     have XF:DH (aa we wf):=AI (HX.trans (hx.mono fun x AH=>⟨ay AH HX.size,fun e=>by have h1:x<we.heap.size:=AH;have:=Mw x e;omega⟩:ae (· <we.heap.size) wo wf).below);clear ho hx HOm HX CSo Mw;have lq:fY ps r k=gN ps r:=by have:=MD (ps:=ps) (row:=r) HR.1;rw[<-Rm.out]at this;exact this
     obtain⟨cn,hcn⟩:=ag ((Lib.compact (fk (fY ps r k))).length);obtain⟨cx,Pc⟩:=ag ((Lib.compact (fk (fY ps r k))).map aG);have MKS:DH (Lib.compact (fk (fY ps r k))=dH ps r):=AI (by rw[lq];exact yf fun x hx=>(OK.2 x hx).2.2);have aoM:cn<=64:=by have h5:=Lib.compact_length_le (fk (fY ps r k));rw[<-hcn,kS, <-HAM.out]at h5;omega
     have CC:DH (∀ W,W.ownsRow we.heap.size 3 1 (An ma am mc) am ((fk (fY ps r k)).map aG)->ah 215 #[An ma am mc] W fun e w'=>e=AS (An ma cn mc)/\w'.ownsRow we.heap.size 3 1 (An ma cn mc) cn cx/\ae (fun x=>x<W.heap.size/\(An ma am mc).ownBlock≠AF x) W w'):=AI fun W hW=>(A9 _ _ _ _ W hW (by omega)).mono fun e w' ⟨u,he,h1,h2,h3⟩=>by
      have h4:=yj (by rw[kS, <-HAM.out]) h3;rw[<-hcn]at h4 h1;rw[<-Pc]at h1;rw[h4]at he h1;exact⟨he,h1,h2⟩
     have HCN:DH (cn=(dH ps r).length/\cx=(dH ps r).map aG):=AI ⟨by rw[hcn,MKS.out],by rw[Pc,MKS.out]⟩;have Ek:wm.ownsRow base 39 1 kv L ks:=by have:=MW.tF.1;rw[<-Co.out]at this;exact this
     obtain⟨ka,kc,rfl⟩:=ownsRow_form Ek;have KR0:=AI Ek;have nI:wm.ownsRow base 27 1 (An sa L sc) L us:=by have:=MW.st.1;rw[<-Co.out]at this;exact this
     have SW:=AI nI
     have KRE:DH (we.ownsRow base 39 1 (An ka L kc) L ks):=AI (ak Ek KE fun x hx=>⟨(Ek.lt x hx).2,lS Ek MW.map (fun c fz e=>by cases e) x hx,bZ MW.blk Ek (by decide) x hx,fun e2=>by
      rcases ownBlock_ne (by decide) Ek nI with h5 | h5
      ·rw[h5]at hx;cases hx
      ·exact h5 (by rw[hx,e2])⟩)
     have adf:∀ x,(An ka L kc).ownBlock=AF x->x<we.heap.size:=fun x e=>(KRE.lt x e).2
     have HKV:=AI adf;have BF:=AI (BE.below XF BE.lt);have KRF:=AI (ai KRE XF);have adg:(An ka L kc).ownBlock≠AF mb:=fun e=>bZ BE KRE (by decide) mb e rfl
     have ahL:we.heap.size<=wf.heap.size:=XF.size;clear lq hcn Pc Ek nI adf;obtain⟨c0,c1,c2,c3,c4,c5,c6⟩:=BF.seven;go_wp2_with fail
     refine RegQ.br (xI we.heap.size base L cn (An ka L kc) (An ma cn mc) ks cx) xI.drew (fun _ _ _ h k=>h.trans k) (by kernel_rfl) 10 [0,0,2,6,14,30,0,64,192,510,1023,2047,4095,8191] (fun i=>i==7 || i==8 || i==9 || i==13) (by kernel_rfl) (fun i=>if i=7 then vV.YG we.heap.size base L cn (An ka L kc) (An ma cn mc) ks cx else if i=8 then vV.box we.heap.size base L cn (An ka L kc) (An ma cn mc) ks cx else if i=9 then vV.new we.heap.size base L cn (An ka L kc) (An ma cn mc) ks cx else aU.any _) (fun j W=>j=7->W.ownsRow we.heap.size 3 1 (An ma am mc) am ((fk (fY ps r k)).map aG)) (fun _ _ _=>OF) ?_;intro C hC hne;have HC:=AI hC;have f6:∀ W: {W//C W},W.1.cell? ⟨mb,6,As⟩=AF (An ka L kc):=fun W=>(((hC W.1).1 W.2).keep.cell (p:=⟨mb,6,As⟩) ⟨BE.lt,BF.lt,adg⟩).trans c6
     clear hC c0 c1 c2 c3 c4 c5 c6
     repeat (refine RegQ.au (fun K hK=>?_);first | (refine RegQ.bL rfl ?_;try go_simp;refine hK _ _ ?_;clear hK K) | (refine RegQ.bJ rfl rfl ?_;unfold az;go_simp;refine hK _ _ ?_;clear hK K))
     refine RegQ.au (fun K hK=>?_);refine RegQ.bS rfl rfl (vV.YG we.heap.size base L cn (An ka L kc) (An ma cn mc) ks cx) rfl (fun W hW hD hN=>?_) (fun v hv=>?_)
     ·have WG:=hD rfl
      clear hW hD hN hK K;go_simp;refine bA ((CC W WG).mono ?_);rintro e w2 ⟨rfl,ho,hk2⟩;exact⟨_,rfl,⟨xI.compact WG hk2 ho,fun j hj _ e=>absurd e hj⟩,rfl,ho⟩
     replace hv:v=_:=hv;subst hv;go_simp;refine hK _ _ ?_;clear hK K;refine RegQ.au (fun K hK=>?_);refine RegQ.bS rfl rfl (vV.box we.heap.size base L cn (An ka L kc) (An ma cn mc) ks cx) rfl (fun W hW hD hN=>?_) (fun v hv=>?_)
     ·have hMz:=((HC W).1 hW).size
      clear hW hN hK K;go_simp;exact⟨⟨xI.below ((Ext.refl _).alloc _).below,fun j _ _ h e=>(h e).alloc _⟩,⟨_,by omega,rfl⟩,fun b hb=>by cases hb;exact ar.new _ _ _⟩
     obtain⟨bx,Za,rfl⟩:=hv;go_simp;refine hK _ _ ?_;clear hK K;refine RegQ.au (fun K hK=>?_);refine RegQ.bS rfl rfl (vV.new we.heap.size base L cn (An ka L kc) (An ma cn mc) ks cx) rfl (fun W hW hD hN=>?_) (fun v hv=>?_)
     ·have jq:=(HC.out W).1 hW
      have rq:ar W bx #[An ma cn mc] 39:=hN.at 0 rfl (by kernel_rfl) bx rfl;have hkw:=jq.old KRF;have hMz:=jq.size;have HBW:=AI rq;have yl:=AI hkw;clear hW hN hK K jq rq hkw;refine lT (GS 92) (GS 95) 27 rfl base 39 iL (An As 0 0) 1 24 E_ uC j6 j7 j8 rfl (by decide) (An ka L kc) L ks rfl yl ⟨bx,0,As⟩ 1 1 [An ma cn mc] rfl HBW.VZ rfl (by simp[EV]) (by unfold maxLen;omega) (by omega) (by omega) (by decide) ?_;intro v' w2 ho hg kA;refine⟨⟨xI.append yl HKV ho hg (kA.imp (fun h=>h.1) id),fun j _ _ h e=>(h e).kept hg (ownBlock_ne (by decide) (h e) yl)⟩,ownsRow_form ho,ho,?_⟩;rcases kA with⟨_,h⟩ | ⟨g,cap,h1,h2,_⟩
      ·exact .inr fun x hx=>by rw[h]at hx;cases hx;omega
      ·exact .inl (by rw[h2,h1];rfl)
     obtain⟨kb,kd,rfl⟩:=hv;go_simp;refine hK _ _ ?_;clear hK K;refine RegQ.bC (fun W hW hH=>?_);have jq:=(HC.out W).1 hW;have NR:DH (W.ownsRow base 39 1 (An kb (L+1) kd) (L+1) (ks++ [An ma cn mc])/\((An kb (L+1) kd).ownBlock=(An ka L kc).ownBlock\/∀ x,(An kb (L+1) kd).ownBlock=AF x->we.heap.size<=x)):=AI (hH _ (ax (show _=AF _ from rfl:_[0]? =AF _)));have CR:DH (W.ownsRow we.heap.size 3 1 (An ma cn mc) cn cx):=AI (hH _ (ax (show _=AF _ from rfl:_[2]? =AF _)));have BG:=AI (BF.keeps jq.keep ⟨BE.lt,BF.lt,adg⟩);have KV:=AI jq.keep;clear jq hW hH HC hne f6 CC OF;obtain⟨c0,c1,c2,c3,c4,c5,c6⟩:=BG.seven;have z6:=BG.frozen 6;have wL:AT.wrap (L:Int)=L:=IntWalk.i64_in _ (by omega);go_wp2;refine DI ?_;intro wg hwg;go_ret;have hem:wm.heap.size<=we.heap.size:=KE.size;have h1m:w1.heap.size<=wm.heap.size:=B_ HK.size XW.size;have Zx:∀ x,(An ka L kc).ownBlock=AF x->base<=x/\x<w1.heap.size:=fun x e=>M1.tF.1.lt x e
     have ahM:∀ x,(An sa L sc).ownBlock=AF x->base<=x/\x<w1.heap.size:=fun x e=>M1.st.1.lt x e
     have aoO:=M1.blk.lt;have aoP:=M1.map.lt;have K2:ae (fun x=>x<we.heap.size/\x≠mb/\(An ka L kc).ownBlock≠AF x) we wg:=by rw[hwg];exact((ae.aj XF fun x hx=>hx.1:ae (fun x=>x<we.heap.size/\x≠mb/\(An ka L kc).ownBlock≠AF x) we wf).tr (KV.mono fun x hx=>⟨hx.1,ay hx.1 ahL,hx.2.2⟩)).setCell (fun h=>h.2.1 rfl) _
     have K:ae (fun x=>x<wm.heap.size/\x≠ob/\x≠mb/\(An sa L sc).ownBlock≠AF x/\(An ka L kc).ownBlock≠AF x) wm wg:=(KE.mono fun x hx=>⟨hx.1,hx.2.1,hx.2.2.1,hx.2.2.2.1⟩).tr (K2.mono fun x hx=>⟨ay hx.1 hem,hx.2.2.1,hx.2.2.2.2⟩);obtain⟨lus,ll1,ll2,ll3⟩:=LE.out;have Zy:∀ x,(An la r.length lc).ownBlock=AF x->w1.heap.size<=x/\x<we.heap.size:=fun x e=>ll2.lt x e
     have Rn:∀ (v y:Value) (N:Nat),(∀ x,v.ownBlock=AF x->N<=x)->(∀ x,y.ownBlock=AF x->x<N)->oN v y:=fun v y N h1 h2=>by
      cases e:v.ownBlock with
      | none=>exact .inl e
      | some x=>exact .inr fun e2=>by have:=h1 x e;have:=h2 x (by rw[<-e2,e]);omega
     have yJ:ae (fun x=>x<w1.heap.size/\(x<base\/¬F x)) w wg:=(ae.aj XW fun x hx=>ay hx.1 HK.size:ae (fun x=>x<w1.heap.size/\(x<base\/¬F x)) w wm).tr (K.mono fun x hx=>⟨by omega,fun e=>by subst e;rcases hx.2 with h | h;exact absurd M1.bo (by omega);exact h M1.fo,fun e=>by subst e;rcases hx.2 with h | h;exact absurd M1.bm (by omega);exact h M1.fm,fun e=>by rcases hx.2 with h | h;exact absurd (ahM x e).1 (by omega);exact h (M1.st.2 x e),fun e=>by rcases hx.2 with h | h;exact absurd (Zx x e).1 (by omega);exact h (M1.tF.2 x e)⟩);have q1:ar wg mb #[An pa k pc,AN AT f,An sa2 (L+1) sc2,.map (AF ob),cv,nv,An kb (L+1) kd] 196:=by rw[hwg];exact BG.set 6 _
     have q2:kW wg ob (rows++ [r]):=ME.keeps K2 ⟨ME.lt,(fun e=>by have h2:we.heap[mb]? =_:=BE.out;have h3:we.heap[ob]? =_:=ME.out;rw[e,h2]at h3;cases h3),fun e=>lS KRE ME (fun c fz e=>by cases e) ob e rfl⟩
     have q3:gU F wg base 27 (An sa2 (L+1) sc2) (L+1) (us++ [An la r.length lc]):=⟨ak SE K2 fun x hx=>⟨(SE.lt x hx).2,bZ BE SE (by decide) x hx,fun e2=>by
      rcases ownBlock_ne (by decide) SE KRE.out with h5 | h5
      ·rw[h5]at hx;cases hx
      ·exact h5 (by rw[hx,e2])⟩,fun x hx=>by
      rcases Ld.out with h | h
      ·exact M1.st.2 x (h.symm.trans hx)
      ·rw[h]at hx;cases hx;exact HF _ (by have:=Va.out;simp;omega)⟩
     have q4:Mf F wg base (An la r.length lc) r:=(Mf.of (LE.keeps K2 fun x h1 h2=>⟨h2,by omega,fun e=>by have:=(Zx x e).2;omega⟩) HF).base hb1;have q5:oN (An la r.length lc) nv:=Rn _ _ w1.heap.size (fun x e=>(Zy x e).1) (fun x e=>(M1.ui.1.lt x e).2);have q6:oN (An la r.length lc) (An kb (L+1) kd):=by
      rcases NR.2 with h | h
      ·exact Rn _ _ w1.heap.size (fun x e=>(Zy x e).1) (fun x e=>(Zx x (h.symm.trans e)).2)
      ·cases e:(An la r.length lc).ownBlock with
       | none=>exact .inl e
       | some x=>exact .inr fun e2=>by have:=(Zy x e).2;have:=h x (by rw[<-e2,e]);omega
     have q7:gU F wg base 39 (An kb (L+1) kd) (L+1) (ks++ [An ma cn mc]):=⟨by rw[hwg];exact ak NR.1 ((ae.refl (· ≠mb) W).setCell (p:=⟨mb,6,As⟩) (fun h=>h rfl) _) fun x hx=>bZ BG NR.1 (by decide) x hx,fun x hx=>by
      rcases NR.2 with h | h
      ·exact M1.tF.2 x (h.symm.trans hx)
      ·exact HF x (by have:=h x hx;omega)⟩
     have q8:gU F wg base 3 (An ma cn mc) cn cx:=⟨by rw[hwg];exact aC (ak CR ((ae.refl (· ≠mb) W).setCell (p:=⟨mb,6,As⟩) (fun h=>h rfl) _) fun x hx=>bZ BG CR (by decide) x hx) adb,fun x hx=>HF x (by have:=(CR.lt x hx).1;omega)⟩;have q9:∀ v,(∀ x,v.ownBlock=AF x->x<wm.heap.size)->oN v (An ka L kc)->oN v (An kb (L+1) kd):=fun v h1 h2=>h2.step NR.2 fun b e=>ay (h1 b e) hem
     have MF:=Mk.more MW Co K q1 q2 q3 q4 q5 q6 q7 q8 HCN.1 HCN.2 q9;exact⟨yJ,.inr (.inl ⟨HQ,by rw[<-Co.out];omega,by rw[<-Co.out];rfl,_,_,_,_,_,_,MF⟩)⟩
 ·have HQ:=AI hq
  obtain⟨ix,Vb⟩:=ag (Yu rows r);rw[<-Vb]at hlk;have HIX:=AI Vb;clear hq Vb;go_wp2;go_ret;refine⟨ae.aj XA fun x hx=>ay hx.1 HK.size,.inl ⟨HQ,by rw[HIX.out];rfl,_,_,_,_,_,_,MA⟩⟩
theorem Io (p:Addr) (w:A'): CallsD DS 170 #[Bm (AF p)] .returning w fun e u' w'=>e=AS (By #[])/\u'=.returning/\w'=w:=by
 refine NX N' rfl fun adi cs hu=>?_
 apply wpS_seq;apply wpS_region;simp[wpOpsS,go_sem,recoverD,hu,N_,Exit.thenS];refine wpS_of_wp ?_;go_wp2;cases adi
 simp_all[bodyPostS,results,L7]
theorem uo (p:Addr) (x:Value) (WH:List PanicEntry) (w:A') (hc:w.cell? p=AF x) (hz:w.frozen? p=Lw) (hp:p.block<w.heap.size): CallsD DS 170 #[Bm (AF p)] (.panicking ({v:=.iface 265 (F_ #[]),recovered:=Lw} ::WH)) w fun e u' w'=>
   e=AS (By #[])/\u'=.panicking ({v:=.iface 265 (F_ #[]),recovered:=GW} ::WH)/\∃ w2,aa w w2/\w'=w2.setCell p (AN AT 181):=by
 refine NX N' rfl fun adi cs hu=>?_
 apply wpS_seq;apply wpS_region;simp[wpOpsS,go_sem,recoverD,hu,N_,Exit.thenS];refine wpS_of_wp ?_;have hta:∀ w:A',(Instr.typeAssert (.iface 265 (F_ #[])) 20 265 GW).run DS w=.ok (By #[F_ #[],Ft GW]) w:=fun _=>by kernel_rfl
 have hK:ae (· <w.heap.size) w (w.alloc (.cells #[] 265)):=ae.aj ((Ext.refl w).alloc _).below fun _ h=>h
 have hc2:(w.alloc (.cells #[] 265)).cell? p=AF x:=(hK.cell hp).trans hc;have hz2:(w.alloc (.cells #[] 265)).frozen? p=false:=(hK.frozen hp).trans hz;go_wp2;refine⟨rfl,_,rfl,By #[],?_,rfl,rfl,_,((Ext.refl w).alloc _).below,rfl⟩;simp[results,L7]
theorem MH (n:Nat) (hn:n<=64) (w:A'):ah 142 #[AN GB 1,AN GB n] w fun e w'=>e=AS (By #[AN GB 0,AN GB n])/\w'=w:=by
 have a1:bits .and GB (1:Int) 4294967295=1:=by decide
 have a2:bits .and GB (n:Int) 4294967295=n:=by
  have h:∀ m:Fin 65,bits .and GB ((m.val:Nat):Int) 4294967295=(m.val:Int):=by decide+kernel
  exact h ⟨n,by omega⟩
 go_enter Tryz.func142,Tryz.ntmps142
 have h0:(n:Int)/4294967296=0:=by omega
 have a3:bits .and GB (0:Int) 4294967295=0:=by decide
 have a4:GB.wrap 0=0:=by decide
 go_wp2;refine C_ (v:=By #[AN GB 0,AN GB n]) (by simp[results,Tryz.results142,go_sem]) rfl ⟨rfl,rfl⟩
theorem Kc (n:Nat) (hn:n<=64) (w:A'):ah 80 #[AN GB 1,AN GB n] w fun e w'=>e=AS (By #[AN GB 0,AN GB n])/\w'=w:=by
 have CM:=AI (MH n hn w);go_enter Tryz.func80,Tryz.ntmps80;go_wp2_with fail
 refine CM.mono ?_;rintro e w2 ⟨rfl,hw⟩;replace hw:=hw.symm;subst hw;go_wp2;refine C_ (v:=By #[AN GB 0,AN GB n]) (by simp[results,Tryz.results80,go_sem]) rfl ⟨rfl,rfl⟩
theorem Ip (n:Nat):(madeCells (An As 0 0).cells (n*1)).toList=B' n (An As 0 0):=by
 apply List.ext_getElem?;intro i;simp only[madeCells,Value.cells,Nat.mul_one,Array.toList_map,Array.toList_range,aN,DE];rcases Nat.lt_or_ge i n with h | h
 ·rw[Is h,if_pos h];simp[Nat.mod_one]
 ·rw[aT (by simpa using h),if_neg (by omega)];rfl
def nN (n m:Nat) (h:Value):List Value:=B' m h++B' (n-m) (An As 0 0)
theorem wH {n m:Nat} (h:Value) (hm:m<=n):(nN n m h).length=n:=by unfold nN;simp;omega
theorem EI {base g n m k:Nat} {h:Value} {W:A'} (h1:h.oneCell'=GW) (ho:W.ownsRow base 39 1 (An (AF ⟨g,0,As⟩) n n) n (nN n m h)) (hk:m+k<=n) (a:Addr) (sl sc:Nat) (hs:∀ j,j<k->W.cell? (a.add j)=AF h) (VS:k=IT sl (n-m)) (ty:O'): ∃ W',(Builtin.copy_ #[27,27] ty #[An (AF ⟨g,m,As⟩) (n-m) (n-m),An (AF a) sl sc]).run DS W=.ok (AN AT k) W'/\W'.ownsRow base 39 1 (An (AF ⟨g,0,As⟩) n n) n (nN n (m+k) h)/\ae (· ≠g) W W':=by
 rcases ho.2 with⟨e,_⟩ | ⟨g',cap,cur,e,hb,hg,hc,hcm,hsz,er⟩
 ·cases e
 ·cases e
  have uZ:cur.toList=nN n m h:=by rw[<-er,D'];simp[hsz]
  refine⟨_,by
         have:=run_copy_row (P:=DS) W 27 27 ty 39 g m (n-m) (n-m) a sl sc cur 39 (B' k h) E_ (by kernel_rfl) hg (by rw[Bs];exact VS) (fun j v hj=>by
    rw[DE]at hj;split at hj
    ·cases hj;exact hs j (by assumption)
    ·cases hj) (by rw[Bs,hsz];omega) (fun v hv=>by rw[List.eq_of_mem_replicate hv];exact h1)
         rw[Bs]at this
         exact this,?_,(ae.refl _ _).setRow (fun h=>h rfl) _⟩
  have Iq:(cur.toList.take m++B' k h++cur.toList.drop (m+k))=nN n (m+k) h:=by rw[uZ];unfold nN;rw[List.take_left' (by simp),List.replicate_append_replicate];congr 1;rw[List.drop_append,List.drop_eq_nil_of_le (by simp),Bs,List.nil_append,List.drop_replicate];congr 1;omega
  rw[Iq];refine⟨by rw[wH h hk];omega,.inr ⟨g,n,_,rfl,hb,setRow_heap W g cur _ _ _ hg,hc,hcm,by simp[wH h hk],?_⟩⟩;rw[D'];simp[wH h hk]
theorem zJ {P:Program} {Cl:FuncId->Array Value->A'->(M_->A'->Prop)->Prop} {Rd:Nat->FuncId->Array Value->Code->Code->A'->(M_->A'->Prop)->Prop} {o:Oper} {a:Act} {W W':A'} {post:Value->A'->Prop} {v:Value} (d s:Operand) (t1 t2:O') (ho:o.op=.call {callee:=.builtin .copy,args:= #[d,s],argTypes:= #[t1,t2]}) (dv sv:Value) (hd:a.eval d=dv) (hs:a.eval s=sv) (hr:(Builtin.copy_ #[t1,t2] o.type #[dv,sv]).run P W=.ok v W') (h:post v W'):jB Cl Rd post ((execOp a.eval o).run P W):=by unfold execOp;simp only[ho,resolve,invoke,builtin,Sem.run_bind,Sem.run_pure,Result.andThen_ok,List.map_toArray,List.map_cons,List.map_nil,hs,hd,hr];exact h
def Vc (g n m:Nat) (h:Value) (A B:A'):Prop:=ae (fun x=>x<A.heap.size/\x≠g) A B/\(A.ownsRow g 39 1 (An (AF ⟨g,0,As⟩) n n) n (nN n m h)->B.ownsRow g 39 1 (An (AF ⟨g,0,As⟩) n n) n (nN n m h))
theorem Vc.trans {g n m:Nat} {h:Value} {A B C:A'} (h1:Vc g n m h A B) (h2:Vc g n m h B C):Vc g n m h A C:=⟨h1.1.trans h2.1 fun _ hx=>⟨ay hx.1 h1.1.size,hx.2⟩,fun a=>h2.2 (h1.2 a)⟩
theorem Vc.drew {g n m:Nat} {h:Value} {A:A'} :Vc g n m h A A.drew:=⟨(ae.refl _ _).drew,fun a=>a⟩
def WI (g n m:Nat) (h v:Value):aU (Vc g n m h):=⟨fun u=>u=v,fun _ W=>W.ownsRow g 39 1 (An (AF ⟨g,0,As⟩) n n) n (nN n m h),v,rfl,fun _ _ _ hm _ h=>hm.2 h⟩
theorem Ir (b gb:Nat) (h:Value) (n:Nat) (hn:n<=64) (w:A') (hc:w.cell? ⟨gb,0,As⟩=AF h) (hh:w.ownsRow b 3 1 h 1 [aG (-1)]) (hb:b<=w.heap.size): ah 172 #[An (AF ⟨gb,0,As⟩) 1 1,AN AT n] w fun e w'=>∃ u,e=AS u/\aS b w' u (B' n [-1])/\aa w w':=by
 obtain⟨iL,uC,j6,j7,j8⟩:=D_ Tryz.pd;have CM:=AI (Kc n hn);have cv1:GB.wrap (n:Int)=n:=by have:=IntWalk.u64_in (n:Int) (by omega);exact this
 have cv2:AT.wrap (n:Int)=n:=IntWalk.i64_in _ (by omega);have d1:decide ((n:Int)<0)=false:=decide_eq_false (by omega);have d2:decide ((9223372036854775807:Int)<(n:Int))=false:=decide_eq_false (by omega);have HH:=AI hh;have HCc:=AI hc;have hgb:=G_ _ _ hc;clear hh hc;go_enter Tryz.func172,Tryz.ntmps172;go_wp2_with fail
 refine(CM w).mono ?_;rintro e w2 ⟨rfl,hw⟩;replace hw:=hw.symm;subst hw;go_wp2_with (at_make;refine wpList_make_full _ rfl (GS 29) (GS 29) 27 rfl w.heap.size 39 iL (An As 0 0) 1 E_ uC j6 j7 AT AT _ _ n rfl rfl rfl rfl (by rw[j8];omega) (by unfold maxLen;omega) (aF _) ?_;intro w3 hr hg;refine Hid.out ?_);refine AI ?_;have hs3:w.heap.size<w3.heap.size:=by
  rcases hr.2 with⟨h5,_⟩ | ⟨g,c,cur,h5,_,h6,_⟩
  ·cases h5
  ·cases h5;exact(Array.getElem?_eq_some_iff.1 h6).1
 have hb3:aa w w3:=(ae.aZ hg fun x hx=>⟨hx,fun e=>by cases e⟩:ae (· <w.heap.size) w w3).below;rw[Ip]at hr;have h1h:h.oneCell'=true:=by obtain⟨a,c,rfl⟩:=ownsRow_form HH;rfl
 have hr2:w3.ownsRow w.heap.size 39 1 (An (AF ⟨w.heap.size,0,As⟩) n n) n (nN n 0 h):=by unfold nN;rw[I_];exact hr
 have hc3:w3.cell? ⟨gb,0,As⟩=AF h:=((ae.aj hb3 fun _ h=>h:ae (· <w.heap.size) w w3).cell (p:=⟨gb,0,As⟩) hgb).trans HCc
 obtain⟨w4,yO,Vd,hk4⟩:=EI (k:=IT 1 n) h1h hr2 (by rw[On];exact Nat.min_le_right _ _) ⟨gb,0,As⟩ 1 1 (fun j hj=>by
  have Yi:j=0:=by have:=ay hj (Nat.min_le_left 1 n);omega
  subst Yi
  exact hc3) (by rw[I_]) 3
 rw[I_]at yO;rw[On]at Vd;obtain⟨k0,rS⟩:=ag (IT 1 n);rw[<-rS]at yO Vd;have Iu:k0<=n/\(n=0\/1<=k0):=by rw[rS];unfold IT;constructor<;>omega
 have HO4:=AI Vd;have X4:DH (aa w w4):=AI (hb3.trans (hk4.mono fun x hx=>by have h5:x<w.heap.size:=hx;show x≠w.heap.size;omega:ae (· <w.heap.size) w3 w4).below);clear hr hr2 hg hb3 hc3 Vd hk4 rS CM;go_wp2_with (at_builtin;refine Lib.wpList_copy_run _ rfl (GS 31) (GS 32) 27 27 rfl _ _ rfl rfl yO ?_;clear yO);go_loopw [8] (fun mv wr=>∃ m:Nat,m<=n/\(n=0\/1<=m)/\mv=AN AT m/\wr.ownsRow w.heap.size 39 1 (An (AF ⟨w.heap.size,0,As⟩) n n) n (nN n m h)/\aa w wr) (fun mv _=>n-(intOf mv).toNat);case atStart=>exact⟨k0,Iu.1,Iu.2,rfl,HO4,X4⟩
 case round=>
  obtain⟨m,hm,lA,rfl,ho,hx⟩:=hrel;obtain⟨wo,rfl⟩:=ag (wr:A');have HO:=AI ho;have HX:=AI hx;clear ho hx HO4 X4 Iu;by_cases hlt:m<n
  ·have hmi:(m:Int)<n:=by omega
   have hmn:¬ ((n:Int)<m):=by omega
   have oL:(m:Int)<=n:=by omega
   have dml:decide ((m:Int)<=n)=true:=decide_eq_true oL;obtain⟨k,hk⟩:=ag (IT m (n-m));have Cq:m+k<=n/\1<=k/\k<=m:=by rw[hk];unfold IT;refine⟨?_,?_,?_⟩<;>omega
   have Cp:=AI hk;clear hk;go_wp2_with fail
   refine RegQ.br (Vc w.heap.size n (m+k) h) Vc.drew (fun _ _ _ h k=>h.trans k) (by kernel_rfl) 8 [0,0,0,6,0,0,48,126,255,511] (fun i=>i==7) (by kernel_rfl) (fun i=>if i=7 then WI w.heap.size n (m+k) h (AN AT k)else aU.any _) (fun j W=>(j=7)->W.ownsRow w.heap.size 39 1 (An (AF ⟨w.heap.size,0,As⟩) n n) n (nN n m h)) (fun _ _ _=>HO) ?_;intro C hC hne;have HC:=AI hC;clear hC
   repeat (refine RegQ.au (fun K hK=>?_);first | (refine RegQ.bL rfl ?_;try go_simp;refine hK _ _ ?_;clear hK K) | (refine RegQ.bJ rfl rfl ?_;unfold az;go_simp;refine hK _ _ ?_;clear hK K))
   refine RegQ.au (fun K hK=>?_);refine RegQ.bS rfl rfl (WI w.heap.size n (m+k) h (AN AT k)) rfl (fun W hW hD hN=>?_) (fun v hv=>?_)
   ·have WG:=hD rfl
    clear hW hN hK K hD
    obtain⟨W',e1,e2,e3⟩:=EI (k:=k) h1h WG Cq.1 ⟨w.heap.size,0,As⟩ m n (fun j hj=>by
     have:(⟨w.heap.size,0,As⟩:Addr).add j=⟨w.heap.size,j,As⟩:=by simp[Addr.add];omega
     rw[this,WG.cellAt j (by omega)];unfold nN
     rw[bH (by rw[Bs];omega),DE,if_pos (by omega)]) Cp 3
    refine zJ (GS 41) (GS 44) 27 27 rfl _ _ ?_ ?_ e1 ?_
    ·show An (if n=m then _ else _) _ _=_
     rw[if_neg (by omega)]
    ·rfl
    ·exact⟨⟨⟨e3.mono fun x hx=>hx.2,fun _=>e2⟩,fun j hj _ _ e=>absurd e hj⟩,rfl,e2⟩
   replace hv:v=_:=hv;subst hv;go_simp;refine hK _ _ ?_;clear hK K
   repeat (refine RegQ.au (fun K hK=>?_);first | (refine RegQ.bL rfl ?_;try go_simp;refine hK _ _ ?_;clear hK K) | (refine RegQ.bJ rfl rfl ?_;unfold az;go_simp;refine hK _ _ ?_;clear hK K))
   refine RegQ.bC (fun W hW hH=>?_);have jq:=(HC.out W).1 hW;have NR:DH (W.ownsRow w.heap.size 39 1 (An (AF ⟨w.heap.size,0,As⟩) n n) n (nN n (m+k) h)):=AI (hH _ (ax (show _=AF _ from rfl:_[0]? =AF _)));have XR:DH (aa w W):=AI (HX.trans (jq.1.mono fun x hx=>⟨ay hx HX.size,H' hx⟩:ae (· <w.heap.size) wo W).below);clear jq hW hH HC hne HO HX;go_wp2;go_roundw;case rel=>exact⟨m+k,Cq.1,by omega,by go_num,NR,XR⟩
   case measure=>simp[intOf];omega
  ·obtain rfl:m=n:=by omega
   have hmn:¬ ((m:Int)<m):=by omega
   go_wp2;go_ret;refine⟨_,rfl,⟨B' m h,by simp,?_,fun i u l hu hl=>?_⟩,HX⟩
   ·have h5:=aC HO hb
    unfold nN at h5;rw[H_,List.replicate_zero,Ly]at h5;rw[Bs];exact h5
   ·rw[DE]at hu hl
    split at hu
    ·cases hu
     rw[if_pos (by assumption)]at hl;cases hl;exact ai HH HX
    ·cases hu
theorem Zz {α:Type} [DecidableEq α] {l:List α} {q:α} (h:q∈l):l.idxOf q<l.length:=List.idxOf_lt_length_of_mem h
theorem ZA {base c x:Nat} {F0:Nat->Prop} (h:x<base\/x=c\/¬F0 x):x<base\/¬ (F0 x/\x≠c):=by
 rcases h with h | h | h
 ·exact .inl h
 ·exact .inr fun h2=>h2.2 h
 ·exact .inr fun h2=>h h2.1
theorem adm {base c x:Nat} {F0:Nat->Prop} {q:Prop} (h:x<base\/x=c\/¬F0 x):x<base\/¬ ((F0 x/\x≠c)/\q):=(ZA h).imp id fun h h2=>h h2.1
theorem tK (tmps:Array Value) (c0:Nat) (ht:tmps[4]?.getD undef=Bm (AF ⟨c0,0,As⟩)) (R:M_->A'->Prop) (W:A') (hB:ar W c0 #[AN AT 0] 32) (h:∀ W',ae (fun x=>x<W.heap.size/\x≠c0) W W'->R (AS (AN AT 181)) W'): P_ DS P' tmps R [{target:=.fn (.func 170) #[Bm (AF ⟨c0,0,As⟩)],args:= #[]}] (.panicking [{v:=.iface 265 (F_ #[]),recovered:=Lw}]) W:=by refine leaves_cons (f:=170) (args:= #[Bm (AF ⟨c0,0,As⟩)]) (by simp) (by simp[go_sem]) ?_;refine(uo ⟨c0,0,As⟩ (AN AT 0) [] W (hB.cell 0) (hB.frozen 0) hB.lt).mono ?_;rintro e u' w'' ⟨rfl,rfl,w2,hk,rfl⟩;have hB2:=hB.below hk hB.lt;have hB3:=hB2.set 0 (AN AT 181);have h1:=hB3.cell 0;have K:ae (fun x=>x<W.heap.size/\x≠c0) W (w2.setCell ⟨c0,0,As⟩ (AN AT 181)):=(ae.aj hk fun x hx=>hx.1:ae (fun x=>x<W.heap.size/\x≠c0) W w2).setCell (fun h=>h.2 rfl) _;have h5:=h _ K;obtain⟨W2,hW2⟩:=ag (w2.setCell ⟨c0,0,As⟩ (AN AT 181));rw[<-hW2]at h1 h5 ⊢;replace h1:W2.cell? ⟨c0,0,As⟩=AF (AN AT 181):=h1;simp[P_,settle,results,L_,go_sem,ht,h1];exact h5
theorem MI (tmps:Array Value) (c0:Nat) (k:Int) (ht:tmps[4]?.getD undef=Bm (AF ⟨c0,0,As⟩)) (R:M_->A'->Prop) (W:A') (hB:ar W c0 #[AN AT k] 32) (h:R (AS (AN AT k)) W): P_ DS P' tmps R [{target:=.fn (.func 170) #[Bm (AF ⟨c0,0,As⟩)],args:= #[]}] .returning W:=by refine leaves_cons (f:=170) (args:= #[Bm (AF ⟨c0,0,As⟩)]) (by simp) (by simp[go_sem]) ?_;refine(Io ⟨c0,0,As⟩ W).mono ?_;rintro e u' w'' ⟨rfl,rfl,rfl⟩;have h1:w''.cell? ⟨c0,0,As⟩=AF (AN AT k):=hB.cell 0;simp[P_,settle,results,L_,go_sem,ht,h1];exact h
theorem Ro (F0:Nat->Prop) (base mb ob f:Nat) (pv cv lv:Value) (ps:List PT) (ls:List Nat) (ok:Uy ps) (w:A') (hF0:∀ x,w.heap.size<=x->F0 x) (hM:Wl F0 w base mb ob f pv cv ps [] []) (hf:f<=4000) (hls:ls.length<=256) (TF:∀ c∈ls,c<256) (hL:∀ W,ae (fun x=>x<w.heap.size/\(x<base\/¬F0 x)) w W->bw en W lv ls) (hP:∀ W,Lo base w W->iX W pv ps) (hT:∀ W,Lo base w W->nB W): ah 114 #[Bm (AF ⟨mb,0,As⟩),lv] w fun e w'=>ae (fun x=>x<w.heap.size/\(x<base\/¬F0 x)) w w'/\((∃ st,wF ps ls f=AF st/\e=AS (AN AT 0)/\Wl (fun _=>True) w' base mb ob f pv cv ps st.1 (st.2.map fun r=>r.map A_))\/(wF ps ls f=As/\e=AS (AN AT 181))):=by
 obtain⟨iL,uC,j6,j7,j8⟩:=D_ Tryz.pd;obtain⟨iI,uD,jl,jm,jn⟩:=D_ Tryz.ki;obtain⟨sv,nv,kv,us,ns,ks,M⟩:=hM;obtain⟨pa,pc,rfl⟩:=(hP w (Below.refl _ _)).form;obtain⟨la,lc,rfl⟩:=(hL w (ae.refl _ _)).form;obtain⟨n,JO⟩:=ag ps.length;obtain⟨m,hlm⟩:=ag ls.length;rw[<-JO]at M hP ⊢;rw[<-hlm]at hL hls ⊢;have sA:n<=64:=by rw[JO];exact ok.1
 have rq:base<w.heap.size:=Nat.lt_of_le_of_lt M.bm M.blk.lt;have pC:mb<w.heap.size:=M.blk.lt;have MW:=AI M;have Rm:=AI JO;have HLM:=AI hlm;have HL:=AI hL;have HP:=AI hP;have HT:=AI hT;have OK:=AI ok;have ZE:=AI TF;have HF0:=AI hF0
 have CR:DH (∀ (b gb:Nat) (h:Value) (W:A'),W.cell? ⟨gb,0,As⟩=AF h->W.ownsRow b 3 1 h 1 [aG (-1)]->b<=W.heap.size->
  ah 172 #[An (AF ⟨gb,0,As⟩) 1 1,AN AT n] W fun e w'=>∃ u,e=AS u/\aS b w' u (B' n [-1])/\aa W w'):=AI fun b gb h W h1 h2 h3=>Ir b gb h n sA W h1 h2 h3
 have m0:w.cell? ⟨mb,0,As⟩=AF (An pa n pc):=M.blk.cell 0;clear M JO hlm hL hP hT ok TF hF0;have hmf:∀ (fn:Fn) (first cap:Array Value) (w:A'),(Instr.makeFunc fn first cap).run DS w=.ok (.func fn first cap) w:=fun _ _ _ _=>rfl
 go_enter_defers Tryz.func114,Tryz.ntmps114
 have m1:(((w.alloc (.cells #[AN AT 0] 32)).alloc (.cells #[AN AT (-1)] 3)).alloc (.cells #[An (AF ⟨w.heap.size+1,0,As⟩) 1 1] 39)).cell? ⟨mb,0,As⟩=AF (An pa n pc):=
  ((ae.aj ((((Ext.refl w).alloc _).alloc _).alloc _).below fun _ h=>h:ae (· <w.heap.size) w _).cell (p:=⟨mb,0,As⟩) pC).trans m0
 go_wp2_with fail
 refine(CR (w.heap.size+1) (w.heap.size+1+1) (An (AF ⟨w.heap.size+1,0,As⟩) 1 1) _ (by go_simp) ?_ (by simp)).mono ?_
 ·have h5:((w.alloc (.cells #[AN AT 0] 32)).alloc (.cells #[AN AT (-1)] 3)).ownsRow (w.heap.size+1) 3 1 (An (AF ⟨w.heap.size+1,0,As⟩) 1 1) 1 [AN AT (-1)]:=by
   have h6:=If (w.alloc (.cells #[AN AT 0] 32)) (.cells #[AN AT (-1)] 3);rw[J']at h6;exact⟨rfl,.inr ⟨w.heap.size+1,1, #[AN AT (-1)],rfl,aF _,h6,aF _,by unfold maxLen;omega,rfl,rfl⟩⟩
  exact h5.alloc _
 rintro e w3 ⟨u,rfl,ho3,hk3⟩
 have CA:DH (∃ wA:A',wA.heap.size=w.heap.size+1/\aa w wA/\ar wA w.heap.size #[AN AT 0] 32/\aa wA w3):=AI ⟨w.alloc (.cells #[AN AT 0] 32),J' _ _,((Ext.refl w).alloc _).below,ar.new _ _ _,by
  have h5:=(((Ext.refl (w.alloc (.cells #[AN AT 0] 32))).alloc (.cells #[AN AT (-1)] 3)).alloc (.cells #[An (AF ⟨w.heap.size+1,0,As⟩) 1 1] 39)).below
  exact h5.trans (hk3.mono h5.size)⟩
 have Wx:=AI ho3;clear ho3 hk3 m1 m0 CR;obtain⟨wA,hA1,hA2,hA3,hA4⟩:=CA.out;have Ge:=AI hA1;have XA:=AI hA2;have BA:=AI hA3;have X3:=AI hA4;clear hA1 hA2 hA3 hA4 CA;have MA:DH (Mk (fun x=>F0 x/\x≠w.heap.size) wA base mb ob f (An pa n pc) cv ps [] [] sv nv kv us ns ks):=AI ((MW.mono fun x hx h=>⟨h,H' hx⟩).below XA);have PB:DH (Lo base w wA):=AI (XA.mono (IF rq));have ZF:DH (∀ W W',ae (fun x=>x<wA.heap.size/\(x<base\/x=w.heap.size\/¬F0 x)) wA W->ae (fun x=>x<W.heap.size/\x≠w.heap.size) W W'->ae (fun x=>x<w.heap.size/\(x<base\/¬F0 x)) w W'):=AI fun W W' h1 h2=>by
  have h4:=h1.size;have h5:=Ge.out;exact((ae.aj XA fun x hx=>hx.1:ae (fun x=>x<w.heap.size/\(x<base\/¬F0 x)) w wA).tr (h1.mono fun x hx=>⟨by omega,hx.2.imp id .inr⟩)).tr (h2.mono fun x hx=>⟨by omega,by omega⟩)
 clear MW;go_wp2_with fail
 refine(zI (fun x=>F0 x/\x≠w.heap.size) base mb ob f (An pa n pc) cv ps [] [] OK wA w3 ⟨_,_,_,_,_,_,MA⟩ X3 (fun x hx=>⟨HF0 x (by have:=Ge.out;omega),by have:=Ge.out;omega⟩) u (lK ps) ?_ (AB ps) List.nodup_nil (fun p hp=>by cases hp) hf (FG _) (fun W hW=>HP W (PB.out.trans hW)) (fun W hW=>HT W (PB.out.trans hW))).mono ?_
 ·have h5:=Wx.out
  have h6:lK ps=B' n [-1]:=by unfold lK;rw[List.map_const',Rm.out]
  rw[h6,Ge.out];exact h5
 rintro e w4 ⟨hk4,hq⟩;rcases hq with⟨h1,_⟩ | ⟨h1,h2,rfl,hM4⟩ | ⟨h1,h2,rfl⟩
 ·cases h1
 ·have KA:DH (ae (fun x=>x<wA.heap.size/\(x<base\/x=w.heap.size\/¬F0 x)) wA w4):=AI ((ae.aj X3 fun x hx=>hx.1:ae (fun x=>x<wA.heap.size/\(x<base\/x=w.heap.size\/¬F0 x)) wA w3).tr (hk4.mono fun x hx=>⟨hx.1,ZA hx.2⟩))
  have M4:=AI hM4;have Qb:1<=f:=by simp at h2;omega
  clear hk4 hM4 h1 h2 X3 Wx MA;go_wp2;go_loopw [5] (fun iv wr=>∃ (k:Nat) (rows:List (List (List Int))) (xG:List (List Nat)),ji f (dw ps ls) ls.length (lK ps) k=AF (rows,xG)/\k<=rows.length/\iv=AN AT k/\Wl (fun x=>F0 x/\x≠w.heap.size) wr base mb ob f (An pa n pc) cv ps rows (xG.map fun r=>r.map A_)/\ae (fun x=>x<wA.heap.size/\(x<base\/x=w.heap.size\/¬F0 x)) wA wr) (fun iv _=>f-(intOf iv).toNat);case atStart=>exact⟨0,[lK ps],[],rfl,FG _,rfl,M4,KA⟩
  case round=>
   obtain⟨k,rows,xG,hst,hk,rfl,hM,hK⟩:=hrel;obtain⟨sv1,nv1,kv1,us1,ns1,ks1,M⟩:=hM;obtain⟨wo,rfl⟩:=ag (wr:A');have IS:=AI (J9 Qb hst);obtain⟨L,ZG⟩:=ag rows.length;have ZI:=M.st.1;rw[<-ZG]at ZI hk;obtain⟨sa,sc,rfl⟩:=ownsRow_form ZI;have hLf:L<=f:=by rw[ZG];exact(J9 Qb hst).le
   have MO:=AI M;have Co:=AI ZG;have HST:=AI hst;have KO:=AI hK;have m2:wo.cell? ⟨mb,2,As⟩=AF (An sa L sc):=M.blk.cell 2;clear hst hK M ZG ZI M4 KA;by_cases hlt:k<L
   ·have ed:(k:Int)<L:=by omega
    obtain⟨p,hp⟩:∃ p,rows[k]? =AF p:=⟨_,aB (by have:=Co.out;omega)⟩;have HPp:=AI hp;clear hp;go_wp2;clear m2;go_loopw [6,31] (fun nv2 iv wi=>∃ (j:Nat) (gY:List (List (List Int))) (sL:List Nat),gJ f (dw ps ls p) rows j=AF (gY,sL)/\j<=m/\iv=AN AT j/\wi.ownsRow wA.heap.size 3 1 nv2 j (sL.map fun t:Nat=>AN AT t)/\Wl (fun x=>(F0 x/\x≠w.heap.size)/\nv2.ownBlock≠AF x) wi base mb ob f (An pa n pc) cv ps gY (xG.map fun r=>r.map A_)/\ae (fun x=>x<wA.heap.size/\(x<base\/x=w.heap.size\/¬F0 x)) wA wi) (fun _ iv _=>m-(intOf iv).toNat);case atStart=>exact⟨0,rows,[],rfl,FG _,rfl,Cd _ _ _ _,⟨_,_,_,_,_,_,MO.mono fun x _ hx=>⟨hx,fun e=>by cases e⟩⟩,KO⟩
    case round=>
     obtain⟨j,gY,sL,hr2,hj,rfl,GG,Tq,hK2⟩:=hrel;obtain⟨wj,rfl⟩:=ag (wr:A');have RO:=AI (qR (P:=py ps) IS.nodup IS.le IS.all j (fun _ _=>qW (IS.all p (ax HPp)) _) hr2);have HR2:=AI hr2;have jF:=AI GG;have K2:=AI hK2;have M2:=AI Tq;clear hr2 GG hK2 Tq;by_cases Gp:j<m
     ·have jA:(j:Int)<m:=by omega
      obtain⟨c,hc⟩:∃ c,ls[j]? =AF c:=⟨_,aB (by have:=HLM.out;omega)⟩;have kP:c<256:=ZE.out c (ax hc);have HG:DH (dw ps ls p j=eQ ps p c):=AI (by unfold dw;rw[bB,hc];rfl);have PJ:DH (Lo base w wj):=AI (PB.out.trans (K2.mono fun x (hx:x<base)=>⟨by have:=Ge.out;omega,.inl hx⟩:ae (· <base) wA wj).below);obtain⟨lb,lo,rfl,TF,fl⟩:=(HL.out wj ((ae.aj XA fun x hx=>hx.1:ae (fun x=>x<w.heap.size/\(x<base\/¬F0 x)) w wA).tr (K2.mono fun x hx=>⟨by have:=Ge.out;omega,hx.2.imp id .inr⟩))).elem hc;replace fl:wj.cell? ⟨lb,lo+j,As⟩=AF (AN Rr c):=fl;obtain⟨sv2,nv3,kv2,us2,ns2,ks2,M⟩:=M2.out;obtain⟨L2,hL2⟩:=ag gY.length;have Ve:=M.st.1;rw[<-hL2]at Ve;obtain⟨sa2,sc2,rfl⟩:=ownsRow_form Ve;have aoZ:L<=L2:=by have h5:=RO.pre.length_le;have h6:=Co.out;simp only at h5;omega
      have hk2:k<L2:=by omega
      have ao0:(0:Int)<=k/\(k:Int)<L2:=by omega
      obtain⟨g,u,rfl,hbg,hgs,hu,fu,hz⟩:=eE Ve hk2;have Wi:gY[k]? =AF p:=by obtain⟨ys,Uf⟩:=RO.pre;replace Uf:rows++ys=gY:=Uf;rw[<-Uf,bH (by have:=Co.out;omega)];exact HPp
      have hLu:=(M.Tk k u p hu Wi).1.own;obtain⟨ua,uc,rfl⟩:=hLu.form;have HLu:=AI hLu;have f0:wj.cell? ⟨mb,0,As⟩=AF (An pa n pc):=M.blk.cell 0;have f2:wj.cell? ⟨mb,2,As⟩=AF (An (AF ⟨g,0,As⟩) L2 sc2):=M.blk.cell 2;clear Ve hz hu hc hL2 Wi hLu;have Vf:wA.heap.size<=wj.heap.size:=K2.size;have CS:DH (∀ (W:A') (v:Value),aa wj W->aS wj.heap.size W v (eQ ps p c)->ah 171 #[Bm (AF ⟨mb,0,As⟩),v] W fun e w'=>ae (fun x=>x<wj.heap.size/\(x<base\/¬ ((F0 x/\x≠w.heap.size)/\u6.ownBlock≠AF x))) W w'/\((∃ (t:Nat) (Kd:List (List (List Int))),t<=4000/\gJ f (dw ps ls p) rows (j+1)=AF (Kd,sL++ [t])/\e=AS (AN AT t)/\Wl (fun x=>(F0 x/\x≠w.heap.size)/\u6.ownBlock≠AF x) w' base mb ob f (An pa n pc) cv ps Kd (xG.map fun r=>r.map A_))\/(wF ps ls f=As/\e=.panicked [{v:=.iface 265 (F_ #[]),recovered:=Lw}]))):=AI fun W v hW hv=>by
       have yF:gY.length<=f:=RO.le;refine(zI (fun x=>(F0 x/\x≠w.heap.size)/\u6.ownBlock≠AF x) base mb ob f (An pa n pc) cv ps gY (xG.map fun r=>r.map A_) OK wj W M2.out hW (fun x hx=>⟨⟨HF0 x (by have:=Ge.out;omega),by have:=Ge.out;omega⟩,fun e=>by have:=(jF.lt x e).2;omega⟩) v (eQ ps p c) hv (qW (IS.all p (ax HPp)) c) RO.nodup RO.all hf yF (fun W hW=>HP W (PJ.trans hW)) (fun W hW=>HT W (PJ.trans hW))).mono ?_;rintro e w' ⟨hk,hq⟩;refine⟨hk,?_⟩;rcases hq with⟨h1,rfl,h3⟩ | ⟨h1,h2,rfl,h3⟩ | ⟨h1,h2,rfl⟩
       ·refine .inl ⟨Yu gY (eQ ps p c),gY,?_,?_,rfl,h3⟩
        ·have:Yu gY (eQ ps p c)<gY.length:=Zz h1
         omega
        ·rw[gJ,HR2.out,HG.out]
         exact U6 h1
       ·refine .inl ⟨gY.length,gY++ [eQ ps p c],by omega,?_,rfl,h3⟩
        rw[gJ,HR2.out,HG.out];exact Rj h1 h2
       ·exact .inr ⟨U8 Qb HST HPp HR2 (by have:=HLM.out;omega) (by rw[HG.out];exact h1) h2,rfl⟩
      go_wp2_with fail
      refine(LZ mb (An pa n pc) (An ua p.length uc) ps OK p (IS.all p (ax HPp)) c kP wj f0 (HP wj PJ) HLu.ll).mono ?_;rintro e w2 ⟨v1,rfl,ho3,hk3⟩;have Wx:=AI ho3;have X3:=AI hk3;clear ho3 hk3 f0 f2 fl fu;go_wp2_with fail
      refine(CS w2 v1 X3 Wx).mono ?_;rintro e w3 ⟨hk4,hq⟩;have K4:=AI hk4;clear hk4;have Wm:DH (ae (fun x=>x<wA.heap.size/\(x<base\/x=w.heap.size\/¬F0 x)) wA w3):=AI ((K2.tr (ae.aj X3 fun x hx=>ay hx.1 Vf)).tr (K4.mono fun x hx=>⟨ay hx.1 Vf,adm hx.2⟩));rcases hq with⟨t,Kd,ht,hr3,rfl,hM3⟩ | ⟨hno,rfl⟩
      ·have RN:DH (w3.ownsRow wA.heap.size 3 1 u6 j (sL.map fun t:Nat=>AN AT t)):=AI (ak jF ((ae.aj X3 fun x hx=>hx.1:ae (fun x=>x<wj.heap.size/\u6.ownBlock=AF x) wj w2).tr (K4.mono fun x hx=>⟨hx.1,.inr fun h=>h.2 hx.2⟩)) fun x hx=>⟨(jF.lt x hx).2,hx⟩)
       have HR3:=AI hr3;have M3:=AI hM3;have YD:wA.heap.size<=w3.heap.size:=Wm.size;clear hr3 hM3 CS;go_wp2_with (at_builtin;refine Hid.out ?_);refine AI ?_;refine DQ _ rfl (GS 35) (GS 48) 39 rfl wA.heap.size 3 iI (AN AT 0) 1 8 IN uD jl jm jn rfl (by decide) u6 j _ rfl (RN.alloc _) ⟨w3.heap.size,0,As⟩ 1 1 [AN AT t] rfl rfl (dO _ _ _) (by simp[EV]) (by unfold maxLen;omega) (by omega) (by simp;omega) ?_;intro v' w5 hown' hgrow hh hat;have Iw:=AI hown';have lB:=AI hgrow;have Ld:=AI hat;clear hown' hgrow hh hat;go_wp2;go_roundw;case rel=>
        refine⟨j+1,Kd,sL++ [t],HR3,by omega,by go_num,?_,?_,?_⟩
        ·rw[D0];exact Iw
        ·obtain⟨sv3,nv3,kv3,us3,ns3,ks3,M⟩:=M3.out
         have M4:=M.below ((Ext.refl w3).alloc (.cells #[AN AT t] 3)).below
         have M5:=M4.mono (F':=fun x=>((F0 x/\x≠w.heap.size)/\u6.ownBlock≠AF x)/\v'.ownBlock≠AF x) fun x hx h=>⟨h,fun e=>by
          rcases Ld.out with h5 | h5
          ·exact h.2 (by rw[<-h5,e])
          ·rw[h5]at e;cases e;simp at hx⟩
         have M6:=M5.keeps (ae.aZ lB fun x hx=>⟨hx.1,fun e=>hx.2 e.symm⟩:ae (fun x=>x<(w3.alloc (.cells #[AN AT t] 3)).heap.size/\u6.ownBlock≠AF x) _ w5) fun x hx h=>⟨hx,h.1.2⟩
         exact⟨_,_,_,_,_,_,M6.mono fun x _ h=>⟨h.1.1,h.2⟩⟩
        ·exact(Wm.alloc (fun x hx=>ay hx.1 YD) _).tr (ae.aZ lB fun x hx=>⟨by have:=hx.1;simp;omega,fun e=>by have:=(RN.lt x e.symm).1;have:=hx.1;omega⟩)
       case measure=>simp[intOf];omega
      ·refine tK _ w.heap.size rfl _ w3 (BA.keeps Wm ⟨by have:=Ge.out;omega,.inr (.inl rfl)⟩) fun W' Ll=>⟨ZF w3 W' Wm Ll,.inr ⟨hno,rfl⟩⟩
     ·have F5:j=m:=by omega
      subst F5;clear Gp hj;have jA:¬ ((j:Int)<j):=by omega
      obtain⟨sv2,nv3,kv2,us2,ns2,ks2,M⟩:=M2.out;have hxf:=jF.out;obtain⟨xa,xc,rfl⟩:=ownsRow_form hxf;have qE:(xG.map fun r=>r.map A_).length=k:=by have h5:=IS.len;have h6:=Co.out;simp only at h5;rw[aP,h5];omega
      have Tu:=M.ui.1;rw[qE]at Tu;obtain⟨na,nc,rfl⟩:=ownsRow_form Tu;have f5:wj.cell? ⟨mb,5,As⟩=AF (An na k nc):=M.blk.cell 5;have M3:=AI (M.mono (F':=fun x=>F0 x/\x≠w.heap.size) fun x _ h=>h.1);have HNR:=AI Tu;have ZJ:=AI qE;have hbj:base<=wj.heap.size:=B_ M.bm (IF M.blk.lt);have ahT:mb≠w.heap.size:=M.fm.1.2;clear M hxf qE Tu;go_wp2_with (at_builtin;refine Hid.out ?_);refine AI ?_;refine DQ _ rfl (GS 56) (GS 58) 27 rfl base 39 iL (An As 0 0) 1 24 E_ uC j6 j7 j8 rfl (by decide) (An na k nc) k ns2 rfl (HNR.alloc _) ⟨wj.heap.size,0,As⟩ 1 1 [An xa j xc] rfl rfl (dO _ _ _) (by simp[EV]) (by unfold maxLen;omega) (by omega) (by simp;omega) ?_;intro v' w5 hown' hgrow hh hat;obtain⟨va,vc,rfl⟩:=ownsRow_form hown';have adn:AF mb≠(An na k nc).ownBlock:=fun e=>bZ M3.blk HNR (by decide) mb e.symm rfl
      have B5:=AI ((M3.blk.alloc (.cells #[An xa j xc] 39)).grown hgrow adn);have Iw:=AI hown';have lB:=AI hgrow;have Ld:=AI hat;have g5:=B5.cell 5;have z5:=B5.frozen 5;clear hown' hgrow hh hat f5 adn;go_wp2;have K9:ae (fun x=>x<wj.heap.size/\x≠mb/\(An na k nc).ownBlock≠AF x) wj (w5.setCell ⟨mb,5,As⟩ (An va (k+1) vc)):=(((ae.refl _ wj).alloc (fun x hx=>hx.1) _).tr (ae.aZ lB fun x hx=>⟨by have:=hx.1;simp;omega,fun e=>hx.2.2 e.symm⟩)).setCell (fun h=>h.2.1 rfl) _;have K5:ae (· ≠mb) w5 (w5.setCell ⟨mb,5,As⟩ (An va (k+1) vc)):=(ae.refl _ w5).setCell (fun h=>h rfl) _;have Vf:wA.heap.size<=wj.heap.size:=K2.size;have hlr:sL.length=j:=RO.len;have e1:sL.map (fun t:Nat=>AN AT t)=(sL.map A_).map aG:=by rw[List.map_map];rfl
      have C9:(An va (k+1) vc).ownBlock=(An na k nc).ownBlock\/∀ x,(An va (k+1) vc).ownBlock=AF x->wj.heap.size<=x:=Ld.imp id fun h x e=>by rw[h]at e;cases e;simp
      have hrow:gU (fun x=>F0 x/\x≠w.heap.size) (w5.setCell ⟨mb,5,As⟩ (An va (k+1) vc)) base 3 (An xa j xc) (sL.map A_).length ((sL.map A_).map aG):=by rw[<-e1,aP,hlr];exact⟨wG M3.blk HNR K9 (aC jF (by have:=Ge.out;omega)) (by decide) (.inl (by decide)),fun x e=>⟨HF0 x (by have:=(jF.lt x e).1;have:=Ge.out;omega),by have:=(jF.lt x e).1;have:=Ge.out;omega⟩⟩
      have MF:=Mk.next M3 ZJ.symm K9 (B5.set 5 _) ⟨ak Iw K5 fun x hx=>bZ B5 Iw (by decide) x hx,fun x e=>by
       rcases C9 with h5 | h5
       ·exact M3.ui.2 x (h5.symm.trans e)
       ·exact⟨HF0 x (by have:=h5 x e;have:=Ge.out;omega),by have:=h5 x e;have:=Ge.out;omega⟩⟩ hrow C9
      have K8:ae (fun x=>x<wA.heap.size/\(x<base\/x=w.heap.size\/¬F0 x)) wA (w5.setCell ⟨mb,5,As⟩ (An va (k+1) vc)):=K2.tr (K9.mono fun x hx=>⟨ay hx.1 Vf,fun e=>by
       rcases hx.2 with h5 | h5 | h5
       ·have:=M3.bm;omega
       ·exact ahT (e.symm.trans h5)
       ·exact h5 (by rw[e];exact M3.fm.1),fun e=>by
       rcases hx.2 with h5 | h5 | h5
       ·have:=(HNR.lt x e).1;omega
       ·exact(M3.ui.2 x e).2 h5
       ·exact h5 (M3.ui.2 x e).1⟩)
      have hst:ji f (dw ps ls) ls.length (lK ps) (k+1)=AF (gY,xG++ [sL]):=by rw[Rk HST.out HPp.out, <-HLM.out,HR2.out];rfl
      have Ek:k+1<=gY.length:=by have h5:rows.length<=gY.length:=RO.pre.length_le;have:=Co.out;omega
      go_roundw
      case rel=>
       refine⟨k+1,gY,xG++ [sL],hst,Ek,by go_num,?_,K8⟩;rw[D0];exact⟨_,_,_,_,_,_,MF⟩
      case measure=>simp[intOf];omega
   ·have hkL:k=L:=by omega
    subst hkL;clear hlt;have ed:¬ ((k:Int)<k):=by omega
    have B0:=AI (BA.keeps KO ⟨by have:=Ge.out;omega,.inr (.inl rfl)⟩);have g0:=B0.cell 0;have z0:=B0.frozen 0;go_wp2;have K9:ae (fun x=>x<wo.heap.size/\x≠w.heap.size) wo (wo.setCell ⟨w.heap.size,0,As⟩ (AN AT 0)):=(ae.refl _ wo).setCell (fun h=>h.2 rfl) _;exact MI _ w.heap.size 0 rfl _ _ (B0.set 0 _) ⟨ZF wo _ KO K9,.inl ⟨rows,xG,U7 Qb HST (by have:=Co.out;show rows.length=k;omega),rfl,_,_,_,_,_,_,(MO.keeps K9 fun x hx h=>⟨hx,h.2⟩).mono fun x _ _=>trivial⟩⟩
 ·have KA:ae (fun x=>x<wA.heap.size/\(x<base\/x=w.heap.size\/¬F0 x)) wA w4:=(ae.aj X3 fun x hx=>hx.1:ae (fun x=>x<wA.heap.size/\(x<base\/x=w.heap.size\/¬F0 x)) wA w3).tr (hk4.mono fun x hx=>⟨hx.1,ZA hx.2⟩)
  refine tK _ w.heap.size rfl _ w4 (BA.keeps KA ⟨by have:=Ge.out;omega,.inr (.inl rfl)⟩) fun W' Ll=>⟨ZF w4 W' KA Ll,.inr ⟨?_,rfl⟩⟩
  unfold wF;rw[if_pos (by simpa using h2)]
theorem cU.src {w:A'} {v:Value} {l:List BS} (h:cU w v l):s7 w v l.length (aL l):=by
 rcases h with⟨rfl,rfl⟩ | ⟨b,off,cap,rfl,_,hc⟩
 ·exact .inl ⟨rfl,rfl,rfl⟩
 ·refine .inr ⟨⟨b,off,As⟩,cap,rfl,fun j u hj=>?_⟩
  have FZ:j<l.length*4:=by rw[<-cG];exact(AM.1 hj).1
  have h1:l[j/4]? =AF (l[j/4]'(by omega)):=aB (by omega);have h2:=ij l h1 (j:=j%4) (by omega);rw[show j/4*4+j%4=j by omega,hj]at h2;rw[Addr.add_mid,show off+j=off+j/4*4+j%4 by omega,hc _ _ h1 _ (by omega), <-h2]
theorem rE {ps:List PT} {k:Nat} {x:PT} (h:ps[k]? =AF x):cw (ps.take (k+1))=cw (ps.take k)++x.nf.aO:=by unfold cw;rw[GO,h];simp
theorem PT.wI (x:PT):x.ok=GW↔x.nf.right=GW/\0<=x.mark/\x.mark<=255:=by unfold PT.ok;simp[and_assoc]
theorem Bo {ps:List PT} {f:Int} (h:ps.length<=64) {k:Nat} {x:PT} (hx:ps[k]? =AF x) (hb:¬x.ok=GW):kR ps f=(⟨[],[],[]⟩,180):=by unfold kR;rw[if_neg (by omega),if_pos];rw[List.all_eq_false];exact⟨x,ax hx,hb⟩
theorem Rp {ps:List PT} {f:Int} (h:64<ps.length):kR ps f=(⟨[],[],[]⟩,5):=by unfold kR;rw[if_pos h]
theorem ZL {ps:List PT} (h:∀ (k:Nat) (x:PT),ps[k]? =AF x->x.ok=GW):ps.all PT.ok=true:=Kx.2 fun x hx=>by
 obtain⟨i,hi⟩:=FF hx;exact h i x hi
theorem EJ {ps:List PT} {f:Int} (h:ps.length<=64) (ho:ps.all PT.ok=GW) (hf:f<0\/4000<f):kR ps f=(⟨[],[],[]⟩,2):=by unfold kR;rw[if_neg (by omega),ho,if_neg (by decide),if_pos hf]
theorem tL {α:Type} [DecidableEq α] {fuel:Nat} {g g':Nat->α} {todo:List α} :∀ {k:Nat},(∀ j,j<k->g j=g' j)->gJ fuel g todo k=gJ fuel g' todo k
 | 0,_=>rfl
 | k+1,h=>by rw[gJ,gJ,tL fun j hj=>h j (by omega),h k (by omega)]
theorem wJ {α:Type} [DecidableEq α] {fuel K:Nat} {f f':α->Nat->α} {p0:α} (h:∀ p j,j<K->f p j=f' p j):∀ n,ji fuel f K p0 n=ji fuel f' K p0 n
 | 0=>rfl
 | n+1=>by
  rw[ji,ji,wJ h n];congr 1;funext st;unfold pQ;cases st.1[n]? with
  | none=>rfl
  | some p=>simp only[tL (h p)]
theorem Vg {ps:List PT} {f:Nat} {ls:List Nat} (hl:ls.length=(partsOf (cw ps)).length) (h:∀ k,k<ls.length->ls.getD k 0=lb (partsOf (cw ps)) k):wF ps ls f=si ps f:=by
 unfold wF si;rw[hl];split
 ·rfl
 ·refine wJ (fun p j hj=>?_) f
  unfold dw;rw[h j (by omega)]
theorem Rq {ps:List PT} {f:Nat} (h:ps.length<=64) (ho:ps.all PT.ok=GW) (hf:f<=4000) (hs:si ps f=As):kR ps f=(⟨[],[],[]⟩,181):=by unfold kR;rw[if_neg (by omega),ho,if_neg (by decide),if_neg (by omega),I',hs]
theorem Rs {ps:List PT} {f:Nat} (h:ps.length<=64) (ho:ps.all PT.ok=GW) (hf:f<=4000) {st:List (List (List Int))×List (List Nat)} (hs:si ps f=AF st):kR ps f=(⟨partsOf (cw ps),st.2.map fun r=>r.map A_,st.1.map (dH ps)⟩,0):=by unfold kR;rw[if_neg (by omega),ho,if_neg (by decide),if_neg (by omega),I',hs]
attribute [local go_sem] encS
theorem MJ (v:Value) (ps:List PT) (f:Int) (w:A') (h:iX w v ps) (sm:∀ x∈ps,Py x.nf) (hT:∀ W,aa w W->nB W): ah 61 #[v,AN AT f] w fun e w'=>∃ u,e=AS (By #[u,AN AT (kR ps f).2])/\aM w.heap.size w' u (kR ps f).1/\aa w w':=by
 obtain⟨iS,hiS,Mg,Mh,Mi⟩:=D_ Tryz.yM;obtain⟨iB,YH,Hu,Hv,Hw⟩:=D_ Tryz.GC;obtain⟨pa,pc,rfl⟩:=h.form;obtain⟨n,JO⟩:=ag ps.length;rw[<-JO]at h ⊢;have Rm:=AI JO;have HP:=AI h;have SM:=AI sm;have HT:=AI hT;have fin:DH (∀ (W:A') (code:Int),kR ps f=(⟨[],[],[]⟩,code)->ar W w.heap.size #[An As 0 0,An As 0 0,An As 0 0] 29->aa w W->∃ u,AS (By #[F_ #[An As 0 0,An As 0 0,An As 0 0],AN AT code])=AS (By #[u,AN AT (kR ps f).2])/\aM w.heap.size W u (kR ps f).1/\aa w W):=AI fun W code h1 _ h3=>by
  rw[h1];exact⟨_,rfl,⟨_,_,_,rfl,Cd _ _ _ _,aS.nil _ _,aS.nil _ _⟩,h3⟩
 clear h sm hT JO;by_cases ado:64<n
 ·have hmi:(64:Int)<n:=by omega
  have NY:=AI (Rp (f:=f) (show 64<ps.length by rw[<-Rm.out];exact ado));go_enter O_,OR;go_wp2;refine aQ ?_;intro W9 dG;have E9:DH (ar W9 w.heap.size #[An As 0 0,An As 0 0,An As 0 0] 29/\aa w W9):=by rw[dG];exact AI ⟨ar.new _ _ _,((Ext.refl w).alloc _).below⟩
  clear dG;obtain⟨⟨m0,m1,m2⟩,_⟩:=E9.1.three;refine C_ (v:=By #[F_ #[An As 0 0,An As 0 0,An As 0 0],AN AT 5]) (by simp[results,C',go_sem,m0,m1,m2]) rfl (fin W9 5 NY E9.1 E9.2)
 ·have hmi:¬ ((64:Int)<n):=by omega
  have sA:ps.length<=64:=by rw[<-Rm.out];omega
  have tX:= @run_makeMap DS;go_enter O_,OR;go_wp2;go_loopw [6,24] (fun av iv wr=>∃ k:Nat,k<=n/\iv=AN AT k/\wr.ownsRow (w.heap.size+1) 56 4 av (cw (ps.take k)).length (aL (cw (ps.take k)))/\(cw (ps.take k)).length<=400*k/\(∀ (i:Nat) (x:PT),i<k->ps[i]? =AF x->x.ok=GW)/\ar wr w.heap.size #[An As 0 0,An As 0 0,An As 0 0] 29/\aa w wr) (fun _ iv _=>n-(intOf iv).toNat);case atStart=>exact⟨0,FG _,rfl,Cd _ _ _ _,FG _,fun i x h=>absurd h (Nat.not_lt_zero _),ar.new _ _ _,((Ext.refl w).alloc _).below⟩
  case round=>
   obtain⟨k,hk,rfl,ho,nV,hall,hb,hx⟩:=hrel;obtain⟨wo,rfl⟩:=ag (wr:A');have HO:=AI ho;have Bp:=AI hall;have HB:=AI hb;have HX:=AI hx;have HPO:=AI (HP.below hx);have UB:w.heap.size<wo.heap.size:=hb.lt;obtain⟨A,hA⟩:=ag ((cw (ps.take k)).length);rw[<-hA]at HO nV;have HAn:=AI hA;clear ho hall hb hx hA;by_cases hlt:k<n
   ·have ed:(k:Int)<n:=by omega
    obtain⟨x,hx⟩:∃ x,ps[k]? =AF x:=⟨_,aB (by have:=Rm.out;omega)⟩;obtain⟨b,off,v0,v1,v2,v3,rfl,hb,Cs,q0,q1,q2,q3,q4,q5,q6⟩:=HPO.elem hx;obtain⟨x0,n0,c0,x1,n1,c1,x2,n2,c2,x3,n3,c3,rfl,rfl,rfl,rfl⟩:=Cs.PY;have JS:=AI Cs;have Uz:=AI hx;have SX:DH (Py x.nf):=AI (SM.out x (ax hx));clear hx Cs;go_wp2_with fail
    refine aK ?_;intro V hV;have BX:DH (ar V wo.heap.size #[An x0 n0 c0,An x1 n1 c1,An x2 n2 c2,An x3 n3 c3,Ft x.nf.emp,Ft x.za,AN AT x.mark] 124):=AI (by rw[hV];exact ar.new wo _ _);have XV:DH (aa wo V):=AI (by rw[hV];exact((Ext.refl wo).alloc _).below);clear hV q0 q1 q2 q3 q4 q5 q6;refine(vC (F_ #[An x0 n0 c0,An x1 n1 c1,An x2 n2 c2,An x3 n3 c3,Ft x.nf.emp]) x.nf V (JS.below XV) SX).mono ?_;rintro e w2 ⟨rfl,hx2⟩;have B2:=AI (BX.below hx2 BX.lt);have X2:=AI (XV.trans (hx2.mono XV.size));clear hx2 BX XV;have C8:=AI (HB.below X2 UB);have X9:=AI (HX.trans (X2.mono HX.size));have O2:=AI (ai HO X2)
    have S2:DH (cU w2 (An x0 n0 c0) x.nf.aO/\n0=x.nf.aO.length):=AI (by
     obtain⟨u0,u1,u2,u3,e,h0,h1,h2,h3⟩:=JS.out;cases e;obtain⟨a9,c9,e9⟩:=h0.1.form;refine⟨h0.1.below X2,?_⟩
     cases e9;rfl)
    have agR:wo.heap.size<=w2.heap.size:=X2.size;obtain⟨r0,r1,r2,r3,r4,r5,r6⟩:=B2.seven;obtain⟨⟨k0,k1,k2⟩,z0,z1,z2⟩:=C8.three;by_cases hr:x.nf.right=GW
    ·have Ntx:=(eP _).1 hr
     rw[hr];by_cases nZ:x.mark<0
     ·have d1:decide (x.mark<0)=true:=decide_eq_true nZ
      have Gf:=AI (Bo (f:=f) sA Uz (by rw[PT.wI];omega));go_wp2;refine aQ ?_;intro W9 dG;have E9:DH (ar W9 w.heap.size #[An As 0 0,An As 0 0,An As 0 0] 29/\aa w W9):=by rw[dG];exact AI ⟨C8.vy,il X9 (aF _)⟩
      clear dG z0 z1 z2 k0 k1 k2;obtain⟨⟨m0,m1,m2⟩,_⟩:=E9.1.three;refine C_ (v:=By #[F_ #[An As 0 0,An As 0 0,An As 0 0],AN AT 180]) (by simp[results,C',go_sem,m0,m1,m2]) rfl (fin W9 180 Gf E9.1 E9.2)
     ·have d1:decide (x.mark<0)=false:=decide_eq_false nZ
      by_cases lA:255<x.mark
      ·have d2:decide (255<x.mark)=true:=decide_eq_true lA
       have Gf:=AI (Bo (f:=f) sA Uz (by rw[PT.wI];omega));go_wp2;refine aQ ?_;intro W9 dG;have E9:DH (ar W9 w.heap.size #[An As 0 0,An As 0 0,An As 0 0] 29/\aa w W9):=by rw[dG];exact AI ⟨C8.vy,il X9 (aF _)⟩
       clear dG z0 z1 z2 k0 k1 k2;obtain⟨⟨m0,m1,m2⟩,_⟩:=E9.1.three;refine C_ (v:=By #[F_ #[An As 0 0,An As 0 0,An As 0 0],AN AT 180]) (by simp[results,C',go_sem,m0,m1,m2]) rfl (fin W9 180 Gf E9.1 E9.2)
      ·have d2:decide (255<x.mark)=false:=decide_eq_false lA
       have hle:=Ntx.le;go_wp2_with (at_builtin;refine Hid.out ?_);refine AI ?_;refine mU rfl (GS 43) (GS 46) 26 rfl (w.heap.size+1) 56 iS (F_ #[AN GB 0,AN GB 0,AN GB 0,AN GB 0]) 4 32 J_ hiS Mg Mh Mi rfl (by decide) u6 A _ rfl O2 (An x0 n0 c0) x.nf.aO.length (aL x.nf.aO) rfl S2.1.src (cG _) (gz _) (by unfold maxLen;omega) (by omega) (by omega) ?_;intro v' w5 hown hgrow;have O5:=AI hown;have X5:DH (Lo (w.heap.size+1) w2 w5):=AI ((Below.refl _ w2).grown hgrow (by omega) (fun c e=>(O2.lt c e).1));clear hown hgrow r0 r1 r2 r3 r4 r5 r6;go_wp2;go_roundw;case rel=>
        refine⟨k+1,by omega,by go_num,?_,?_,fun i y hi hy=>?_,C8.below X5 (by omega),X9.trans (X5.mono (by omega))⟩
        ·rw[rE Uz.out,aJ,gy, <-HAn.out]
         exact O5
        ·rw[rE Uz.out,aJ, <-HAn.out]
         omega
        ·by_cases e:i<k
         ·exact Bp i y e hy
         ·obtain rfl:i=k:=by omega
          rw[Uz.out]at hy;cases hy;exact(PT.wI _).2 ⟨hr,by omega,by omega⟩
       case measure=>simp[intOf];omega
    ·rw[Bool.not_eq_true]at hr
     rw[hr];have Gf:=AI (Bo (f:=f) sA Uz (by rw[PT.wI];rw[hr];simp));go_wp2;refine aQ ?_;intro W9 dG;have E9:DH (ar W9 w.heap.size #[An As 0 0,An As 0 0,An As 0 0] 29/\aa w W9):=by rw[dG];exact AI ⟨C8.vy,il X9 (aF _)⟩
     clear dG z0 z1 z2 k0 k1 k2;obtain⟨⟨m0,m1,m2⟩,_⟩:=E9.1.three;refine C_ (v:=By #[F_ #[An As 0 0,An As 0 0,An As 0 0],AN AT 180]) (by simp[results,C',go_sem,m0,m1,m2]) rfl (fin W9 180 Gf E9.1 E9.2)
   ·obtain rfl:k=n:=by omega
    clear hlt hk;have ed:¬ ((k:Int)<k):=by omega
    have er:ps.take k=ps:=by rw[Rm.out];exact K_
    have iM:DH (ps.all PT.ok=GW):=AI (ZL fun i x hx=>Bp i x (by have:=(AM.1 hx).1;have:=Rm.out;omega) hx);rw[er]at HO HAn;clear er Bp;by_cases hf0:f<0
    ·have d1:decide (f<0)=true:=decide_eq_true hf0
     obtain⟨⟨k0,k1,k2⟩,z0,z1,z2⟩:=HB.three;have Gf:=AI (EJ (f:=f) sA iM (.inl hf0));go_wp2;refine aQ ?_;intro W9 dG;have E9:DH (ar W9 w.heap.size #[An As 0 0,An As 0 0,An As 0 0] 29/\aa w W9):=by rw[dG];exact AI ⟨HB.vy,il HX (aF _)⟩
     clear dG z0 z1 z2 k0 k1 k2;obtain⟨⟨m0,m1,m2⟩,_⟩:=E9.1.three;refine C_ (v:=By #[F_ #[An As 0 0,An As 0 0,An As 0 0],AN AT 2]) (by simp[results,C',go_sem,m0,m1,m2]) rfl (fin W9 2 Gf E9.1 E9.2)
    ·have d1:decide (f<0)=false:=decide_eq_false hf0
     by_cases hf4:4000<f
     ·have d2:decide (4000<f)=true:=decide_eq_true hf4
      obtain⟨⟨k0,k1,k2⟩,z0,z1,z2⟩:=HB.three;have Gf:=AI (EJ (f:=f) sA iM (.inr hf4));go_wp2;refine aQ ?_;intro W9 dG;have E9:DH (ar W9 w.heap.size #[An As 0 0,An As 0 0,An As 0 0] 29/\aa w W9):=by rw[dG];exact AI ⟨HB.vy,il HX (aF _)⟩
      clear dG z0 z1 z2 k0 k1 k2;obtain⟨⟨m0,m1,m2⟩,_⟩:=E9.1.three;refine C_ (v:=By #[F_ #[An As 0 0,An As 0 0,An As 0 0],AN AT 2]) (by simp[results,C',go_sem,m0,m1,m2]) rfl (fin W9 2 Gf E9.1 E9.2)
     ·have d2:decide (4000<f)=false:=decide_eq_false hf4
      obtain⟨P,hP⟩:=ag (partsOf (cw ps));obtain⟨K,hK⟩:=ag P.length;have WJ:K<=256:=by rw[hK,hP,(eZ _).length_eq];exact eo _
      have Gf:=AI hP;have Cp:=AI hK;have CA:DH (∀ W v,cU W v (cw ps)->ah 110 #[v] W fun e w'=>∃ b,e=AS (Bm (AF ⟨b,0,As⟩))/\cQ w' W.heap.size (Bm (AF ⟨b,0,As⟩)) P/\aa W w'):=AI fun W v h=>by
       have:=lI (cw ps) v W h (by have:=HAn.out;omega);rwa[<-hP]at this
      have CL:DH (∀ W x bx,cQ W bx (Bm (AF ⟨x,0,As⟩)) P->ah 111 #[Bm (AF ⟨x,0,As⟩)] W fun e w'=>e=AS (AN AT K)/\w'=W):=AI fun W x bx h=>by rw[hK];exact Jt _ _ _ _ h
      have CS:DH (∀ W x bx (k:Nat) s,P[k]? =AF s->cQ W bx (Bm (AF ⟨x,0,As⟩)) P->ah 112 #[Bm (AF ⟨x,0,As⟩),AN AT k] W fun e w'=>e=AS (By #[F_ (encS s),Ft GW])/\Ext W w'):=AI fun W x bx k s hs h=>by
       have:=Jv _ bx P k W h;rw[rZ,hs]at this;exact this
      have CM:DH (∀ W x bx (k:Nat),k<P.length->cQ W bx (Bm (AF ⟨x,0,As⟩)) P->ah 113 #[Bm (AF ⟨x,0,As⟩),AN AT k] W fun e w'=>e=AS (By #[AN Rr (lb P k),Ft GW])/\Ext W w'):=AI fun W x bx k hk h=>by
       have:=yQ _ bx P k W h;rw[hP,vz (by rw[<-hP];exact hk), <-hP]at this;exact this
      have ZE:DH (∀ k,k<P.length->lb P k<256):=AI fun k hk=>by rw[hP];exact JE (by rw[<-hP];exact hk)
      clear hP hK;have HS:=AI (je (by rw[<-HAn.out];exact HO.out:wo.ownsRow (w.heap.size+1) 56 4 u6 (cw ps).length (aL (cw ps))));go_wp2_with fail
      refine(CA wo u6 HS).mono ?_;rintro e w2 ⟨ba,rfl,ha,hx⟩;obtain⟨bal,adq⟩:=ag wo.heap.size;rw[<-adq]at ha;have AL:=AI ha;clear adq;have B2:=AI (HB.below hx UB);have X2:=AI (HX.trans (hx.mono HX.size));clear ha hx CA HB HX HPO HO HS;obtain⟨F,rfl⟩:∃ F:Nat,f=F:=⟨f.toNat,by omega⟩;have hF4:F<=4000:=by omega
      go_wp2_with fail
      refine aK ?_;intro V hV;have BM0:ar V (w2.heap.size+1) #[An pa k pc,AN AT F,An As 0 0,.map (AF w2.heap.size),An As 0 0,An As 0 0,An As 0 0] 196:=by rw[hV];exact(ar.new (w2.alloc _) _ _).at (by simp)
      have MS0:kW V w2.heap.size []:=by have h5:kW (w2.alloc (.map #[] 0)) w2.heap.size []:=If w2 _;rw[hV];exact h5.below ((Ext.refl _).alloc _).below
      have XV0:aa w2 V:=by rw[hV];exact(((Ext.refl w2).alloc _).alloc _).below
      clear hV;obtain⟨mb,pC⟩:=ag (w2.heap.size+1);rw[<-pC]at BM0 ⊢;have BM:=AI BM0;have MS:=AI MS0;have XV:=AI XV0;have Tv:=AI pC;have AV:=AI (AL.below XV0);have A4:DH (∀ W',ae (fun x=>x<V.heap.size/\x≠mb) V W'->cQ W' bal (Bm (AF ⟨ba,0,As⟩)) P):=AI fun W' h=>AL.keeps ((ae.aj XV fun _ h=>h:ae (· <w2.heap.size) w2 V).tr (h.mono fun x hx=>⟨ay hx XV.size,by have h5:x<w2.heap.size:=hx;have:=Tv.out;omega⟩)) fun _ _ h=>h
      clear BM0 MS0 XV0 pC AL;refine(CL _ _ _ AV).mono ?_;rintro e w' ⟨rfl,hw⟩;replace hw:=hw.symm;subst hw;go_wp2;go_loopw [11,65] (fun lv iv wr=>∃ (j:Nat) (cv:Value),j<=K/\iv=AN AT j/\ar wr mb #[An pa k pc,AN AT F,An As 0 0,.map (AF w2.heap.size),cv,An As 0 0,An As 0 0] 196/\wr.ownsRow V.heap.size 56 4 cv j (aL (P.take j))/\wr.ownsRow V.heap.size 5 1 lv j (((DP j).map (lb P)).map en)/\ae (fun x=>x<V.heap.size/\x≠mb) V wr) (fun _ iv _=>K-(intOf iv).toNat);case atStart=>exact⟨0,_,FG _,rfl,BM,Cd _ _ _ _,Cd _ _ _ _,ae.refl _ _⟩
      case round=>
       obtain⟨j,c,hj,rfl,hb,hc,ho,hx⟩:=hrel;obtain⟨wo,rfl⟩:=ag (wr:A');have hVo:V.heap.size<=wo.heap.size:=hx.size;have ah0:mb<V.heap.size:=BM.lt;have HB:=AI hb;have Ru:=AI hc;have HO:=AI ho;have HX:=AI hx;have AJ:=AI (A4.out wo hx);clear hb hc ho hx;by_cases hlt:j<K
       ·obtain⟨s,hs⟩:∃ s,P[j]? =AF s:=⟨_,aB (by have:=Cp.out;omega)⟩
        have hjp:j<P.length:=by rw[<-Cp.out];exact hlt
        have TF:=ZE.out j hjp;obtain⟨q,hq⟩:=ag (lb P j);rw[<-hq]at TF;have HSs:=AI hs;have jA:(j:Int)<K:=by omega
        clear hs;have CS1:DH (∀ W',cQ W' bal (Bm (AF ⟨ba,0,As⟩)) P->ah 112 #[Bm (AF ⟨ba,0,As⟩),AN AT j] W' fun e w'=>e=AS (By #[F_ (encS s),Ft GW])/\Ext W' w'):=AI fun W' h=>CS W' ba _ j s HSs h
        have JZ:DH (∀ W',cQ W' bal (Bm (AF ⟨ba,0,As⟩)) P->ah 113 #[Bm (AF ⟨ba,0,As⟩),AN AT j] W' fun e w'=>e=AS (By #[AN Rr q,Ft GW])/\Ext W' w'):=AI fun W' h=>by rw[hq];exact CM W' ba _ j hjp h
        have HQS:DH (P.take (j+1)=P.take j++ [s]):=AI (by rw[GO,HSs.out];rfl);have HQL:DH (((DP (j+1)).map (lb P)).map en=((DP j).map (lb P)).map en++ [AN Rr q]):=AI (by rw[List.range_succ,D0,D0,hq];rfl);clear hq TF hjp HSs;go_wp2_with fail
        refine(CS1 _ AJ).mono ?_;rintro e w5 ⟨rfl,hx⟩;have Y5:=AI hx;have hw5:wo.heap.size<=w5.heap.size:=hx.size;clear hx;go_wp2_with fail
        refine aK ?_;intro V3 cP;have S3:DH (ar V3 w5.heap.size (encS s) 56):=by rw[cP];exact ar.new _ _ _
        have Y6:DH (Ext wo V3):=by rw[cP];exact Y5.alloc _
        clear cP Y5;refine(JZ _ (AJ.below Y6.below)).mono ?_;rintro e w6 ⟨rfl,hx⟩;have S6:=AI (S3.ext hx);have Y7:=AI (Y6.trans hx);clear hx S3 Y6;have Tj:=AI (ai Ru Y7.below);have jF:=AI (ai HO Y7.below);have gR:=AI (HB.ext Y7);have hw6:wo.heap.size<=w6.heap.size:=Y7.size;have gh:=AI (HX.tr (ae.aj Y7.below fun x hx=>ay hx.1 hVo));have L1:=AI fun x e=>(Ru.lt x e).2
        have L2:=AI fun x e=>(HO.lt x e).2
        clear Ru HO HB HX;obtain⟨ca,cc,rfl⟩:=ownsRow_form Tj;obtain⟨oa,oc,rfl⟩:=ownsRow_form jF;have hct:DH ((An ca j cc).ownBlock=As\/(An ca j cc).ownBlock≠(An oa j oc).ownBlock):=ownBlock_ne (by decide) Tj jF;have Gg:DH ((An oa j oc).ownBlock=As\/(An oa j oc).ownBlock≠(An ca j cc).ownBlock):=ownBlock_ne (by decide) jF Tj;obtain⟨XO,hXO⟩:=ag (((DP j).map (lb P)).map en);rw[<-hXO]at jF;have HXO:=AI hXO;clear hXO;obtain⟨PL,uF⟩:=ag ([⟨56,4,An ca j cc,j,aL (P.take j),1,(encS s).toList⟩,⟨5,1,An oa j oc,j,XO,1,[AN Rr q]⟩]:List App);have oP:PL[0]? =AF ⟨56,4,An ca j cc,j,aL (P.take j),1,(encS s).toList⟩:=by rw[uF];rfl
        have tM:PL[1]? =AF ⟨5,1,An oa j oc,j,XO,1,[AN Rr q]⟩:=by rw[uF];rfl
        have OK:DH (kj w6 PL):=AI ⟨fun p hp x e=>by
          rw[uF]at hp;simp only[It,G',or_false]at hp;rcases hp with rfl | rfl
          ·exact(Tj.lt x e).2
          ·exact(jF.lt x e).2,fun i j p q hi hj mM=>by
          have hl:PL.length=2:=by rw[uF];rfl
          have h1:=(AM.1 hi).1;have h2:=(AM.1 hj).1;rcases(show i=0\/i=1 by omega)with rfl | rfl<;>rcases(show j=0\/j=1 by omega)with rfl | rfl<;>(first | (exact absurd rfl mM) | skip)<;>(first | rw[oP]at hi | rw[tM]at hi)<;>(first | rw[oP]at hj | rw[tM]at hj)<;>cases hi<;>cases hj
          ·exact hct
          ·exact Gg⟩
        clear hct Gg;have hsz:V.heap.size<=w6.heap.size:=B_ hVo hw6;have Iy:∀ x,x<V.heap.size->¬ ∃ p∈PL,p.v.ownBlock=AF x:=fun x hx ⟨p,hp,e⟩=>by
         rw[uF]at hp;simp only[It,G',or_false]at hp;rcases hp with rfl | rfl
         ·have:=(Tj.lt _ e).1;omega
         ·have:=(jF.lt _ e).1;omega
        have ZM:=Iy mb ah0;have HKV:DH (∀ W',bR V.heap.size w6 PL w6 W'->ae (fun x=>x<V.heap.size/\x≠mb) V W'):=AI fun W' h=>gh.tr (h.keeps.mono fun x hx=>⟨ay hx.1 hsz,Iy x hx.1⟩)
        have NP:¬ ∃ p∈PL,p.v.ownBlock=AF w5.heap.size:=fun ⟨p,hp,e⟩=>by
         rw[uF]at hp;simp only[It,G',or_false]at hp;rcases hp with rfl | rfl
         ·have:=L1.out _ e;omega
         ·have:=L2.out _ e;omega
        clear uF Iy;go_wp2;refine RegG.br (bR V.heap.size w6 PL) (bR.drew) (fun _ _ _ h k=>h.trans k) (by kernel_rfl) 13 [0,0,2,6,14,30,0,64,254,0,0,1024,3584,8191,16383,32767,65535,131071] (fun i=>i==7 || i==8 || i==11 || i==12 || i==16) (by kernel_rfl) (fun _=>As) (fun j hj=>(by first | rfl | (have kN:18<=j:=hj;first | exact if_neg (by omega) | (split<;>first | omega | rfl)))) (by kernel_rfl) (fun i=>if i=7 then RegG.aU.vo V.heap.size w6 PL 1 (encS s) 56 else if i=8 then RegG.aU.app V.heap.size w6 PL ⟨56,4,An ca j cc,j,aL (P.take j),1,(encS s).toList⟩ (ax oP)else if i=11 then RegG.aU.vo V.heap.size w6 PL 1 #[AN Rr q] 5 else if i=12 then RegG.aU.app V.heap.size w6 PL ⟨5,1,An oa j oc,j,XO,1,[AN Rr q]⟩ (ax tM)else RegG.aU.any _) ?_;intro C hC hne;have HC:=AI hC;have kB:∀ {x:Nat},x<w6.heap.size->(¬ ∃ p∈PL,p.v.ownBlock=AF x)->∀ W: {W//C W},W.1.heap[x]? =w6.heap[x]? :=fun {x} h1 h2 W=>((hC W.1).1 W.2).keeps.keep x ⟨h1,h2⟩
        have f4:∀ W: {W//C W},W.1.cell? ⟨mb,4,As⟩=AF (An ca j cc):=fun W=>((gR.same (kB gR.lt ZM W)).cell 4)
        have s0:∀ W: {W//C W},W.1.cell? ⟨w5.heap.size,0,As⟩=AF (AN GB (wd s 0).toNat):=fun W=>(S6.same (kB S6.lt NP W)).K1.1
        have s1:∀ W: {W//C W},W.1.cell? ⟨w5.heap.size,1,As⟩=AF (AN GB (wd s 1).toNat):=fun W=>(S6.same (kB S6.lt NP W)).K1.2.1
        have s2:∀ W: {W//C W},W.1.cell? ⟨w5.heap.size,2,As⟩=AF (AN GB (wd s 2).toNat):=fun W=>(S6.same (kB S6.lt NP W)).K1.2.2.1
        have s3:∀ W: {W//C W},W.1.cell? ⟨w5.heap.size,3,As⟩=AF (AN GB (wd s 3).toNat):=fun W=>(S6.same (kB S6.lt NP W)).K1.2.2.2
        clear hC kB
        repeat (refine RegG.au (fun K hK=>?_);first | (refine RegG.bL rfl ?_;try go_simp;refine hK _ _ ?_;clear hK K) | (refine RegG.bJ rfl rfl ?_;unfold az;go_simp;refine hK _ _ ?_;clear hK K))
        refine RegG.au (fun K hK=>?_);refine RegG.bS rfl rfl (RegG.aU.vo V.heap.size w6 PL 1 (encS s) 56) rfl (fun W hW hN=>?_) (fun v hv=>?_)
        ·have hM:=(HC.out W).1 hW
         clear hW hK K
         (go_simp;exact⟨.below ((Ext.refl _).alloc _).below,⟨_,rfl⟩,fun b hb=>by cases hb;exact⟨ar.new _ _ _,OK.fresh hM.size⟩⟩)
        obtain⟨x3,rfl⟩:=hv;go_simp;refine hK _ _ ?_;clear hK K;refine RegG.au (fun K hK=>?_);refine RegG.bS rfl rfl (RegG.aU.app V.heap.size w6 PL ⟨56,4,An ca j cc,j,aL (P.take j),1,(encS s).toList⟩ (ax oP)) rfl (fun W hW hN=>?_) (fun v hv=>?_)
        ·have hM:=(HC.out W).1 hW
         clear hW hK K;refine dE (w0:=w6) (PL:=PL) (p:=⟨56,4,An ca j cc,j,aL (P.take j),1,(encS s).toList⟩) (GS 85) (GS 87) 26 rfl iS _ 32 J_ hiS Mg Mh Mi rfl (show(0:Nat)<4 from by decide) OK oP rfl (hM.old _ (ax oP) Tj) ⟨x3,0,As⟩ 1 rfl rfl (cC (hN.at 0 rfl (by kernel_rfl) x3 rfl).1) (by intro u hu;simp[encS]at hu;rcases hu with rfl | rfl | rfl | rfl<;>rfl) (by show j+1<=maxLen;unfold maxLen;omega) (by show(j+1)*32<=_;omega) (B_ hsz hM.size) (show(0:Nat)<1 from by decide) hM.size (fun v W' g1 g2 g3 _=>⟨g1,g2,g3⟩)
        obtain⟨ca2,cc2,rfl⟩:=hv;go_simp;refine hK _ _ ?_;clear hK K
        repeat (refine RegG.au (fun K hK=>?_);first | (refine RegG.bL rfl ?_;try go_simp;refine hK _ _ ?_;clear hK K) | (refine RegG.bJ rfl rfl ?_;unfold az;go_simp;refine hK _ _ ?_;clear hK K))
        refine RegG.au (fun K hK=>?_);refine RegG.bS rfl rfl (RegG.aU.vo V.heap.size w6 PL 1 #[AN Rr q] 5) rfl (fun W hW hN=>?_) (fun v hv=>?_)
        ·have hM:=(HC.out W).1 hW
         clear hW hK K
         (go_simp;exact⟨.below ((Ext.refl _).alloc _).below,⟨_,rfl⟩,fun b hb=>by cases hb;exact⟨ar.new _ _ _,OK.fresh hM.size⟩⟩)
        obtain⟨WK,rfl⟩:=hv;go_simp;refine hK _ _ ?_;clear hK K;refine RegG.au (fun K hK=>?_);refine RegG.bS rfl rfl (RegG.aU.app V.heap.size w6 PL ⟨5,1,An oa j oc,j,XO,1,[AN Rr q]⟩ (ax tM)) rfl (fun W hW hN=>?_) (fun v hv=>?_)
        ·have hM:=(HC.out W).1 hW
         clear hW hK K;refine dE (w0:=w6) (PL:=PL) (p:=⟨5,1,An oa j oc,j,XO,1,[AN Rr q]⟩) (GS 89) (GS 91) 44 rfl iB _ 1 Tryz.underlying44 YH Hu Hv Hw rfl (show(0:Nat)<1 from by decide) OK tM rfl (hM.old _ (ax tM) jF) ⟨WK,0,As⟩ 1 rfl rfl (cC (hN.at 0 rfl (by kernel_rfl) WK rfl).1) (by intro u hu;simp at hu;rw[hu];rfl) (by show j+1<=maxLen;unfold maxLen;omega) (by show(j+1)*1<=_;omega) (B_ hsz hM.size) (show(0:Nat)<1 from by decide) hM.size (fun v W2 g1 g2 g3 _=>⟨g1,g2,g3⟩)
        obtain⟨oa2,oc2,rfl⟩:=hv;go_simp;refine hK _ _ ?_;clear hK K;refine RegG.bC (fun W7 hW hH=>?_);have hM:=(HC.out W7).1 hW;have Q0:DH (After V.heap.size w6 ⟨56,4,An ca j cc,j,aL (P.take j),1,(encS s).toList⟩ W7 (An ca2 (j+1) cc2)):=AI (hH _ (ax (show _=AF _ from rfl:_[2]? =AF _)));have Q1:DH (After V.heap.size w6 ⟨5,1,An oa j oc,j,XO,1,[AN Rr q]⟩ W7 (An oa2 (j+1) oc2)):=AI (hH _ (ax (show _=AF _ from rfl:_[0]? =AF _)));have K7:=AI (HKV.out _ hM);have B7:=AI (gR.same (hM.keeps.keep mb ⟨gR.lt,ZM⟩));have agn:w6.heap.size<=W7.heap.size:=hM.size
        have R0:DH (W7.ownsRow V.heap.size 56 4 (An ca2 (j+1) cc2) (j+1) (aL (P.take (j+1)))):=AI (by
         have:=Q0.1;rw[HQS.out,gy]
         simpa[aL]using this)
        have R1:DH (W7.ownsRow V.heap.size 5 1 (An oa2 (j+1) oc2) (j+1) (((DP (j+1)).map (lb P)).map en)):=AI (by
         have:=Q1.1;rw[HQL.out, <-HXO.out]
         exact this)
        clear hM hW hH HC f4 s0 s1 s2 s3 oP tM OK ZM NP HKV gh gR S6 Y7 CS1 JZ Q0 Q1 Tj jF L1 L2;obtain⟨p0,p1,p2,p3,p4,p5,p6⟩:=B7.seven;have z4:=B7.frozen 4;go_wp2;go_roundw;case rel=>
         have kg:ae (· ≠mb) W7 (W7.setCell ⟨mb,4,As⟩ (An ca2 (j+1) cc2)):=(ae.refl _ _).setCell (p:=⟨mb,4,As⟩) (fun h=>h rfl) _;refine⟨j+1,_,by omega,by go_num,B7.set 4 _,?_,?_,K7.tr (kg.mono fun x hx=>hx.2)⟩
         ·exact cV R0 kg fun x h1 _ e=>by omega
         ·exact cV R1 kg fun x h1 _ e=>by omega
        case measure=>simp[intOf];omega
       ·obtain rfl:j=K:=by omega
        clear hlt hj;have jA:¬ ((j:Int)<j):=by omega
        have hkP:P.take j=P:=by rw[Cp.out];exact K_
        rw[hkP]at Ru;obtain⟨ca,cc,rfl⟩:=ownsRow_form Ru;obtain⟨oa,oc,rfl⟩:=ownsRow_form HO;have hbase:w.heap.size<=w2.heap.size:=X2.size;have apa:w2.heap.size<=V.heap.size:=XV.size;have XX:DH (aa w wo):=AI ((X2.trans (XV.mono hbase)).trans (HX.mono fun x (hx:x<w.heap.size)=>⟨by omega,by have:=Tv.out;omega⟩:ae (· <w.heap.size) V wo).below);have Rv:((DP j).map (lb P)).length=j:=by simp
        have CK:=AI (Ro (fun x=>(An ca j cc).ownBlock≠AF x/\(An oa j oc).ownBlock≠AF x) w2.heap.size mb w2.heap.size F (An pa k pc) (An ca j cc) (An oa j oc) ps ((DP j).map (lb P))
         ⟨sA,fun x hx=>by
          have h5:=(PT.wI x).1 (Kx.1 iM x hx)
          exact⟨(eP _).1 h5.1,SM x hx,h5.2.1,h5.2.2⟩⟩ wo
         (fun x hx=>⟨fun e=>by have:=(Ru.lt x e).2;omega,fun e=>by have:=(HO.lt x e).2;omega⟩)
         ⟨_,_,_,_,_,_, {blk:=HB.out,map:=MS.keeps HX ⟨MS.lt,by have:=Tv.out;omega⟩,fm:=⟨fun e=>by have:=(Ru.lt mb e).1;omega,fun e=>by have:=(HO.lt mb e).1;omega⟩,fo:=⟨fun e=>by have:=(Ru.lt _ e).1;have:=Tv.out;omega,fun e=>by have:=(HO.lt _ e).1;have:=Tv.out;omega⟩,bm:=by have:=Tv.out;omega,bo:=aF _,st:=gU.nil _ _ _ _,Tk:=fun i u r hu=>by simp at hu,ui:=gU.nil _ _ _ _,NQ:=fun i u r hu=>by simp at hu,tF:=gU.nil _ _ _ _,NS:=fun i u r hu=>by simp at hu,far:=.inl rfl}⟩ hF4 (by rw[Rv];exact WJ)
         (fun c hc=>by obtain⟨i,hi,rfl⟩:=Iv.1 hc;exact ZE i (by rw[<-Cp.out];exact MY.1 hi))
         (fun W hW=>bU (e:=5) (base:=V.heap.size) (ak HO hW fun x hx=>⟨(HO.lt x hx).2,.inr fun h=>h.2 hx⟩) Rv.symm)
         (fun W hW=>HP.below (XX.trans (hW.mono hbase))) (fun W hW=>HT W (XX.trans (hW.mono hbase))))
        have HST:DH (wF ps ((DP j).map (lb P)) F=si ps F):=AI (Vg (by rw[Rv,Cp.out,Gf.out]) fun i hi=>by
         rw[Rv]at hi
         rw[bB,aN,Is hi, <-Gf.out];rfl)
        have B5:=AI ((B2.below XV (by have:=B2.lt;exact this)).keeps HX ⟨by have:=B2.lt;omega,by have:=B2.lt;have:=Tv.out;omega⟩);clear hkP Rv CL CS CM;go_wp2_with fail
        refine CK.mono ?_;rintro e w9 ⟨ZN,hq⟩;have B9:=AI (B5.keeps ZN ⟨B5.lt,.inl B2.lt⟩);have K9:=AI ZN;have X9:DH (aa w w9):=AI (XX.trans (ZN.mono fun x (hx:x<w.heap.size)=>⟨ay hx XX.size,.inl (by omega)⟩:ae (· <w.heap.size) wo w9).below);clear ZN;obtain⟨⟨k0,k1,k2⟩,z0,z1,z2⟩:=B9.three;rcases hq with⟨st,hst,rfl,hM⟩ | ⟨hno,rfl⟩
        ·obtain⟨sv9,nv9,kv9,us9,ns9,ks9,M⟩:=hM
         have Tu:=M.ui.1;have Ek:=M.tF.1;obtain⟨n9,hn9⟩:=ag ((st.2.map fun r=>r.map A_).length);obtain⟨k9,ZN⟩:=ag st.1.length;rw[<-hn9]at Tu;rw[<-ZN]at Ek;obtain⟨na,nc,rfl⟩:=ownsRow_form Tu;obtain⟨ma,mc,rfl⟩:=ownsRow_form Ek;have M9:=AI M;obtain⟨y0,y1,y2,y3,y4,y5,y6⟩:=M.blk.seven;have HPZ:=AI (Rs (f:=F) sA iM hF4 (by rw[<-HST.out];exact hst));clear M hst Tu Ek hn9 ZN;go_wp2;refine aQ ?_;intro W9 dG;have E9:DH (ar W9 w.heap.size #[An ca j cc,An na n9 nc,An ma k9 mc] 29/\ae (· ≠w.heap.size) w9 W9):=by rw[dG];exact AI ⟨B9.vy,((((ae.refl _ _).setCell (p:=⟨w.heap.size,0,As⟩) (fun h=>h rfl) _).setCell (p:=⟨w.heap.size,1,As⟩) (fun h=>h rfl) _).setCell (p:=⟨w.heap.size,2,As⟩) (fun h=>h rfl) _)⟩
         clear dG z0 z1 z2 k0 k1 k2 y0 y1 y2 y3 y4 y5 y6;obtain⟨⟨m0,m1,m2⟩,_⟩:=E9.1.three;refine C_ (v:=By #[F_ #[An ca j cc,An na n9 nc,An ma k9 mc],AN AT 0]) (by simp[results,C',go_sem,m0,m1,m2]) rfl ?_;rw[HPZ.out];have hw2:w.heap.size<w2.heap.size:=B2.lt;refine⟨_,rfl,⟨_,_,_,rfl,?_,?_,?_⟩,X9.trans (E9.2.mono fun x (hx:x<w.heap.size)=>H' hx:ae (· <w.heap.size) w9 W9).below⟩
         ·show W9.ownsRow w.heap.size 56 4 _ (partsOf (cw ps)).length _
          rw[<-Gf.out, <-Cp.out];refine aC (base:=V.heap.size) ?_ (by omega);refine ak (ak Ru K9 fun x hx=>⟨(Ru.lt x hx).2,.inr fun h=>h.1 hx⟩) E9.2 fun x hx=>by have:=(Ru.lt x hx).1;show x≠w.heap.size;omega
         ·have h5:aS w2.heap.size w9 (An na n9 nc) (st.2.map fun r=>r.map A_):=Mf.own ⟨_,M9.ui,M9.NQ⟩
          exact(h5.keeps E9.2 fun x h1 _=>by show x≠w.heap.size;omega).base hbase
         ·have h5:aS w2.heap.size w9 (An ma k9 mc) (st.1.map (dH ps)):=Mf.own ⟨_,by rw[aP];exact M9.tF,M9.NS⟩
          exact(h5.keeps E9.2 fun x h1 _=>by show x≠w.heap.size;omega).base hbase
        ·have HPZ:=AI (Rq (f:=F) sA iM hF4 (by rw[<-HST.out];exact hno))
         clear hno;go_wp2;refine aQ ?_;intro W9 dG;have E9:DH (ar W9 w.heap.size #[An As 0 0,An As 0 0,An As 0 0] 29/\aa w W9):=by rw[dG];exact AI ⟨B9.vy,il X9 (aF _)⟩
         clear dG z0 z1 z2 k0 k1 k2;obtain⟨⟨m0,m1,m2⟩,_⟩:=E9.1.three;refine C_ (v:=By #[F_ #[An As 0 0,An As 0 0,An As 0 0],AN AT 181]) (by simp[results,C',go_sem,m0,m1,m2]) rfl (fin W9 181 HPZ E9.1 E9.2)
end Go.Proofs.YtjgccapbphadjaaGreatDoor
