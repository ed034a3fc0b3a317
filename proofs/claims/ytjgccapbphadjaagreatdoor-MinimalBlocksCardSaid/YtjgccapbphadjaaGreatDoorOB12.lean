/- States under other numbers, and states more to which nothing leads: the trimmed automaton is the same. -/
import Derived.Test.YtjgccapbphadjaaGreatDoorOB11
set_option maxRecDepth 100000
set_option maxHeartbeats 16000000
open Go.Lib (hid)
open List renaming getElem?_eq_some_iff->An,length_singleton->As,mem_singleton->AF,mem_append_left->AI,mem_append_right->AN,take_append_of_le_length->AS,map_congr_left->AT,getElem?_eq_none_iff->A_,getElem?_range->A',getElem?_of_mem->Bm,map_map->Bs,mem_map->By,mem_append->B_,length_eq_zero_iff->B',take_of_length_le->Cd,foldl_append->C_,mem_range->C',range->Dl,idxOf_lt_length_of_mem->DE,nodup_iff_pairwise_ne->DH,length_range->DP,map_cons->D0,map_append->Gz,foldl_cons->GC,idxOf_cons->GF,replicate->GG,mem_cons->GH
open Option renaming some->AM,none->D'
open List.cons renaming inj->Dm
open Option.some renaming inj->Dn
open Bool renaming eq_false_iff->DQ,true->GS
open Nat renaming le_of_not_lt->D_,mul_comm->EV,zero_le->E_,lt_one_iff->FF,div_eq_of_lt->FG,mod_eq_of_lt->F_,mul_add_div->GA,mul_add_mod->GB,add_assoc->GO
open Prod renaming fst->Ft
namespace Go.Proofs.YtjgccapbphadjaaGreatDoor
section
open Go Go.RowKit Go.Shelf Go.Maps
structure Kn (d:DF):Prop where
 ks:∀ l∈d.mr,l.length<=100000/\∀ x∈l,0<=x/\x<4294967296
theorem FQ (db:Nat) (d:DF) (kn:Kn d) (v2:Value) (s:Nat) (hs:s<d.mr.length) (W:World) (hd:W.cell? ⟨db,2,D'⟩=AM v2) (h2:iZ W v2 d.mr): ah 138 #[.int .i64 s,.pointer (AM ⟨db,0,D'⟩)] W fun e w'=>e=.returned (ja (kU ((d.mr.getD s []).map Int.toNat)))/\aa W w':=by
 obtain⟨a2,c2,rfl⟩:=h2.form;have hrow:d.mr[s]? =AM (d.mr.getD s []):=by rw[bu,az hs];rfl
 obtain⟨l,hl⟩:=ag (d.mr.getD s []);rw[<-hl]at hrow ⊢;obtain⟨b,o,a',c',rfl,hb,hc,j8⟩:=h2.elem hrow;obtain⟨kn1,kn2⟩:=kn.ks l (aw hrow);have CN:=hid (qF _ l kn2 kn1 W j8);obtain⟨R,hR⟩:=ag (ja (kU (l.map Int.toNat)));rw[<-hR]at CN ⊢;obtain⟨n,hn⟩:=ag l.length;obtain⟨m,hm⟩:=ag d.mr.length;rw[<-hn]at CN hc;rw[<-hm]at hd hs;have GI:(s:Int)<m:=by omega
 clear hrow hl j8 kn1 kn2 kn hR hn hm h2;go_enter Tryz.func138,Tryz.ntmps138;go_wp2_with fail
 refine CN.mono ?_;rintro e w2 ⟨rfl,hx⟩;go_wp2;go_ret;exact⟨rfl,hx⟩
theorem zh {α β:Type} {f:α->β} {l:List α} {k:Nat} {x:α} (h:l[k]? =AM x):(l.take (k+1)).map f=(l.take k).map f++ [f x]:=by rw[List.take_add_one,h,Gz];rfl
theorem FT (s pb db:Nat) (d:DF) (VK:∀ t∈d.nx.getD s [],0<=t/\t<d.nx.length) (p:Nat->Nat) (hp:∀ t,t<d.nx.length->p t<4294967296) (v1 pv:Value) (hlen:(d.nx.getD s []).length<=1000) (hs:s<d.nx.length) (W:World) (oA:W.cell? ⟨pb,0,D'⟩=AM pv) (hd:W.cell? ⟨db,1,D'⟩=AM v1) (h1:iZ W v1 d.nx) (VL:bQ (fun u:Value=>u) W pv ((Dl d.nx.length).map fun s=>cV (p s))): ah 140 #[.int .i64 s,.pointer (AM ⟨pb,0,D'⟩),.pointer (AM ⟨db,0,D'⟩)] W fun e w'=>e=.returned (ja (kU (p s::(d.nx.getD s []).map fun t=>p t.toNat)))/\aa W w':=by
 obtain⟨iI,y8,kP,kQ,kR⟩:=info_parts Tryz.mH;obtain⟨a1,c1,rfl⟩:=h1.form;obtain⟨pa,pc,rfl⟩:=VL.form;rw[aQ,DP]at VL oA;have hrow:d.nx[s]? =AM (d.nx.getD s []):=by rw[bu,az hs];rfl
 obtain⟨l,hl⟩:=ag (d.nx.getD s []);rw[<-hl]at hrow VK hlen ⊢;obtain⟨b,o,a',c',rfl,hb,hc,j8⟩:=h1.elem hrow;obtain⟨m,hm⟩:=ag d.nx.length;rw[<-hm]at VK hp hs oA hd VL;have PG:Hid (∀ t,t<m->∃ (b o:Nat),pa=AM ⟨b,o,D'⟩/\b<W.heap.size/\W.cell? ⟨b,o+t,D'⟩=AM (.int .i64 (p t))):=hid fun t ht=>by
  obtain⟨b,o,e,h2,h3⟩:=VL.elem (i:=t) (x:=cV (p t)) (by rw[aO,A' ht];rfl);exact⟨b,o,e,h2,h3⟩
 obtain⟨b2,o2,rfl,hb2,hc2⟩:=PG.out s hs;obtain⟨n,hn⟩:=ag l.length;rw[<-hn]at hc j8 hlen;obtain⟨R,hR⟩:=ag (ja (kU (p s::l.map fun t=>p t.toNat)));rw[<-hR];have HR:=hid hR;have HN:=hid hn;have Ex:=hid j8;have HRG:=hid VK;have HP:=hid hp;have GI:(s:Int)<m:=by omega
 have aih:pb<W.heap.size:=World.block_lt_of_cell? _ _ oA;have adB:db<W.heap.size:=World.block_lt_of_cell? _ _ hd;clear VL hrow hl hR hn hm h1 j8 VK hp;go_enter Tryz.func140,Tryz.ntmps140;go_upto_region 2 with fail
 refine aA ?_;intro V hV
 have R0:Hid (V.ownsRow W.heap.size 3 1 (.slice (AM ⟨W.heap.size,0,D'⟩) 1 1) 1 [cV (p s)]):=hid (by
  rw[hV]
  exact⟨rfl,.inr ⟨W.heap.size,1, #[.int .i64 (p s)],rfl,aG _,World.alloc_heap_new _ _,aG _,by unfold maxLen;omega,rfl,rfl⟩⟩)
 have X0:Hid (aa W V):=hid (by rw[hV];exact((Ext.refl W).alloc _).below);clear hV;have hk:∀ (wo:World),aa W wo->∀ b o u,b<W.heap.size->W.cell? ⟨b,o,D'⟩=AM u->wo.cell? ⟨b,o,D'⟩=AM u:=fun wo hx b o u hb h=>((ae.ai hx fun _ h=>h:ae (· <W.heap.size) W wo).cell (p:=⟨b,o,D'⟩) hb).trans h
 have HK:=hid hk;have d1:=hk V X0 _ _ _ adB hd;have d2:=hk V X0 _ _ _ hb hc;have Dp:=hid oA;clear hk hd hc hc2 oA;go_wp2;go_loopw [5,19] (fun ov iv wr=>∃ k:Nat,k<=n/\iv=.int .i64 k/\wr.ownsRow W.heap.size 3 1 ov (k+1) (cV (p s)::(l.take k).map fun t=>cV (p t.toNat))/\aa W wr) (fun _ iv _=>n-(intOf iv).toNat);case atStart=>exact⟨0,E_ _,rfl,R0,X0⟩
 case round=>
  obtain⟨k,hk,rfl,ho,hx⟩:=hrel;obtain⟨wo,rfl⟩:=ag (wr:World);have HO:=hid ho;have HX:=hid hx;obtain⟨oa,oc,rfl⟩:=ownsRow_form ho;have Bd:W.heap.size<=wo.heap.size:=hx.size;clear ho hx R0 X0 d1 d2;by_cases hlt:k<n
  ·have eE:(k:Int)<n:=by omega
   obtain⟨x,VJ⟩:∃ x,l[k]? =AM x:=⟨_,az (by have:=HN.out;omega)⟩;obtain⟨hx0,hx1⟩:=HRG.out x (aw VJ);obtain⟨t,rfl⟩:∃ t:Nat,x=(t:Int):=⟨x.toNat,by omega⟩;have GZ:t<m:=by omega
   obtain⟨b5,o5,rfl,Zo,hc5⟩:=Ex.elem VJ;replace hc5:W.cell? ⟨b5,o5+k,D'⟩=AM (.int .i64 t):=hc5;obtain⟨b6,o6,e6,uX,hc6⟩:=PG.out t GZ;cases e6;have f1:=HK.out wo HX _ _ _ Zo hc5;have f2:=HK.out wo HX _ _ _ uX hc6;have f3:=HK.out wo HX _ _ _ aih Dp;have HT:Hid (cV (p s)::(l.take (k+1)).map (fun t=>cV (p t.toNat))=(cV (p s)::(l.take k).map fun t=>cV (p t.toNat))++ [.int .i64 (p t)]):=hid (by rw[zh VJ];rfl);clear hc5 hc6 VJ;go_wp2_with (at_builtin;refine Hid.out ?_);refine hid ?_;refine wpList_append_own_at _ rfl (.tmp 23) (.tmp 28) 39 rfl W.heap.size 3 iI (.int .i64 0) 1 8 Tryz.underlying39 y8 kP kQ kR rfl (by decide) (.slice oa (k+1) oc) (k+1) _ rfl (HO.alloc _) ⟨wo.heap.size,0,D'⟩ 1 1 [.int .i64 (p t)] rfl rfl (eF _ _ _) (by simp[Value.oneCell']) (by unfold maxLen;omega) (by omega) (by simp;omega) ?_;intro v' w5 hown' hgrow hh hat;have Jk:=hid hown';have lJ:=hid hgrow;clear hown' hgrow hh hat;go_wp2;go_roundw;case rel=>
    refine⟨k+1,by omega,by go_num,?_,?_⟩
    ·rw[HT.out]
     exact Jk
    ·exact(HX.trans (((Ext.refl wo).alloc _).below.mono Bd)).trans (((Below.refl _ _).grown lJ (by simp;omega) fun x e=>(HO.lt x e).1))
   case measure=>simp[intOf];omega
  ·obtain rfl:k=n:=by omega
   have eE:¬ ((k:Int)<k):=by omega
   have HE:Hid (cV (p s)::(l.take k).map (fun t=>cV (p t.toNat))=(((p s:Nat):Int)::l.map fun t=>((p t.toNat:Nat):Int)).map aM):=hid (by
    rw[Cd (by rw[<-HN.out];exact aG _),D0,Bs];rfl)
   have xI:bQ aM wo (.slice oa (k+1) oc) (((p s:Nat):Int)::l.map fun t=>((p t.toNat:Nat):Int)):=by have h5:=HO.out;rw[HE.out]at h5;exact cZ h5 (by simp[<-HN.out])
   have CN:=hid (qF _ _ (fun x hx=>by
    rcases GH.1 hx with rfl | hx
    ·have:=HP.out s hs;omega
    ·obtain⟨t,ht,rfl⟩:=By.1 hx
     have h7:=HRG.out t ht;have:=HP.out t.toNat (by omega)
     omega) (by simp[<-HN.out];omega) wo xI)
   have HV:Hid (ja (kU ((((p s:Nat):Int)::l.map fun t=>((p t.toNat:Nat):Int)).map Int.toNat))=R):=hid (by
    rw[HR.out,D0,Bs]
    rfl)
   rw[HV.out]at CN;clear xI;go_wp2_with fail
   refine CN.mono ?_;rintro e w2 ⟨rfl,hx⟩;go_wp2;go_ret;exact⟨rfl,HX.trans (hx.mono Bd)⟩
end
section
open Go Go.RowKit
theorem iF (d:DF) (s:Nat) (b:List Nat) (c:Nat):bG d s (b++ [c])=en d (bG d s b) (cls d.cl c):=by unfold bG;rw[C_];rfl
theorem FU {a:DF} (ha:Rt a) {L:List BS} (hL:∀ s∈a.cl,s∈L) {c e:Nat} (hc:c<256) (he:e<256) (h:cls (partsOf L) c=cls (partsOf L) e):cls a.cl c=cls a.cl e:=by have h1:Alike L c e:=((bX.jN L).rE hc he).1 h;exact(ha.part.rE hc he).2 fun s hs=>h1 s (hL s hs)
theorem SJ {n m:Nat} :∀ (l:List (Nat×Nat)),l.Nodup->(∀ p∈l,p.1<n/\p.2<m)->l.length<=n*m:=fun l hn hl=>by
 have h1:(l.map fun p=>p.1*m+p.2).Nodup:=by
  rw[DH,List.pairwise_map];refine(DH.1 hn).imp_of_mem fun {p q} hp hq hne e=>hne ?_
  have h2:=hl p hp;have h3:=hl q hq;have hm:0<m:=by omega
  have e1:(p.1*m+p.2)/m=(q.1*m+q.2)/m:=by rw[e]
  have e2:(p.1*m+p.2)%m=(q.1*m+q.2)%m:=by rw[e]
  rw[EV,GA hm,FG h2.2,EV q.1,GA hm,FG h3.2]at e1;rw[EV,GB,F_ h2.2,EV q.1,GB,F_ h3.2]at e2;exact Prod.ext (by omega) e2
 have h2:=lj (n*m) _ h1 fun t ht=>by
  obtain⟨p,hp,rfl⟩:=By.1 ht;have h3:=hl p hp;have:(p.1+1)*m<=n*m:=Nat.mul_le_mul_right _ (by omega);rw[Nat.add_mul,Nat.one_mul]at this;omega
 rwa[aQ]at h2
def cw (d:DF):Nat->Nat->Nat
 | 0=>dL (fun s=>d.mr.getD s []) d.nx.length
 | i+1=>dL (fun s=>cw d i s::(d.nx.getD s []).map fun t=>cw d i t.toNat) d.nx.length
def jZ (d:DF) (i s:Nat):List Nat:=cw d i s::(d.nx.getD s []).map fun t=>cw d i t.toNat
def eh (d:DF):Nat->Nat
 | 0=>dR (fun s=>d.mr.getD s []) d.nx.length
 | i+1=>dR (jZ d i) d.nx.length
theorem FX (d:DF) (i:Nat):cw d (i+1)=dL (jZ d i) d.nx.length:=rfl
theorem Jp {d:DF} {i s t:Nat} (hs:s<d.nx.length) (ht:t<d.nx.length) (h:cw d (i+1) s=cw d (i+1) t):cw d i s=cw d i t:=by rw[FX]at h;have:=(eD hs ht).1 h;exact(Dm this).1
def dQ (d:DF) (i:Nat):Prop:=eh d (i+1)=eh d i
theorem Lg {κ:Type} [DecidableEq κ] (k:Nat->κ) (n:Nat):dR (dL k n) n=dR k n:=by have h1:=(sf (k:=dL k n) (k':=k) (n:=n) fun s t hs ht e=>(eD hs ht).2 e).1;have h2:=(sf (k:=k) (k':=dL k n) (n:=n) fun s t hs ht e=>(eD hs ht).1 e).1;omega
theorem CV (d:DF) (i:Nat):dR (cw d i) d.nx.length=eh d i:=by
 cases i with
 | zero=>exact Lg _ _
 | succ i=>exact Lg _ _
theorem xJ (d:DF) (i:Nat):eh d i<=eh d (i+1)/\eh d i<=d.nx.length:=by
 refine⟨?_,?_⟩
 ·rw[<-CV d i]
  exact(sf (k:=cw d i) (k':=jZ d i) fun s t hs ht e=>(Dm e).1).1
 ·rw[<-CV d i]
  exact r9 _ _
theorem Jq {d:DF} {i:Nat} (h:dQ d i) {s t:Nat} (hs:s<d.nx.length) (ht:t<d.nx.length):cw d i s=cw d i t↔jZ d i s=jZ d i t:=by
 constructor
 ·intro e
  refine(sf (k:=cw d i) (k':=jZ d i) (n:=d.nx.length) fun s t _ _ e=>(Dm e).1).2 ?_ s t hs ht e;rw[CV];exact h.symm
 ·exact fun e=>(Dm e).1
theorem FY (d:DF):∃ i,i<=d.nx.length/\dQ d i/\∀ j,j<i->¬dQ d j:=by
 -- else the count rises with each round
 have key:∀ m,(∀ j,j<m->¬dQ d j)->m<=eh d m:=by
  intro m;induction m with
  | zero=>intro _;exact E_ _
  | succ m ih=>
   intro h;have h1:=ih fun j hj=>h j (by omega)
   have h2:=(xJ d m).1;have h3:=h m (by omega);unfold dQ at h3;omega
 have ex:∃ i,dQ d i:=by
  refine Classical.byContradiction fun hno=>?_
  have h1:=key (d.nx.length+1) fun j _ hj=>hno ⟨j,hj⟩
  have h2:=(xJ d (d.nx.length+1)).2;omega
 obtain⟨i,hi⟩:=ex;induction i using Nat.strongRecOn with
 | ind i ih=>
  by_cases e:∃ j,j<i/\dQ d j
  ·obtain⟨j,h1,h2⟩:=e;exact ih j h1 h2
  ·refine⟨i,?_,hi,fun j hj h=>e ⟨j,hj,h⟩⟩
   have h1:=key i fun j hj h=>e ⟨j,hj,h⟩
   have h2:=(xJ d i).2;omega
def Ay (d:DF) (s t:Nat):Prop:=∀ w:List Nat,(∀ c∈w,c<256)->d.mr.getD (bG d s w) []=d.mr.getD (bG d t w) []
theorem Jr {d:DF} (h:Rt d) {s t k:Nat} (hk:k<d.cl.length) (ha:Ay d s t):Ay d (en d s k) (en d t k):=fun w hw=>by
 obtain⟨h1,h2,_⟩:=kz h hk;have:=ha (lb d.cl k::w) fun c hc=>by
  rcases GH.1 hc with rfl | hc
  ·exact h1
  ·exact hw c hc
 have e:∀ u,bG d u (lb d.cl k::w)=bG d (en d u k) w:=fun u=>by
  show bG d (en d u (cls d.cl (lb d.cl k))) w=_;rw[h2]
 rwa[e,e]at this
theorem oU {d:DF} (h:Rt d) {s:Nat} (hs:s<d.nx.length) (f:Nat->Nat):(d.nx.getD s []).map (fun t=>f t.toNat)=(Dl d.cl.length).map fun k=>f (en d s k):=by
 have hl:=h.len s hs;refine List.ext_getElem? fun k=>?_
 rw[aO,aO];by_cases hk:k<d.cl.length
 ·rw[A' hk,aW (l:=d.nx.getD s []) 0 (by omega)];rfl
 ·rw[aS (by omega),aS (by simp;omega)];rfl
theorem mj {d:DF} (h:Rt d):∀ (i:Nat) {s t:Nat},s<d.nx.length->t<d.nx.length->Ay d s t->cw d i s=cw d i t
 | 0,s,t,hs,ht,ha=>(eD hs ht).2 (ha [] fun _ hc=>by cases hc)
 | i+1,s,t,hs,ht,ha=>by
  rw[FX];refine(eD hs ht).2 ?_;unfold jZ;rw[mj h i hs ht ha,oU h hs (cw d i),oU h ht (cw d i)];congr 1;refine AT fun k hk=>?_
  have hk:=C'.1 hk;exact mj h i (h.iY hs hk) (h.iY ht hk) (Jr h hk ha)
theorem xK {d:DF} :∀ (i:Nat) {s t:Nat},s<d.nx.length->t<d.nx.length->cw d i s=cw d i t->d.mr.getD s []=d.mr.getD t []
 | 0,_,_,hs,ht,e=>(eD (key:=fun s=>d.mr.getD s []) hs ht).1 e
 | i+1,_,_,hs,ht,e=>xK i hs ht (Jp hs ht e)
theorem FZ {d:DF} (h:Rt d) {i:Nat} (hi:dQ d i) {s t k:Nat} (hs:s<d.nx.length) (ht:t<d.nx.length) (hk:k<d.cl.length) (e:cw d i s=cw d i t):cw d i (en d s k)=cw d i (en d t k):=by have h1:=(Jq hi hs ht).1 e;unfold jZ at h1;rw[oU h hs (cw d i),oU h ht (cw d i)]at h1;have h2:=(Dm h1).2;have h3:=congrArg (fun l:List Nat=>l[k]?) h2;simp only[aO,A' hk,Option.map_some]at h3;exact Dn h3
theorem NN {d:DF} (h:Rt d) {i:Nat} (hi:dQ d i) {s t:Nat} (hs:s<d.nx.length) (ht:t<d.nx.length):cw d i s=cw d i t↔Ay d s t:=by
 refine⟨fun e w=>?_,mj h i hs ht⟩;induction w generalizing s t with
 | nil=>exact fun _=>xK i hs ht e
 | cons c w ih=>
  intro hw;have hk:=h.part.dB (hw c (aY ..));exact ih (h.iY hs hk) (h.iY ht hk) (FZ h hi hs ht hk e) fun x hx=>hw x (bC _ hx)
def fj (p:Nat->Nat):Nat->Nat
 | 0=>0
 | s+1=>max (fj p s) (p s+1)
theorem Az {p:Nat→Nat} {m:Nat} :∀ {n:Nat},m≤n→fj p m≤fj p n
  | 0, h => by obtain rfl : m = 0 := by omega
               exact aG _
  | n + 1, h => by
    by_cases e : m = n + 1
    · rw [e]; exact aG _
    · have := Az (p := p) (m := m) (n := n) (by omega)
      rw[fj];omega
theorem iM {p:Nat->Nat} {n s:Nat} (h:s<n):p s<fj p n:=by have:=Az (p:=p) (m:=s+1) (n:=n) h;rw[fj]at this;omega
def NP (p:Nat->Nat) (n:Nat):Prop:=∀ s,s<n->p s<=fj p s
theorem CX {κ:Type} [DecidableEq κ] (key:Nat->κ) (n:Nat):∀ s,s<=n->fj (dL key n) s=dR key s
 | 0,_=>rfl
 | s+1,h=>by
  have e:=lK (key:=key) (n:=n) (s:=s) (by omega);have ih:=CX key n s (by omega);rw[fj,ih,e];unfold dR;rw[bU];split
  ·rename_i hm
   have:=DE hm;omega
  ·rw[aJ,As];omega
theorem CY {κ:Type} [DecidableEq κ] (key:Nat->κ) (n:Nat):NP (dL key n) n:=fun s hs=>by
 rw[CX key n s (by omega),lK hs];unfold dR;split
 ·rename_i hm
  have:=DE hm;omega
 ·omega
def br (d:DF) (p:Nat->Nat):Nat->List (List Int)×List (List Int)
 | 0=>([],[])
 | s+1=>if p s<(br d p s).1.length then br d p s else((br d p s).1++ [(d.nx.getD s []).map fun t=>((p t.toNat:Nat):Int)],(br d p s).2++ [d.mr.getD s []])
def dn (d:DF) (p:Nat->Nat):DF:=⟨d.cl,(br d p d.nx.length).1,(br d p d.nx.length).2⟩
theorem tA {d:DF} {p:Nat->Nat} :∀ {n:Nat},NP p n->(br d p n).1.length=fj p n/\(br d p n).2.length=fj p n
 | 0,_=>⟨rfl,rfl⟩
 | n+1,h=>by
  have ih:=tA (d:=d) (p:=p) (n:=n) fun s hs=>h s (by omega)
  have hn:=h n (by omega);rw[br,fj];split
  ·rename_i hl
   rw[ih.1]at hl;exact⟨by rw[ih.1];omega,by rw[ih.2];omega⟩
  ·rename_i hl
   rw[ih.1]at hl;exact⟨by rw[aJ,ih.1,As];omega,by rw[aJ,ih.2,As];omega⟩
theorem j3 {d:DF} {p:Nat->Nat} :∀ {n:Nat},NP p n->∀ b,b<fj p n->∃ s,s<n/\p s=b/\(br d p n).1[b]? =AM ((d.nx.getD s []).map fun t=>((p t.toNat:Nat):Int))/\(br d p n).2[b]? =AM (d.mr.getD s [])
 | 0,_,b,hb=>by cases hb
 | n+1,h,b,hb=>by
  have hN:NP p n:=fun s hs=>h s (by omega)
  have hl:=tA (d:=d) hN;have hn:=h n (by omega);have ih:=j3 (d:=d) hN;rw[fj]at hb;rw[br];split
  ·rename_i hp
   rw[hl.1]at hp;obtain⟨s,hs,e,e1,e2⟩:=ih b (by omega);exact⟨s,by omega,e,e1,e2⟩
  ·rename_i hp
   rw[hl.1]at hp;by_cases QC:b<fj p n
   ·obtain⟨s,hs,e,e1,e2⟩:=ih b QC
    refine⟨s,by omega,e,?_,?_⟩
    ·rw[bK (by rw[hl.1];exact QC)];exact e1
    ·rw[bK (by rw[hl.2];exact QC)];exact e2
   ·refine⟨n,by omega,by omega,?_,?_⟩
    ·rw[cM (by rw[hl.1];omega),show b-(br d p n).1.length=0 by rw[hl.1];omega];rfl
    ·rw[cM (by rw[hl.2];omega),show b-(br d p n).2.length=0 by rw[hl.2];omega];rfl
structure Fits (d:DF) (p:Nat->Nat):Prop where
 num:NP p d.nx.length
 mark:∀ s t,s<d.nx.length->t<d.nx.length->p s=p t->d.mr.getD s []=d.mr.getD t []
 next:∀ s t k,s<d.nx.length->t<d.nx.length->k<d.cl.length->p s=p t->p (en d s k)=p (en d t k)
theorem xL {d:DF} (h:Rt d) {i:Nat} (hi:dQ d i):Fits d (cw d i):=
  ⟨by cases i with
     | zero=>exact CY _ _
     | succ i=>exact CY _ _,
   fun _ _ hs ht e=>xK i hs ht e,fun _ _ _ hs ht hk e=>FZ h hi hs ht hk e⟩
theorem oV {d:DF} {p:Nat->Nat} (h:Rt d) (hf:Fits d p) {s:Nat} (hs:s<d.nx.length):(dn d p).nx[p s]? =AM ((Dl d.cl.length).map fun k=>((p (en d s k):Nat):Int))/\(dn d p).mr[p s]? =AM (d.mr.getD s []):=by
 obtain⟨t,ht,e,e1,e2⟩:=j3 (d:=d) hf.num (p s) (iM hs);refine⟨?_,?_⟩
 ·show(br d p d.nx.length).1[p s]? =_
  rw[e1];congr 1;have:=oU h ht (fun t=>p t);have r2:(d.nx.getD t []).map (fun t=>((p t.toNat:Nat):Int))=((d.nx.getD t []).map fun t=>p t.toNat).map Int.ofNat:=by rw[Bs];rfl
  rw[r2,this,Bs];refine AT fun k hk=>?_
  show Int.ofNat (p (en d t k))=_;rw[hf.next t s k ht hs (C'.1 hk) e];rfl
 ·show(br d p d.nx.length).2[p s]? =_
  rw[e2,hf.mark t s ht hs e]
theorem NQ {d:DF} {p:Nat->Nat} (h:Rt d) (hf:Fits d p) {s k:Nat} (hs:s<d.nx.length) (hk:k<d.cl.length):en (dn d p) (p s) k=p (en d s k):=by unfold en;rw[getD_some (oV h hf hs).1,getD_some (x:=((p (en d s k):Nat):Int)) (by rw[aO,A' hk];rfl)];rfl
theorem qH {d:DF} {p:Nat->Nat} (h:Rt d) (hf:Fits d p) {s:Nat} (hs:s<d.nx.length):(dn d p).mr.getD (p s) []=d.mr.getD s []:=getD_some (oV h hf hs).2
theorem fk {d:DF} {p:Nat->Nat} (hf:Fits d p):(dn d p).nx.length=fj p d.nx.length/\(dn d p).mr.length=fj p d.nx.length:=tA hf.num
theorem C0 {p:Nat->Nat} :∀ {n:Nat},NP p n->fj p n<=n
 | 0,_=>aG _
 | n+1,h=>by
  have ih:=C0 (p:=p) (n:=n) fun s hs=>h s (by omega)
  have:=h n (by omega);rw[fj];omega
theorem F5 {d:DF} {p:Nat->Nat} (h:Rt d) (hf:Fits d p):Rt (dn d p) where
 pos:=by rw[(fk hf).1];have:=iM (p:=p) (show 0<d.nx.length from h.pos);omega
 le:=by rw[(fk hf).1];have:=C0 hf.num;have:=h.le;omega
 mr:=by rw[(fk hf).1,(fk hf).2]
 cl:=h.cl
 len:=fun b hb=>by
  rw[(fk hf).1]at hb;obtain⟨s,hs,e,_,_⟩:=j3 (d:=d) hf.num b hb;rw[<-e,getD_some (oV h hf hs).1,aQ,DP];rfl
 iV:=fun b hb t ht=>by
  rw[(fk hf).1]at hb ⊢;obtain⟨s,hs,e,_,_⟩:=j3 (d:=d) hf.num b hb;rw[<-e,getD_some (oV h hf hs).1]at ht;obtain⟨k,hk,rfl⟩:=By.1 ht;have:=iM (p:=p) (h.iY hs (C'.1 hk));omega
 TM:=fun b hb=>by
  rw[(fk hf).1]at hb;obtain⟨s,hs,e,_,_⟩:=j3 (d:=d) hf.num b hb;rw[<-e,qH h hf hs];exact h.TM s hs
theorem tB {d:DF} {p:Nat->Nat} (h:Rt d) (hf:Fits d p):∀ (w:List Nat) {s:Nat},s<d.nx.length->(∀ c∈w,c<256)->bG (dn d p) (p s) w=p (bG d s w)
 | [],_,_,_=>rfl
 | c::w,s,hs,hw=>by
  have hk:=(h.part).dB (hw c aY);have:=tB h hf w (h.iY hs hk) fun x hx=>hw x (bC _ hx)
  rw[<-NQ h hf hs hk]at this;exact this
theorem uE {d:DF} {p:Nat->Nat} (h:Rt d) (hf:Fits d p) {w:List Nat} {s:Nat} (hs:s<d.nx.length) (hw:∀ c∈w,c<256):(dn d p).mr.getD (bG (dn d p) (p s) w) []=d.mr.getD (bG d s w) []:=by rw[tB h hf w hs hw,qH h hf (fD h hs w hw)]
theorem F6 {d:DF} {i:Nat} (h:Rt d) (hi:dQ d i) {s t:Nat} (hs:s<d.nx.length) (ht:t<d.nx.length) (ha:Ay (dn d (cw d i)) (cw d i s) (cw d i t)):cw d i s=cw d i t:=by
 have hf:=xL h hi;refine(NN h hi hs ht).2 fun w hw=>?_
 rw[<-uE h hf hs hw, <-uE h hf ht hw];exact ha w hw
structure qI (P:List Nat->Bool) (s:List Nat):Prop where
 ok:P s=GS
 TQ:∀ c∈s,c<256
 short:∀ w:List Nat,(∀ c∈w,c<256)->P w=GS->s.length<=w.length
 lex:∀ w:List Nat,(∀ c∈w,c<256)->P w=GS->w.length=s.length->∀ j x y,w.take j=s.take j->w[j]? =AM x->s[j]? =AM y->y<=x
theorem qI.congr {P Q:List Nat->Bool} {s:List Nat} (h:qI P s) (e:∀ w:List Nat,(∀ c∈w,c<256)->P w=Q w):qI Q s:=
 ⟨by rw[<-e s h.TQ];exact h.ok,h.TQ,fun w hw ha=>h.short w hw (by rw[e w hw];exact ha),fun w hw ha=>h.lex w hw (by rw[e w hw];exact ha)⟩
set_option maxRecDepth 100000
def jz (w:List Nat):Nat:=w.foldl (fun a c=>a*257+c+1) 0
theorem gy (w:List Nat) (c:Nat):jz (w++ [c])=jz w*257+c+1:=by unfold jz;rw[C_];rfl
theorem oW {α:Type} (l:List α):l=[]\/∃ u c,l=u++ [c]:=by
 rcases List.eq_nil_or_concat l with h | ⟨u,c,h⟩
 ·exact .inl h
 ·exact .inr ⟨u,c,by rw[h,List.concat_eq_append]⟩
theorem xM:∀ (n:Nat) {w s:List Nat},s.length=n->(∀ c∈w,c<256)->w.length<s.length->jz w<jz s
 | 0,w,s,hn,_,h=>by omega
 | n+1,w,s,hn,hb,h=>by
  rcases oW s with rfl | ⟨s',c,rfl⟩
  ·cases hn
  ·rw[aJ,As]at hn h
   rw[gy];rcases oW w with rfl | ⟨w',e,rfl⟩
   ·exact Nat.succ_pos _
   ·rw[aJ,As]at h
    have ih:=xM n (w:=w') (s:=s') (by omega) (fun x hx=>hb x (AI _ hx)) (by omega);have:=hb e (AN _ (AF.2 rfl));rw[gy];omega
theorem F7:∀ (n:Nat) {w s:List Nat},s.length=n->w.length=n->(∀ c∈w,c<256)->∀ j x y,w.take j=s.take j->w[j]? =AM x->s[j]? =AM y->x<y->jz w<jz s
 | 0,w,s,hn,hw,_,j,x,y,_,hx,_,_=>by
  obtain rfl:=B'.1 hw;cases hx
 | n+1,w,s,hn,hw,hb,j,x,y,ht,hx,hy,hlt=>by
  rcases oW s with rfl | ⟨s',c,rfl⟩
  ·cases hn
  rcases oW w with rfl | ⟨w',e,rfl⟩
  ·cases hw
  rw[aJ,As]at hn hw;have he:=hb e (AN _ (AF.2 rfl));rw[gy,gy];by_cases hj:j<n
  ·rw[bK (by omega)]at hx hy
   rw[AS (by omega),AS (by omega)]at ht;have:=F7 n (w:=w') (s:=s') (by omega) (by omega) (fun x hx=>hb x (AI _ hx)) j x y ht hx hy hlt;omega
  ·have hjn:j=n:=by
    have:=(An.1 hx).1;rw[aJ,As]at this;omega
   subst hjn;rw[AS (by omega),AS (by omega),Cd (by omega),Cd (by omega)]at ht;subst ht;rw[cM (by omega),show j-w'.length=0 by omega]at hx hy;cases hx;cases hy;omega
theorem NS {P:List Nat->Bool} {s:List Nat} (h1:P s=GS) (h2:∀ c∈s,c<256) (h:∀ w:List Nat,(∀ c∈w,c<256)->P w=GS->jz s<=jz w):qI P s where
 ok:=h1
 TQ:=h2
 short:=fun w hw hp=>D_ fun hl=>by have:=xM _ rfl hw hl;have:=h w hw hp;omega
 lex:=fun w hw hp hl j x y ht hx hy=>D_ fun hlt=>by have:=F7 _ rfl hl hw j x y ht hx hy hlt;have:=h w hw hp;omega
section
variable {α:Type} [DecidableEq α]
def nY (E:List (α×List Nat)) (q:α) (w:List Nat):List (α×List Nat):=if q∈E.map Ft then E else E++ [(q,w)]
def ia (F:α->Nat->α) (lt:Nat->Nat) (x:α×List Nat) (E:List (α×List Nat)):Nat->List (α×List Nat)
 | 0=>E
 | k+1=>nY (ia F lt x E k) (F x.1 k) (x.2++ [lt k])
def dp (F:α->Nat->α) (lt:Nat->Nat) (K:Nat) (p0:α):Nat->List (α×List Nat)
 | 0=>[(p0,[])]
 | n+1=>match(dp F lt K p0 n)[n]? with
  | none=>dp F lt K p0 n
  | some x=>ia F lt x (dp F lt K p0 n) K
theorem xN (E:List (α×List Nat)) (q:α) (w:List Nat) {i:Nat} {x:α×List Nat} (h:E[i]? =AM x):(nY E q w)[i]? =AM x:=by
 unfold nY;split
 ·exact h
 ·rw[bK (An.1 h).1];exact h
theorem xO (F:α->Nat->α) (lt:Nat->Nat) (y:α×List Nat) (E:List (α×List Nat)) {i:Nat} {x:α×List Nat} (h:E[i]? =AM x):∀ k,(ia F lt y E k)[i]? =AM x
 | 0=>h
 | k+1=>xN _ _ _ (xO F lt y E h k)
theorem AA {F:α->Nat->α} {lt:Nat->Nat} {K:Nat} {p0:α} {n i:Nat} {x:α×List Nat} (h:(dp F lt K p0 n)[i]? =AM x):∀ k,(dp F lt K p0 (n+k))[i]? =AM x
 | 0=>h
 | k+1=>by
  have ih:=AA h k;rw[<-GO,dp];split
  ·exact ih
  ·exact xO _ _ _ _ ih _
structure Lets (lt κ:Nat->Nat) (K:Nat):Prop where
 cls:∀ c,c<256->κ c<K/\lt (κ c)<=c
 back:∀ k,k<K->lt k<256/\κ (lt k)=k
 mono:∀ k,k+1<K->lt k<lt (k+1)
def Ud (F:α->Nat->α) (κ:Nat->Nat) (p:α) (w:List Nat):α:=w.foldl (fun p c=>F p (κ c)) p
omit [DecidableEq α]in
theorem xP (F:α->Nat->α) (κ:Nat->Nat) (p:α) (w:List Nat) (c:Nat):Ud F κ p (w++ [c])=F (Ud F κ p w) (κ c):=by unfold Ud;rw[C_];rfl
def Z9 (lt:Nat->Nat):Nat->Nat
 | 0=>1
 | k+1=>lt k+2
structure Lh (F:α->Nat->α) (lt κ:Nat->Nat) (K:Nat) (p0:α) (E:List (α×List Nat)) (n:Nat):Prop where
 head:E[0]? =AM (p0,[])
 ok:∀ x∈E,Ud F κ p0 x.2=x.1/\∀ c∈x.2,c<256
 inc:∀ (i j:Nat) (x y:α×List Nat),i<j->E[i]? =AM x->E[j]? =AM y->jz x.2<jz y.2
 closed:∀ (i:Nat) (x:α×List Nat),i<n->E[i]? =AM x->∀ k,k<K->∃ y∈E,y.1=F x.1 k/\jz y.2<=jz x.2*257+lt k+1
structure uF (F:α->Nat->α) (lt κ:Nat->Nat) (K:Nat) (p0:α) (E:List (α×List Nat)) (n k:Nat) (x:α×List Nat):Prop extends Lh F lt κ K p0 E n where
 at':E[n]? =AM x
 bound:∀ y∈E,jz y.2<jz x.2*257+Z9 lt k
 did:∀ j,j<k->∃ y∈E,y.1=F x.1 j/\jz y.2<=jz x.2*257+lt j+1
theorem uF.step {F:α->Nat->α} {lt κ:Nat->Nat} {K:Nat} {p0:α} (hL:Lets lt κ K) {E:List (α×List Nat)} {n k:Nat} {x:α×List Nat} (h:uF F lt κ K p0 E n k x) (hk:k<K):uF F lt κ K p0 (nY E (F x.1 k) (x.2++ [lt k])) n (k+1) x:=by
 have hb:Z9 lt k<=lt k+1:=by
  cases k with
  | zero=>exact Nat.le_add_left _ _
  | succ k=>have:=hL.mono k hk;show lt k+2<=_;omega
 have hx:=h.ok x (aw h.at');have aaa:∀ y∈E,y∈nY E (F x.1 k) (x.2++ [lt k]):=fun y hy=>by
  unfold nY;split
  ·exact hy
  ·exact AI _ hy
 have Fw:∀ y∈nY E (F x.1 k) (x.2++ [lt k]),y∈E\/y=(F x.1 k,x.2++ [lt k]):=fun y hy=>by
  unfold nY at hy;split at hy
  ·exact .inl hy
  ·rcases B_.1 hy with hy | hy
   ·exact .inl hy
   ·exact .inr (AF.1 hy)
 have mP:∀ i y,(nY E (F x.1 k) (x.2++ [lt k]))[i]? =AM y->E[i]? =AM y\/(i=E.length/\y=(F x.1 k,x.2++ [lt k])):=fun i y hy=>by
  unfold nY at hy;split at hy
  ·exact .inl hy
  ·by_cases hi:i<E.length
   ·rw[bK hi]at hy;exact .inl hy
   ·rw[cM (by omega)]at hy
    have h0:=(An.1 hy).1;rw[As]at h0;rw[show i-E.length=0 by omega]at hy;cases hy;exact .inr ⟨by omega,rfl⟩
 refine⟨⟨xN _ _ _ h.head,?_,?_,?_⟩,xN _ _ _ h.at',?_,?_⟩
 ·intro y hy
  rcases Fw y hy with hy | rfl
  ·exact h.ok y hy
  ·refine⟨?_,fun c hc=>?_⟩
   ·show Ud F κ p0 (x.2++ [lt k])=F x.1 k
    rw[xP,hx.1,(hL.back k hk).2]
   ·rcases B_.1 hc with hc | hc
    ·exact hx.2 c hc
    ·rw[AF.1 hc];exact(hL.back k hk).1
 ·intro i j y z mF hy hz
  rcases mP i y hy with hy' | ⟨rfl,rfl⟩
  ·rcases mP j z hz with hz' | ⟨rfl,rfl⟩
   ·exact h.inc i j y z mF hy' hz'
   ·show _<jz (x.2++ [lt k])
    have:=h.bound y (aw hy');rw[gy];omega
  ·rcases mP j z hz with hz' | ⟨rfl,rfl⟩
   ·have:=(An.1 hz').1;omega
   ·omega
 ·intro i y hi hy j hj
  rcases mP i y hy with hy' | ⟨rfl,rfl⟩
  ·obtain⟨z,hz,e⟩:=h.closed i y hi hy' j hj
   exact⟨z,aaa z hz,e⟩
  ·have:=(An.1 h.at').1;omega
 ·intro y hy
  show _<_+(lt k+2);rcases Fw y hy with hy | rfl
  ·have:=h.bound y hy;omega
  ·show jz (x.2++ [lt k])<_
   rw[gy];omega
 ·intro j hj
  by_cases e:j=k
  ·subst e
   by_cases hm:F x.1 j∈E.map Ft
   ·obtain⟨y,hy,e⟩:=By.1 hm
    have:=h.bound y hy;exact⟨y,aaa y hy,e,by omega⟩
   ·refine⟨(F x.1 j,x.2++ [lt j]),?_,rfl,?_⟩
    ·unfold nY;rw[if_neg hm];exact AN _ (AF.2 rfl)
    ·show jz (x.2++ [lt j])<=_
     rw[gy];exact aG _
  ·obtain⟨y,hy,e⟩:=h.did j (by omega)
   exact⟨y,aaa y hy,e⟩
theorem uF.all {F:α->Nat->α} {lt κ:Nat->Nat} {K:Nat} {p0:α} (hL:Lets lt κ K) {E:List (α×List Nat)} {n:Nat} {x:α×List Nat} (h:uF F lt κ K p0 E n 0 x):∀ k,k<=K->uF F lt κ K p0 (ia F lt x E k) n k x
 | 0,_=>h
 | k+1,hk=>(uF.all hL h k (by omega)).step hL (by omega)
theorem oX {F:α->Nat->α} {lt κ:Nat->Nat} {K:Nat} {p0:α} (hL:Lets lt κ K):∀ n,Lh F lt κ K p0 (dp F lt K p0 n) n/\∀ x,(dp F lt K p0 n)[n]? =AM x->uF F lt κ K p0 (dp F lt K p0 n) n 0 x
 | 0=>by
  have g:Lh F lt κ K p0 (dp F lt K p0 0) 0:=by
   refine⟨rfl,fun x hx=>?_,fun i j x y mF hx hy=>?_,fun i x hi=>by omega⟩
   ·rw[AF.1 hx];exact⟨rfl,fun c hc=>by cases hc⟩
   ·have:=(An.1 hy).1
    rw[dp,As]at this;omega
  refine⟨g,fun x hx=>⟨g,hx,fun y hy=>?_,fun j hj=>by omega⟩⟩;rw[AF.1 hy];show 0<_+1;omega
 | n+1=>by
  obtain⟨g,hr⟩:=oX hL (F:=F) (p0:=p0) n;rw[dp];split
  ·rename_i hn
   have hlen:=A_.1 hn;refine⟨⟨g.head,g.ok,g.inc,fun i x hi hx k hk=>?_⟩,fun x hx=>?_⟩
   ·have:=(An.1 hx).1
    exact g.closed i x (by omega) hx k hk
   ·have:=(An.1 hx).1;omega
  ·rename_i x hx
   have R:=(hr x hx).all hL K (aG _);have g':Lh F lt κ K p0 (ia F lt x (dp F lt K p0 n) K) (n+1):=by
    refine⟨R.head,R.ok,R.inc,fun i y hi hy k hk=>?_⟩;by_cases e:i=n
    ·subst e
     have:y=x:=Dn (hy.symm.trans R.at');subst this;exact R.did k hk
    ·exact R.closed i y (by omega) hy k hk
   refine⟨g',fun z hz=>⟨g',hz,fun y hy=>?_,fun j hj=>by omega⟩⟩;have h1:=R.bound y hy;have h2:=R.inc n (n+1) x z (by omega) R.at' hz;have h3:Z9 lt K<=257:=by
    cases K with
    | zero=>exact(by decide:1<=257)
    | succ K=>have:=(hL.back K (by omega)).1;show lt K+2<=_;omega
   show _<_+1;omega
theorem xQ {F:α->Nat->α} {lt κ:Nat->Nat} {K:Nat} {p0:α} (hL:Lets lt κ K) {n:Nat} :∀ (m:Nat) (w:List Nat),w.length=m->(∀ c∈w,c<256)->(∃ i x,i<n/\(dp F lt K p0 n)[i]? =AM x/\x.1=Ud F κ p0 w/\jz x.2<=jz w)\/∃ x,(dp F lt K p0 n)[n]? =AM x/\jz x.2<=jz w
 | 0,w,hw,_=>by
  obtain rfl:=B'.1 hw;have g:=(oX hL (F:=F) (p0:=p0) n).1;by_cases h0:0<n
  ·exact .inl ⟨0,_,h0,g.head,rfl,aG _⟩
  ·obtain rfl:n=0:=by omega
   exact .inr ⟨_,g.head,aG _⟩
 | m+1,w,hw,hb=>by
  rcases oW w with rfl | ⟨u,c,rfl⟩
  ·cases hw
  rw[aJ,As]at hw;have hc:=hb c (AN _ (AF.2 rfl));have g:=(oX hL (F:=F) (p0:=p0) n).1;rw[gy,xP];rcases xQ hL m u (by omega) (fun x hx=>hb x (AI _ hx))with⟨i,x,hi,hx,e,hv⟩ | ⟨x,hx,hv⟩
  ·obtain⟨y,hy,e1,e2⟩:=g.closed i x hi hx (κ c) (hL.cls c hc).1
   have hl:=(hL.cls c hc).2;obtain⟨j,hj⟩:=Bm hy;by_cases hjn:j<n
   ·exact .inl ⟨j,y,hjn,hj,by rw[e1,e],by omega⟩
   ·have DK:=(An.1 hj).1
    have hz:=az (l:=dp F lt K p0 n) (i:=n) (by omega);refine .inr ⟨_,hz,?_⟩;by_cases aii:j=n
    ·subst aii
     rw[hj]at hz;rw[<-Dn hz];omega
    ·have:=g.inc n j _ y (by omega) hz hj
     omega
  ·exact .inr ⟨x,hx,by omega⟩
theorem Js {F:α->Nat->α} {lt κ:Nat->Nat} {K:Nat} {p0:α} (hL:Lets lt κ K) {bad:α->Bool} {n:Nat} (hno:∀ i x,i<n->(dp F lt K p0 n)[i]? =AM x->bad x.1=false) {x:α×List Nat} (hx:(dp F lt K p0 n)[n]? =AM x) (hb:bad x.1=GS):qI (fun w=>bad (Ud F κ p0 w)) x.2:=by
 have g:=(oX hL (F:=F) (p0:=p0) n).1;have ho:=g.ok x (aw hx);refine NS (by rw[ho.1];exact hb) ho.2 fun w hw hp=>?_
 rcases xQ hL (F:=F) (p0:=p0) (n:=n) _ w rfl hw with⟨i,y,hi,hy,e,_⟩ | ⟨y,hy,hv⟩
 ·have:=hno i y hi hy
  rw[e]at this;have hp':bad (Ud F κ p0 w)=true:=hp;rw[this]at hp';cases hp'
 ·rw[hx]at hy
  cases hy
  exact hv
theorem NT {F:α->Nat->α} {lt κ:Nat->Nat} {K:Nat} {p0:α} (hL:Lets lt κ K) {bad:α->Bool} {n:Nat} (hno:∀ i x,i<n->(dp F lt K p0 n)[i]? =AM x->bad x.1=false) (hn:(dp F lt K p0 n)[n]? =D') {w:List Nat} (hw:∀ c∈w,c<256):bad (Ud F κ p0 w)=false:=by
 rcases xQ hL (F:=F) (p0:=p0) (n:=n) _ w rfl hw with⟨i,y,hi,hy,e,_⟩ | ⟨y,hy,hv⟩
 ·rw[<-e];exact hno i y hi hy
 ·rw[hn]at hy;cases hy
end
set_option maxRecDepth 100000
def aik (L:List BS):DF:=⟨partsOf L,[GG (partsOf L).length 0],[[]]⟩
theorem C7 (L:List BS):Rt (aik L) where
 pos:=aG _
 le:=by show 1<=4000;omega
 mr:=rfl
 cl:=mJ L
 len:=fun s hs=>by
  obtain rfl:s=0:=FF.1 hs;exact List.length_replicate
 iV:=fun s hs t ht=>by
  obtain rfl:s=0:=FF.1 hs;have:=List.eq_of_mem_replicate (show t∈GG (partsOf L).length 0 from ht);subst this;exact⟨Int.le_refl _,by show(0:Int)<((1:Nat):Int);decide⟩
 TM:=fun s hs=>by
  obtain rfl:s=0:=FF.1 hs;rfl
theorem qJ (L:List BS):Lets (lb (partsOf L)) (cls (partsOf L)) (partsOf L).length where
 cls:=fun c hc=>by
  have h1:=(bX.jN L).dB hc;exact⟨h1,(kz (C7 L) (k:=cls (partsOf L) c) h1).2.2 c hc rfl⟩
 back:=fun k hk=>⟨(kz (C7 L) (k:=k) hk).1,(kz (C7 L) (k:=k) hk).2.1⟩
 mono:=fun k hk=>Bq (C7 L) (Nat.lt_succ_self k) hk
theorem C9 {a b:DF} (ha:Rt a) (hb:Rt b) (p:Nat×Nat):∀ (m:Nat) (w:List Nat),w.length=m->(∀ c∈w,c<256)->Ud (rI a b) (cls (partsOf (a.cl++b.cl))) p w=(bG a p.1 w,bG b p.2 w)
 | 0,w,hw,_=>by
  obtain rfl:=B'.1 hw;rfl
 | m+1,w,hw,hc=>by
  rcases oW w with rfl | ⟨u,c,rfl⟩
  ·cases hw
  rw[aJ,As]at hw;have hcc:=hc c (AN _ (AF.2 rfl));have hL:=qJ (a.cl++b.cl);have h1:=hL.cls c hcc;have h2:=hL.back _ h1.1;rw[xP,C9 ha hb p m u (by omega) (fun x hx=>hc x (AI _ hx)),iF,iF];unfold rI;rw[FU ha (L:=a.cl++b.cl) (fun s hs=>AI _ hs) h2.1 hcc h2.2,FU hb (L:=a.cl++b.cl) (fun s hs=>AN _ hs) h2.1 hcc h2.2]
def qK (a b:DF) (p:Nat×Nat):Bool:=decide (a.mr.getD p.1 []≠b.mr.getD p.2 [])
def cm (a b:DF) (p:Nat×Nat):Nat->List ((Nat×Nat)×List Nat):=dp (rI a b) (lb (partsOf (a.cl++b.cl))) (partsOf (a.cl++b.cl)).length p
def ib (a b:DF) (p:Nat×Nat):Nat->Nat->Option (List Nat)
 | 0,_=>D'
 | f+1,i=>match(cm a b p i)[i]? with
  | none=>D'
  | some x=>if qK a b x.1 then AM x.2 else ib a b p f (i+1)
def cB (a b:DF) (p:Nat×Nat):Option (List Nat):=ib a b p (a.nx.length*b.nx.length+1) 0
section
variable {α:Type} [DecidableEq α]
theorem Da {F:α->Nat->α} {lt:Nat->Nat} {P:α->Prop} {x:α×List Nat} {E:List (α×List Nat)} (hn:(E.map Ft).Nodup) (ha:∀ y∈E,P y.1):∀ k,(∀ j,j<k->P (F x.1 j))->((ia F lt x E k).map Ft).Nodup/\∀ y∈ia F lt x E k,P y.1
 | 0,_=>⟨hn,ha⟩
 | k+1,hF=>by
  obtain⟨h1,h2⟩:=Da (lt:=lt) (x:=x) hn ha k fun j hj=>hF j (by omega)
  rw[ia];unfold nY;split
  ·exact⟨h1,h2⟩
  ·rename_i hm
   refine⟨?_,fun y hy=>?_⟩
   ·rw[Gz,List.nodup_append]
    refine⟨h1,by simp,fun y hy z hz e=>hm ?_⟩;simp at hz;subst hz;rw[<-e];exact hy
   ·rcases B_.1 hy with hy | hy
    ·exact h2 y hy
    ·rw[AF.1 hy];exact hF k (by omega)
theorem F8 {F:α->Nat->α} {lt:Nat->Nat} {K:Nat} {p0:α} {P:α->Prop} (h0:P p0) (hF:∀ p k,P p->k<K->P (F p k)):∀ n,((dp F lt K p0 n).map Ft).Nodup/\∀ y∈dp F lt K p0 n,P y.1
 | 0=>⟨by simp[dp],fun y hy=>by rw[AF.1 hy];exact h0⟩
 | n+1=>by
  obtain⟨h1,h2⟩:=F8 (lt:=lt) h0 hF n;rw[dp];split
  ·exact⟨h1,h2⟩
  ·rename_i x hx
   exact Da h1 h2 K fun j hj=>hF _ j (h2 x (aw hx)) hj
end
theorem Ga {a b:DF} (ha:Rt a) (hb:Rt b) {p:Nat×Nat} (hp:fT a b p) (n:Nat):((cm a b p n).map Ft).Nodup/\∀ y∈cm a b p n,fT a b y.1:=F8 hp (fun q k hq hk=>wh ha hb q k hq hk) n
theorem tC {a b:DF} (ha:Rt a) (hb:Rt b) {p:Nat×Nat} (hp:fT a b p) (n:Nat):(cm a b p n).length<=a.nx.length*b.nx.length:=by
 obtain⟨h1,h2⟩:=Ga ha hb hp n;have:=SJ _ h1 fun q hq=>by
  obtain⟨y,hy,rfl⟩:=By.1 hq;exact h2 y hy
 rwa[aQ]at this
theorem qL {a b:DF} {p:Nat×Nat} :∀ (f i:Nat) {w:List Nat},ib a b p f i=AM w->∃ n x,i<=n/\(∀ j y,i<=j->j<n->(cm a b p j)[j]? =AM y->qK a b y.1=false)/\(cm a b p n)[n]? =AM x/\qK a b x.1=GS/\x.2=w
 | 0,i,w,h=>by cases h
 | f+1,i,w,h=>by
  rw[ib]at h;split at h
  ·cases h
  ·rename_i x hx
   split at h
   ·rename_i hb
    cases h
    exact⟨i,x,aG _,fun j y h1 h2=>by omega,hx,hb,rfl⟩
   ·rename_i hb
    obtain⟨n,z,h1,h2,h3,h4,h5⟩:=qL f (i+1) h;refine⟨n,z,by omega,fun j y hj hn hy=>?_,h3,h4,h5⟩;by_cases e:j=i
    ·subst e
     rw[hx]at hy;cases hy;exact DQ.2 hb
    ·exact h2 j y (by omega) hn hy
theorem xR {a b:DF} {p:Nat×Nat} :∀ (f i:Nat),(∀ n,(cm a b p n).length<i+f)->ib a b p f i=D'->∃ n,i<=n/\(∀ j y,i<=j->j<n->(cm a b p j)[j]? =AM y->qK a b y.1=false)/\(cm a b p n)[n]? =D'
 | 0,i,hl,_=>⟨i,aG _,fun j y h1 h2=>by omega,A_.2 (by have:=hl i;omega)⟩
 | f+1,i,hl,h=>by
  rw[ib]at h;split at h
  ·rename_i hx
   exact⟨i,aG _,fun j y h1 h2=>by omega,hx⟩
  ·rename_i x hx
   split at h
   ·cases h
   ·rename_i hb
    obtain⟨n,h1,h2,h3⟩:=xR f (i+1) (fun n=>by have:=hl n;omega) h;refine⟨n,by omega,fun j y hj hn hy=>?_,h3⟩;by_cases e:j=i
    ·subst e
     rw[hx]at hy;cases hy;exact DQ.2 hb
    ·exact h2 j y (by omega) hn hy
theorem SK {a b:DF} {p:Nat×Nat} {n j:Nat} {y:(Nat×Nat)×List Nat} (hj:j<n) (h:(cm a b p n)[j]? =AM y) (hs:(cm a b p j)[j]? ≠D'):(cm a b p j)[j]? =AM y:=by obtain⟨z,hz⟩:=Option.ne_none_iff_exists'.1 hs;have:=AA hz (n-j);rw[show j+(n-j)=n by omega]at this;exact hz.trans (this.symm.trans h)
theorem xS {a b:DF} {p:Nat×Nat} {n j:Nat} {y:(Nat×Nat)×List Nat} (hj:j<n) (h:(cm a b p n)[j]? =AM y):(cm a b p j)[j]? =AM y:=by
 refine SK hj h fun hn=>?_
 have stop:∀ k,cm a b p (j+k)=cm a b p j:=fun k=>by
  induction k with
  | zero=>rfl
  | succ k ih=>
   have hlen:=A_.1 hn;have:(cm a b p (j+k))[j+k]? =none:=by rw[ih];exact A_.2 (by omega)
   rw[<-ih];unfold cm at this ⊢;rw[<-GO,dp,this]
 have:=stop (n-j);rw[show j+(n-j)=n by omega]at this;rw[this,hn]at h;cases h
theorem kE {a b:DF} (ha:Rt a) (hb:Rt b) {p:Nat×Nat} {w:List Nat} (h:cB a b p=AM w):qI (fun w=>qK a b (bG a p.1 w,bG b p.2 w)) w:=by obtain⟨n,x,_,h2,h3,h4,rfl⟩:=qL _ _ h;have:=Js (qJ (a.cl++b.cl)) (fun j y hj hy=>h2 j y (E_ _) hj (xS hj hy)) h3 h4;exact this.congr fun w hw=>by rw[C9 ha hb p _ w rfl hw]
theorem nZ {a b:DF} (ha:Rt a) (hb:Rt b) {p:Nat×Nat} (hp:fT a b p) (h:cB a b p=D') {w:List Nat} (hw:∀ c∈w,c<256):a.mr.getD (bG a p.1 w) []=b.mr.getD (bG b p.2 w) []:=by obtain⟨n,_,h2,h3⟩:=xR _ _ (fun n=>by have:=tC ha hb hp n;omega) h;have:=NT (qJ (a.cl++b.cl)) (fun j y hj hy=>h2 j y (E_ _) hj (xS hj hy)) h3 hw;rw[C9 ha hb p _ w rfl hw]at this;exact Decidable.not_not.1 (of_decide_eq_false this)
set_option maxRecDepth 100000
def dh (p:Nat->Nat):Nat->List Nat
 | 0=>[]
 | k+1=>if p k<(dh p k).length then dh p k else dh p k++ [k]
theorem sA {p:Nat->Nat} :∀ {n:Nat},NP p n->(dh p n).length=fj p n
 | 0,_=>rfl
 | n+1,h=>by
  have ih:=sA (p:=p) (n:=n) fun s hs=>h s (by omega)
  have hn:=h n (by omega);rw[dh,fj];split
  ·omega
  ·rw[aJ,As];omega
theorem Db {p:Nat->Nat} :∀ {n:Nat},NP p n->∀ b,b<fj p n->∃ k,(dh p n)[b]? =AM k/\k<n/\p k=b/\∀ j,j<n->p j=b->k<=j
 | 0,_,b,hb=>by cases hb
 | n+1,h,b,hb=>by
  have hN:NP p n:=fun s hs=>h s (by omega)
  have hl:=sA hN;have hn:=h n (by omega);rw[fj]at hb;by_cases QC:b<fj p n
  ·obtain⟨k,e,hk,hp,hm⟩:=Db hN b QC
   have Xm:∀ j,j<n+1->p j=b->k<=j:=fun j hj hjb=>by
    by_cases e:j=n
    ·omega
    ·exact hm j (by omega) hjb
   rw[dh];split
   ·exact⟨k,e,by omega,hp,Xm⟩
   ·exact⟨k,by rw[bK (by omega)];exact e,by omega,hp,Xm⟩
  ·rw[dh,if_neg (by omega)]
   refine⟨n,?_,by omega,by omega,fun j hj hjb=>?_⟩
   ·rw[cM (by omega),show b-(dh p n).length=0 by omega];rfl
   ·by_cases e:j=n
    ·omega
    ·have:=iM (p:=p) (show j<n by omega);omega
theorem xT {p:Nat->Nat} :∀ {n:Nat},∀ (i j x y:Nat),i<j->(dh p n)[i]? =AM x->(dh p n)[j]? =AM y->x<y
 | 0,i,j,x,y,_,hx,_=>by cases hx
 | n+1,i,j,x,y,mF,hx,hy=>by
  rw[dh]at hx hy;split at hx
  ·rename_i hp
   rw[if_pos hp]at hy;exact xT i j x y mF hx hy
  ·rename_i hp
   rw[if_neg hp]at hy;have lt:∀ m,∀ z∈dh p m,z<m:=fun m=>by
    induction m with
    | zero=>intro z hz;cases hz
    | succ m ih=>
     intro z hz;rw[dh]at hz;split at hz
     ·have:=ih z hz;omega
     ·rcases B_.1 hz with hz | hz
      ·have:=ih z hz;omega
      ·rw[AF.1 hz];omega
   by_cases hj:j<(dh p n).length
   ·rw[bK hj]at hy
    rw[bK (by omega)]at hx;exact xT i j x y mF hx hy
   ·have h0:=(An.1 hy).1
    rw[aJ,As]at h0;rw[cM (by omega),show j-(dh p n).length=0 by omega]at hy;cases hy;rw[bK (by omega)]at hx;exact lt n x (aw hx)
def tD (cl:List BS) (p:Nat->Nat) (b:Nat):Nat->BS
 | 0=>0
 | k+1=>if p k=b then tD cl p b k ||| cl.getD k 0 else tD cl p b k
theorem Li {cl:List BS} {p:Nat->Nat} {b c:Nat} :∀ n,(tD cl p b n).getLsbD c=GS↔ ∃ k,k<n/\p k=b/\(cl.getD k 0).getLsbD c=GS
 | 0=>⟨fun h=>by simp[tD]at h,fun ⟨k,h,_⟩=>by omega⟩
 | n+1=>by
  have ih:=Li (cl:=cl) (p:=p) (b:=b) (c:=c) n;rw[tD];split
  ·rename_i hp
   rw[BitVec.getLsbD_or,Bool.or_eq_true,ih];constructor
   ·rintro(⟨k,h1,h2,h3⟩ | h)
    ·exact⟨k,by omega,h2,h3⟩
    ·exact⟨n,by omega,hp,h⟩
   ·rintro⟨k,h1,h2,h3⟩
    by_cases e:k=n
    ·subst e;exact .inr h3
    ·exact .inl ⟨k,by omega,h2,h3⟩
  ·rename_i hp
   rw[ih];constructor
   ·rintro⟨k,h1,h2,h3⟩
    exact⟨k,by omega,h2,h3⟩
   ·rintro⟨k,h1,h2,h3⟩
    by_cases e:k=n
    ·subst e;exact absurd h2 hp
    ·exact⟨k,by omega,h2,h3⟩
def xU (d:DF) (k:Nat):List Nat:=(Dl d.nx.length).map fun s=>en d s k
def cA (d:DF):Nat->Nat:=dL (xU d) d.cl.length
def ic (d:DF):DF:=⟨(Dl (fj (cA d) d.cl.length)).map fun b=>tD d.cl (cA d) b d.cl.length,d.nx.map fun row=>(dh (cA d) d.cl.length).map fun k=>row.getD k 0,d.mr⟩
theorem mm (d:DF):NP (cA d) d.cl.length:=CY _ _
theorem Lj {d:DF} {k j:Nat} (hk:k<d.cl.length) (hj:j<d.cl.length):cA d k=cA d j↔ ∀ s,s<d.nx.length->en d s k=en d s j:=by unfold cA;rw[eD hk hj];unfold xU;exact⟨fun h s hs=>List.map_inj_left.1 h s (C'.2 hs),fun h=>AT fun s hs=>h s (C'.1 hs)⟩
theorem Jt {d:DF} {b:Nat} (hb:b<fj (cA d) d.cl.length):(ic d).cl[b]? =AM (tD d.cl (cA d) b d.cl.length):=by show((Dl _).map _)[b]? =_;rw[aO,A' hb];rfl
theorem xV (d:DF):(ic d).cl.length=fj (cA d) d.cl.length:=by show((Dl _).map _).length=_;rw[aQ,DP]
theorem kG {d:DF} (h:Rt d) {b c:Nat} (hc:c<256):(tD d.cl (cA d) b d.cl.length).getLsbD c=GS↔cA d (cls d.cl c)=b:=by
 rw[Li];constructor
 ·rintro⟨k,hk,e,hb⟩
  rw[(h.part.iJ hc).2 ⟨_,aW 0 hk,hb⟩];exact e
 ·intro e
  have hk:=h.part.dB hc;refine⟨_,hk,e,?_⟩;obtain⟨q,hq,hb⟩:=(h.part.iJ hc).1 rfl;rw[getD_some hq];exact hb
theorem aab {q:BS} {c:Nat} (h:q.getLsbD c=GS):c<256:=by
 refine Classical.byContradiction fun hn=>?_
 rw[BitVec.getLsbD_of_ge q c (by omega)]at h;cases h
theorem xW {d:DF} (h:Rt d):bX (ic d).cl (fun c e=>∀ s,s<d.nx.length->en d s (cls d.cl c)=en d s (cls d.cl e)):=by
 have get:∀ (b:Nat) (q:BS),(ic d).cl[b]? =AM q->b<fj (cA d) d.cl.length/\q=tD d.cl (cA d) b d.cl.length:=fun b q hq=>by
  have hb:=(An.1 hq).1;rw[xV]at hb;rw[Jt hb]at hq;exact⟨hb,(Dn hq).symm⟩
 have rep:∀ b,b<fj (cA d) d.cl.length->∃ k,(dh (cA d) d.cl.length)[b]? =AM k/\k<d.cl.length/\cA d k=b/\(∀ j,j<d.cl.length->cA d j=b->k<=j)/\(tD d.cl (cA d) b d.cl.length).getLsbD (lb d.cl k)=true:=fun b hb=>by
  obtain⟨k,e,hk,hp,hm⟩:=Db (mm d) b hb;have hl:=kz h hk;exact⟨k,e,hk,hp,hm,(kG h hl.1).2 (by rw[hl.2.1];exact hp)⟩
 have hne:∀ b,b<fj (cA d) d.cl.length->tD d.cl (cA d) b d.cl.length≠0:=fun b hb e=>by
  obtain⟨k,_,_,_,_,iO⟩:=rep b hb;rw[e]at iO;simp at iO
 have h0:0<fj (cA d) d.cl.length:=by have:=iM (p:=cA d) (show 0<d.cl.length from h.Qe);omega
 refine⟨?_,?_,?_,?_,?_,?_⟩
 ·refine DQ.2 fun e=>?_
  have e':=List.isEmpty_iff.1 e;have:=xV d;rw[e',List.length_nil]at this;omega
 ·rw[List.pairwise_iff_getElem]
  intro i j hi hj mF c hc;have g1:=get i _ (az hi);have g2:=get j _ (az hj);rw[g1.2,g2.2]at hc;have hc':=aab hc.1;have e1:=(kG h hc').1 hc.1;have e2:=(kG h hc').1 hc.2;omega
 ·intro q hq
  obtain⟨b,hb⟩:=Bm hq;have g:=get b q hb;rw[g.2];exact hne b g.1
 ·intro c hc
  have hk:=h.part.dB hc;have hb:=iM (p:=cA d) hk;exact⟨_,_,Jt hb,(kG h hc).2 rfl⟩
 ·intro q hq c e hc he hb
  obtain⟨b,hq'⟩:=Bm hq;have g:=get b q hq';rw[g.2]at hb ⊢;rw[kG h he, <- (kG h hc).1 hb];rw[eq_comm,Lj (h.part.dB hc) (h.part.dB he)]
 ·intro i j x y hx hy mF
  have g1:=get i x hx;have g2:=get j y hy;obtain⟨k,e1,hk,hp,hm,iO⟩:=rep i g1.1;obtain⟨k',e1',tI,hp',Xm,_⟩:=rep j g2.1;have f1:=et (hne i g1.1);have f2:=et (hne j g2.1);rw[g1.2,g2.2];have a1:(aT (tD d.cl (cA d) i d.cl.length)).1<=lb d.cl k:=D_ fun hlt=>by
   have:=f1.2.2.2 _ hlt;rw[this]at iO;cases iO
  have c2:=(kG h f2.2.1).1 f2.2.2.1;have a2:=Xm _ (h.part.dB f2.2.1) c2;have a3:=(kz h (h.part.dB f2.2.1)).2.2 _ f2.2.1 rfl;have a4:=Bq h (xT i j k k' mF e1 e1') tI;have a5:lb d.cl k'<=lb d.cl (cls d.cl (aT (tD d.cl (cA d) j d.cl.length)).1):=by
   by_cases e:k'=cls d.cl (aT (tD d.cl (cA d) j d.cl.length)).1
   ·rw[<-e];exact aG _
   ·exact Nat.le_of_lt (Bq h (by omega) (h.part.dB f2.2.1))
  omega
theorem NV {p:List BS} {R:Nat->Nat->Prop} (h:bX p R):partsOf p=p:=bX.uniq (bX.jN p) h fun _ _ hc hd=>h.zL hc hd
theorem Lk {d:DF} (h:Rt d) {c:Nat} (hc:c<256):cls (ic d).cl c=cA d (cls d.cl c):=((xW h).iJ hc).2 ⟨_,Jt (iM (h.part.dB hc)),(kG h hc).2 rfl⟩
theorem fM (d:DF):(ic d).nx.length=d.nx.length:=aQ _
theorem Dc {d:DF} {s:Nat} (hs:s<d.nx.length):(ic d).nx.getD s []=(dh (cA d) d.cl.length).map fun k=>(d.nx.getD s []).getD k 0:=by refine getD_some ?_;show(d.nx.map _)[s]? =_;rw[aO,aW (l:=d.nx) [] hs];rfl
theorem Ll {d:DF} {s k:Nat} (hs:s<d.nx.length) (hk:k<d.cl.length):en (ic d) s (cA d k)=en d s k:=by obtain⟨j,e,hj,hp,_⟩:=Db (mm d) (cA d k) (iM hk);have hc:=(Lj hj hk).1 hp s hs;rw[<-hc];unfold en;rw[Dc hs,getD_some (x:=(d.nx.getD s []).getD j 0) (by rw[aO,e];rfl)]
theorem SN {d:DF} (h:Rt d):Rt (ic d) where
 pos:=by rw[fM];exact h.pos
 le:=by rw[fM];exact h.le
 mr:=by rw[fM];exact h.mr
 cl:=NV (xW h)
 len:=fun s hs=>by
  rw[fM]at hs;rw[Dc hs,aQ,sA (mm d),xV]
 iV:=fun s hs t ht=>by
  rw[fM]at hs ⊢;rw[Dc hs]at ht;obtain⟨k,hk,rfl⟩:=By.1 ht;obtain⟨b,hb⟩:=Bm hk;have hb':=(An.1 hb).1;rw[sA (mm d)]at hb';obtain⟨k',e,tI,_⟩:=Db (mm d) b hb';rw[hb]at e;cases e;exact h.iV s hs _ (aw (aW 0 (by rw[h.len s hs];exact tI)))
 TM:=fun s hs=>by
  rw[fM]at hs;exact h.TM s hs
theorem sB {d:DF} (h:Rt d):∀ (w:List Nat) {s:Nat},s<d.nx.length->(∀ c∈w,c<256)->bG (ic d) s w=bG d s w
 | [],_,_,_=>rfl
 | c::w,s,hs,hw=>by
  have hc:=hw c aY;have hk:=h.part.dB hc;have e:en (ic d) s (cls (ic d).cl c)=en d s (cls d.cl c):=by rw[Lk h hc,Ll hs hk]
  have:=sB h w (h.iY hs hk) fun x hx=>hw x (bC _ hx)
  rw[<-e]at this;refine Eq.trans (this:bG (ic d) (en (ic d) s (cls (ic d).cl c)) w=_) ?_;rw[e];rfl
structure xX (φ:Nat->Nat) (d d':DF):Prop where
 cl:d'.cl=d.cl
 zero:φ 0=0
 inj:∀ s t,s<d.nx.length->t<d.nx.length->φ s=φ t->s=t
 nx:∀ s,s<d.nx.length->sj d' (φ s)=(sj d s).map φ
 mr:∀ s,s<d.nx.length->d'.mr.getD (φ s) []=d.mr.getD s []
theorem SP {φ:Nat->Nat} {N:Nat} (hi:∀ s t,s<N->t<N->φ s=φ t->s=t) {L:List Nat} (hL:∀ x∈L,x<N) {t:Nat} (ht:t<N):eG (L.map φ) (φ t)=(eG L t).map φ:=by
 unfold eG;have:φ t∈L.map φ↔t∈L:=by
  rw[By];exact⟨fun ⟨x,hx,e⟩=>by rw[<-hi x t (hL x hx) ht e];exact hx,fun h=>⟨t,h,rfl⟩⟩
 simp only[this];split<;>simp
theorem fold_map {φ:Nat->Nat} {N:Nat} (hi:∀ s t,s<N->t<N->φ s=φ t->s=t):∀ (ts L:List Nat),(∀ x∈L,x<N)->(∀ x∈ts,x<N)->(ts.map φ).foldl eG (L.map φ)=(ts.foldl eG L).map φ
 | [],_,_,_=>rfl
 | t::ts,L,hL,ht=>by
  rw[D0,GC,GC,SP hi hL (ht t (aY ..))];refine fold_map hi ts _ (fun x hx=>?_) fun x hx=>ht x (bC _ hx)
  unfold eG at hx;split at hx
  ·exact hL x hx
  ·rcases B_.1 hx with hx | hx
   ·exact hL x hx
   ·simp at hx;rw[hx];exact ht t (aY ..)
theorem xX.kT {φ:Nat->Nat} {d d':DF} (h:xX φ d d') (rt:Rt d):∀ n,kT d' n=(kT d n).map φ
 | 0=>by show [0]=[φ 0];rw[h.zero]
 | n+1=>by
  have ih:=xX.kT h rt n;have j7:=tz rt n;rw[Go.Proofs.YtjgccapbphadjaaGreatDoor.kT,Go.Proofs.YtjgccapbphadjaaGreatDoor.kT,ih,aO];rcases e:(Go.Proofs.YtjgccapbphadjaaGreatDoor.kT d n)[n]? with _ | s
  ·rfl
  ·have hs:=j7.lt s (aw e)
   show(sj d' (φ s)).foldl eG _=_;rw[h.nx s hs];exact fold_map h.inj _ _ j7.lt (Cz rt hs)
theorem xY {φ:Nat->Nat} {N:Nat} (hi:∀ s t,s<N->t<N->φ s=φ t->s=t) {t:Nat} (ht:t<N):∀ (L:List Nat),(∀ x∈L,x<N)->(L.map φ).idxOf (φ t)=L.idxOf t
 | [],_=>rfl
 | x::L,hL=>by
  rw[D0,GF,GF,xY hi ht L fun y hy=>hL y (bC _ hy)];have:(φ x==φ t)=(x==t):=by
   rw[Bool.eq_iff_iff,beq_iff_eq,beq_iff_eq];exact⟨fun e=>hi x t (hL x (aY ..)) ht e,fun e=>by rw[e]⟩
  rw[this]
theorem xX.trim {φ:Nat->Nat} {d d':DF} (h:xX φ d d') (rt:Rt d) (hN:d.nx.length<=d'.nx.length):bD d'=bD d:=by
 have hr:ck d'=(ck d).map φ:=by have h1:=h.kT rt d'.nx.length;have h2:=xC (d:=d) (n:=d.nx.length) (tz rt _).len (d'.nx.length-d.nx.length);rw[show d.nx.length+(d'.nx.length-d.nx.length)=d'.nx.length by omega]at h2;show Go.Proofs.YtjgccapbphadjaaGreatDoor.kT d' d'.nx.length=_;rw[h1,h2];rfl
 have hlt:=(gv rt).lt;unfold bD;rw[hr,h.cl];congr 1
 ·rw[Bs]
  refine AT fun s hs=>?_
  show qD d' (φ s)=qD d s;unfold qD;rw[h.nx s (hlt s hs),Bs];refine AT fun t ht=>?_
  show(((ck d').idxOf (φ t):Nat):Int)=_;rw[hr,xY h.inj (Cz rt (hlt s hs) t ht) _ hlt]
 ·rw[Bs]
  exact AT fun s hs=>h.mr s (hlt s hs)
theorem xX.run {φ:Nat->Nat} {d d':DF} (h:xX φ d d') (rt:Rt d) (b:List Nat) (hb:∀ c∈b,c<256):bG d' 0 b=φ (bG d 0 b):=by
 revert hb;refine VF (P:=fun b=>(∀ c∈b,c<256)->bG d' 0 b=φ (bG d 0 b)) (fun _=>h.zero.symm) (fun b c ih hb=>?_) b;have hb':∀ x∈b,x<256:=fun x hx=>hb x (AI _ hx)
 have ih:=ih hb';have e:∀ d:DF,bG d 0 (b++ [c])=en d (bG d 0 b) (cls d.cl c):=fun d=>by unfold bG;rw[C_];rfl
 have e2:∀ (d:DF) (s k:Nat),k<(sj d s).length->en d s k=(sj d s).getD k 0:=fun d s k hk=>by
  unfold en;unfold sj at hk ⊢;rw[aQ]at hk;generalize d.nx.getD s []=r at hk ⊢;rw[bu,bu,aO,az hk];rfl
 have hs:=fD rt rt.pos b hb';have hk:cls d.cl c<(sj d (bG d 0 b)).length:=by rw[vw rt hs];exact rt.part.dB (hb c (by simp))
 rw[e,e,ih,h.cl,e2 d' _ _ (by rw[h.nx _ hs,aQ];exact hk),e2 d _ _ hk,h.nx _ hs];rw[bu,bu,aO,az hk];rfl
theorem xX.marks {φ:Nat->Nat} {d d':DF} (h:xX φ d d') (rt:Rt d) (b:List Nat) (hb:∀ c∈b,c<256):d'.mr.getD (bG d' 0 b) []=d.mr.getD (bG d 0 b) []:=by rw[h.run rt b hb];exact h.mr _ (fD rt rt.pos b hb)
end
end Go.Proofs.YtjgccapbphadjaaGreatDoor
