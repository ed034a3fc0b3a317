/- dfa.Right; slices.ContainsFunc at ints; slices.Equal at sets, whatever they are. -/
import Derived.Test.YtalombmiochpmaaGreatDoorOP06
set_option maxRecDepth 100000
set_option maxHeartbeats 16000000
open Go.Lib (hid)
namespace Go.Proofs.YtalombmiochpmaaGreatDoor
open Go Go.RowKit Go.Shelf Go.Maps
theorem Tryz.rH:(Tryz.prog.info? 47).map (fun i=>(i.zero,i.size,i.bytes))=some (some (.slice none 0 0),1,24):=by kernel_rfl
def jn (w:World) (v:Value) (ll:List (List Int)):Prop:=∃ us:List Value,us.length=ll.length/\cr (fun u:Value=>u) w v us/\∀ (i:Nat) (u:Value) (l:List Int),us[i]? =some u->ll[i]? =some l->cr aG w u l
theorem jn.below {w w':World} {v:Value} {ll:List (List Int)} (h:jn w v ll) (hk:Below w.heap.size w w'):jn w' v ll:=by obtain⟨us,h1,h2,h3⟩:=h;exact⟨us,h1,h2.below hk,fun i u l hu hl=>(h3 i u l hu hl).below hk⟩
theorem jn.form {w:World} {v:Value} {ll:List (List Int)} (h:jn w v ll):∃ a cap,v=.slice a ll.length cap:=by obtain⟨us,h1,h2,h3⟩:=h;obtain⟨a,cap,h4⟩:=h2.form;exact⟨a,cap,by rw[h4,h1]⟩
theorem jn.elem {w:World} {a:Option Addr} {n cap:Nat} {ll:List (List Int)} (h:jn w (.slice a n cap) ll) {i:Nat} {l:List Int} (hi:ll[i]? =some l): ∃ b off a' c',a=some ⟨b,off,none⟩/\b<w.heap.size/\w.cell? ⟨b,off+i,none⟩=some (.slice a' l.length c')/\cr aG w (.slice a' l.length c') l:=by obtain⟨us,h1,h2,h3⟩:=h;have ib:=(List.getElem?_eq_some_iff.1 hi).1;have hu:us[i]? =some (us[i]'(by omega)):=List.getElem?_eq_getElem (by omega);obtain⟨b,off,e1,e2,e3⟩:=h2.elem hu;have h4:=h3 i _ l hu hi;obtain⟨a',c',e4⟩:=h4.form;rw[e4]at h4 e3;exact⟨b,off,a',c',e1,e2,e3,h4⟩
def lR (w:World) (v:Value) (ll:List (List Int)):Prop:=∃ us:List Value,us.length=ll.length/\cr (fun u:Value=>u) w v us/\∀ (i:Nat) (u:Value) (l:List Int),us[i]? =some u->ll[i]? =some l->kJ aG w u l
theorem jn.e {w:World} {v:Value} {ll:List (List Int)} (h:jn w v ll):lR w v ll:=by obtain⟨us,h1,h2,h3⟩:=h;exact⟨us,h1,h2,fun i u l hu hl=>.inl (h3 i u l hu hl)⟩
theorem lR.below {w w':World} {v:Value} {ll:List (List Int)} (h:lR w v ll) (hk:Below w.heap.size w w'):lR w' v ll:=by obtain⟨us,h1,h2,h3⟩:=h;exact⟨us,h1,h2.below hk,fun i u l hu hl=>(h3 i u l hu hl).below hk⟩
theorem lR.form {w:World} {v:Value} {ll:List (List Int)} (h:lR w v ll):∃ a cap,v=.slice a ll.length cap:=by obtain⟨us,h1,h2,h3⟩:=h;obtain⟨a,cap,h4⟩:=h2.form;exact⟨a,cap,by rw[h4,h1]⟩
theorem lR.elem {w:World} {a:Option Addr} {n cap:Nat} {ll:List (List Int)} (h:lR w (.slice a n cap) ll) {i:Nat} {l:List Int} (hi:ll[i]? =some l): ∃ b off a' c',a=some ⟨b,off,none⟩/\b<w.heap.size/\w.cell? ⟨b,off+i,none⟩=some (.slice a' l.length c')/\kJ aG w (.slice a' l.length c') l:=by obtain⟨us,h1,h2,h3⟩:=h;have ib:=(List.getElem?_eq_some_iff.1 hi).1;have hu:us[i]? =some (us[i]'(by omega)):=List.getElem?_eq_getElem (by omega);obtain⟨b,off,e1,e2,e3⟩:=h2.elem hu;have h4:=h3 i _ l hu hi;obtain⟨a',c',e4⟩:=h4.form;rw[e4]at h4 e3;exact⟨b,off,a',c',e1,e2,e3,h4⟩
def aH (base:Nat) (w:World) (v:Value) (ll:List (List Int)):Prop:=∃ us:List Value,us.length=ll.length/\w.ownsRow base 47 1 v us.length us/\∀ (i:Nat) (u:Value) (l:List Int),us[i]? =some u->ll[i]? =some l->w.ownsRow base 3 1 u l.length (l.map aG)
theorem aH.nil (base:Nat) (w:World):aH base w (.slice none 0 0) []:=⟨[],rfl,World.ownsRow_nil _ _ _ _,fun i u l h=>by simp at h⟩
theorem aH.base {base base':Nat} {w:World} {v:Value} {ll:List (List Int)} (h:aH base w v ll) (hb:base'<=base):aH base' w v ll:=by obtain⟨us,h1,h2,h3⟩:=h;exact⟨us,h1,az h2 hb,fun i u l hu hl=>az (h3 i u l hu hl) hb⟩
theorem aH.below {base:Nat} {w w':World} {v:Value} {ll:List (List Int)} (h:aH base w v ll) (hk:Below w.heap.size w w'):aH base w' v ll:=by obtain⟨us,h1,h2,h3⟩:=h;exact⟨us,h1,ak h2 hk,fun i u l hu hl=>ak (h3 i u l hu hl) hk⟩
theorem aD {w w':World} {base:Nat} {e:TypeId} {size:Nat} {v:Value} {n:Nat} {xs:List Value} (h:w.ownsRow base e size v n xs) {R:Nat->Prop} (hk:aa R w w') (hr:∀ k,base<=k->k<w.heap.size->R k):w'.ownsRow base e size v n xs:=
 ag h hk fun k e=>hr k (h.lt k e).1 (h.lt k e).2
theorem aH.keeps {base:Nat} {w w':World} {v:Value} {ll:List (List Int)} (h:aH base w v ll) {R:Nat->Prop} (hk:aa R w w') (hr:∀ k,base<=k->k<w.heap.size->R k):aH base w' v ll:=by obtain⟨us,h1,h2,h3⟩:=h;exact⟨us,h1,aD h2 hk hr,fun i u l hu hl=>aD (h3 i u l hu hl) hk hr⟩
theorem aH.form {base:Nat} {w:World} {v:Value} {ll:List (List Int)} (h:aH base w v ll):∃ a cap,v=.slice a ll.length cap:=by obtain⟨us,h1,h2,h3⟩:=h;obtain⟨a,c,h4⟩:=ownsRow_form h2;exact⟨a,c,by rw[h4,h1]⟩
theorem aH.ll {base:Nat} {w:World} {v:Value} {ll:List (List Int)} (h:aH base w v ll):jn w v ll:=by obtain⟨us,h1,h2,h3⟩:=h;refine⟨us,h1,dX (e:=47) (base:=base) (by simpa using h2) rfl,fun i u l hu hl=>dX (h3 i u l hu hl) rfl⟩
theorem ownBlock_ne {w:World} {b1 b2:Nat} {e1 e2:TypeId} {s1 s2 n1 n2:Nat} {v1 v2:Value} {x1 x2:List Value} (he:e1≠e2) (h1:w.ownsRow b1 e1 s1 v1 n1 x1) (h2:w.ownsRow b2 e2 s2 v2 n2 x2):v1.ownBlock=none\/v1.ownBlock≠v2.ownBlock:=by
 rcases h1.2 with⟨rfl,_⟩ | ⟨g,c,cur,rfl,_,hg,_⟩
 ·exact .inl rfl
 ·right
  rcases h2.2 with⟨rfl,_⟩ | ⟨g',c',cur',rfl,_,Gv,_⟩
  ·simp[Value.ownBlock]
  ·intro e
   have e':g=g':=by simpa[Value.ownBlock]using e
   subst e';rw[hg]at Gv;exact he (by injection Gv with h;injection h)
theorem aH.snoc {base:Nat} {w w':World} {v v' u:Value} {ll:List (List Int)} {l:List Int} {us:List Value} (h1:us.length=ll.length) (ho:w.ownsRow base 47 1 v us.length us) (h3:∀ (i:Nat) (u:Value) (l:List Int),us[i]? =some u->ll[i]? =some l->w.ownsRow base 3 1 u l.length (l.map aG)) (hu:w.ownsRow base 3 1 u l.length (l.map aG)) (hg:w.grownBy w' v.ownBlock) (JZ:w'.ownsRow base 47 1 v' (us.length+1) (us++ [u])):aH base w' v' (ll++ [l]):=by
 have ne:(3:Nat)≠47:=by decide
 refine⟨us++ [u],by simp[h1],by simpa using JZ,fun i x y hx hy=>?_⟩;by_cases hi:i<us.length
 ·rw[List.getElem?_append_left hi]at hx
  rw[List.getElem?_append_left (by omega)]at hy;have hr:=h3 i x y hx hy;exact hr.kept hg (ownBlock_ne ne hr ho)
 ·have ib:=(List.getElem?_eq_some_iff.1 hx).1
  simp at ib;obtain rfl:i=us.length:=by omega
  simp at hx;subst hx;rw[h1]at hy;simp at hy;subst hy;exact hu.kept hg (ownBlock_ne ne hu ho)
def bJ (w:World) (v:Value) (d:DF):Prop:=∃ v0 v1 v2,v=.agg #[v0,v1,v2]/\mA w v0 d.cl/\jn w v1 d.nx/\jn w v2 d.mr
theorem bJ.below {w w':World} {v:Value} {d:DF} (h:bJ w v d) (hk:Below w.heap.size w w'):bJ w' v d:=by obtain⟨v0,v1,v2,e,h0,h1,h2⟩:=h;exact⟨v0,v1,v2,e,⟨h0.1.below hk,h0.2⟩,h1.below hk,h2.below hk⟩
def Sl (w:World) (v:Value) (d:DF):Prop:=∃ v0 v1 v2,v=.agg #[v0,v1,v2]/\mA w v0 d.cl/\lR w v1 d.nx/\lR w v2 d.mr
theorem bJ.e {w:World} {v:Value} {d:DF} (h:bJ w v d):Sl w v d:=by obtain⟨v0,v1,v2,e,h0,h1,h2⟩:=h;exact⟨v0,v1,v2,e,h0,h1.e,h2.e⟩
def aT (base:Nat) (w:World) (v:Value) (d:DF):Prop:=∃ v0 v1 v2,v=.agg #[v0,v1,v2]/\w.ownsRow base 59 4 v0 d.cl.length (aC d.cl)/\aH base w v1 d.nx/\aH base w v2 d.mr
theorem aT.below {base:Nat} {w w':World} {v:Value} {d:DF} (h:aT base w v d) (hk:Below w.heap.size w w'):aT base w' v d:=by obtain⟨v0,v1,v2,e,h0,h1,h2⟩:=h;exact⟨v0,v1,v2,e,ak h0 hk,h1.below hk,h2.below hk⟩
theorem aT.base {base base':Nat} {w:World} {v:Value} {d:DF} (h:aT base w v d) (hb:base'<=base):aT base' w v d:=by obtain⟨v0,v1,v2,e,h0,h1,h2⟩:=h;exact⟨v0,v1,v2,e,az h0 hb,h1.base hb,h2.base hb⟩
theorem aT.keeps {base:Nat} {w w':World} {v:Value} {d:DF} (h:aT base w v d) {R:Nat->Prop} (hk:aa R w w') (hr:∀ k,base<=k->k<w.heap.size->R k):aT base w' v d:=by obtain⟨v0,v1,v2,e,h0,h1,h2⟩:=h;exact⟨v0,v1,v2,e,aD h0 hk hr,h1.keeps hk hr,h2.keeps hk hr⟩
theorem nw {w:World} {base:Nat} {v:Value} {l:List BS} (h:w.ownsRow base 59 4 v l.length (aC l)):mA w v l:=by
 refine⟨gP h,fun a n cap e=>?_⟩;subst e;rcases h.2 with⟨h1,h2⟩ | ⟨g,c,cur,h1,_,_,h2,_⟩
 ·injection h1 with _ h3 h4;omega
 ·injection h1 with _ h3 h4;omega
theorem aT.df {base:Nat} {w:World} {v:Value} {d:DF} (h:aT base w v d):bJ w v d:=by obtain⟨v0,v1,v2,e,h0,h1,h2⟩:=h;exact⟨v0,v1,v2,e,nw h0,h1.ll,h2.ll⟩
structure Sm (d:DF):Prop where
 cl:d.cl.length<=1000000
 nx:d.nx.length<=1000000
 mr:d.mr.length<=1000000
 yT:∀ l∈d.nx,l.length<=1000000
 XG:∀ l∈d.mr,l.length<=1000000
section
variable {L:List Sp} {W:World}
end
theorem cB.elem {w:World} {a:Option Addr} {n cap:Nat} {l:List BS} (h:cB w (.slice a n cap) l) {i:Nat} {s:BS} (hi:l[i]? =some s): ∃ b off,a=some ⟨b,off,none⟩/\b<w.heap.size/\w.cell? ⟨b,off+i*4,none⟩=some (.int .u64 (wd s 0).toNat)/\w.cell? ⟨b,off+i*4+1,none⟩=some (.int .u64 (wd s 1).toNat)/\w.cell? ⟨b,off+i*4+2,none⟩=some (.int .u64 (wd s 2).toNat)/\w.cell? ⟨b,off+i*4+3,none⟩=some (.int .u64 (wd s 3).toNat):=by
 rcases h with⟨_,e⟩ | ⟨b,off,cap',e1,hb,hcc⟩
 ·rw[e]at hi;simp at hi
 ·injection e1 with e1 _ _
  exact⟨b,off,e1,hb,hcc i s hi 0 (by decide),hcc i s hi 1 (by decide),hcc i s hi 2 (by decide),hcc i s hi 3 (by decide)⟩
theorem gq (w:World) (x:Value) (t:TypeId):∀ j u,[x][j]? =some u->(w.alloc (.cells #[x] t)).cell? ((⟨w.heap.size,0,none⟩:Addr).add j)=some u:=fun j u h=>by
 have hj:j=0:=by
  rcases Nat.eq_zero_or_pos j with h' | h'
  ·exact h'
  ·rw[List.getElem?_eq_none (by simp;omega)]at h;cases h
 subst hj;have hx:x=u:=by simpa using h
 rw[<-hx];exact(ah.new w #[x] t).cell 0
theorem Ex (v:Value) (ll:List (List Int)) (w:World) (h:lR w v ll) (hn:ll.length<=1000000) (hs:∀ l∈ll,l.length<=1000000): Calls Tryz.prog 43 #[v] w fun e w'=>∃ u,e=.returned u/\aH w.heap.size w' u ll/\Below w.heap.size w w':=by
 obtain⟨i0,hi,hz0,hz1,hz2⟩:=info_parts Tryz.rH;obtain⟨a,cap,rfl⟩:=h.form;obtain⟨n,k7⟩:∃ n,n=ll.length:=⟨_,rfl⟩;rw[<-k7]at h hn ⊢;have H:=hid h;have HN:=hid k7;have HS:=hid hs;clear h k7 hs;go_enter Tryz.func43,Tryz.ntmps43;go_wp2;go_loopw [8,3] (fun i u wr=>∃ k:Nat,k<=n/\i=.int .i64 k/\aH w.heap.size wr u (ll.take k)/\Below w.heap.size w wr) (fun i _ _=>n-(intOf i).toNat);case atStart=>exact⟨0,by omega,rfl,aH.nil _ _,Below.refl _ _⟩
 case round=>
  obtain⟨k,hk,rfl,ho,hx⟩:=hrel;obtain⟨wo,rfl⟩:∃ wo:World,wo=wr:=⟨_,rfl⟩;by_cases hlt:k<n
  ·obtain⟨l,hl⟩:∃ l,ll[k]? =some l:=⟨_,List.getElem?_eq_getElem (by have:=HN.out;omega)⟩
   obtain⟨b,off,a',c',rfl,hb,c1,fk⟩:=(H.out.below hx).elem hl;have Wq:=HS.out l (List.mem_of_getElem? hl);have dL:ll.take (k+1)=ll.take k++ [l]:=by rw[List.take_add_one,hl];rfl
   have hlen:(ll.take k).length<=1000000:=by rw[List.length_take];omega
   obtain⟨us,u1,u2,u3⟩:=ho;obtain⟨m,hm⟩:∃ m,m=us.length:=⟨_,rfl⟩;have Gw:m<=1000000:=by omega
   obtain⟨j,hj⟩:∃ j,j=l.length:=⟨_,rfl⟩;rw[<-hj]at c1 fk Wq;rw[<-hm]at u1 u2;have HM:=hid hm;have HJ:=hid hj;have u2':=u2;obtain⟨a5,c5,rfl⟩:=ownsRow_form u2';have U2:=hid u2;have U3:=hid u3;have U1:=hid u1;have HX:=hid hx;have HT:=hid dL;have J5:=hid fk;clear hx dL fk u1 u2 u2' u3 hm hj hl hlen;go_wp2_with fail
   refine(lQ _ l _ J5.out (by have:=HJ.out;omega)).mono ?_;rintro e w1 ⟨ur,rfl,hr,hx⟩;obtain⟨a6,c6,rfl⟩:=ownsRow_form hr;have hsz:w.heap.size<=wo.heap.size:=HX.out.size;have Ue:w.heap.size<=w1.heap.size:=Nat.le_trans hsz hx.size;have R1:=hid (az hr hsz);have V2:=hid (ak U2.out hx);have V3:=hid fun i u l hu hl=>ak (U3.out i u l hu hl) hx
   have X1:=hid (HX.out.trans (hx.mono HX.out.size));clear hr hx c1 J5 U2 U3 HX;go_wp2_with (at_builtin;refine wpList_append_own_at _ rfl (.tmp 12) (.tmp 15) 26 rfl w.heap.size 47 i0 (.slice none 0 0) 1 24 Tryz.underlying26 hi hz0 hz1 hz2 rfl (by decide) _ _ _ rfl (V2.out.alloc _) ⟨w1.heap.size,0,none⟩ 1 1 [.slice a6 l.length c6] rfl rfl (gq _ _ _) (by simp[Value.oneCell']) (by unfold maxLen;omega) (by omega) (by simp;omega) ?_;intro v' w2 hown' hgrow hh hat;have gL:=hid hown';have HG:=hid hgrow;clear hown' hgrow hh hat);go_roundw;case rel=>
    refine⟨k+1,by omega,by go_num,?_,?_⟩
    ·rw[HT.out]
     refine aH.snoc (w:=w1.alloc (.cells #[.slice a6 l.length c6] 47)) (v:=.slice a5 m c5) (by rw[<-HM.out];exact U1.out) (by rw[<-HM.out];exact V2.out.alloc _) (fun i u l hu hl=>(V3.out i u l hu hl).alloc _) (R1.out.alloc _) HG.out (by rw[<-HM.out];exact gL.out)
    ·exact(X1.out.alloc X1.out.size _).grown HG.out (by have:=X1.out.size;simp;omega) (fun c e=>(V2.out.lt c e).1)
   case measure=>simp[intOf];omega
  ·obtain rfl:k=n:=by omega
   have dL:ll.take k=ll:=by rw[HN.out];exact List.take_length
   rw[dL]at ho;have HO:=hid ho;have HX:=hid hx;clear ho hx dL;go_wp2;go_ret;exact⟨_,rfl,HO.out,HX.out⟩
theorem xz (v:Value) (ll:List (List Int)) (w:World) (h:jn w v ll) (hn:ll.length<=1000000) (hs:∀ l∈ll,l.length<=1000000): Calls Tryz.prog 43 #[v] w fun e w'=>∃ u,e=.returned u/\aH w.heap.size w' u ll/\Below w.heap.size w w':=Ex v ll w h.e hn hs
attribute [local go_sem] encS
theorem kJ.elem {α:Type} {enc:α->Value} {w:World} {a:Option Addr} {n cap:Nat} {l:List α} (h:kJ enc w (.slice a n cap) l) {i:Nat} {x:α} (hi:l[i]? =some x):∃ b off,a=some ⟨b,off,none⟩/\b<w.heap.size/\w.cell? ⟨b,off+i,none⟩=some (enc x):=by
 rcases h with h | ⟨rfl,_⟩
 ·exact h.elem hi
 ·simp at hi
def eV {α:Type} (f:α->Bool) (l:List α):Int:=match l.findIdx? f with | some k=>k | none=> -1
theorem nO {α:Type} (f:α->Bool) (l:List α):decide (0<=eV f l)=l.any f:=by
 unfold eV;cases h:l.findIdx? f with
 | none=>
  rw[List.findIdx?_eq_none_iff]at h;have:l.any f=false:=by rw[List.any_eq_false];intro x hx;rw[h x hx];decide
  rw[this];rfl
 | some k=>
  rw[List.findIdx?_eq_some_iff_getElem]at h;obtain⟨h1,h2,_⟩:=h;have:l.any f=true:=by rw[List.any_eq_true];exact⟨l[k],List.getElem_mem h1,h2⟩
  rw[this];simp
theorem lS {α:Type} {f:α->Bool} {l:List α} {k:Nat} {x:α} (hx:l[k]? =some x) (hf:f x=true) (hn:∀ y∈l.take k,f y=false):eV f l=k:=by
 have h1:l.findIdx? f=some k:=by
  rw[List.findIdx?_eq_some_iff_getElem];have Dr:=(List.getElem?_eq_some_iff.1 hx).1;refine⟨Dr,?_,fun j hj=>?_⟩
  ·rw[(List.getElem?_eq_some_iff.1 hx).2];exact hf
  ·have:=hn l[j] (List.mem_take_iff_getElem.2 ⟨j,by omega,rfl⟩)
   rw[this];decide
 rw[eV,h1]
theorem lT {α:Type} {f:α->Bool} {l:List α} (hn:∀ y∈l,f y=false):eV f l= -1:=by
 have h1:l.findIdx? f=none:=by rw[List.findIdx?_eq_none_iff];intro x hx;rw[hn x hx]
 rw[eV,h1]
theorem qy {α:Type} {f:α->Bool} {l:List α} {k:Nat} {x:α} (hx:l[k]? =some x) (hf:f x=false) (hn:∀ y∈l.take k,f y=false):∀ y∈l.take (k+1),f y=false:=fun y hy=>by
 rw[List.take_add_one,hx]at hy;rcases List.mem_append.1 hy with hy | hy
 ·exact hn y hy
 ·rw[show y=x from by simpa using hy];exact hf
theorem tT (g:Nat) (lb:Array Value) (f:Int->Bool) (v:Value) (l:List Int) (w:World) (h:kJ aG w v l) (hn:l.length<=1000000) (eg:∀ args w,(callFunc g args).run Tryz.prog w=.ok (.enter g args) w) (hf:∀ s W,Below w.heap.size w W->Calls Tryz.prog g (#[.int .i64 s]++lb) W fun e w'=>e=.returned (.bool (f s))/\w'=W): Calls Tryz.prog 71 #[v,.func (.func g) #[] lb] w fun e w'=>e=.returned (.int .i64 (eV f l))/\w'=w:=by
 obtain⟨a,cap,rfl⟩:=h.form;obtain⟨n,k7⟩:∃ n,n=l.length:=⟨_,rfl⟩;rw[<-k7]at h hn ⊢;have H:=hid h;have HN:=hid k7;have HF:=hid fun s=>hf s w (Below.refl _ _)
 obtain⟨r,hr⟩:∃ r,r=eV f l:=⟨_,rfl⟩;rw[<-hr];have HR:=hid hr;clear h k7 hf hr;go_enter Tryz.func71,Tryz.ntmps71;go_wp2
 go_loop [8] (fun i=>∃ k:Nat,k<=n/\i=.int .i64 k/\(∀ s∈l.take k,f s=false)) (fun i=>n-(intOf i).toNat)
 case atStart=>exact⟨0,by omega,rfl,fun s hs=>by simp at hs⟩
 case round=>
  obtain⟨k,hk,rfl,ha⟩:=hrel;by_cases hlt:k<n
  ·obtain⟨s,hs⟩:∃ s,l[k]? =some s:=⟨_,List.getElem?_eq_getElem (by have:=HN.out;omega)⟩
   obtain⟨b,off,rfl,hb,d0⟩:=H.out.elem hs;have d0':w.cell? ⟨b,off+k,none⟩=some (.int .i64 s):=d0;have Uf:=hid (HF.out s);have HA:=hid ha;have HS:=hid hs;clear ha hs d0;obtain⟨b1,hb1⟩:∃ b1,b1=f s:=⟨_,rfl⟩;rw[<-hb1]at Uf;have kS:=hid hb1;clear hb1;cases b1 with
   | true=>
    have iO:=hid (HR.out.trans (lS HS.out kS.out.symm HA.out));go_wp2;refine Uf.out.mono ?_;rintro e w2 ⟨rfl,hw⟩;replace hw:=hw.symm;subst hw;go_wp2;go_ret;exact⟨by rw[iO.out];rfl,rfl⟩
   | false=>
    go_wp2;refine Uf.out.mono ?_;rintro e w2 ⟨rfl,hw⟩;replace hw:=hw.symm;subst hw;go_wp2
    go_round
    case rel=>exact⟨k+1,by omega,by go_num,qy HS.out kS.out.symm HA.out⟩
    case measure=>simp[intOf];omega
  ·obtain rfl:k=n:=by omega
   have iO:=hid (HR.out.trans (lT fun y hy=>ha y (by rw[HN.out,List.take_length];exact hy)));clear ha;go_wp2;go_ret;exact⟨by rw[iO.out];rfl,rfl⟩
theorem py (g:Nat) (lb:Array Value) (f:Int->Bool) (v:Value) (l:List Int) (w:World) (h:kJ aG w v l) (hn:l.length<=1000000) (eg:∀ args w,(callFunc g args).run Tryz.prog w=.ok (.enter g args) w) (hf:∀ s W,Below w.heap.size w W->Calls Tryz.prog g (#[.int .i64 s]++lb) W fun e w'=>e=.returned (.bool (f s))/\w'=W): Calls Tryz.prog 38 #[v,.func (.func g) #[] lb] w fun e w'=>e=.returned (.bool (l.any f))/\w'=w:=by have HI:=hid (tT g lb f v l w h hn eg hf);rw[<-nO];obtain⟨a,cap,rfl⟩:=h.form;clear h hf eg;generalize eV f l=z at HI ⊢;go_enter Tryz.func38,Tryz.ntmps38;go_wp2_with (go_at_call 71;refine HI.out.mono ?_;rintro e w2 ⟨rfl,hw⟩;replace hw:=hw.symm;subst hw);go_ret;exact⟨rfl,rfl⟩
theorem Ey (x:Int) (n:Nat) (B:Nat) (W:World) (hB:W.cell? ⟨B,0,none⟩=some (.int .i64 n)): Calls Tryz.prog 39 #[.int .i64 x,.pointer (some ⟨B,0,none⟩)] W fun e w'=>e=.returned (.bool (!Pd n x))/\w'=W:=by
 unfold Pd;by_cases h1:x<0
 ·have d1:decide (x<0)=true:=decide_eq_true h1
  have d2:decide (0<=x)=false:=decide_eq_false (by omega);go_enter Tryz.func39,Tryz.ntmps39;go_wp2;go_ret;exact⟨by rw[d2];rfl,rfl⟩
 ·have d1:decide (x<0)=false:=decide_eq_false h1
  have d2:decide (0<=x)=true:=decide_eq_true (by omega);by_cases h2:(n:Int)<=x
  ·have d3:decide ((n:Int)<=x)=true:=decide_eq_true h2
   have d4:decide (x<(n:Int))=false:=decide_eq_false (by omega);go_enter Tryz.func39,Tryz.ntmps39;go_wp2;go_ret;exact⟨rfl,rfl⟩
  ·have d3:decide ((n:Int)<=x)=false:=decide_eq_false h2
   have d4:decide (x<(n:Int))=true:=decide_eq_true (by omega);go_enter Tryz.func39,Tryz.ntmps39;go_wp2;go_ret;exact⟨rfl,rfl⟩
theorem H7:∀ args w,(callFunc 39 args).run Tryz.prog w=.ok (.enter 39 args) w:=fun args w=>by kernel_rfl
theorem Qc {α:Type} [BEq α] [LawfulBEq α] {l m:List α} {k:Nat} {x y:α} (hx:l[k]? =some x) (hy:m[k]? =some y) (h:x≠y):(l==m)=false:=by rw[beq_eq_false_iff_ne];intro e;subst e;rw[hx]at hy;exact h (Option.some.inj hy)
theorem Ez {α:Type} [BEq α] [LawfulBEq α] {l m:List α} {n:Nat} (h1:l.length=n) (h2:m.length=n) (h:∀ i x y,i<n->l[i]? =some x->m[i]? =some y->x=y):(l==m)=true:=by
 rw[beq_iff_eq];refine List.ext_getElem (by omega) fun i a b=>?_
 exact h i _ _ (by omega) (List.getElem?_eq_getElem a) (List.getElem?_eq_getElem b)
theorem A7 {α:Type} [BEq α] [LawfulBEq α] {l m:List α} (h:l.length≠m.length):(l==m)=false:=by rw[beq_eq_false_iff_ne];intro e;rw[e]at h;exact h rfl
theorem EA (v1 v2:Value) (l1 l2:List BS) (w:World) (h1:cB w v1 l1) (h2:cB w v2 l2) (hn:l1.length<=1000000): Calls Tryz.prog 36 #[v1,v2] w fun e w'=>e=.returned (.bool (l1==l2))/\Ext w w':=by
 obtain⟨a1,c1,rfl⟩:=h1.form;obtain⟨a2,c2,rfl⟩:=h2.form;obtain⟨n,k7⟩:∃ n,n=l1.length:=⟨_,rfl⟩;obtain⟨m,Gw⟩:∃ m,m=l2.length:=⟨_,rfl⟩;rw[<-k7]at h1 hn ⊢;rw[<-Gw]at h2 ⊢;have HN:=hid k7;have HM:=hid Gw;have H1:=hid h1;have H2:=hid h2;have HE:=hid fun s t W=>gY s t W
 by_cases hnm:n=m
 ·subst hnm
  obtain⟨r,hr⟩:∃ r,r=(l1==l2):=⟨_,rfl⟩;rw[<-hr];have HR:=hid hr;clear h1 h2 k7 Gw hr;go_enter Tryz.func36,Tryz.ntmps36;go_wp2;go_loopw [13] (fun i wr=>∃ k:Nat,k<=n/\i=.int .i64 k/\(∀ i x y,i<k->l1[i]? =some x->l2[i]? =some y->x=y)/\Ext w wr) (fun i _=>n-(intOf i).toNat);case atStart=>exact⟨0,by omega,rfl,fun i x y hi=>by omega,Ext.refl _⟩
  case round=>
   obtain⟨k,hk,rfl,ha,hx⟩:=hrel;obtain⟨wo,rfl⟩:∃ wo:World,wo=wr:=⟨_,rfl⟩;have HX:=hid hx;have HA:=hid ha;clear ha;by_cases hlt:k<n
   ·obtain⟨s,hs⟩:∃ s,l1[k]? =some s:=⟨_,List.getElem?_eq_getElem (by have:=HN.out;omega)⟩
    obtain⟨t,ht⟩:∃ t,l2[k]? =some t:=⟨_,List.getElem?_eq_getElem (by have:=HM.out;omega)⟩;obtain⟨b,off,rfl,hb,d0,d1,d2,d3⟩:=(H1.out.below hx.below).elem hs;obtain⟨b',off',rfl,hb',e0,e1,e2,e3⟩:=(H2.out.below hx.below).elem ht;have eT:(k:Int)<n:=by omega
    have HS:=hid hs;have HT:=hid ht;obtain⟨q,hq⟩:∃ q,q=(s==t):=⟨_,rfl⟩;have heq:∀ W,(Op.equalIn 10000 59 (.agg #[.int .u64 (wd s 0).toNat,.int .u64 (wd s 1).toNat,.int .u64 (wd s 2).toNat,.int .u64 (wd s 3).toNat]) (.agg #[.int .u64 (wd t 0).toNat,.int .u64 (wd t 1).toNat,.int .u64 (wd t 2).toNat,.int .u64 (wd t 3).toNat])).run Tryz.prog W=.ok q W:=fun W=>by
     have h1:=HE.out s t W;rw[<-hq]at h1;exact h1
    have HQ:=hid hq;clear hs ht hx hq;cases q with
    | true=>
     go_wp2
     go_quiet (fail)
     go_wp2
     exact⟨⟨k+1,by omega,by go_num,fun i x y hi hx hy=>by
      by_cases e:i=k
      ·subst e
       rw[HS.out]at hx;rw[HT.out]at hy;cases hx;cases hy;exact beq_iff_eq.1 HQ.out.symm
      ·exact HA.out i x y (by omega) hx hy,xr HX.out nq⟩,by simp[intOf];omega⟩
    | false=>
     have iO:=hid (HR.out.trans (Qc HS.out HT.out (beq_eq_false_iff_ne.1 HQ.out.symm)));go_wp2
     go_quiet (fail)
     go_wp2;go_ret;exact⟨by rw[iO.out];rfl,xr HX.out nq⟩
   ·obtain rfl:k=n:=by omega
    have iO:=hid (HR.out.trans (Ez HN.out.symm HM.out.symm HA.out));clear hx;go_wp2;go_ret;exact⟨by rw[iO.out];rfl,HX.out⟩
 ·have e1:(l1==l2)=false:=A7 (by omega)
  have d1:decide ((n:Int)=m)=false:=decide_eq_false (by omega);rw[e1];clear h1 h2 k7 Gw e1 d1;have d2:((n:Int)==(m:Int))=false:=by rw[beq_eq_false_iff_ne];omega
  have d3:((n:Int) != (m:Int))=true:=by simp;omega
  have d4:(n==m)=false:=by rw[beq_eq_false_iff_ne];exact hnm
  go_enter Tryz.func36,Tryz.ntmps36
  go_wp2;go_ret;exact⟨rfl,Ext.refl _⟩
end Go.Proofs.YtalombmiochpmaaGreatDoor
