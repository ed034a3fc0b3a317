/- dfa.Right. -/
import Derived.Test.YtbiboekhakbnpaaGreatDoorOF06
set_option maxRecDepth 100000
set_option maxHeartbeats 16000000
open Go.Lib (hid)
namespace Go.Proofs.YtbiboekhakbnpaaGreatDoor
open Go Go.RowKit Go.Shelf Go.Maps
theorem Tryz.oZ:(Tryz.prog.info? 37).map (fun i=>(i.zero,i.size,i.bytes))=some (some (.slice none 0 0),1,24):=by kernel_rfl
def lG (w:World) (v:Value) (ll:List (List Int)):Prop:=∃ us:List Value,us.length=ll.length/\bg (fun u:Value=>u) w v us/\∀ (i:Nat) (u:Value) (l:List Int),us[i]? =some u->ll[i]? =some l->bg aF w u l
theorem lG.below {w w':World} {v:Value} {ll:List (List Int)} (h:lG w v ll) (hk:Below w.heap.size w w'):lG w' v ll:=by obtain⟨us,h1,h2,h3⟩:=h;exact⟨us,h1,h2.below hk,fun i u l hu hl=>(h3 i u l hu hl).below hk⟩
theorem lG.form {w:World} {v:Value} {ll:List (List Int)} (h:lG w v ll):∃ a cap,v=.slice a ll.length cap:=by obtain⟨us,h1,h2,h3⟩:=h;obtain⟨a,cap,h4⟩:=h2.form;exact⟨a,cap,by rw[h4,h1]⟩
theorem lG.elem {w:World} {a:Option Addr} {n cap:Nat} {ll:List (List Int)} (h:lG w (.slice a n cap) ll) {i:Nat} {l:List Int} (hi:ll[i]? =some l): ∃ b off a' c',a=some ⟨b,off,none⟩/\b<w.heap.size/\w.cell? ⟨b,off+i,none⟩=some (.slice a' l.length c')/\bg aF w (.slice a' l.length c') l:=by obtain⟨us,h1,h2,h3⟩:=h;have fU:=(List.getElem?_eq_some_iff.1 hi).1;have hu:us[i]? =some (us[i]'(by omega)):=List.getElem?_eq_getElem (by omega);obtain⟨b,off,e1,e2,e3⟩:=h2.elem hu;have h4:=h3 i _ l hu hi;obtain⟨a',c',e4⟩:=h4.form;rw[e4]at h4 e3;exact⟨b,off,a',c',e1,e2,e3,h4⟩
def kH (w:World) (v:Value) (ll:List (List Int)):Prop:=∃ us:List Value,us.length=ll.length/\bg (fun u:Value=>u) w v us/\∀ (i:Nat) (u:Value) (l:List Int),us[i]? =some u->ll[i]? =some l->iG aF w u l
theorem lG.e {w:World} {v:Value} {ll:List (List Int)} (h:lG w v ll):kH w v ll:=by obtain⟨us,h1,h2,h3⟩:=h;exact⟨us,h1,h2,fun i u l hu hl=>.inl (h3 i u l hu hl)⟩
theorem kH.below {w w':World} {v:Value} {ll:List (List Int)} (h:kH w v ll) (hk:Below w.heap.size w w'):kH w' v ll:=by obtain⟨us,h1,h2,h3⟩:=h;exact⟨us,h1,h2.below hk,fun i u l hu hl=>(h3 i u l hu hl).below hk⟩
theorem kH.form {w:World} {v:Value} {ll:List (List Int)} (h:kH w v ll):∃ a cap,v=.slice a ll.length cap:=by obtain⟨us,h1,h2,h3⟩:=h;obtain⟨a,cap,h4⟩:=h2.form;exact⟨a,cap,by rw[h4,h1]⟩
theorem kH.elem {w:World} {a:Option Addr} {n cap:Nat} {ll:List (List Int)} (h:kH w (.slice a n cap) ll) {i:Nat} {l:List Int} (hi:ll[i]? =some l): ∃ b off a' c',a=some ⟨b,off,none⟩/\b<w.heap.size/\w.cell? ⟨b,off+i,none⟩=some (.slice a' l.length c')/\iG aF w (.slice a' l.length c') l:=by obtain⟨us,h1,h2,h3⟩:=h;have fU:=(List.getElem?_eq_some_iff.1 hi).1;have hu:us[i]? =some (us[i]'(by omega)):=List.getElem?_eq_getElem (by omega);obtain⟨b,off,e1,e2,e3⟩:=h2.elem hu;have h4:=h3 i _ l hu hi;obtain⟨a',c',e4⟩:=h4.form;rw[e4]at h4 e3;exact⟨b,off,a',c',e1,e2,e3,h4⟩
def aC (base:Nat) (w:World) (v:Value) (ll:List (List Int)):Prop:=∃ us:List Value,us.length=ll.length/\w.ownsRow base 37 1 v us.length us/\∀ (i:Nat) (u:Value) (l:List Int),us[i]? =some u->ll[i]? =some l->w.ownsRow base 3 1 u l.length (l.map aF)
theorem aC.nil (base:Nat) (w:World):aC base w (.slice none 0 0) []:=⟨[],rfl,World.ownsRow_nil _ _ _ _,fun i u l h=>by simp at h⟩
theorem aC.base {base base':Nat} {w:World} {v:Value} {ll:List (List Int)} (h:aC base w v ll) (hb:base'<=base):aC base' w v ll:=by obtain⟨us,h1,h2,h3⟩:=h;exact⟨us,h1,ax h2 hb,fun i u l hu hl=>ax (h3 i u l hu hl) hb⟩
theorem aC.below {base:Nat} {w w':World} {v:Value} {ll:List (List Int)} (h:aC base w v ll) (hk:Below w.heap.size w w'):aC base w' v ll:=by obtain⟨us,h1,h2,h3⟩:=h;exact⟨us,h1,ag h2 hk,fun i u l hu hl=>ag (h3 i u l hu hl) hk⟩
theorem cX {w w':World} {base:Nat} {e:TypeId} {size:Nat} {v:Value} {n:Nat} {xs:List Value} (h:w.ownsRow base e size v n xs) {R:Nat->Prop} (hk:aa R w w') (hr:∀ k,base<=k->k<w.heap.size->R k):w'.ownsRow base e size v n xs:=
 ae h hk fun k e=>hr k (h.lt k e).1 (h.lt k e).2
theorem aC.keeps {base:Nat} {w w':World} {v:Value} {ll:List (List Int)} (h:aC base w v ll) {R:Nat->Prop} (hk:aa R w w') (hr:∀ k,base<=k->k<w.heap.size->R k):aC base w' v ll:=by obtain⟨us,h1,h2,h3⟩:=h;exact⟨us,h1,cX h2 hk hr,fun i u l hu hl=>cX (h3 i u l hu hl) hk hr⟩
theorem aC.form {base:Nat} {w:World} {v:Value} {ll:List (List Int)} (h:aC base w v ll):∃ a cap,v=.slice a ll.length cap:=by obtain⟨us,h1,h2,h3⟩:=h;obtain⟨a,c,h4⟩:=ownsRow_form h2;exact⟨a,c,by rw[h4,h1]⟩
theorem aC.ll {base:Nat} {w:World} {v:Value} {ll:List (List Int)} (h:aC base w v ll):lG w v ll:=by obtain⟨us,h1,h2,h3⟩:=h;refine⟨us,h1,cH (e:=37) (base:=base) (by simpa using h2) rfl,fun i u l hu hl=>cH (h3 i u l hu hl) rfl⟩
theorem ownBlock_ne {w:World} {b1 b2:Nat} {e1 e2:TypeId} {s1 s2 n1 n2:Nat} {v1 v2:Value} {x1 x2:List Value} (he:e1≠e2) (h1:w.ownsRow b1 e1 s1 v1 n1 x1) (h2:w.ownsRow b2 e2 s2 v2 n2 x2):v1.ownBlock=none\/v1.ownBlock≠v2.ownBlock:=by
 rcases h1.2 with⟨rfl,_⟩ | ⟨g,c,cur,rfl,_,hg,_⟩
 ·exact .inl rfl
 ·right
  rcases h2.2 with⟨rfl,_⟩ | ⟨g',c',cur',rfl,_,Gw,_⟩
  ·simp[Value.ownBlock]
  ·intro e
   have e':g=g':=by simpa[Value.ownBlock]using e
   subst e';rw[hg]at Gw;exact he (by injection Gw with h;injection h)
theorem aC.snoc {base:Nat} {w w':World} {v v' u:Value} {ll:List (List Int)} {l:List Int} {us:List Value} (h1:us.length=ll.length) (ho:w.ownsRow base 37 1 v us.length us) (h3:∀ (i:Nat) (u:Value) (l:List Int),us[i]? =some u->ll[i]? =some l->w.ownsRow base 3 1 u l.length (l.map aF)) (hu:w.ownsRow base 3 1 u l.length (l.map aF)) (hg:w.grownBy w' v.ownBlock) (Pp:w'.ownsRow base 37 1 v' (us.length+1) (us++ [u])):aC base w' v' (ll++ [l]):=by
 have ne:(3:Nat)≠37:=by decide
 refine⟨us++ [u],by simp[h1],by simpa using Pp,fun i x y hx hy=>?_⟩;by_cases hi:i<us.length
 ·rw[List.getElem?_append_left hi]at hx
  rw[List.getElem?_append_left (by omega)]at hy;have hr:=h3 i x y hx hy;exact hr.kept hg (ownBlock_ne ne hr ho)
 ·have fU:=(List.getElem?_eq_some_iff.1 hx).1
  simp at fU;obtain rfl:i=us.length:=by omega
  simp at hx;subst hx;rw[h1]at hy;simp at hy;subst hy;exact hu.kept hg (ownBlock_ne ne hu ho)
def gN (w:World) (v:Value) (d:DF):Prop:=∃ v0 v1 v2,v=.agg #[v0,v1,v2]/\mo w v0 d.cl/\lG w v1 d.nx/\lG w v2 d.mr
theorem gN.below {w w':World} {v:Value} {d:DF} (h:gN w v d) (hk:Below w.heap.size w w'):gN w' v d:=by obtain⟨v0,v1,v2,e,h0,h1,h2⟩:=h;exact⟨v0,v1,v2,e,⟨h0.1.below hk,h0.2⟩,h1.below hk,h2.below hk⟩
def Gy (w:World) (v:Value) (d:DF):Prop:=∃ v0 v1 v2,v=.agg #[v0,v1,v2]/\mo w v0 d.cl/\kH w v1 d.nx/\kH w v2 d.mr
theorem gN.e {w:World} {v:Value} {d:DF} (h:gN w v d):Gy w v d:=by obtain⟨v0,v1,v2,e,h0,h1,h2⟩:=h;exact⟨v0,v1,v2,e,h0,h1.e,h2.e⟩
def aP (base:Nat) (w:World) (v:Value) (d:DF):Prop:=∃ v0 v1 v2,v=.agg #[v0,v1,v2]/\w.ownsRow base 70 4 v0 d.cl.length (aD d.cl)/\aC base w v1 d.nx/\aC base w v2 d.mr
theorem aP.below {base:Nat} {w w':World} {v:Value} {d:DF} (h:aP base w v d) (hk:Below w.heap.size w w'):aP base w' v d:=by obtain⟨v0,v1,v2,e,h0,h1,h2⟩:=h;exact⟨v0,v1,v2,e,ag h0 hk,h1.below hk,h2.below hk⟩
theorem aP.base {base base':Nat} {w:World} {v:Value} {d:DF} (h:aP base w v d) (hb:base'<=base):aP base' w v d:=by obtain⟨v0,v1,v2,e,h0,h1,h2⟩:=h;exact⟨v0,v1,v2,e,ax h0 hb,h1.base hb,h2.base hb⟩
theorem aP.keeps {base:Nat} {w w':World} {v:Value} {d:DF} (h:aP base w v d) {R:Nat->Prop} (hk:aa R w w') (hr:∀ k,base<=k->k<w.heap.size->R k):aP base w' v d:=by obtain⟨v0,v1,v2,e,h0,h1,h2⟩:=h;exact⟨v0,v1,v2,e,cX h0 hk hr,h1.keeps hk hr,h2.keeps hk hr⟩
theorem nh {w:World} {base:Nat} {v:Value} {l:List BS} (h:w.ownsRow base 70 4 v l.length (aD l)):mo w v l:=by
 refine⟨j3 h,fun a n cap e=>?_⟩;subst e;rcases h.2 with⟨h1,h2⟩ | ⟨g,c,cur,h1,_,_,h2,_⟩
 ·injection h1 with _ h3 h4;omega
 ·injection h1 with _ h3 h4;omega
theorem aP.df {base:Nat} {w:World} {v:Value} {d:DF} (h:aP base w v d):gN w v d:=by obtain⟨v0,v1,v2,e,h0,h1,h2⟩:=h;exact⟨v0,v1,v2,e,nh h0,h1.ll,h2.ll⟩
structure Sm (d:DF):Prop where
 cl:d.cl.length<=1000000
 nx:d.nx.length<=1000000
 mr:d.mr.length<=1000000
 vO:∀ l∈d.nx,l.length<=1000000
 PS:∀ l∈d.mr,l.length<=1000000
section
variable {L:List Sp} {W:World}
end
theorem cd.elem {w:World} {a:Option Addr} {n cap:Nat} {l:List BS} (h:cd w (.slice a n cap) l) {i:Nat} {s:BS} (hi:l[i]? =some s): ∃ b off,a=some ⟨b,off,none⟩/\b<w.heap.size/\w.cell? ⟨b,off+i*4,none⟩=some (.int .u64 (wd s 0).toNat)/\w.cell? ⟨b,off+i*4+1,none⟩=some (.int .u64 (wd s 1).toNat)/\w.cell? ⟨b,off+i*4+2,none⟩=some (.int .u64 (wd s 2).toNat)/\w.cell? ⟨b,off+i*4+3,none⟩=some (.int .u64 (wd s 3).toNat):=by
 rcases h with⟨_,e⟩ | ⟨b,off,cap',e1,hb,hcc⟩
 ·rw[e]at hi;simp at hi
 ·injection e1 with e1 _ _
  exact⟨b,off,e1,hb,hcc i s hi 0 (by decide),hcc i s hi 1 (by decide),hcc i s hi 2 (by decide),hcc i s hi 3 (by decide)⟩
theorem dV (w:World) (x:Value) (t:TypeId):∀ j u,[x][j]? =some u->(w.alloc (.cells #[x] t)).cell? ((⟨w.heap.size,0,none⟩:Addr).add j)=some u:=fun j u h=>by
 have hj:j=0:=by
  rcases Nat.eq_zero_or_pos j with h' | h'
  ·exact h'
  ·rw[List.getElem?_eq_none (by simp;omega)]at h;cases h
 subst hj;have hx:x=u:=by simpa using h
 rw[<-hx];exact(ak.new w #[x] t).cell 0
theorem EA (v:Value) (ll:List (List Int)) (w:World) (h:kH w v ll) (hn:ll.length<=1000000) (hs:∀ l∈ll,l.length<=1000000): Calls Tryz.prog 63 #[v] w fun e w'=>∃ u,e=.returned u/\aC w.heap.size w' u ll/\Below w.heap.size w w':=by
 obtain⟨i0,hi,hz0,hz1,hz2⟩:=info_parts Tryz.oZ;obtain⟨a,cap,rfl⟩:=h.form;obtain⟨n,gM⟩:∃ n,n=ll.length:=⟨_,rfl⟩;rw[<-gM]at h hn ⊢;have H:=hid h;have HN:=hid gM;have HS:=hid hs;clear h gM hs;go_enter Tryz.func63,Tryz.ntmps63;go_wp2;go_loopw [8,3] (fun i u wr=>∃ k:Nat,k<=n/\i=.int .i64 k/\aC w.heap.size wr u (ll.take k)/\Below w.heap.size w wr) (fun i _ _=>n-(intOf i).toNat);case atStart=>exact⟨0,by omega,rfl,aC.nil _ _,Below.refl _ _⟩
 case round=>
  obtain⟨k,hk,rfl,ho,hx⟩:=hrel;obtain⟨wo,rfl⟩:∃ wo:World,wo=wr:=⟨_,rfl⟩;by_cases hlt:k<n
  ·obtain⟨l,hl⟩:∃ l,ll[k]? =some l:=⟨_,List.getElem?_eq_getElem (by have:=HN.out;omega)⟩
   obtain⟨b,off,a',c',rfl,hb,c1,dI⟩:=(H.out.below hx).elem hl;have JX:=HS.out l (List.mem_of_getElem? hl);have dw:ll.take (k+1)=ll.take k++ [l]:=by rw[List.take_add_one,hl];rfl
   have hlen:(ll.take k).length<=1000000:=by rw[List.length_take];omega
   obtain⟨us,u1,u2,u3⟩:=ho;obtain⟨m,hm⟩:∃ m,m=us.length:=⟨_,rfl⟩;have s5:m<=1000000:=by omega
   obtain⟨j,hj⟩:∃ j,j=l.length:=⟨_,rfl⟩;rw[<-hj]at c1 dI JX;rw[<-hm]at u1 u2;have HM:=hid hm;have HJ:=hid hj;have OL:=u2;obtain⟨a5,c5,rfl⟩:=ownsRow_form OL;have U2:=hid u2;have U3:=hid u3;have U1:=hid u1;have HX:=hid hx;have HT:=hid dw;have DC:=hid dI;clear hx dw dI u1 u2 OL u3 hm hj hl hlen;go_wp2_with fail
   refine(lF _ l _ DC.out (by have:=HJ.out;omega)).mono ?_;rintro e w1 ⟨ur,rfl,hr,hx⟩;obtain⟨a6,c6,rfl⟩:=ownsRow_form hr;have hsz:w.heap.size<=wo.heap.size:=HX.out.size;have TS:w.heap.size<=w1.heap.size:=Nat.le_trans hsz hx.size;have R1:=hid (ax hr hsz);have V2:=hid (ag U2.out hx);have V3:=hid fun i u l hu hl=>ag (U3.out i u l hu hl) hx
   have X1:=hid (HX.out.trans (hx.mono HX.out.size));clear hr hx c1 DC U2 U3 HX;go_wp2_with (at_builtin;refine wpList_append_own_at _ rfl (.tmp 12) (.tmp 15) 29 rfl w.heap.size 37 i0 (.slice none 0 0) 1 24 Tryz.underlying29 hi hz0 hz1 hz2 rfl (by decide) _ _ _ rfl (V2.out.alloc _) ⟨w1.heap.size,0,none⟩ 1 1 [.slice a6 l.length c6] rfl rfl (dV _ _ _) (by simp[Value.oneCell']) (by unfold maxLen;omega) (by omega) (by simp;omega) ?_;intro v' w2 hown' hgrow hh hat;have jq:=hid hown';have HG:=hid hgrow;clear hown' hgrow hh hat);go_roundw;case rel=>
    refine⟨k+1,by omega,by go_num,?_,?_⟩
    ·rw[HT.out]
     refine aC.snoc (w:=w1.alloc (.cells #[.slice a6 l.length c6] 37)) (v:=.slice a5 m c5) (by rw[<-HM.out];exact U1.out) (by rw[<-HM.out];exact V2.out.alloc _) (fun i u l hu hl=>(V3.out i u l hu hl).alloc _) (R1.out.alloc _) HG.out (by rw[<-HM.out];exact jq.out)
    ·exact(X1.out.alloc X1.out.size _).grown HG.out (by have:=X1.out.size;simp;omega) (fun c e=>(V2.out.lt c e).1)
   case measure=>simp[intOf];omega
  ·obtain rfl:k=n:=by omega
   have dw:ll.take k=ll:=by rw[HN.out];exact List.take_length
   rw[dw]at ho;have HO:=hid ho;have HX:=hid hx;clear ho hx dw;go_wp2;go_ret;exact⟨_,rfl,HO.out,HX.out⟩
theorem wN (v:Value) (ll:List (List Int)) (w:World) (h:lG w v ll) (hn:ll.length<=1000000) (hs:∀ l∈ll,l.length<=1000000): Calls Tryz.prog 63 #[v] w fun e w'=>∃ u,e=.returned u/\aC w.heap.size w' u ll/\Below w.heap.size w w':=EA v ll w h.e hn hs
attribute [local go_sem] encS
theorem iG.elem {α:Type} {enc:α->Value} {w:World} {a:Option Addr} {n cap:Nat} {l:List α} (h:iG enc w (.slice a n cap) l) {i:Nat} {x:α} (hi:l[i]? =some x):∃ b off,a=some ⟨b,off,none⟩/\b<w.heap.size/\w.cell? ⟨b,off+i,none⟩=some (enc x):=by
 rcases h with h | ⟨rfl,_⟩
 ·exact h.elem hi
 ·simp at hi
def eO {α:Type} (f:α->Bool) (l:List α):Int:=match l.findIdx? f with | some k=>k | none=> -1
theorem nJ {α:Type} (f:α->Bool) (l:List α):decide (0<=eO f l)=l.any f:=by
 unfold eO;cases h:l.findIdx? f with
 | none=>
  rw[List.findIdx?_eq_none_iff]at h;have:l.any f=false:=by rw[List.any_eq_false];intro x hx;rw[h x hx];decide
  rw[this];rfl
 | some k=>
  rw[List.findIdx?_eq_some_iff_getElem]at h;obtain⟨h1,h2,_⟩:=h;have:l.any f=true:=by rw[List.any_eq_true];exact⟨l[k],List.getElem_mem h1,h2⟩
  rw[this];simp
theorem lH {α:Type} {f:α->Bool} {l:List α} {k:Nat} {x:α} (hx:l[k]? =some x) (hf:f x=true) (hn:∀ y∈l.take k,f y=false):eO f l=k:=by
 have h1:l.findIdx? f=some k:=by
  rw[List.findIdx?_eq_some_iff_getElem];have vr:=(List.getElem?_eq_some_iff.1 hx).1;refine⟨vr,?_,fun j hj=>?_⟩
  ·rw[(List.getElem?_eq_some_iff.1 hx).2];exact hf
  ·have:=hn l[j] (List.mem_take_iff_getElem.2 ⟨j,by omega,rfl⟩)
   rw[this];decide
 rw[eO,h1]
theorem lI {α:Type} {f:α->Bool} {l:List α} (hn:∀ y∈l,f y=false):eO f l= -1:=by
 have h1:l.findIdx? f=none:=by rw[List.findIdx?_eq_none_iff];intro x hx;rw[hn x hx]
 rw[eO,h1]
theorem qj {α:Type} {f:α->Bool} {l:List α} {k:Nat} {x:α} (hx:l[k]? =some x) (hf:f x=false) (hn:∀ y∈l.take k,f y=false):∀ y∈l.take (k+1),f y=false:=fun y hy=>by
 rw[List.take_add_one,hx]at hy;rcases List.mem_append.1 hy with hy | hy
 ·exact hn y hy
 ·rw[show y=x from by simpa using hy];exact hf
theorem tB (g:Nat) (lb:Array Value) (f:Int->Bool) (v:Value) (l:List Int) (w:World) (h:iG aF w v l) (hn:l.length<=1000000) (eg:∀ args w,(callFunc g args).run Tryz.prog w=.ok (.enter g args) w) (hf:∀ s W,Below w.heap.size w W->Calls Tryz.prog g (#[.int .i64 s]++lb) W fun e w'=>e=.returned (.bool (f s))/\w'=W): Calls Tryz.prog 90 #[v,.func (.func g) #[] lb] w fun e w'=>e=.returned (.int .i64 (eO f l))/\w'=w:=by
 obtain⟨a,cap,rfl⟩:=h.form;obtain⟨n,gM⟩:∃ n,n=l.length:=⟨_,rfl⟩;rw[<-gM]at h hn ⊢;have H:=hid h;have HN:=hid gM;have HF:=hid fun s=>hf s w (Below.refl _ _)
 obtain⟨r,hr⟩:∃ r,r=eO f l:=⟨_,rfl⟩;rw[<-hr];have HR:=hid hr;clear h gM hf hr;go_enter Tryz.func90,Tryz.ntmps90;go_wp2
 go_loop [8] (fun i=>∃ k:Nat,k<=n/\i=.int .i64 k/\(∀ s∈l.take k,f s=false)) (fun i=>n-(intOf i).toNat)
 case atStart=>exact⟨0,by omega,rfl,fun s hs=>by simp at hs⟩
 case round=>
  obtain⟨k,hk,rfl,ha⟩:=hrel;by_cases hlt:k<n
  ·obtain⟨s,hs⟩:∃ s,l[k]? =some s:=⟨_,List.getElem?_eq_getElem (by have:=HN.out;omega)⟩
   obtain⟨b,off,rfl,hb,d0⟩:=H.out.elem hs;have d0':w.cell? ⟨b,off+k,none⟩=some (.int .i64 s):=d0;have TU:=hid (HF.out s);have HA:=hid ha;have HS:=hid hs;clear ha hs d0;obtain⟨b1,hb1⟩:∃ b1,b1=f s:=⟨_,rfl⟩;rw[<-hb1]at TU;have kP:=hid hb1;clear hb1;cases b1 with
   | true=>
    have fK:=hid (HR.out.trans (lH HS.out kP.out.symm HA.out));go_wp2;refine TU.out.mono ?_;rintro e w2 ⟨rfl,hw⟩;replace hw:=hw.symm;subst hw;go_wp2;go_ret;exact⟨by rw[fK.out];rfl,rfl⟩
   | false=>
    go_wp2;refine TU.out.mono ?_;rintro e w2 ⟨rfl,hw⟩;replace hw:=hw.symm;subst hw;go_wp2
    go_round
    case rel=>exact⟨k+1,by omega,by go_num,qj HS.out kP.out.symm HA.out⟩
    case measure=>simp[intOf];omega
  ·obtain rfl:k=n:=by omega
   have fK:=hid (HR.out.trans (lI fun y hy=>ha y (by rw[HN.out,List.take_length];exact hy)));clear ha;go_wp2;go_ret;exact⟨by rw[fK.out];rfl,rfl⟩
theorem pd (g:Nat) (lb:Array Value) (f:Int->Bool) (v:Value) (l:List Int) (w:World) (h:iG aF w v l) (hn:l.length<=1000000) (eg:∀ args w,(callFunc g args).run Tryz.prog w=.ok (.enter g args) w) (hf:∀ s W,Below w.heap.size w W->Calls Tryz.prog g (#[.int .i64 s]++lb) W fun e w'=>e=.returned (.bool (f s))/\w'=W): Calls Tryz.prog 51 #[v,.func (.func g) #[] lb] w fun e w'=>e=.returned (.bool (l.any f))/\w'=w:=by have HI:=hid (tB g lb f v l w h hn eg hf);rw[<-nJ];obtain⟨a,cap,rfl⟩:=h.form;clear h hf eg;generalize eO f l=z at HI ⊢;go_enter Tryz.func51,Tryz.ntmps51;go_wp2_with (go_at_call 90;refine HI.out.mono ?_;rintro e w2 ⟨rfl,hw⟩;replace hw:=hw.symm;subst hw);go_ret;exact⟨rfl,rfl⟩
theorem EB (x:Int) (n:Nat) (B:Nat) (W:World) (hB:W.cell? ⟨B,0,none⟩=some (.int .i64 n)): Calls Tryz.prog 52 #[.int .i64 x,.pointer (some ⟨B,0,none⟩)] W fun e w'=>e=.returned (.bool (!OJ n x))/\w'=W:=by
 unfold OJ;by_cases h1:x<0
 ·have d1:decide (x<0)=true:=decide_eq_true h1
  have d2:decide (0<=x)=false:=decide_eq_false (by omega);go_enter Tryz.func52,Tryz.ntmps52;go_wp2;go_ret;exact⟨by rw[d2];rfl,rfl⟩
 ·have d1:decide (x<0)=false:=decide_eq_false h1
  have d2:decide (0<=x)=true:=decide_eq_true (by omega);by_cases h2:(n:Int)<=x
  ·have d3:decide ((n:Int)<=x)=true:=decide_eq_true h2
   have d4:decide (x<(n:Int))=false:=decide_eq_false (by omega);go_enter Tryz.func52,Tryz.ntmps52;go_wp2;go_ret;exact⟨rfl,rfl⟩
  ·have d3:decide ((n:Int)<=x)=false:=decide_eq_false h2
   have d4:decide (x<(n:Int))=true:=decide_eq_true (by omega);go_enter Tryz.func52,Tryz.ntmps52;go_wp2;go_ret;exact⟨rfl,rfl⟩
theorem Il:∀ args w,(callFunc 52 args).run Tryz.prog w=.ok (.enter 52 args) w:=fun args w=>by kernel_rfl
theorem PU {α:Type} [BEq α] [LawfulBEq α] {l m:List α} {k:Nat} {x y:α} (hx:l[k]? =some x) (hy:m[k]? =some y) (h:x≠y):(l==m)=false:=by rw[beq_eq_false_iff_ne];intro e;subst e;rw[hx]at hy;exact h (Option.some.inj hy)
theorem EC {α:Type} [BEq α] [LawfulBEq α] {l m:List α} {n:Nat} (h1:l.length=n) (h2:m.length=n) (h:∀ i x y,i<n->l[i]? =some x->m[i]? =some y->x=y):(l==m)=true:=by
 rw[beq_iff_eq];refine List.ext_getElem (by omega) fun i a b=>?_
 exact h i _ _ (by omega) (List.getElem?_eq_getElem a) (List.getElem?_eq_getElem b)
theorem AU {α:Type} [BEq α] [LawfulBEq α] {l m:List α} (h:l.length≠m.length):(l==m)=false:=by rw[beq_eq_false_iff_ne];intro e;rw[e]at h;exact h rfl
theorem tC (v1 v2:Value) (l1 l2:List BS) (w:World) (h1:cd w v1 l1) (h2:cd w v2 l2) (hn:l1.length<=1000000): Calls Tryz.prog 47 #[v1,v2] w fun e w'=>e=.returned (.bool (l1==l2))/\Ext w w':=by
 obtain⟨a1,c1,rfl⟩:=h1.form;obtain⟨a2,c2,rfl⟩:=h2.form;obtain⟨n,gM⟩:∃ n,n=l1.length:=⟨_,rfl⟩;obtain⟨m,s5⟩:∃ m,m=l2.length:=⟨_,rfl⟩;rw[<-gM]at h1 hn ⊢;rw[<-s5]at h2 ⊢;have HN:=hid gM;have HM:=hid s5;have H1:=hid h1;have H2:=hid h2;have HE:=hid fun s t W=>iq s t W
 by_cases Wk:n=m
 ·subst Wk
  obtain⟨r,hr⟩:∃ r,r=(l1==l2):=⟨_,rfl⟩;rw[<-hr];have HR:=hid hr;clear h1 h2 gM s5 hr;go_enter Tryz.func47,Tryz.ntmps47;go_wp2;go_loopw [13] (fun i wr=>∃ k:Nat,k<=n/\i=.int .i64 k/\(∀ i x y,i<k->l1[i]? =some x->l2[i]? =some y->x=y)/\Ext w wr) (fun i _=>n-(intOf i).toNat);case atStart=>exact⟨0,by omega,rfl,fun i x y hi=>by omega,Ext.refl _⟩
  case round=>
   obtain⟨k,hk,rfl,ha,hx⟩:=hrel;obtain⟨wo,rfl⟩:∃ wo:World,wo=wr:=⟨_,rfl⟩;have HX:=hid hx;have HA:=hid ha;clear ha;by_cases hlt:k<n
   ·obtain⟨s,hs⟩:∃ s,l1[k]? =some s:=⟨_,List.getElem?_eq_getElem (by have:=HN.out;omega)⟩
    obtain⟨t,ht⟩:∃ t,l2[k]? =some t:=⟨_,List.getElem?_eq_getElem (by have:=HM.out;omega)⟩;obtain⟨b,off,rfl,hb,d0,d1,d2,d3⟩:=(H1.out.below hx.below).elem hs;obtain⟨b',off',rfl,hb',e0,e1,e2,e3⟩:=(H2.out.below hx.below).elem ht;have ed:(k:Int)<n:=by omega
    have HS:=hid hs;have HT:=hid ht;obtain⟨q,hq⟩:∃ q,q=(s==t):=⟨_,rfl⟩;have heq:∀ W,(Op.equalIn 10000 70 (.agg #[.int .u64 (wd s 0).toNat,.int .u64 (wd s 1).toNat,.int .u64 (wd s 2).toNat,.int .u64 (wd s 3).toNat]) (.agg #[.int .u64 (wd t 0).toNat,.int .u64 (wd t 1).toNat,.int .u64 (wd t 2).toNat,.int .u64 (wd t 3).toNat])).run Tryz.prog W=.ok q W:=fun W=>by
     have h1:=HE.out s t W;rw[<-hq]at h1;exact h1
    have HQ:=hid hq;clear hs ht hx hq;cases q with
    | true=>
     go_wp2
     go_quiet (fail)
     go_wp2
     exact⟨⟨k+1,by omega,by go_num,fun i x y hi hx hy=>by
      by_cases e:i=k
      ·subst e
       rw[HS.out]at hx;rw[HT.out]at hy;cases hx;cases hy;exact beq_iff_eq.1 HQ.out.symm
      ·exact HA.out i x y (by omega) hx hy,qg HX.out nq⟩,by simp[intOf];omega⟩
    | false=>
     have fK:=hid (HR.out.trans (PU HS.out HT.out (beq_eq_false_iff_ne.1 HQ.out.symm)));go_wp2
     go_quiet (fail)
     go_wp2;go_ret;exact⟨by rw[fK.out];rfl,qg HX.out nq⟩
   ·obtain rfl:k=n:=by omega
    have fK:=hid (HR.out.trans (EC HN.out.symm HM.out.symm HA.out));clear hx;go_wp2;go_ret;exact⟨by rw[fK.out];rfl,HX.out⟩
 ·have e1:(l1==l2)=false:=AU (by omega)
  have d1:decide ((n:Int)=m)=false:=decide_eq_false (by omega);rw[e1];clear h1 h2 gM s5 e1 d1;have d2:((n:Int)==(m:Int))=false:=by rw[beq_eq_false_iff_ne];omega
  have d3:((n:Int) != (m:Int))=true:=by simp;omega
  have d4:(n==m)=false:=by rw[beq_eq_false_iff_ne];exact Wk
  go_enter Tryz.func47,Tryz.ntmps47
  go_wp2;go_ret;exact⟨rfl,Ext.refl _⟩
end Go.Proofs.YtbiboekhakbnpaaGreatDoor
namespace Go.Proofs.YtbiboekhakbnpaaGreatDoor
open Go Go.RowKit Go.Shelf Go.Maps
theorem my {d:DF} {s:Nat} (hs:s<d.nx.length) (h:d.mS s=false):d.right=false:=by
 unfold DF.right;have:(List.range d.nx.length).all d.mS=false:=by
  rw[List.all_eq_false];exact⟨s,by simpa using hs,by rw[h];decide⟩
 rw[this,Bool.and_false]
theorem Im {d:DF} (h1:1<=d.nx.length) (h2:d.nx.length<=4000) (h3:d.mr.length=d.nx.length) (h4:(partsOf d.cl==d.cl)=true) (h:∀ s,s<d.nx.length->d.mS s=true):d.right=true:=by
 unfold DF.right;have:(List.range d.nx.length).all d.mS=true:=by
  rw[List.all_eq_true];intro s hs;exact h s (by simpa using hs)
 rw[this,decide_eq_true h1,decide_eq_true h2,decide_eq_true h3,h4];rfl
theorem pg {d:DF} (h:d.nx.length<1\/4000<d.nx.length\/d.mr.length≠d.nx.length\/(partsOf d.cl==d.cl)=false):d.right=false:=by
 unfold DF.right;rcases h with h | h | h | h
 ·rw[show decide (1<=d.nx.length)=false from decide_eq_false (by omega)];simp
 ·rw[show decide (d.nx.length<=4000)=false from decide_eq_false (by omega)];simp
 ·rw[show decide (d.mr.length=d.nx.length)=false from decide_eq_false h];simp
 ·rw[h];simp
theorem PW {d:DF} {s:Nat} (h:(d.nx.getD s []).length≠d.cl.length):d.mS s=false:=by unfold DF.mS;rw[show decide ((d.nx.getD s []).length=d.cl.length)=false from decide_eq_false h];simp
theorem PX {d:DF} {s:Nat} (h:(d.nx.getD s []).any (fun x=> !OJ d.nx.length x)=true):d.mS s=false:=by
 unfold DF.mS;have:(d.nx.getD s []).all (OJ d.nx.length)=false:=by
  rw[List.all_eq_false];obtain⟨x,hx,hn⟩:=List.any_eq_true.1 h;exact⟨x,hx,by simpa using hn⟩
 rw[this];simp
theorem Gz {d:DF} {s:Nat} (h:qh (d.mr.getD s [])=false):d.mS s=false:=by unfold DF.mS;rw[h,Bool.and_false]
theorem PY {d:DF} {s:Nat} (h1:(d.nx.getD s []).length=d.cl.length) (h2:(d.nx.getD s []).any (fun x=> !OJ d.nx.length x)=false) (h3:qh (d.mr.getD s [])=true):d.mS s=true:=by
 unfold DF.mS;have:(d.nx.getD s []).all (OJ d.nx.length)=true:=by
  rw[List.all_eq_true];intro x hx;have:=List.any_eq_false.1 h2 x hx;simpa using this
 rw[this,h3,decide_eq_true h1];rfl
theorem Ln {l:List Int} {k:Nat} (hk:k<l.length) (h:qZ l k=false):qh l=false:=by unfold qh;rw[List.all_eq_false];exact⟨k,by simpa using hk,by rw[h];decide⟩
theorem PZ {l:List Int} (h:∀ k,k<l.length->qZ l k=true):qh l=true:=by unfold qh;rw[List.all_eq_true];intro k hk;exact h k (by simpa using hk)
theorem Lp {l:List Int} {k:Nat} {x:Int} (hx:l[k]? =some x):qZ l k=(decide (lD l k<x)&&decide (x<=255)):=by unfold qZ;rw[getD_some hx]
theorem AW {l:List Int} {k:Nat} {x:Int} (hx:l[k]? =some x):lD l (k+1)=x:=by unfold lD;rw[if_neg (by omega),Nat.add_sub_cancel,getD_some hx]
def aO.row (base:Nat) (e:TypeId) (size n:Nat) (xs:List Value):aO (Move false (fun _=>False)) where
 P:=fun v=>∃ a c,v=.slice a n c
 H:=fun v W=>W.ownsRow base e size v n xs
 jX:=.slice none n 0
 pw:=⟨none,0,rfl⟩
 st:=fun _ _ _ hm _ h=>ag h hm.below
theorem nK (v:Value) (d:DF) (w:World) (h:Gy w v d) (sm:Sm d): Calls Tryz.prog 21 #[v] w fun e w'=>e=.returned (.bool d.right)/\Below w.heap.size w w':=by
 obtain⟨v0,v1,v2,rfl,h0,h1,h2⟩:=h;obtain⟨a0,c0,rfl⟩:=h0.1.form;obtain⟨a1,c1,rfl⟩:=h1.form;obtain⟨a2,c2,rfl⟩:=h2.form;obtain⟨n0,cN⟩:∃ n,n=d.cl.length:=⟨_,rfl⟩;obtain⟨n1,fL⟩:∃ n,n=d.nx.length:=⟨_,rfl⟩;obtain⟨n2,jc⟩:∃ n,n=d.mr.length:=⟨_,rfl⟩;obtain⟨r,hr⟩:∃ r,r=d.right:=⟨_,rfl⟩;obtain⟨q,hq⟩:∃ q,q=(partsOf d.cl==d.cl):=⟨_,rfl⟩;have l0:=sm.cl;have l1:=sm.nx;have l2:=sm.mr;rw[<-cN]at h0 l0 ⊢;rw[<-fL]at h1 l1 ⊢;rw[<-jc]at h2 l2 ⊢;rw[<-hr];have j8:=hid cN;have gS:=hid fL;have kI:=hid jc;have HR:=hid hr;have HQ:=hid hq;have H0:=hid h0;have H1:=hid h1;have H2:=hid h2;have SM:=hid sm;obtain⟨pl,hpl⟩:∃ pl,pl=partsOf d.cl:=⟨_,rfl⟩;have CP:Hid (∀ W,cd W (.slice a0 n0 c0) d.cl->Calls Tryz.prog 50 #[.slice a0 n0 c0] W fun e w'=>∃ v,e=.returned v/\w'.ownsRow W.heap.size 70 4 v pl.length (aD pl)/\Below W.heap.size W w'):=fun W h=>by rw[hpl];exact wI d.cl _ W h (by have:=SM.out.cl;omega)
 have CE:Hid (∀ W u,cd W u pl->cd W (.slice a0 n0 c0) d.cl->Calls Tryz.prog 47 #[u,.slice a0 n0 c0] W fun e w'=>e=.returned (.bool q)/\Ext W w'):=fun W u h k=>by
  rw[hq];rw[hpl]at h;exact tC _ _ _ _ W h k (by rw[(fy d.cl).length_eq];have:=eo d.cl;omega)
 clear h0 h1 h2 cN fL jc hr hq sm hpl;go_enter Tryz.func21,Tryz.ntmps21;go_wp2;refine au ?_;intro V hV;have hB1:ak V w.heap.size #[.slice a0 n0 c0,.slice a1 n1 c1,.slice a2 n2 c2] 31:=by rw[hV];exact(ak.new w _ _).alloc _
 have hB2:ak V (w.heap.size+1) #[.int .i64 n1] 3:=by rw[hV];exact(ak.new (w.alloc _) _ _).at (by simp)
 have hx:Below w.heap.size w V:=by rw[hV];exact(((Ext.refl w).alloc _).alloc _).below
 have kP:=hid hB1;have eB:=hid hB2;have HX:=hid hx;clear hV hB1 hB2 hx;by_cases q1:n1<1
 ·have d1:decide ((n1:Int)<1)=true:=decide_eq_true (by omega)
  have d1':decide (n1<1)=true:=decide_eq_true q1;refine aA false (fun _=>False) (by kernel_rfl) 22 [0,1,3,7,15,31,63,127,255,511,127,2047,4095,8191,16383,32767,65535,16383,147455,524287,1048575,2097151] (fun i=>i==16 || i==19) (by kernel_rfl) (fun i=>if i=16 then aO.row w.heap.size 70 4 pl.length (aD pl)else if i=19 then aO.vo _ (.bool q)else aO.any _) ?_;intro C hC hne;have HC:=hid hC;have f0:=ay hC (p:=⟨w.heap.size,0,none⟩) (by have:=kP.out.lt;exact this) (fun h=>h) (kP.out.cell 0);have f2:=ay hC (p:=⟨w.heap.size,2,none⟩) (by have:=kP.out.lt;exact this) (fun h=>h) (kP.out.cell 2);have f3:=ay hC (p:=⟨w.heap.size+1,0,none⟩) (by have:=eB.out.lt;exact this) (fun h=>h) (eB.out.cell 0);clear hC
  repeat (refine ai (fun K hK=>?_);first | (refine br rfl ?_;try go_simp;refine hK _ _ ?_;clear hK K) | (refine aZ rfl rfl ?_;unfold ar;go_simp;refine hK _ _ ?_;clear hK K))
  refine aY (fun W hW hH=>?_);have hM:=(HC.out W).1 hW;have fK:=hid (HR.out.trans (pg (.inl (by rw[<-gS.out];exact q1))));clear hW hH f0 f2 f3;go_wp2;go_ret;exact⟨by rw[fK.out];rfl,HX.out.trans (hM.below.mono HX.out.size)⟩
 ·have d1:decide ((n1:Int)<1)=false:=decide_eq_false (by omega)
  have d1':decide (n1<1)=false:=decide_eq_false q1;by_cases q2:4000<n1
  ·have d2:decide ((4000:Int)<n1)=true:=decide_eq_true (by omega)
   have d2':decide (4000<n1)=true:=decide_eq_true q2;refine aA false (fun _=>False) (by kernel_rfl) 22 [0,1,3,7,15,31,63,127,255,511,127,2047,4095,8191,16383,32767,65535,16383,147455,524287,1048575,2097151] (fun i=>i==16 || i==19) (by kernel_rfl) (fun i=>if i=16 then aO.row w.heap.size 70 4 pl.length (aD pl)else if i=19 then aO.vo _ (.bool q)else aO.any _) ?_;intro C hC hne;have HC:=hid hC;have f0:=ay hC (p:=⟨w.heap.size,0,none⟩) (by have:=kP.out.lt;exact this) (fun h=>h) (kP.out.cell 0);have f2:=ay hC (p:=⟨w.heap.size,2,none⟩) (by have:=kP.out.lt;exact this) (fun h=>h) (kP.out.cell 2);have f3:=ay hC (p:=⟨w.heap.size+1,0,none⟩) (by have:=eB.out.lt;exact this) (fun h=>h) (eB.out.cell 0);clear hC
   repeat (refine ai (fun K hK=>?_);first | (refine br rfl ?_;try go_simp;refine hK _ _ ?_;clear hK K) | (refine aZ rfl rfl ?_;unfold ar;go_simp;refine hK _ _ ?_;clear hK K))
   refine aY (fun W hW hH=>?_);have hM:=(HC.out W).1 hW;have fK:=hid (HR.out.trans (pg (.inr (.inl (by rw[<-gS.out];exact q2)))));clear hW hH f0 f2 f3;go_wp2;go_ret;exact⟨by rw[fK.out];rfl,HX.out.trans (hM.below.mono HX.out.size)⟩
  ·have d2:decide ((4000:Int)<n1)=false:=decide_eq_false (by omega)
   have d2':decide (4000<n1)=false:=decide_eq_false q2;by_cases q3:n2=n1
   ·obtain rfl:n1=n2:=q3.symm
    clear q3;refine aA false (fun _=>False) (by kernel_rfl) 22 [0,1,3,7,15,31,63,127,255,511,127,2047,4095,8191,16383,32767,65535,16383,147455,524287,1048575,2097151] (fun i=>i==16 || i==19) (by kernel_rfl) (fun i=>if i=16 then aO.row w.heap.size 70 4 pl.length (aD pl)else if i=19 then aO.vo _ (.bool q)else aO.any _) ?_;intro C hC hne;have HC:=hid hC;have f0:=ay hC (p:=⟨w.heap.size,0,none⟩) (by have:=kP.out.lt;exact this) (fun h=>h) (kP.out.cell 0);have f2:=ay hC (p:=⟨w.heap.size,2,none⟩) (by have:=kP.out.lt;exact this) (fun h=>h) (kP.out.cell 2);have f3:=ay hC (p:=⟨w.heap.size+1,0,none⟩) (by have:=eB.out.lt;exact this) (fun h=>h) (eB.out.cell 0);clear hC
    repeat (refine ai (fun K hK=>?_);first | (refine br rfl ?_;try go_simp;refine hK _ _ ?_;clear hK K) | (refine aZ rfl rfl ?_;unfold ar;go_simp;refine hK _ _ ?_;clear hK K))
    refine ai (fun K hK=>?_);refine bA rfl rfl (aO.row w.heap.size 70 4 pl.length (aD pl)) rfl (fun W hW hN=>?_) (fun v hv=>?_)
    ·have hM:=(HC.out W).1 hW
     clear hW;go_simp;refine aT ((CP.out _ ((H0.out.1.below HX.out).below hM.below)).mono ?_);rintro e w2 ⟨vp,rfl,ho,hx⟩;exact⟨_,rfl,Move.ah hx,ownsRow_form ho,ax ho (Nat.le_trans HX.out.size hM.size)⟩
    obtain⟨ap,cp,rfl⟩:=hv;go_simp;refine hK _ _ ?_;clear hK K
    repeat (refine ai (fun K hK=>?_);first | (refine br rfl ?_;try go_simp;refine hK _ _ ?_;clear hK K) | (refine aZ rfl rfl ?_;unfold ar;go_simp;refine hK _ _ ?_;clear hK K))
    refine ai (fun K hK=>?_);refine bA rfl rfl (aO.vo _ (.bool q)) rfl (fun W hW hN=>?_) (fun v hv=>?_)
    ·have hM:=(HC.out W).1 hW
     clear hW;go_simp;refine aT ((CE.out _ _ (j3 (hN.at 0 rfl (by kernel_rfl))) ((H0.out.1.below HX.out).below hM.below)).mono ?_);rintro e w2 ⟨rfl,hx⟩;exact⟨_,rfl,Move.Tm hx,rfl,trivial⟩
    replace hv:v=_:=hv;subst hv;go_simp;refine hK _ _ ?_;clear hK K
    repeat (refine ai (fun K hK=>?_);first | (refine br rfl ?_;try go_simp;refine hK _ _ ?_;clear hK K) | (refine aZ rfl rfl ?_;unfold ar;go_simp;refine hK _ _ ?_;clear hK K))
    refine aY (fun W hW hH=>?_);have hM:=(HC.out W).1 hW;have XU:=hid (kP.out.below hM.below kP.out.lt);have TX:=hid (eB.out.below hM.below eB.out.lt);have XX:=hid (HX.out.trans (hM.below.mono HX.out.size));clear hM hW hH f0 f2 f3 HC kP eB HX CP CE d1 d1' d2 d2';cases q with
    | false=>
     have fK:=hid (HR.out.trans (pg (.inr (.inr (.inr HQ.out.symm)))));go_wp2;go_ret;exact⟨by rw[fK.out];rfl,XX.out⟩
    | true=>
     have b0:=XU.out.cell 0;have b1:=XU.out.cell 1;have b2:=XU.out.cell 2;have b3:=TX.out.cell 0;simp only[List.getElem?_toArray,List.getElem?_cons_zero,List.getElem?_cons_succ]at b0 b1 b2 b3;have H1':=hid (H1.out.below XX.out);have H2':=hid (H2.out.below XX.out);clear H1 H2 H0;go_wp2
     go_loop [37] (fun i=>∃ s:Nat,s<=n1/\i=.int .i64 s/\∀ j,j<s->d.mS j=true) (fun i=>n1-(intOf i).toNat)
     case atStart=>exact⟨0,by omega,rfl,fun j hj=>by omega⟩
     case round=>
      obtain⟨s,hs,rfl,ha⟩:=hrel;have HA:=hid ha;clear ha;by_cases hlt:s<n1
      ·obtain⟨l,hl⟩:∃ l,d.nx[s]? =some l:=⟨_,List.getElem?_eq_getElem (by have:=gS.out;omega)⟩
       obtain⟨m,hm⟩:∃ m,d.mr[s]? =some m:=⟨_,List.getElem?_eq_getElem (by have:=kI.out;omega)⟩;obtain⟨g1,o1,e1,k1,rfl,hg1,x1,y1⟩:=H1'.out.elem hl;obtain⟨g2,o2,e2,k2,rfl,hg2,x2,y2⟩:=H2'.out.elem hm;have gl:=getD_some (d:=([]:List Int)) hl;have gm:=getD_some (d:=([]:List Int)) hm;have ll:=SM.out.vO l (List.mem_of_getElem? hl);have lm:=SM.out.PS m (List.mem_of_getElem? hm);have hs1:s<d.nx.length:=by have:=gS.out;omega
       have Hs1:=hid hs1;have ed:(s:Int)<n1:=by omega
       obtain⟨j,hj⟩:∃ j,j=l.length:=⟨_,rfl⟩;obtain⟨k,hk⟩:∃ k,k=m.length:=⟨_,rfl⟩;rw[<-hj]at x1 y1 ll;rw[<-hk]at x2 y2 lm;have HJ:=hid hj;have HK:=hid hk;have GL:=hid gl;have GM:=hid gm;have Y1:=hid y1;have Y2:=hid y2;clear hl hm hj hk gl gm y1 y2 hs1;by_cases Wn:j=n0
       ·subst Wn
        obtain⟨z,hz⟩:∃ z,z=l.any (fun x=> !OJ n1 x):=⟨_,rfl⟩
        have CC:Hid (Calls Tryz.prog 51 #[.slice e1 j k1,.func (.func 52) #[] #[.pointer (some ⟨w.heap.size+1,0,none⟩)]] W fun e w'=>e=.returned (.bool z)/\w'=W):=hid (by
         rw[hz]
         exact pd _ _ (fun x=> !OJ n1 x) _ l W Y1.out (by rw[<-HJ.out];exact ll) Il (fun x W' Et=>EB x n1 _ W' ((TX.out.below Et TX.out.lt).cell 0)))
        have HZ:=hid hz;clear hz;cases z with
        | true=>
         have fK:=hid (HR.out.trans (my Hs1.out (PX (by rw[GL.out, <-gS.out];exact HZ.out.symm))));go_wp2_with fail
         refine(CC.out).mono ?_;rintro e w' ⟨rfl,hw⟩;replace hw:=hw.symm;subst hw;go_wp2;go_ret;exact⟨by rw[fK.out];rfl,XX.out⟩
        | false=>
         go_wp2_with fail
         refine(CC.out).mono ?_;rintro e w' ⟨rfl,hw⟩;replace hw:=hw.symm;subst hw;go_wp2
         go_loop [59,6] (fun i p=>∃ c:Nat,c<=k/\i=.int .i64 c/\p=.int .i64 (lD m c)/\∀ i,i<c->qZ m i=true) (fun i _=>k-(intOf i).toNat)
         case atStart=>exact⟨0,by omega,rfl,rfl,fun i hi=>by omega⟩
         case round=>
          obtain⟨c,hc,rfl,rfl,hc2⟩:=hrel;have OM:=hid hc2;clear hc2;by_cases TY:c<k
          ·obtain⟨x,hx⟩:∃ x,m[c]? =some x:=⟨_,List.getElem?_eq_getElem (by have:=HK.out;omega)⟩
           obtain⟨g3,o3,rfl,hg3,x3⟩:=Y2.out.elem hx;have x3':W.cell? ⟨g3,o3+c,none⟩=some (.int .i64 x):=x3;have hci:(c:Int)<k:=by omega
           have Sc:=hid (Lp hx);have HPS:=hid (AW hx);have HXM:=hid hx;clear hx x3;generalize lD m c=pv at Sc ⊢;by_cases h1:x<=pv
           ·have d1:decide (x<=pv)=true:=decide_eq_true h1
            have fK:=hid (HR.out.trans (my Hs1.out (Gz (by rw[GM.out];exact Ln (by rw[<-HK.out];exact TY) (by rw[Sc.out,show decide (pv<x)=false from decide_eq_false (by omega)];rfl)))));go_wp2;go_ret;exact⟨by rw[fK.out];rfl,XX.out⟩
           ·have d1:decide (x<=pv)=false:=decide_eq_false h1
            by_cases h2:255<x
            ·have d2:decide (255<x)=true:=decide_eq_true h2
             have fK:=hid (HR.out.trans (my Hs1.out (Gz (by rw[GM.out];exact Ln (by rw[<-HK.out];exact TY) (by rw[Sc.out,show decide (x<=255)=false from decide_eq_false (by omega),Bool.and_false])))));go_wp2;go_ret;exact⟨by rw[fK.out];rfl,XX.out⟩
            ·have d2:decide (255<x)=false:=decide_eq_false h2
             go_wp2
             go_round
             case rel=>exact⟨c+1,by omega,by go_num,by rw[HPS.out],fun i hi=>by
              by_cases e:i=c
              ·subst e;rw[Sc.out,decide_eq_true (show pv<x by omega),decide_eq_true (show x<=255 by omega)];rfl
              ·exact OM.out i (by omega)⟩
             case measure=>simp[intOf];omega
          ·obtain rfl:c=k:=by omega
           go_wp2
           go_round
           case rel=>
            have hrow:∀ j',j'<s+1->d.mS j'=true:=fun j' hj'=>by
             by_cases e:j'=s
             ·rw[e]
              exact PY (by rw[GL.out, <-HJ.out];exact j8.out) (by rw[GL.out, <-gS.out];exact HZ.out.symm) (by rw[GM.out];exact PZ fun i hi=>OM.out i (by rw[HK.out];exact hi))
             ·exact HA.out j' (by omega)
            exact⟨_,_,_,_,_,_,⟨s+1,by omega,by go_num,hrow⟩,rfl,rfl,rfl,rfl,rfl,rfl⟩
           case measure=>simp[intOf];omega
       ·have d3:((j:Int)==(n0:Int))=false:=by rw[beq_eq_false_iff_ne];omega
        have d3':((j:Int) != (n0:Int))=true:=by simp;omega
        have ac4:(j==n0)=false:=by rw[beq_eq_false_iff_ne];exact Wn
        have fK:=hid (HR.out.trans (my Hs1.out (PW (by rw[GL.out, <-HJ.out, <-j8.out];exact Wn))));go_wp2;go_ret;exact⟨by rw[fK.out];rfl,XX.out⟩
      ·obtain rfl:s=n1:=by omega
       have fK:=hid (HR.out.trans (Im (by rw[<-gS.out];omega) (by rw[<-gS.out];omega) (by rw[<-gS.out, <-kI.out]) HQ.out.symm (fun j hj=>HA.out j (by rw[gS.out];exact hj))));go_wp2;go_ret;exact⟨by rw[fK.out];rfl,XX.out⟩
   ·have d3:((n2:Int)==(n1:Int))=false:=by rw[beq_eq_false_iff_ne];omega
    have d3':((n2:Int) != (n1:Int))=true:=by simp;omega
    have ac4:(n2==n1)=false:=by rw[beq_eq_false_iff_ne];exact q3
    refine aA false (fun _=>False) (by kernel_rfl) 22 [0,1,3,7,15,31,63,127,255,511,127,2047,4095,8191,16383,32767,65535,16383,147455,524287,1048575,2097151] (fun i=>i==16 || i==19) (by kernel_rfl) (fun i=>if i=16 then aO.row w.heap.size 70 4 pl.length (aD pl)else if i=19 then aO.vo _ (.bool q)else aO.any _) ?_;intro C hC hne;have HC:=hid hC;have f0:=ay hC (p:=⟨w.heap.size,0,none⟩) (by have:=kP.out.lt;exact this) (fun h=>h) (kP.out.cell 0);have f2:=ay hC (p:=⟨w.heap.size,2,none⟩) (by have:=kP.out.lt;exact this) (fun h=>h) (kP.out.cell 2);have f3:=ay hC (p:=⟨w.heap.size+1,0,none⟩) (by have:=eB.out.lt;exact this) (fun h=>h) (eB.out.cell 0);clear hC
    repeat (refine ai (fun K hK=>?_);first | (refine br rfl ?_;try go_simp;refine hK _ _ ?_;clear hK K) | (refine aZ rfl rfl ?_;unfold ar;go_simp;refine hK _ _ ?_;clear hK K))
    refine aY (fun W hW hH=>?_);have hM:=(HC.out W).1 hW;have fK:=hid (HR.out.trans (pg (.inr (.inr (.inl (by rw[<-gS.out, <-kI.out];exact q3))))));clear hW hH f0 f2 f3;go_wp2;go_ret;exact⟨by rw[fK.out];rfl,HX.out.trans (hM.below.mono HX.out.size)⟩
theorem fY (v:Value) (d:DF) (w:World) (h:gN w v d) (sm:Sm d): Calls Tryz.prog 21 #[v] w fun e w'=>e=.returned (.bool d.right)/\Below w.heap.size w w':=nK v d w h.e sm
end Go.Proofs.YtbiboekhakbnpaaGreatDoor
