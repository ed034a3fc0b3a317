/- minimal.parts: what the search has in memory. -/
import Derived.Test.YtjgccapbphadjaaGreatDoorOM22
set_option maxRecDepth 100000
set_option maxHeartbeats 16000000
open Go.Lib (hid)
namespace Go.Proofs.YtjgccapbphadjaaGreatDoor
section
open Go Go.ChangeShapes Go.WideShapes Go.ChangeAt Go.RowKit Go.Deep
section
variable {H:Type} {enc:TypeId×Value→H} {W:World}
theorem Gn {fuel:Nat} {a:Option Addr} {len cap:Nat} {y:DataW H×List MemPlace} (h:DataW.trod enc Tryz.prog W 0 (fun _=>true) true fuel 22 [.slice a len cap]=some y) (hz:∀ m∈y.1.weights Tryz.prog 22,m<=reachBytes): ∃ l:List (List (Nat×Nat×Nat)),Gl W (.slice a len cap) l/\l.length<=1000000000000000:=by
 have hb3:1<=Tryz.prog.bytesOf 116:=by
  have:Tryz.prog.bytesOf 116=24:=by kernel_rfl
  omega
 have h0:=h;have YZ:=rN Tryz.underlying22 hb3 h0 hz;rcases open_slice Tryz.underlying22 h with⟨hcs,_⟩ | ⟨a',len',cap',m,n,D,Pl,hcs,_,hl,hm,sw,hd,hi⟩
 ·have:Value.slice a len cap=.slice none 0 0:=by simpa using hcs
  cases this
  exact⟨[],.inl ⟨none,0,rfl,rfl⟩,by simp⟩
 ·have:Value.slice a len cap=.slice (some a') len' cap':=by simpa using hcs
  cases this
  rcases Nat.eq_zero_or_pos len with h1 | h1
  ·subst h1
   exact⟨[],.inl ⟨some a',cap,rfl,rfl⟩,by simp⟩
  have hc:Tryz.prog.cellsOf 116=1:=by kernel_rfl
  rw[hc]at hi;rw[if_pos rfl]at sw;have hd1:y.1=.slice ((List.range len).map D) ((List.range (m-len)).map fun j=>D (len+j)):=congrArg Prod.fst hd;have hD:∀ i,i<len->∀ w∈(D i).weights Tryz.prog 116,w<=reachBytes:=fun i gL w hw=>by
   refine hz w ?_;rw[hd1];simp only[DataW.weights,Tryz.underlying22,List.mem_cons,List.mem_append];exact .inr (.inl (pB (List.mem_map.2 ⟨i,List.mem_range.2 gL,rfl⟩) w hw))
  obtain⟨b,off,spot⟩:=a';have el:∀ i,i<len->∃ s:List (Nat×Nat×Nat),s.length<=1000000000000000/\∃ u,dR W u s/\W.cell? ((⟨b,off,spot⟩:Addr).add (i*1))=some u:=fun i gL=>by
   obtain⟨cs',h2,h3⟩:=hi i (by omega);obtain⟨_,Fc,hat⟩:=World.cells?_some h2;match cs',Fc with
   | [c0],_=>
   obtain⟨st,s0,sl⟩:=Fw h3 (hD i gL);have g0:=hat 0 (by decide);have e:∀ A:Addr,A.add 0=A:=fun A=>by simp[Addr.add]
   rw[e]at g0;exact⟨st,sl,c0,s0,g0⟩
  have hspot:spot=none:=by obtain⟨s,_,u,_,g0⟩:=el 0 h1;simpa[Addr.add]using World.cell?_spot g0
  subst hspot;have hb:b<W.heap.size:=by
   obtain⟨s,_,u,_,g0⟩:=el 0 h1;rw[nG]at g0;exact wF g0
  obtain⟨L,hL⟩:=choose_lt (α:=List (Nat×Nat×Nat)) (p:=fun i s=>s.length<=1000000000000000/\∃ u,dR W u s/\W.cell? ⟨b,off+i,none⟩=some u) (n:=len) (fun i gL=>by
   obtain⟨s,q1,u,q2,g0⟩:=el i gL;rw[nG,Nat.mul_one]at g0
   exact⟨s,q1,u,q2,g0⟩)
  refine⟨(List.range len).map L,.inr ⟨b,off,cap,by simp,hb,by simpa using hl,?_,fun i s hx=>?_⟩,by simpa using YZ⟩
  ·intro e
   have:=congrArg List.length e;simp at this;omega
  ·simp only[aO,Option.map_eq_some_iff,Ov]at hx
   obtain⟨k,⟨hk,rfl⟩,rfl⟩:=hx;simp at hk ⊢;exact hL i hk
theorem zj {r:Go.Reach} {b0:Nat} {v:Value} (mP:Value.okWide Tryz.prog W r b0 24 v):∃ a n c v1,v=.agg #[.slice a n c,v1]:=by
 simp only[Value.okWide,Tryz.underlying24]at mP;obtain⟨cs,rfl,hsz,ts,LY,_,hrow⟩:=mP;have e:Tryz.prog.cellTypes Tryz.prog.depth 24=some [22,5]:=by kernel_rfl
 rw[e]at LY;cases LY;have hc:Tryz.prog.cellsOf 24=2:=by kernel_rfl
 rw[hc]at hsz;obtain⟨l⟩:=cs;match l,hsz with
 | [v0,v1],_=>
  obtain⟨u,hu,h⟩:=hrow 0 v0 rfl;cases hu;have h5:Value.okWide Tryz.prog W r b0 22 v0:=by simp only[Value.okWide,Tryz.underlying22];exact h
  obtain⟨a,n,c,rfl⟩:=okWide_slice Tryz.underlying22 h5;exact⟨a,n,c,v1,rfl⟩
theorem SK {r:Go.Reach} {v:Value} {d:DataW H} {p:List MemPlace} {b0:Nat} (mP:Value.okWide Tryz.prog W r b0 24 v) (h:DataW.Trod enc Tryz.prog W 0 (fun _=>true) true 24 v d p) (hz:∀ m∈d.weights Tryz.prog 24,m<=reachBytes): ∃ (l:List (List (Nat×Nat×Nat))) (fl:Nat),uE W v l fl/\l.length<=1000000000000000/\fl<256:=by
 obtain⟨a,n,c,v1,rfl⟩:=zj mP;obtain⟨fuel,hf⟩:=h;obtain⟨y0,y1,k,e,_,t0,t1⟩:=trod_struct2 Tryz.underlying24 hf;replace t0:DataW.trod enc Tryz.prog W 0 (fun _=>true) true k 22 [.slice a n c]=some y0:=t0;replace t1:DataW.trod enc Tryz.prog W 0 (fun _=>true) true k 5 [v1]=some y1:=t1;have e1:d=.agg [y0.1,y1.1]:=congrArg Prod.fst e;subst e1
 obtain⟨l,s0,g0⟩:=Gn t0 (fun m hm=>hz m (by
  simp only[DataW.weights,Tryz.underlying24]
  exact DataW.weights_mem_each (j:=0) (ds:=[y0.1,y1.1]) rfl rfl m hm))
 obtain⟨fl,rfl,nY⟩:=rO Tryz.underlying5 t1;exact⟨l,fl,⟨_,rfl,s0⟩,g0,nY⟩
end
end
section
open Go
theorem NP {P:Program} {f:FuncId} {fn:Func} {s:ChangeSpec} {c:OpenClaim} (k1:(c.wf (OpenSpec.ofChange s))=true) (k2:(laidOutB P)=true) (k3:(mapsRowed P)=true) (k4:(fn.params.all (P.readableRec ·))=true) (k5:(namedTie P c.named s.vars)=true) (k6:(c.stops== [])=true) (k7:(P.stops== [])=true) (k8:(c.knobs== [])=true) (k9:(P.stopKnobs== [])=true) (k10:(c.inPlace==P.inPlace f)=true) (k11:(c.unfollowed==P.unfollowed f)=true) (k12:(c.recurses==P.recurses f)=true) (k13:(c.named==P.varsNamed f)=true) (k14:(c.maps==(fn.params.toList++s.plain.varTypes P).any (P.mapsRec ·))=true) (k15:(c.ifaces==(fn.params.toList++s.plain.varTypes P).any (P.ifacesRec ·))=true) (k16:(c.mapsOut==P.mapsAmong fn.resultTypes.toList)=true) (k17:(c.loops==(fn.params.toList++s.plain.varTypes P).any (P.loopsFrom ·))=true) (ahW:(c.wideKeys==(fn.params.toList++s.plain.varTypes P++fn.resultTypes.toList).any (P.wideKeysFrom ·))=true) (k18:(s.vars.all (P.varReadable ·))=true) (k19:(fn.resultTypes.all (fun t=>P.readableRec t&&decide (t<P.types.size)))=true) (k20:(c.ifacesOut==fn.resultTypes.toList.any (P.ifacesRec ·))=true) (k21:(c.loopsOut==fn.resultTypes.toList.any (P.loopsFrom ·))=true) (k22:(c.plainKeys==P.plainKeys)=true) (k23:c.shortTexts.isNone=true) (ahX:P.stopsHeard=true) (k24:P.mayEnter=true) (ahY:(c.lifted==P.liftsFinal)=true) (ahZ:(P.make==some c.make)=true) (k25:(c.kinds==(if c.domain.isEmpty then []else fn.params.toList.map fun t=>match P.underlying t with | some (.int k)=>some k | _=>none))=true) (k26:(c.pinned==c.pinnedBy)=true) (k27:(c.veiled==(fn.params.toList++s.plain.varTypes P++fn.resultTypes.toList).any (P.veiledRec ·))=true) (k28:(c.veiledFits P fn.params.toList (fn.params.toList++s.plain.varTypes P++fn.resultTypes.toList))=true):joinedFacts P f fn s c=true:=by unfold joinedFacts;simp only[Bool.and_eq_true];exact⟨⟨⟨⟨⟨⟨⟨⟨⟨⟨⟨⟨⟨⟨⟨⟨⟨⟨⟨⟨⟨⟨⟨⟨⟨⟨⟨⟨⟨⟨⟨k1,k2⟩,k3⟩,k4⟩,k5⟩,k6⟩,k7⟩,k8⟩,k9⟩,k10⟩,k11⟩,k12⟩,k13⟩,k14⟩,k15⟩,k16⟩,k17⟩,ahW⟩,k18⟩,k19⟩,k20⟩,k21⟩,k22⟩,k23⟩,ahX⟩,k24⟩,ahY⟩,ahZ⟩,k25⟩,k26⟩,k27⟩,k28⟩
theorem JG:(Rows.minimalLeastRow.wf (OpenSpec.ofChange Rows.minimalLeastSpec))=true:=by kernel_rfl
theorem JH:(laidOutB Tryz.prog)=true:=by kernel_rfl
theorem JI:(mapsRowed Tryz.prog)=true:=by kernel_rfl
theorem Gp:((Rows.minimalLeastRow.inPlace==Tryz.prog.inPlace 3))=true:=by kernel_rfl
theorem Gq:((Rows.minimalLeastRow.unfollowed==Tryz.prog.unfollowed 3))=true:=by kernel_rfl
theorem Gr:((Rows.minimalLeastRow.recurses==Tryz.prog.recurses 3))=true:=by kernel_rfl
theorem Gs:((Rows.minimalLeastRow.named==Tryz.prog.varsNamed 3))=true:=by kernel_rfl
theorem Dh:(Tryz.prog.stopsHeard)=true:=by kernel_rfl
theorem Gt:(Tryz.prog.mayEnter)=true:=by kernel_rfl
theorem Di:((Rows.minimalLeastRow.lifted==Tryz.prog.liftsFinal))=true:=by kernel_rfl
theorem Dj:((Tryz.prog.make==some Rows.minimalLeastRow.make))=true:=by kernel_rfl
theorem yl:joinedFacts Tryz.prog 3 Tryz.f3 Rows.minimalLeastSpec Rows.minimalLeastRow=true:=NP JG JH JI (by kernel_rfl) (by kernel_rfl) (by kernel_rfl) (by kernel_rfl) (by kernel_rfl) (by kernel_rfl) Gp Gq Gr Gs (by kernel_rfl) (by kernel_rfl) (by kernel_rfl) (by kernel_rfl) (by kernel_rfl) (by kernel_rfl) (by kernel_rfl) (by kernel_rfl) (by kernel_rfl) (by kernel_rfl) (by kernel_rfl) Dh Gt Di Dj (by kernel_rfl) (by kernel_rfl) (by kernel_rfl) (by kernel_rfl)
end
section
open Go Go.RowKit Go.Shelf Go.Maps
theorem ym (g:Nat) (lb:Array Value) (f:List Int->Bool) (v:Value) (ll:List (List Int)) (w:World) (h:gT w v ll) (hn:ll.length<=1000000) (eg:∀ args w,(callFunc g args).run Tryz.prog w=.ok (.enter g args) w) (hf:∀ l∈ll,∀ a c W,aa w W->bZ aN W (.slice a l.length c) l->ah g (#[.slice a l.length c]++lb) W fun e w'=>e=.returned (.bool (f l))/\aa W w'): ah 69 #[v,.func (.func g) #[] lb] w fun e w'=>e=.returned (.int .i64 (eI f ll))/\aa w w':=by
 obtain⟨a,cap,rfl⟩:=h.form;obtain⟨n,iY⟩:=ag ll.length;rw[<-iY]at h hn ⊢;have H:=hid h;have HN:=hid iY;have HF:=hid hf;obtain⟨r,hr⟩:=ag (eI f ll);rw[<-hr];have HR:=hid hr;clear h iY hf hr;go_enter Tryz.func69,Tryz.ntmps69;go_wp2;go_loopw [8] (fun i wr=>∃ k:Nat,k<=n/\i=.int .i64 k/\(∀ s∈ll.take k,f s=false)/\aa w wr) (fun i _=>n-(intOf i).toNat);case atStart=>exact⟨0,by omega,rfl,fun s hs=>by simp at hs,Below.refl _ _⟩
 case round=>
  obtain⟨k,hk,rfl,ha,hx⟩:=hrel;obtain⟨wo,rfl⟩:=ag (wr:World);have HX:=hid hx;clear hx;by_cases hlt:k<n
  ·obtain⟨s,hs⟩:∃ s,ll[k]? =some s:=⟨_,az (by have:=HN.out;omega)⟩
   obtain⟨b,off,sa,sc,rfl,hb,d0,lQ⟩:=(H.out.below HX.out).elem hs;obtain⟨m,hm⟩:=ag s.length;have H5:=hid (HF.out s (aw hs) sa sc wo HX.out lQ);rw[<-hm]at H5 d0;have HA:=hid ha;have HS:=hid hs;have eG:(k:Int)<n:=by omega
   clear ha hs lQ hm;obtain⟨b1,hb1⟩:=ag (f s);rw[<-hb1]at H5;have qD:=hid hb1;clear hb1;cases b1 with
   | true=>
    have ig:=hid (HR.out.trans (km HS.out qD.out.symm HA.out));go_wp2;refine H5.out.mono ?_;rintro e w2 ⟨rfl,hx⟩;have fK:=hid (HX.out.trans (hx.mono HX.out.size));clear hx;go_wp2;go_ret;exact⟨by rw[ig.out];rfl,fK.out⟩
   | false=>
    go_wp2;refine H5.out.mono ?_;rintro e w2 ⟨rfl,hx⟩;have fK:=hid (HX.out.trans (hx.mono HX.out.size));clear hx;go_wp2;go_roundw;case rel=>exact⟨k+1,by omega,by go_num,oq HS.out qD.out.symm HA.out,fK.out⟩
    case measure=>simp[intOf];omega
  ·obtain rfl:k=n:=by omega
   have ig:=hid (HR.out.trans (kp fun y hy=>ha y (by rw[HN.out,List.take_length];exact hy)));have eG:¬ ((k:Int)<k):=by omega
   clear ha;go_wp2;go_ret;exact⟨by rw[ig.out];rfl,HX.out⟩
theorem sj (g:Nat) (lb:Array Value) (f:List Int->Bool) (v:Value) (ll:List (List Int)) (w:World) (h:gT w v ll) (hn:ll.length<=1000000) (eg:∀ args w,(callFunc g args).run Tryz.prog w=.ok (.enter g args) w) (hf:∀ l∈ll,∀ a c W,aa w W->bZ aN W (.slice a l.length c) l->ah g (#[.slice a l.length c]++lb) W fun e w'=>e=.returned (.bool (f l))/\aa W w'): ah 19 #[v,.func (.func g) #[] lb] w fun e w'=>e=.returned (.bool (ll.any f))/\aa w w':=by have HI:=hid (ym g lb f v ll w h hn eg hf);rw[<-lM];obtain⟨a,cap,rfl⟩:=h.form;clear h hf eg;generalize eI f ll=z at HI ⊢;go_enter Tryz.func19,Tryz.ntmps19;go_wp2_with (go_at_call 69;refine HI.out.mono ?_;rintro e w2 ⟨rfl,hx⟩;have HX:=hid hx;clear hx);go_ret;exact⟨rfl,HX.out⟩
theorem uF {w:World} {p:Addr} {v:Value} (h:w.cell? p=some v):p.block<w.heap.size:=by
 unfold World.cell? at h;split at h
 ·rename_i hb;exact(Array.getElem?_eq_some_iff.1 hb).1
 ·cases h
theorem JL (bi bj i j:Nat) (l:List Int) (a:Option Addr) (n c:Nat) (w:World) (h:bZ aN w (.slice a n c) l) (hi:i<n) (hj:j<n) (ci:w.cell? ⟨bi,0,none⟩=some (.int .i64 i)) (cj:w.cell? ⟨bj,0,none⟩=some (.int .i64 j)): ah 20 #[.slice a n c,.pointer (some ⟨bi,0,none⟩),.pointer (some ⟨bj,0,none⟩)] w fun e w'=>e=.returned (.bool (l.getD i 0 != l.getD j 0))/\aa w w':=by
 have hn:n=l.length:=by obtain⟨a',c',e⟩:=h.form;cases e;rfl
 obtain⟨x,hx⟩:∃ x,l[i]? =some x:=⟨_,az (by omega)⟩;obtain⟨y,hy⟩:∃ y,l[j]? =some y:=⟨_,az (by omega)⟩;obtain⟨b,off,rfl,hb,c0⟩:=h.elem hx;obtain⟨b',off',e,hb',c1⟩:=h.elem hy;cases e;replace c0:w.cell? ⟨b,off+i,none⟩=some (.int .i64 x):=c0;replace c1:w.cell? ⟨b,off+j,none⟩=some (.int .i64 y):=c1;have hii:(i:Int)<n:=by omega
 have Tj:(j:Int)<n:=by omega
 rw[bh,bh,hx,hy];show Calls _ _ _ _ fun e w'=>e=.returned (.bool (x != y))/\_
 clear h hn hx hy;go_enter Tryz.func20,Tryz.ntmps20;have OO:=uF ci;have hbj:=uF cj;go_upto_region 1 with fail
 refine aK false (fun _=>False) (by kernel_rfl) 8 [0,0,3,7,0,0,48,112,255,511] (fun i=>false) (by kernel_rfl) (fun i=>aZ.any _) ?_;intro C hC hne;have HC:=hid hC;have f0:=aC hC (p:=⟨bi,0,none⟩) OO (fun h=>h) ci;have f1:=aC hC (p:=⟨bj,0,none⟩) hbj (fun h=>h) cj;have f2:=aC hC (p:=⟨b,off+i,none⟩) hb (fun h=>h) c0;have f3:=aC hC (p:=⟨b,off+j,none⟩) hb (fun h=>h) c1;clear hC
 repeat (refine au (fun K hK=>?_);first | (refine bX rfl ?_;try go_simp;refine hK _ _ ?_;clear hK K) | (refine bR rfl rfl ?_;unfold aB;go_simp;refine hK _ _ ?_;clear hK K))
 refine bG (fun W hW hH=>?_);have hM:=((HC.out W).1 hW).below;clear hW hH HC hne f0 f1 f2 f3;go_wp2;go_ret;exact⟨rfl,hM⟩
theorem SN (a1 a2:Option Addr) (c1 c2:Nat) (w:World):ah 33 #[.slice a1 0 c1,.slice a2 0 c2] w fun e w'=>e=.returned (.bool true)/\Ext w w':=by
 go_enter Tryz.func33,Tryz.ntmps33
 go_wp2;go_loopw [13] (fun i wr=>i=.int .i64 0/\Ext w wr) (fun _ _=>0);case atStart=>exact⟨rfl,Ext.refl _⟩
 case round=>
  obtain⟨rfl,hx⟩:=hrel;obtain⟨wo,rfl⟩:=ag (wr:World);have HX:=hid hx;clear hx;go_wp2;go_ret;exact⟨rfl,HX.out⟩
theorem take_eq_all {α:Type} {l1 l2:List α} {n:Nat} (h1:n=l1.length) (h2:n=l2.length) (h:l1.take n=l2.take n):l1=l2:=by rw[List.take_of_length_le (by omega),List.take_of_length_le (by omega)]at h;exact h
theorem NQ {α:Type} {l1 l2:List α} {k:Nat} {x:α} (h:l1.take k=l2.take k) (h1:l1[k]? =some x) (h2:l2[k]? =some x):l1.take (k+1)=l2.take (k+1):=by rw[List.take_add_one,List.take_add_one,h,h1,h2]
theorem Lg {α:Type} [BEq α] [LawfulBEq α] {l1 l2:List α} (h:l1.length≠l2.length):(l1==l2)=false:=by rw[beq_eq_false_iff_ne];intro e;exact h (by rw[e])
theorem ZJ {α:Type} [BEq α] [LawfulBEq α] {l1 l2:List α} {k:Nat} {x y:α} (h1:l1[k]? =some x) (h2:l2[k]? =some y) (h:x≠y):(l1==l2)=false:=by rw[beq_eq_false_iff_ne];intro e;rw[e,h2]at h1;exact h (Option.some.inj h1).symm
theorem SP (a1 a2:Option Addr) (n m c1 c2:Nat) (h:n≠m) (w:World):ah 33 #[.slice a1 n c1,.slice a2 m c2] w fun e w'=>e=.returned (.bool false)/\Ext w w':=by
 have d1:((n:Int)==m)=false:=by rw[beq_eq_false_iff_ne];omega
 have d2:((n:Int) != m)=true:=by rw[bne_iff_ne];omega
 have d3:¬ (n:Int)=m:=by omega
 go_enter Tryz.func33,Tryz.ntmps33
 go_wp2;go_ret;exact⟨rfl,Ext.refl _⟩
theorem AO (v1 v2:Value) (l1 l2:List Int) (w:World) (h1:jL aN w v1 l1) (h2:jL aN w v2 l2) (hn:l1.length<=1000000): ah 33 #[v1,v2] w fun e w'=>e=.returned (.bool (l1==l2))/\Ext w w':=by
 by_cases hl:l1.length=l2.length
 ·rcases Nat.eq_zero_or_pos l1.length with h0 | h0
  ·have e1:=List.eq_nil_of_length_eq_zero h0
   have e2:=List.eq_nil_of_length_eq_zero (hl▸h0);subst e1 e2;obtain⟨a1,c1,rfl⟩:=h1.form;obtain⟨a2,c2,rfl⟩:=h2.form;exact SN a1 a2 c1 c2 w
  ·have g1:bZ aN w v1 l1:=by
    rcases h1 with h | ⟨h,_⟩
    ·exact h
    ·rw[h]at h0;exact absurd h0 (by simp)
   have g2:bZ aN w v2 l2:=by
    rcases h2 with h | ⟨h,_⟩
    ·exact h
    ·rw[h]at hl;simp at hl;rw[hl]at h0;exact absurd h0 (by simp)
   exact tL v1 v2 l1 l2 w g1 g2 hn
 ·rw[Lg hl]
  obtain⟨a1,c1,rfl⟩:=h1.form;obtain⟨a2,c2,rfl⟩:=h2.form;exact SP _ _ _ _ _ _ hl w
theorem AP (v1 v2:Value) (l1 l2:List (List Int)) (w:World) (h1:rz w v1 l1) (h2:rz w v2 l2) (hn:l1.length<=1000000) (hs:∀ l∈l1,l.length<=1000000): ah 67 #[v1,v2,.func (.func 33) #[] #[]] w fun e w'=>e=.returned (.bool (l1==l2))/\aa w w':=by
 obtain⟨a1,c1,rfl⟩:=h1.form;obtain⟨a2,c2,rfl⟩:=h2.form;obtain⟨n,iY⟩:=ag l1.length;obtain⟨m,sw⟩:=ag l2.length;rw[<-iY]at h1 hn ⊢;rw[<-sw]at h2 ⊢;obtain⟨r,hr⟩:=ag ((l1==l2));rw[<-hr];have HN:=hid iY;have HM:=hid sw;have HR:=hid hr;have H1:=hid h1;have H2:=hid h2;have HS:=hid hs;have eg:=PK;clear h1 h2 iY sw hr hs;by_cases hnm:n=m
 ·subst hnm
  go_enter Tryz.func67,Tryz.ntmps67
  go_wp2;go_loopw [17] (fun i wr=>∃ k:Nat,k<=n/\i=.int .i64 k/\l1.take k=l2.take k/\aa w wr) (fun i _=>n-(intOf i).toNat);case atStart=>exact⟨0,by omega,rfl,rfl,Below.refl _ _⟩
  case round=>
   obtain⟨k,hk,rfl,ht,hx⟩:=hrel;obtain⟨wo,rfl⟩:=ag (wr:World);have HX:=hid hx;have HT:=hid ht;by_cases hlt:k<n
   ·obtain⟨l,hl⟩:∃ l,l1[k]? =some l:=⟨_,az (by have:=HN.out;omega)⟩
    obtain⟨l',hl'⟩:∃ l,l2[k]? =some l:=⟨_,az (by have:=HM.out;omega)⟩;obtain⟨b,off,e1,k1,rfl,hb,x1,y1⟩:=(H1.out.below hx).elem hl;obtain⟨b',off',e2,k2,rfl,hb',x2,y2⟩:=(H2.out.below hx).elem hl';have eG:(k:Int)<n:=by omega
    obtain⟨q,hq⟩:=ag ((l==l'))
    have CE:Hid (ah 33 #[.slice e1 l.length k1,.slice e2 l'.length k2] wo fun e w'=>e=.returned (.bool q)/\Ext wo w'):=hid (by
     rw[hq];exact AO _ _ l l' wo y1 y2 (HS.out l (aw hl)))
    obtain⟨j,hj⟩:=ag l.length;obtain⟨j',hj'⟩:=ag l'.length;rw[<-hj]at x1 CE;rw[<-hj']at x2 CE;have HQ:=hid hq;have Hu:=hid hl;have Xz:=hid hl';clear hl hl' y1 y2 hx hj hj' ht hq;go_wp2_with fail
    refine(CE.out).mono ?_;rintro e w2 ⟨rfl,hx⟩;have XX:=hid (HX.out.trans (hx.below.mono HX.out.size));clear hx x1 x2;cases q with
    | true=>
     go_wp2;go_roundw;case rel=>exact⟨k+1,by omega,by go_num,NQ HT.out Hu.out (by rw[Xz.out,eq_of_beq HQ.out.symm]),XX.out⟩
     case measure=>simp[intOf];omega
    | false=>
     have hf:r=false:=by rw[HR.out];exact ZJ Hu.out Xz.out (by intro e;have:=HQ.out;rw[e]at this;simp at this)
     go_wp2;go_ret;exact⟨by rw[hf];rfl,XX.out⟩
   ·obtain rfl:k=n:=by omega
    have hf:r=true:=by rw[HR.out,take_eq_all HN.out HM.out HT.out];simp
    clear hx ht;go_wp2;go_ret;exact⟨by rw[hf];rfl,HX.out⟩
 ·have hf:r=false:=by
   rw[HR.out];exact Lg (by have:=HN.out;have:=HM.out;omega)
  have d1:((n:Int)==m)=false:=by rw[beq_eq_false_iff_ne];omega
  have d2:((n:Int) != m)=true:=by rw[bne_iff_ne];omega
  have d3:¬ (n:Int)=m:=by omega
  go_enter Tryz.func67,Tryz.ntmps67
  go_wp2;go_ret;exact⟨by rw[hf];rfl,Below.refl _ _⟩
def Vv (a b:DF):Bool:=a.cl==b.cl&&a.nx==b.nx&&a.mr==b.mr
theorem Vw {a b:DF} :Vv a b=true↔a=b:=by obtain⟨a0,a1,a2⟩:=a;obtain⟨b0,b1,b2⟩:=b;unfold Vv;simp[and_assoc]
theorem nT (v v':Value) (d x:DF) (w:World) (h:Ke w v d) (h':Ke w v' x) (sm:Sm d): ah 17 #[v,v'] w fun e w'=>e=.returned (.bool (Vv d x))/\aa w w':=by
 obtain⟨v0,v1,v2,rfl,h0,h1,h2⟩:=h;obtain⟨a0,c0,rfl⟩:=h0.1.form;obtain⟨a1,c1,rfl⟩:=h1.form;obtain⟨a2,c2,rfl⟩:=h2.form;obtain⟨u0,u1,u2,rfl,g0,g1,g2⟩:=h';obtain⟨b0,e0,rfl⟩:=g0.1.form;obtain⟨b1,e1,rfl⟩:=g1.form;obtain⟨b2,e2,rfl⟩:=g2.form;have SM:=hid sm;have eg:=PK;have H0:=hid h0.1;have H1:=hid h1;have H2:=hid h2;have G0:=hid g0.1;have G1:=hid g1;have G2:=hid g2;clear h0 h1 h2 g0 g1 g2 sm;obtain⟨r,hr⟩:=ag (Vv d x);rw[<-hr];have HR:Hid (r=(d.cl==x.cl&&d.nx==x.nx&&d.mr==x.mr)):=hid hr;clear hr;generalize d.cl.length=n0 at*;generalize d.nx.length=n1 at*;generalize d.mr.length=n2 at*;generalize x.cl.length=m0 at*;generalize x.nx.length=m1 at*;generalize x.mr.length=m2 at*;go_enter Tryz.func17,Tryz.ntmps17;go_wp2_with fail
 refine aH ?_;intro V hV;have B3:Hid (ar V w.heap.size #[.slice a0 n0 c0,.slice a1 n1 c1,.slice a2 n2 c2] 29):=by rw[hV];exact(ar.new _ _ _).alloc _
 have B4:Hid (ar V (w.heap.size+1) #[.slice b0 m0 e0,.slice b1 m1 e1,.slice b2 m2 e2] 29):=by rw[hV];exact(ar.new (w.alloc _) _ _).at (by simp)
 have HX:Hid (aa w V):=by rw[hV];exact(((Ext.refl w).alloc _).alloc _).below
 clear hV;refine(vY _ _ d.cl x.cl V (H0.out.below HX.out) (G0.out.below HX.out) SM.out.cl).mono ?_;rintro e w3 ⟨rfl,hx⟩;have X3:=hid (HX.out.trans (hx.below.mono HX.out.size));have D3:=hid (B3.out.ext hx);have D5:=hid (B4.out.ext hx);clear hx B3 B4 HX;obtain⟨⟨k0,k1,k2⟩,_⟩:=D3.out.three;obtain⟨⟨l0,l1,l2⟩,_⟩:=D5.out.three;obtain⟨q,hq⟩:=ag ((d.cl==x.cl));rw[<-hq]at HR ⊢;clear hq;cases q with
 | false=>
  go_wp2;go_ret;exact⟨by rw[HR.out];rfl,X3.out⟩
 | true=>
  go_wp2_with fail
  refine(AP _ _ d.nx x.nx _ (.inl (H1.out.below X3.out)) (.inl (G1.out.below X3.out)) SM.out.nx SM.out.Bl).mono ?_;rintro e w4 ⟨rfl,hx⟩;have X4:=hid (X3.out.trans (hx.mono X3.out.size));have E3:=hid (D3.out.below hx D3.out.lt);have E5:=hid (D5.out.below hx D5.out.lt);clear hx k0 k1 k2 l0 l1 l2;obtain⟨⟨k0,k1,k2⟩,_⟩:=E3.out.three;obtain⟨⟨l0,l1,l2⟩,_⟩:=E5.out.three;obtain⟨q,hq⟩:=ag ((d.nx==x.nx));rw[<-hq]at HR ⊢;clear hq;cases q with
  | false=>
   go_wp2;go_ret;exact⟨by rw[HR.out];rfl,X4.out⟩
  | true=>
   go_wp2_with fail
   refine(AP _ _ d.mr x.mr _ (.inl (H2.out.below X4.out)) (.inl (G2.out.below X4.out)) SM.out.mr SM.out.mks).mono ?_;rintro e w5 ⟨rfl,hx⟩;have X5:=hid (X4.out.trans (hx.mono X4.out.size));clear hx k0 k1 k2 l0 l1 l2;rw[show(d.mr==x.mr)=r from HR.out.symm];go_wp2;go_ret;exact⟨rfl,X5.out⟩
def aZ.adm (base n0 n1 n2:Nat) (d:DF):aZ (Move false (fun _=>False)) where
 P:=fun v=>∃ a0 c0 a1 c1 a2 c2,v=.agg #[.slice a0 n0 c0,.slice a1 n1 c1,.slice a2 n2 c2]
 H:=fun v W=>bA base W v d
 nW:=.agg #[.slice none n0 0,.slice none n1 0,.slice none n2 0]
 pw:=⟨none,0,none,0,none,0,rfl⟩
 st:=fun _ _ _ hm _ h=>h.below hm.below
theorem fp {d:DF} (rt:Rt d) (v:Value) (W:World) (h:cS W v d):ah 16 #[v] W fun e w'=>e=.returned (.bool true)/\aa W w':=by have:=sL v d W h rt.UZ;rwa[(dH d).2 rt]at this
theorem JM {d:DF} (sm:Sm d) (hr:d.right=false) (v:Value) (W:World) (h:cS W v d):ah 16 #[v] W fun e w'=>e=.returned (.bool false)/\aa W w':=by have:=sL v d W h sm;rwa[hr]at this
theorem aaX {d:DF} (sm:Sm d) (hr:d.right=false) (w:World) (v:Value) (h:cS w v d): ah 12 #[v] w fun e w'=>e=.returned (.tuple #[.agg #[.slice none 0 0,.slice none 0 0,.slice none 0 0],.int .i64 182])/\aa w w':=by
 have CR:Hid (∀ W,aa w W->ah 16 #[v] W fun e w'=>e=.returned (.bool false)/\aa W w'):=hid fun W hW=>JM sm hr v W (h.below hW)
 obtain⟨n0,dh⟩:=ag d.cl.length;obtain⟨n1,fE⟩:=ag d.nx.length;obtain⟨n2,jk⟩:=ag d.mr.length;obtain⟨a0,c0,a1,c1,a2,c2,rfl⟩:=h.form;rw[<-dh, <-fE, <-jk]at h CR ⊢;have H:=hid h;have sK:=hid fE;clear h dh fE jk;go_enter Tryz.func12,Tryz.ntmps12;go_upto_region 1 with fail
 refine ax ?_;intro V hV;have B0:Hid (ar V w.heap.size #[.slice a0 n0 c0,.slice a1 n1 c1,.slice a2 n2 c2] 29):=hid (by rw[hV];exact(ar.new w _ _).alloc _);have R0:Hid (ar V (w.heap.size+1) #[.slice none 0 0,.slice none 0 0,.slice none 0 0] 29):=hid (by rw[hV];exact(ar.new (w.alloc _) _ _).at (by simp));have X0:Hid (aa w V):=hid (by rw[hV];exact(((Ext.refl w).alloc _).alloc _).below);clear hV;obtain⟨p0,p1,p2⟩:=bA.mO B0.out;go_wp2_with fail
 refine(CR.out V X0.out).mono ?_;rintro e w1 ⟨rfl,hx⟩;have B1:=hid (B0.out.below hx B0.out.lt);have R1:=hid (R0.out.below hx R0.out.lt);have hV1:w.heap.size+1<V.heap.size:=R0.out.lt;have hW1:V.heap.size<=w1.heap.size:=hx.size;have X1:=hid (X0.out.trans (hx.mono X0.out.size));clear hx p0 p1 p2 B0 X0 CR R0;obtain⟨⟨l0,l1,l2⟩,z0,z1,z2⟩:=R1.out.three;go_wp2;refine bu ?_;intro W9 gq;have E9:Hid (ar W9 (w.heap.size+1) #[.slice none 0 0,.slice none 0 0,.slice none 0 0] 29/\ae (· ≠w.heap.size+1) w1 W9):=by rw[gq];exact hid ⟨R1.out.qy,eE _ _ _ _ _⟩
 clear gq z0 z1 z2 l0 l1 l2;obtain⟨m0,m1,m2⟩:=bA.mO E9.out.1;refine bodyPost_ret (v:=.tuple #[.agg #[.slice none 0 0,.slice none 0 0,.slice none 0 0],.int .i64 182]) (by simp[results,Tryz.results12,go_sem,m0,m1,m2]) rfl ⟨rfl,X1.out.trans (E9.out.2.mono fun x (hx:x<w.heap.size)=>by show x≠w.heap.size+1;omega:ae (· <w.heap.size) w1 W9).below⟩
theorem tA {d:DF} (rt:Rt d) {k0 k1 k2:Nat} (lH:k0=(aP d).cl.length) (iK:k1=(aP d).nx.length) (hk2:k2=(aP d).mr.length) (w:World) (v:Value) (h:cS w v d): ah 12 #[v] w (oV k0 k1 k2 0 (aP d) w):=by
 have CR:Hid (∀ W,aa w W->ah 16 #[v] W fun e w'=>e=.returned (.bool true)/\aa W w'):=hid fun W hW=>fp rt v W (h.below hW)
 have CL:Hid (∀ W,aa w W->ah 62 #[v] W (AK k0 k1 k2 (aP d) W)):=hid fun W hW=>qz rt lH iK hk2 W v (h.below hW)
 obtain⟨n0,dh⟩:=ag d.cl.length;obtain⟨n1,fE⟩:=ag d.nx.length;obtain⟨n2,jk⟩:=ag d.mr.length;obtain⟨a0,c0,a1,c1,a2,c2,rfl⟩:=h.form;rw[<-dh, <-fE, <-jk]at h CR CL ⊢;have H:=hid h;have sK:=hid fE;clear h dh fE jk lH iK hk2;go_enter Tryz.func12,Tryz.ntmps12;go_upto_region 1 with fail
 refine ax ?_;intro V hV;have B0:Hid (ar V w.heap.size #[.slice a0 n0 c0,.slice a1 n1 c1,.slice a2 n2 c2] 29):=hid (by rw[hV];exact(ar.new w _ _).alloc _);have R0:Hid (ar V (w.heap.size+1) #[.slice none 0 0,.slice none 0 0,.slice none 0 0] 29):=hid (by rw[hV];exact(ar.new (w.alloc _) _ _).at (by simp));have X0:Hid (aa w V):=hid (by rw[hV];exact(((Ext.refl w).alloc _).alloc _).below);clear hV;obtain⟨p0,p1,p2⟩:=bA.mO B0.out;go_wp2_with fail
 refine(CR.out V X0.out).mono ?_;rintro e w1 ⟨rfl,hx⟩;have B1:=hid (B0.out.below hx B0.out.lt);have R1:=hid (R0.out.below hx R0.out.lt);have hV1:w.heap.size+1<V.heap.size:=R0.out.lt;have hW1:V.heap.size<=w1.heap.size:=hx.size;have X1:=hid (X0.out.trans (hx.mono X0.out.size));clear hx p0 p1 p2 B0 X0 CR R0;obtain⟨p0,p1,p2⟩:=bA.mO B1.out;go_wp2_with fail
 refine(CL.out w1 X1.out).mono ?_;rintro e w2 ⟨x0,y0,x1,y1,x2,y2,rfl,ho,hx⟩;have O2:=hid ho;have R2:=hid (R1.out.below hx R1.out.lt);have X2:=hid (X1.out.trans (hx.mono X1.out.size));clear ho hx p0 p1 p2 B1 R1 X1 CL;obtain⟨⟨l0,l1,l2⟩,z0,z1,z2⟩:=R2.out.three;go_wp2;refine bu ?_;intro W9 gq;have E9:Hid (ar W9 (w.heap.size+1) #[.slice x0 k0 y0,.slice x1 k1 y1,.slice x2 k2 y2] 29/\ae (· ≠w.heap.size+1) w2 W9):=by
  rw[gq];exact hid ⟨R2.out.qy,eE _ _ _ _ _⟩
 clear gq z0 z1 z2 l0 l1 l2;obtain⟨m0,m1,m2⟩:=bA.mO E9.out.1;refine bodyPost_ret (v:=.tuple #[.agg #[.slice x0 k0 y0,.slice x1 k1 y1,.slice x2 k2 y2],.int .i64 0]) (by simp[results,Tryz.results12,go_sem,m0,m1,m2]) rfl ⟨x0,y0,x1,y1,x2,y2,rfl,(O2.out.keeps E9.out.2 fun x h1 _=>by show x≠_;omega).base (by omega),X2.out.trans (E9.out.2.mono fun x (hx:x<w.heap.size)=>by show x≠w.heap.size+1;omega:ae (· <w.heap.size) w2 W9).below⟩
theorem uG {d:DF} (rt:Rt d) {k0 k1 k2:Nat} (lH:k0=(aP d).cl.length) (iK:k1=(aP d).nx.length) (hk2:k2=(aP d).mr.length) (w:World) (v:Value) (h:cS w v d): ah 13 #[v] w fun e w'=>e=.returned (.tuple #[.bool (Vv d (aP d)),.int .i64 0])/\aa w w':=by
 have CR:Hid (∀ W,aa w W->ah 16 #[v] W fun e w'=>e=.returned (.bool true)/\aa W w'):=hid fun W hW=>fp rt v W (h.below hW)
 have CL:Hid (∀ W,aa w W->ah 62 #[v] W (AK k0 k1 k2 (aP d) W)):=hid fun W hW=>qz rt lH iK hk2 W v (h.below hW)
 have CS:Hid (∀ W u,aa w W->cS W u (aP d)->ah 17 #[v,u] W fun e w'=>e=.returned (.bool (Vv d (aP d)))/\aa W w'):=hid fun W u hW hu=>nT v u d (aP d) W (h.below hW).e hu.e rt.UZ
 obtain⟨n0,dh⟩:=ag d.cl.length;obtain⟨n1,fE⟩:=ag d.nx.length;obtain⟨n2,jk⟩:=ag d.mr.length;obtain⟨a0,c0,a1,c1,a2,c2,rfl⟩:=h.form;rw[<-dh, <-fE, <-jk]at h CR CL CS ⊢;have H:=hid h;have sK:=hid fE;generalize Vv d (aP d)=rb at*;clear h dh fE jk lH iK hk2;go_enter Tryz.func13,Tryz.ntmps13;go_upto_region 1 with fail
 refine ax ?_;intro V hV;have B0:Hid (ar V w.heap.size #[.slice a0 n0 c0,.slice a1 n1 c1,.slice a2 n2 c2] 29):=hid (by rw[hV];exact ar.new w _ _);have X0:Hid (aa w V):=hid (by rw[hV];exact((Ext.refl w).alloc _).below);clear hV;obtain⟨p0,p1,p2⟩:=bA.mO B0.out;go_wp2_with fail
 refine(CR.out V X0.out).mono ?_;rintro e w1 ⟨rfl,hx⟩;have B1:=hid (B0.out.below hx B0.out.lt);have X1:=hid (X0.out.trans (hx.mono X0.out.size));clear hx p0 p1 p2 B0 X0 CR;obtain⟨p0,p1,p2⟩:=bA.mO B1.out;go_upto_region 3 with fail
 refine aK false (fun _=>False) (by kernel_rfl) 3 [0,0,2,7,15,31] (fun i=>i==2) (by kernel_rfl) (fun i=>if i=2 then aZ.adm w1.heap.size k0 k1 k2 (aP d)else aZ.any _) ?_;intro C hC hne;have HC:=hid hC;have f0:=aC hC (p:=⟨w.heap.size,0,none⟩) B1.out.lt (fun h=>h) p0;have f1:=aC hC (p:=⟨w.heap.size,1,none⟩) B1.out.lt (fun h=>h) p1;have f2:=aC hC (p:=⟨w.heap.size,2,none⟩) B1.out.lt (fun h=>h) p2;clear hC p0 p1 p2
 repeat (refine au (fun K hK=>?_);first | (refine bX rfl ?_;try go_simp;refine hK _ _ ?_;clear hK K) | (refine bR rfl rfl ?_;unfold aB;go_simp;refine hK _ _ ?_;clear hK K))
 refine au (fun K hK=>?_);refine ck rfl rfl (aZ.adm w1.heap.size k0 k1 k2 (aP d)) rfl (fun W hW hN=>?_) (fun v hv=>?_)
 ·have hM:=(HC.out W).1 hW
  clear hW;go_simp;refine bM ((CL.out W (X1.out.trans (hM.below.mono X1.out.size))).mono ?_);rintro e w2 ⟨x0,y0,x1,y1,x2,y2,rfl,ho,hx⟩;exact⟨_,rfl,Move.ak hx,⟨_,_,_,_,_,_,rfl⟩,ho.base hM.size⟩
 obtain⟨x0,y0,x1,y1,x2,y2,rfl⟩:=hv;go_simp;refine hK _ _ ?_;clear hK K;refine bG (fun W hW hH=>?_);have hM:=(HC.out W).1 hW;have O2:Hid (bA w1.heap.size W (.agg #[.slice x0 k0 y0,.slice x1 k1 y1,.slice x2 k2 y2]) (aP d)):=hid (hH _ (aw (show _=some _ from rfl:_[0]? =some _)));have X2:=hid (X1.out.trans (hM.below.mono X1.out.size));clear hM hW hH HC hne f0 f1 f2 CL;go_wp2_with fail
 refine(CS.out W _ X2.out O2.out.df).mono ?_;rintro e w3 ⟨rfl,hx⟩;have X3:=hid (X2.out.trans (hx.mono X2.out.size));clear hx X2 O2 CS;go_wp2;exact bodyPost_ret (v:=.tuple #[.bool rb,.int .i64 0]) (by simp[results,Tryz.results13,go_sem]) rfl ⟨rfl,X3.out⟩
theorem Gu {d:DF} (rt:Rt d) {k0 k1 k2:Nat} (lH:k0=(aP d).cl.length) (iK:k1=(aP d).nx.length) (hk2:k2=(aP d).mr.length) (w:World) (v:Value) (h:cS w v d): ah 14 #[v] w fun e w'=>e=.returned (.tuple #[.int .i64 k1,.int .i64 k0,.int .i64 0])/\aa w w':=by
 have CR:Hid (∀ W,aa w W->ah 16 #[v] W fun e w'=>e=.returned (.bool true)/\aa W w'):=hid fun W hW=>fp rt v W (h.below hW)
 have CL:Hid (∀ W,aa w W->ah 62 #[v] W (AK k0 k1 k2 (aP d) W)):=hid fun W hW=>qz rt lH iK hk2 W v (h.below hW)
 obtain⟨n0,dh⟩:=ag d.cl.length;obtain⟨n1,fE⟩:=ag d.nx.length;obtain⟨n2,jk⟩:=ag d.mr.length;obtain⟨a0,c0,a1,c1,a2,c2,rfl⟩:=h.form;rw[<-dh, <-fE, <-jk]at h CR CL ⊢;have H:=hid h;have sK:=hid fE;clear h dh fE jk lH iK hk2;go_enter Tryz.func14,Tryz.ntmps14;go_upto_region 1 with fail
 refine ax ?_;intro V hV;have B0:Hid (ar V w.heap.size #[.slice a0 n0 c0,.slice a1 n1 c1,.slice a2 n2 c2] 29):=hid (by rw[hV];exact ar.new w _ _);have X0:Hid (aa w V):=hid (by rw[hV];exact((Ext.refl w).alloc _).below);clear hV;obtain⟨p0,p1,p2⟩:=bA.mO B0.out;go_wp2_with fail
 refine(CR.out V X0.out).mono ?_;rintro e w1 ⟨rfl,hx⟩;have B1:=hid (B0.out.below hx B0.out.lt);have X1:=hid (X0.out.trans (hx.mono X0.out.size));clear hx p0 p1 p2 B0 X0 CR;obtain⟨⟨p0,p1,p2⟩,z0,z1,z2⟩:=B1.out.three;go_wp2_with fail
 refine(CL.out w1 X1.out).mono ?_;rintro e w2 ⟨x0,y0,x1,y1,x2,y2,rfl,ho,hx⟩;have B2:=hid (B1.out.below hx B1.out.lt);have X2:=hid (X1.out.trans (hx.mono X1.out.size));clear ho hx p0 p1 p2 z0 z1 z2 B1 X1 CL;obtain⟨⟨p0,p1,p2⟩,z0,z1,z2⟩:=B2.out.three;go_upto_region 4 with fail
 refine ax ?_;intro V3 hV;have KV:Hid (ae (· ≠w.heap.size) w2 V3):=hid (by rw[hV];exact eE _ _ _ _ _);have B3:Hid (ar V3 w.heap.size #[.slice x0 k0 y0,.slice x1 k1 y1,.slice x2 k2 y2] 29):=hid (by rw[hV];exact B2.out.qy);clear hV p0 p1 p2 z0 z1 z2;have X3:Hid (aa w V3):=hid (X2.out.trans (KV.out.mono fun x (hx:x<w.heap.size)=>by show x≠w.heap.size;omega:ae (· <w.heap.size) w2 V3).below);obtain⟨p0,p1,p2⟩:=bA.mO B3.out
 go_quiet (fail)
 go_wp2;exact bodyPost_ret (v:=.tuple #[.int .i64 k1,.int .i64 k0,.int .i64 0]) (by simp[results,Tryz.results14,go_sem]) rfl ⟨rfl,((ae.ak X3.out fun _ h=>h:ae (· <w.heap.size) w V3).drewN _).below⟩
theorem JN {d:DF} (rt:Rt d) (w:World) (v:Value) (h:cS w v d): ah 36 #[v] w fun e w'=>∃ a c,e=.returned (.tuple #[.slice a d.nx.length c,.int .i64 0])/\w'.ownsRow w.heap.size 3 1 (.slice a d.nx.length c) d.nx.length ((List.range d.nx.length).map fun s=>cQ (gI d s))/\aa w w':=by
 have CR:Hid (∀ W,aa w W->ah 16 #[v] W fun e w'=>e=.returned (.bool true)/\aa W w'):=hid fun W hW=>fp rt v W (h.below hW)
 have CL:Hid (∀ W,aa w W->ah 79 #[v] W fun e w'=>∃ u,e=.returned u/\w'.ownsRow W.heap.size 3 1 u d.nx.length ((List.range d.nx.length).map fun s=>cQ (gI d s))/\aa W w'):=hid fun W hW=>ye v d rt W (h.below hW)
 obtain⟨n0,dh⟩:=ag d.cl.length;obtain⟨n1,fE⟩:=ag d.nx.length;obtain⟨n2,jk⟩:=ag d.mr.length;obtain⟨a0,c0,a1,c1,a2,c2,rfl⟩:=h.form;rw[<-dh, <-fE, <-jk]at h CR CL ⊢;have H:=hid h;have sK:=hid fE;obtain⟨R,hR⟩:=ag ((List.range n1).map fun s=>cQ (gI d s));rw[<-hR]at CL ⊢;clear h dh fE jk hR;go_enter Tryz.func36,Tryz.ntmps36;go_upto_region 1 with fail
 refine ax ?_;intro V hV;have B0:Hid (ar V w.heap.size #[.slice a0 n0 c0,.slice a1 n1 c1,.slice a2 n2 c2] 29):=hid (by rw[hV];exact ar.new w _ _);have X0:Hid (aa w V):=hid (by rw[hV];exact((Ext.refl w).alloc _).below);clear hV;obtain⟨p0,p1,p2⟩:=bA.mO B0.out;go_wp2_with fail
 refine(CR.out V X0.out).mono ?_;rintro e w1 ⟨rfl,hx⟩;have B1:=hid (B0.out.below hx B0.out.lt);have X1:=hid (X0.out.trans (hx.mono X0.out.size));clear hx p0 p1 p2 B0 X0 CR;obtain⟨p0,p1,p2⟩:=bA.mO B1.out;go_wp2_with fail
 refine(CL.out w1 X1.out).mono ?_;rintro e w2 ⟨u,rfl,ho,hx⟩;obtain⟨ua,uc,rfl⟩:=ownsRow_form ho;have O2:=hid (aF ho X1.out.size);have X2:=hid (X1.out.trans (hx.mono X1.out.size));clear ho hx p0 p1 p2 B1 X1 CL;go_wp2;exact bodyPost_ret (v:=.tuple #[.slice ua n1 uc,.int .i64 0]) (by simp[results,Tryz.results36,go_sem]) rfl ⟨ua,uc,rfl,O2.out,X2.out⟩
open Go.ChangeMaps (setBlock heap_setBlock_same)
def oW:Nat->List (Value×Value)->List MapEntry
 | _,[]=>[]
 | n,p::l=>⟨p.1,p.2,n⟩::oW (n+1) l
theorem nU:∀ (l:List (Value×Value)) (n i:Nat),(oW n l)[i]? =(l[i]?).map fun p=>⟨p.1,p.2,n+i⟩
 | [],_,_=>by simp[oW]
 | p::l,n,0=>by simp[oW]
 | p::l,n,i+1=>by
  simp only[oW,List.getElem?_cons_succ,nU l];rw[show n+1+i=n+(i+1) by omega]
theorem uH:∀ (l:List (Value×Value)) (n:Nat) (q:Value×Value),oW n (l++ [q])=oW n l++ [⟨q.1,q.2,n+l.length⟩]
 | [],n,q=>by simp[oW]
 | p::l,n,q=>by
  simp only[List.cons_append,oW,uH l,List.length_cons];rw[show n+1+l.length=n+(l.length+1) by omega]
def qB (w:World) (b:Nat) (l:List (Value×Value)):Prop:=w.heap[b]? =some (.map (oW 0 l).toArray l.length)
theorem qB.keeps {w w':World} {b:Nat} {l:List (Value×Value)} (h:qB w b l) {R:Nat->Prop} (hk:ae R w w') (hb:R b):qB w' b l:=(hk.keep b hb).trans h
theorem qB.lt {w:World} {b:Nat} {l:List (Value×Value)} (h:qB w b l):b<w.heap.size:=(Array.getElem?_eq_some_iff.1 h).1
theorem qB.below {w w':World} {b:Nat} {l:List (Value×Value)} (h:qB w b l) (hk:aa w w'):qB w' b l:=(hk.block b h.lt).trans h
theorem Gv {kt:TypeId} {l:List (Value×Value)} (hl:∀ p∈l,∃ k,keyOf Tryz.prog kt p.1=some k):∀ e∈oW 0 l,∃ k,keyOf Tryz.prog kt e.key=some k:=fun e he=>by
 obtain⟨i,hi⟩:=List.mem_iff_getElem?.1 he;rw[nU]at hi;obtain⟨p,hp,rfl⟩:=Option.map_eq_some_iff.1 hi;exact hl p (aw hp)
theorem Lh {mt kt vt:TypeId} (K:Keyed Tryz.prog kt) (hu:Tryz.prog.underlying mt=some (.map kt vt)) {w:World} {z:Value} (hz:(zeroValue vt).run Tryz.prog w=.ok z w) {b:Nat} {l:List (Value×Value)} (h:qB w b l) (hl:∀ p∈l,∃ k,keyOf Tryz.prog kt p.1=some k) (q:Value) (hq:∃ k,keyOf Tryz.prog kt q=some k): ((∀ p∈l,p.1≠q)/\(Instr.lookup mt (.map (some b)) q true).run Tryz.prog w=.ok (.tuple #[z,.bool false]) w/\(Instr.lookup mt (.map (some b)) q false).run Tryz.prog w=.ok z w)\/ (∃ (i:Nat) (v:Value),l[i]? =some (q,v)/\(Instr.lookup mt (.map (some b)) q true).run Tryz.prog w=.ok (.tuple #[v,.bool true]) w/\(Instr.lookup mt (.map (some b)) q false).run Tryz.prog w=.ok v w):=by
 obtain⟨kl,hk⟩:=hq;have hb:w.heap[b]? =some (.map (oW 0 l).toArray l.length):=h;rcases K.find w hk (oW 0 l) (Gv hl)with⟨f1,f2⟩ | ⟨j,e0,f1,f2,f3⟩
 ·refine .inl ⟨fun p hp e=>?_,?_,?_⟩
  ·obtain⟨i,hi⟩:=List.mem_iff_getElem?.1 hp
   have:=nU l 0 i;rw[hi]at this;exact f2 _ (aw this) e
  ·simp[Instr.lookup,run_underlying hu,MapKept.run_getObj_map hb,K.check w _ hk,f1,hz,Result.andThen]
  ·simp[Instr.lookup,run_underlying hu,MapKept.run_getObj_map hb,K.check w _ hk,f1,hz,Result.andThen]
 ·rw[nU]at f2
  obtain⟨p,hp,rfl⟩:=Option.map_eq_some_iff.1 f2;obtain⟨p1,p2⟩:=p;cases f3;refine .inr ⟨j,p2,hp,?_,?_⟩
  ·simp[Instr.lookup,run_underlying hu,MapKept.run_getObj_map hb,K.check w _ hk,f1,Result.andThen]
  ·simp[Instr.lookup,run_underlying hu,MapKept.run_getObj_map hb,K.check w _ hk,f1,Result.andThen]
theorem SQ {mt kt vt:TypeId} (K:Keyed Tryz.prog kt) (hu:Tryz.prog.underlying mt=some (.map kt vt)) {w:World} {b:Nat} {l:List (Value×Value)} (h:qB w b l) (hl:∀ p∈l,∃ k,keyOf Tryz.prog kt p.1=some k) (q:Value) (hq:∃ k,keyOf Tryz.prog kt q=some k) (hno:∀ p∈l,p.1≠q) (v:Value): ∃ w',(Instr.mapUpdate mt (.map (some b)) q v).run Tryz.prog w=.ok () w'/\qB w' b (l++ [(q,v)])/\ae (· ≠b) w w'/\w'.heap.size=w.heap.size:=by
 obtain⟨kl,hk⟩:=hq;have hb:w.heap[b]? =some (.map (oW 0 l).toArray l.length):=h;rcases K.find w hk (oW 0 l) (Gv hl)with⟨f1,f2⟩ | ⟨j,e0,f1,f2,f3⟩
 ·refine⟨setBlock w b (.map (oW 0 (l++ [(q,v)])).toArray (l++ [(q,v)]).length),?_,heap_setBlock_same hb _,⟨rfl,rfl,rfl,by simp[setBlock],fun i hi=>by show(w.heap.setIfInBounds b _)[i]? =_;exact Array.getElem?_setIfInBounds_ne (Ne.symm hi)⟩,by simp[setBlock]⟩
  rw[uH];simp[Instr.mapUpdate,run_underlying hu,MapKept.run_getObj_map hb,K.check w false hk,f1,MapKept.run_setObj_map _ hb,Result.andThen,setBlock]
 ·rw[nU]at f2
  obtain⟨p,hp,rfl⟩:=Option.map_eq_some_iff.1 f2;exact absurd f3 (hno p (aw hp))
end
section
open Go Go.RowKit Go.Shelf Go.Maps
theorem Tryz.adn:(133:TypeId)<Tryz.prog.types.size:=of_decide_eq_true (by kernel_rfl)
theorem Tryz.ZL:(match Tryz.prog.underlying 133 with | some (.array _ _) | some (.struct _)=>true | _=>false)=true:=by kernel_rfl
theorem Tryz.vr:Keyed Tryz.prog 133:=Keyed.of_law (deep_law_laid Tryz.laidOut (m:=2) (by omega) Tryz.adn (by kernel_rfl) Tryz.ZL)
theorem Tryz.NS:Tryz.prog.keyType 133=true:=by kernel_rfl
theorem Tryz.Li:Tryz.prog.cellsOf 133=2:=by kernel_rfl
theorem Gw (p:Nat×Nat) (h1:p.1<=4000) (h2:p.2<=4000):∃ l,keyOf Tryz.prog 133 (er p)=some l:=by
 obtain⟨n,hn⟩:=Tryz.PN;have hf:(er p).formed Tryz.prog 133=true:=by simp[er,Value.formed,Tryz.underlying133,Tryz.Li]
 unfold keyOf;rw[Tryz.underlying133];simp only[Tryz.NS,hf,Bool.and_self,if_true];have hk:∃ ls,Tryz.prog.keyLits (Tryz.prog.types.size+1) 133 (er p).cells.toList=some ls:=by
  rw[hn];unfold Program.keyLits;rw[Tryz.underlying133];simp[er,Value.cells,Tryz.Li,Tryz.PM,XM,h1,h2]
 obtain⟨ls,h⟩:=hk;rw[h];exact⟨_,rfl⟩
def yn (n0 K:Nat) (L1:List Value) (c:Value):Nat->Value->World->Prop
 | 0,v,W=>W.ownsRow n0 5 1 v K L1
 | 1,v,W=>W.ownsRow n0 5 1 v (K+1) (L1++ [c])
 | 2,v,W=>∀ b,v=.slice (some ⟨b,0,none⟩) 1 1->ar W b #[c] 5
 | _,_,_=>True
theorem oN (n0 K:Nat) (L1:List Value) (c:Value):∀ i v A B,aa A B->yn n0 K L1 c i v A->yn n0 K L1 c i v B
 | 0,_,_,_,hb,h=>aj (show World.ownsRow _ _ _ _ _ _ _ from h) hb
 | 1,_,_,_,hb,h=>aj (show World.ownsRow _ _ _ _ _ _ _ from h) hb
 | 2,_,_,_,hb,h=>fun b e=>(h b e).below hb (h b e).lt
 | _+3,_,_,_,_,_=>trivial
theorem Dk {n0 K g cap:Nat} {L1:List Value} {c:Value} {W W':World} (ho:W.ownsRow n0 5 1 (.slice (some ⟨g,0,none⟩) K cap) K L1) (GH:W'.ownsRow n0 5 1 (.slice (some ⟨g,0,none⟩) (K+1) cap) (K+1) (L1++ [c])) (hg:W.grownBy W' (some g)):∀ i v,yn n0 K L1 c i v W->yn n0 K L1 c i v W'
 | 0,v,h=>by
  have:=qZ (Kb:=1) (L2:=[c]) (by decide) ho GH hg 0 v h;exact this
 | 1,v,h=>by
  have:=qZ (Kb:=1) (L2:=[c]) (by decide) ho GH hg 1 v h;exact this
 | 2,v,h=>fun b e=>by
  have hb:=h b e;by_cases e2:b=g
  ·subst e2
   rcases ho.2 with⟨h1,_⟩ | ⟨g1,c1,afH,h1,_,f1,_,_,s1,_⟩
   ·cases h1
   ·cases h1
    rcases GH.2 with⟨h2,_⟩ | ⟨g2,c2,Uc,h2,_,f2,k2,_,s2,t2⟩
    ·cases h2
    ·cases h2
     unfold ar at hb;rw[hb]at f1;cases f1;have hc1:cap=1:=by simpa using s1.symm
     subst hc1;have hK:K=0:=by omega
     subst hK;have hL:L1=[]:=List.eq_nil_of_length_eq_zero (by have:=ho.1;omega);subst hL;have e3:Uc= #[c]:=by
      apply Array.toList_inj.1;have e4:Uc.toList.length=1:=by rw[Array.length_toList];omega
      have t3:Uc.toList.take 1=[c]:=by simpa using t2
      rw[List.take_of_length_le (by omega)]at t3;exact t3
     unfold ar;rw[f2,e3]
  ·unfold ar
   rw[hg.block b hb.lt (fun e3=>e2 (by cases e3;rfl))];exact hb
 | _+3,_,_=>trivial
theorem JO {a b:DF} (ra:Rt a) (rb:Rt b) (s t c:Nat) (hs:s<a.nx.length) (ht:t<b.nx.length) (hc:c<256) (ab xb bb yb xa ya base base':Nat) (va vb:Value) (W:World) (h1:W.cell? ⟨ab,1,none⟩=some va) (h2:gT W va a.nx) (h3:W.cell? ⟨bb,1,none⟩=some vb) (h4:gT W vb b.nx) (h5:W.cell? ⟨xb,0,none⟩=some (.pointer (some ⟨xa,0,none⟩))) (h6:cU W base (.pointer (some ⟨xa,0,none⟩)) a.cl) (h7:W.cell? ⟨yb,0,none⟩=some (.pointer (some ⟨ya,0,none⟩))) (h8:cU W base' (.pointer (some ⟨ya,0,none⟩)) b.cl): ah 122 #[.agg #[.int .i64 s,.int .i64 t],.int .u8 c,.pointer (some ⟨ab,0,none⟩),.pointer (some ⟨xb,0,none⟩),.pointer (some ⟨bb,0,none⟩),.pointer (some ⟨yb,0,none⟩)] W fun e w'=>e=.returned (.agg #[.int .i64 (dL a s (cls a.cl c):Nat),.int .i64 (dL b t (cls b.cl c):Nat)])/\aa W w':=by
 have hka:cls a.cl c<a.cl.length:=ra.part.cZ hc;have hkb:cls b.cl c<b.cl.length:=rb.part.cZ hc;obtain⟨e1,e2⟩:=tz ra hs hka;obtain⟨e3,e4⟩:=tz rb ht hkb;obtain⟨a1,c1,rfl⟩:=h2.form;obtain⟨b1,d1,rfl⟩:=h4.form;obtain⟨g1,o1,ad1,cp1,rfl,hg1,hc1,zu⟩:=h2.elem (i:=s) (l:=a.nx.getD s []) (aV [] hs);obtain⟨g2,o2,WK,WM,rfl,hg2,hc2,hl2⟩:=h4.elem (i:=t) (l:=b.nx.getD t []) (aV [] ht);obtain⟨g3,o3,rfl,hg3,hc3⟩:=zu.elem e2;obtain⟨g4,o4,rfl,hg4,ZM⟩:=hl2.elem e4;rw[ra.len s hs]at hc1;rw[rb.len t ht]at hc2;obtain⟨k,hk⟩:=ag (cls a.cl c);obtain⟨l,hl⟩:=ag (cls b.cl c);obtain⟨x,hx⟩:=ag (dL a s (cls a.cl c));obtain⟨y,hy⟩:=ag (dL b t (cls b.cl c));obtain⟨n0,dh⟩:=ag a.cl.length;obtain⟨n1,fE⟩:=ag a.nx.length;obtain⟨m0,ve⟩:=ag b.cl.length;obtain⟨m1,rK⟩:=ag b.nx.length;replace hc3:W.cell? ⟨g3,o3+cls a.cl c,none⟩=some (.int .i64 (dL a s (cls a.cl c):Nat)):=hc3;replace ZM:W.cell? ⟨g4,o4+cls b.cl c,none⟩=some (.int .i64 (dL b t (cls b.cl c):Nat)):=ZM;rw[<-hx, <-hk]at hc3;rw[<-hy, <-hl]at ZM;rw[<-hx, <-hy];rw[<-dh]at hc1 hka;rw[<-ve]at hc2 hkb;rw[<-fE]at h1 hs;rw[<-rK]at h3 ht;rw[<-hk]at hka;rw[<-hl]at hkb;have CA:Hid (∀ W',aa W W'->ah 123 #[.pointer (some ⟨xa,0,none⟩),.int .u8 c] W' fun e w'=>e=.returned (.int .i64 k)/\w'=W'):=hid fun W' hW=>by rw[hk];exact zG _ base a.cl c hc W' (h6.below hW)
 have CB:Hid (∀ W',aa W W'->ah 123 #[.pointer (some ⟨ya,0,none⟩),.int .u8 c] W' fun e w'=>e=.returned (.int .i64 l)/\w'=W'):=hid fun W' hW=>by rw[hl];exact zG _ base' b.cl c hc W' (h8.below hW)
 have Ls:(s:Int)<n1:=by omega
 have hti:(t:Int)<m1:=by omega
 have eG:(k:Int)<n0:=by omega
 have hli:(l:Int)<m0:=by omega
 have l1:ab<W.heap.size:=World.block_lt_of_cell? _ _ h1;have l3:bb<W.heap.size:=World.block_lt_of_cell? _ _ h3;have l5:xb<W.heap.size:=World.block_lt_of_cell? _ _ h5;have l7:yb<W.heap.size:=World.block_lt_of_cell? _ _ h7;clear h2 h4 h6 h8 e1 e2 e3 e4 zu hl2 hk hl hx hy dh fE ve rK ra rb;go_enter Tryz.func122,Tryz.ntmps122;go_upto_region 1 with fail
 refine ax ?_;intro V hV;have P0:Hid (ar V W.heap.size #[.int .i64 s,.int .i64 t] 133):=hid (by rw[hV];exact(ar.new W _ _).alloc _);have R0:Hid (ar V (W.heap.size+1) #[.int .i64 0,.int .i64 0] 133):=hid (by rw[hV];exact(ar.new (W.alloc _) _ _).at (by simp));have X0:Hid (aa W V):=hid (by rw[hV];exact(((Ext.refl W).alloc _).alloc _).below);clear hV;have uk:∀ b o u,b<W.heap.size->W.cell? ⟨b,o,none⟩=some u->V.cell? ⟨b,o,none⟩=some u:=fun b o u hb h=>((ae.ak X0.out fun _ h=>h:ae (· <W.heap.size) W V).cell (p:=⟨b,o,none⟩) hb).trans h
 have hWV:W.heap.size<=V.heap.size:=X0.out.size;replace h1:=uk _ _ _ l1 h1;replace h3:=uk _ _ _ l3 h3;replace h5:=uk _ _ _ l5 h5;replace h7:=uk _ _ _ l7 h7;replace hc1:=uk _ _ _ hg1 hc1;replace hc2:=uk _ _ _ hg2 hc2;replace hc3:=uk _ _ _ hg3 hc3;replace ZM:=uk _ _ _ hg4 ZM;have p0:V.cell? ⟨W.heap.size,0,none⟩=some (.int .i64 s):=P0.out.cell 0;have p1:V.cell? ⟨W.heap.size,1,none⟩=some (.int .i64 t):=P0.out.cell 1;clear uk;refine aK false (fun _=>False) (by kernel_rfl) 22 [0,1,0,4,15,31,0,0,192,511,1023,0,2048,0,8192,30720,63488,0,0,393664,1046976,2095552,4194303,8388607] (fun i=>i==8 || i==19) (by kernel_rfl) (fun i=>if i=8 then aZ.Du _ (.int .i64 k)else if i=19 then aZ.Du _ (.int .i64 l)else aZ.any _) ?_;intro C hC hne;have HC:=hid hC;have f1:=aC hC (p:=⟨ab,1,none⟩) (by show ab<V.heap.size;omega) (fun h=>h) h1;have f2:=aC hC (p:=⟨g1,o1+s,none⟩) (by show g1<V.heap.size;omega) (fun h=>h) hc1;have f3:=aC hC (p:=⟨g3,o3+k,none⟩) (by show g3<V.heap.size;omega) (fun h=>h) hc3;have f4:=aC hC (p:=⟨bb,1,none⟩) (by show bb<V.heap.size;omega) (fun h=>h) h3;have f5:=aC hC (p:=⟨g2,o2+t,none⟩) (by show g2<V.heap.size;omega) (fun h=>h) hc2;have f6:=aC hC (p:=⟨g4,o4+l,none⟩) (by show g4<V.heap.size;omega) (fun h=>h) ZM;have f7:=aC hC (p:=⟨xb,0,none⟩) (by show xb<V.heap.size;omega) (fun h=>h) h5;have f8:=aC hC (p:=⟨yb,0,none⟩) (by show yb<V.heap.size;omega) (fun h=>h) h7;have f9:=aC hC (p:=⟨W.heap.size,0,none⟩) P0.out.lt (fun h=>h) p0;have f10:=aC hC (p:=⟨W.heap.size,1,none⟩) P0.out.lt (fun h=>h) p1;clear hC h1 h3 h5 h7 hc1 hc2 hc3 ZM p0 p1
 repeat (refine au (fun K hK=>?_);first | (refine bX rfl ?_;try go_simp;refine hK _ _ ?_;clear hK K) | (refine bR rfl rfl ?_;unfold aB;go_simp;refine hK _ _ ?_;clear hK K))
 refine au (fun K hK=>?_);refine ck rfl rfl (aZ.Du _ (.int .i64 k)) rfl (fun W hW hN=>?_) (fun v hv=>?_)
 ·have hM:=(HC.out W).1 hW
  clear hW;go_simp;refine bM ((CA.out W (X0.out.trans (hM.below.mono hWV))).mono ?_);rintro e w2 ⟨rfl,rfl⟩;exact⟨_,rfl,Move.ak (Below.refl _ _),rfl,trivial⟩
 replace hv:v=_:=hv;subst hv;go_simp;refine hK _ _ ?_;clear hK K
 repeat (refine au (fun K hK=>?_);first | (refine bX rfl ?_;try go_simp;refine hK _ _ ?_;clear hK K) | (refine bR rfl rfl ?_;unfold aB;go_simp;refine hK _ _ ?_;clear hK K))
 refine au (fun K hK=>?_);refine ck rfl rfl (aZ.Du _ (.int .i64 l)) rfl (fun W hW hN=>?_) (fun v hv=>?_)
 ·have hM:=(HC.out W).1 hW
  clear hW;go_simp;refine bM ((CB.out W (X0.out.trans (hM.below.mono hWV))).mono ?_);rintro e w2 ⟨rfl,rfl⟩;exact⟨_,rfl,Move.ak (Below.refl _ _),rfl,trivial⟩
 replace hv:v=_:=hv;subst hv;go_simp;refine hK _ _ ?_;clear hK K
 repeat (refine au (fun K hK=>?_);first | (refine bX rfl ?_;try go_simp;refine hK _ _ ?_;clear hK K) | (refine bR rfl rfl ?_;unfold aB;go_simp;refine hK _ _ ?_;clear hK K))
 refine bG (fun W2 hW hH=>?_);have hM:=(HC.out W2).1 hW;have R2:=hid (R0.out.below hM.below R0.out.lt);have X2:=hid (X0.out.trans (hM.below.mono hWV));clear hM hW hH HC hne f1 f2 f3 f4 f5 f6 f7 f8 f9 f10;have r0:=R2.out.cell 0;have r1:=R2.out.cell 1;have z0:=R2.out.frozen 0;have z1:=R2.out.frozen 1;simp only[List.getElem?_toArray,List.getElem?_cons_zero,List.getElem?_cons_succ]at r0 r1;go_wp2;refine bu ?_;intro W9 gq;have E9:Hid (ar W9 (W.heap.size+1) #[.int .i64 x,.int .i64 y] 133/\ae (· ≠W.heap.size+1) W2 W9):=by
  rw[gq];exact hid ⟨(R2.out.set 0 _).set 1 _,((ae.refl _ _).setCell (p:=⟨W.heap.size+1,0,none⟩) (fun h=>h rfl) _).setCell (p:=⟨W.heap.size+1,1,none⟩) (fun h=>h rfl) _⟩
 clear gq r0 r1 z0 z1;have q0:=E9.out.1.cell 0;have q1:=E9.out.1.cell 1;simp only[List.getElem?_toArray,List.getElem?_cons_zero,List.getElem?_cons_succ]at q0 q1;refine bodyPost_ret (v:=.agg #[.int .i64 x,.int .i64 y]) (by simp[results,Tryz.results122,go_sem,q0,q1]) rfl ⟨rfl,X2.out.trans (E9.out.2.mono fun z (hz:z<W.heap.size)=>by show z≠W.heap.size+1;omega:ae (· <W.heap.size) W2 W9).below⟩
structure zk (W:World) (base mp:Nat) (E:List ((Nat×Nat)×List Nat)) (es:List (Value×Value)):Prop where
 len:es.length=E.length
 map:qB W mp es
 WR:∀ (i:Nat) (x:(Nat×Nat)×List Nat),E[i]? =some x->∃ v,es[i]? =some (er x.1,v)/\W.ownsRow base 5 1 v x.2.length (x.2.map et)
theorem zk.below {W W':World} {base mp:Nat} {E:List ((Nat×Nat)×List Nat)} {es:List (Value×Value)} (h:zk W base mp E es) (hk:aa W W'):zk W' base mp E es:=
 ⟨h.len,h.map.below hk,fun i x hx=>by
  obtain⟨v,h1,h2⟩:=h.WR i x hx
  exact⟨v,h1,aj h2 hk⟩⟩
theorem zk.kept {W W':World} {base mp b2 n size:Nat} {e:TypeId} {v:Value} {xs:List Value} {E:List ((Nat×Nat)×List Nat)} {es:List (Value×Value)} (h:zk W base mp E es) (ho:W.ownsRow b2 e size v n xs) (he:5≠e) (hg:W.grownBy W' v.ownBlock):zk W' base mp E es:=
 ⟨h.len,(hg.block mp h.map.lt (fun e2=>lW ho h.map (fun c fz e=>by cases e) mp e2.symm rfl)).trans h.map,fun i x hx=>by
  obtain⟨v,h1,h2⟩:=h.WR i x hx
  exact⟨v,h1,h2.kept hg (ownBlock_ne he h2 ho)⟩⟩
theorem zk.put {W W':World} {base mp:Nat} {E:List ((Nat×Nat)×List Nat)} {es:List (Value×Value)} {q:Nat×Nat} {wd:List Nat} {v:Value} (h:zk W base mp E es) (hv:W.ownsRow base 5 1 v wd.length (wd.map et)) (hm:qB W' mp (es++ [(er q,v)])) (hk:ae (· ≠mp) W W'):zk W' base mp (E++ [(q,wd)]) (es++ [(er q,v)]):=by
 have hrow:∀ (u:Value) (n:Nat) (xs:List Value),W.ownsRow base 5 1 u n xs->W'.ownsRow base 5 1 u n xs:=fun u n xs ho=>ai ho hk fun x hx=>lW ho h.map (fun c fz e=>by cases e) x hx
 refine⟨by rw[aG,aG,h.len];rfl,hm,fun i x hx=>?_⟩;by_cases hi:i<E.length
 ·rw[bJ hi]at hx
  obtain⟨u,h1,h2⟩:=h.WR i x hx;exact⟨u,by rw[bJ (by rw[h.len];exact hi)];exact h1,hrow _ _ _ h2⟩
 ·have gL:=(List.getElem?_eq_some_iff.1 hx).1
  rw[aG,List.length_singleton]at gL;obtain rfl:i=E.length:=by omega
  rw[cH (aD _),Nat.sub_self]at hx;cases hx;exact⟨v,by rw[cH (by rw[h.len];exact aD _),h.len,Nat.sub_self];rfl,hrow _ _ _ hv⟩
theorem zk.keys {W:World} {base mp:Nat} {E:List ((Nat×Nat)×List Nat)} {es:List (Value×Value)} (h:zk W base mp E es) (hE:∀ y∈E,y.1.1<=4000/\y.1.2<=4000):∀ p∈es,∃ k,keyOf Tryz.prog 133 p.1=some k:=fun p hp=>by
 obtain⟨i,hi⟩:=List.mem_iff_getElem?.1 hp;have gL:=(List.getElem?_eq_some_iff.1 hi).1;have hx:E[i]? =some (E[i]'(by rw[<-h.len];exact gL)):=az _;obtain⟨v,h1,_⟩:=h.WR i _ hx;rw[hi]at h1;cases h1;obtain⟨h2,h3⟩:=hE _ (aw hx);exact Gw _ h2 h3
set_option maxRecDepth 100000
theorem zk.look {W:World} {base mp:Nat} {E:List ((Nat×Nat)×List Nat)} {es:List (Value×Value)} (h:zk W base mp E es) (hE:∀ y∈E,y.1.1<=4000/\y.1.2<=4000) (q:Nat×Nat) (h1:q.1<=4000) (h2:q.2<=4000): (q∉E.map Prod.fst/\(∀ p∈es,p.1≠er q)/\(Instr.lookup 206 (.map (some mp)) (er q) true).run Tryz.prog W=.ok (.tuple #[.slice none 0 0,.bool false]) W)\/ (∃ (i:Nat) (wd:List Nat) (v:Value),E[i]? =some (q,wd)/\W.ownsRow base 5 1 v wd.length (wd.map et)/\(Instr.lookup 206 (.map (some mp)) (er q) true).run Tryz.prog W=.ok (.tuple #[v,.bool true]) W/\(Instr.lookup 206 (.map (some mp)) (er q) false).run Tryz.prog W=.ok v W):=by
 have hz:(zeroValue 44).run Tryz.prog W=.ok (.slice none 0 0) W:=by kernel_rfl
 rcases Lh Tryz.vr Tryz.underlying206 hz h.map (h.keys hE) (er q) (Gw q h1 h2)with⟨g1,g2,_⟩ | ⟨i,v,g1,g2,g3⟩
 ·refine .inl ⟨fun hm=>?_,g1,g2⟩
  obtain⟨y,hy,rfl⟩:=List.mem_map.1 hm;obtain⟨i,hi⟩:=List.mem_iff_getElem?.1 hy;obtain⟨v,h3,_⟩:=h.WR i y hi;exact g1 _ (aw h3) rfl
 ·have gL:=(List.getElem?_eq_some_iff.1 g1).1
  have hx:E[i]? =some (E[i]'(by rw[<-h.len];exact gL)):=az _;obtain⟨u,h3,h4⟩:=h.WR i _ hx;rw[g1]at h3;injection h3 with h3
  injection h3 with h5 h6
  subst h6;have h7:=zN h5;refine .inr ⟨i,_,v,?_,h4,g2,g3⟩;rw[hx];congr 1;exact Prod.ext h7.symm rfl
theorem zk.val {W:World} {base mp:Nat} {E:List ((Nat×Nat)×List Nat)} {es:List (Value×Value)} (h:zk W base mp E es) (hE:∀ y∈E,y.1.1<=4000/\y.1.2<=4000) (hn:(E.map Prod.fst).Nodup) {i:Nat} {x:(Nat×Nat)×List Nat} (hx:E[i]? =some x): ∃ a c,W.ownsRow base 5 1 (.slice a x.2.length c) x.2.length (x.2.map et)/\∀ W',qB W' mp es->(Instr.lookup 206 (.map (some mp)) (er x.1) false).run Tryz.prog W'=.ok (.slice a x.2.length c) W':=by
 obtain⟨v,h1,h2⟩:=h.WR i x hx;obtain⟨a,c,rfl⟩:=ownsRow_form h2;refine⟨a,c,h2,fun W' GR=>?_⟩;obtain⟨b1,b2⟩:=hE x (aw hx);have hz:(zeroValue 44).run Tryz.prog W'=.ok (.slice none 0 0) W':=by kernel_rfl
 rcases Lh Tryz.vr Tryz.underlying206 hz GR (h.keys hE) (er x.1) (Gw x.1 b1 b2)with⟨g1,_,_⟩ | ⟨j,v,g1,_,g3⟩
 ·exact absurd rfl (g1 _ (aw h1))
 ·have Dt:=(List.getElem?_eq_some_iff.1 g1).1
  have hy:E[j]? =some (E[j]'(by rw[<-h.len];exact Dt)):=az _;obtain⟨u,h3,_⟩:=h.WR j _ hy;rw[g1]at h3;injection h3 with h3
  injection h3 with h5 _
  have e1:(E.map Prod.fst)[j]? =some x.1:=by rw[aO,hy];exact congrArg some (zN h5).symm
  have e2:(E.map Prod.fst)[i]? =some x.1:=by rw[aO,hx];rfl
  have e3:j=i:=(jO hn e1).symm.trans (jO hn e2);subst e3;rw[h1]at g1;injection g1 with g1
  injection g1 with _ g4
  rw[<-g4]at g3;exact g3
theorem zk.one {W:World} {base mp:Nat} {q:Nat×Nat} (h:qB W mp [(er q,.slice none 0 0)]):zk W base mp [(q,[])] [(er q,.slice none 0 0)]:=⟨rfl,h,fun i x hx=>by
 cases i with
 | zero=>cases hx;exact⟨_,rfl,World.ownsRow_nil _ _ _ _⟩
 | succ i=>simp at hx⟩
section
variable {α:Type} [DecidableEq α]
theorem yo {F:α->Nat->α} {lt:Nat->Nat} {x:α×List Nat} {E:List (α×List Nat)} :∀ k,∀ y∈ib F lt x E k,y∈E\/∃ j,j<k/\y=(F x.1 j,x.2++ [lt j])
 | 0,y,hy=>.inl hy
 | k+1,y,hy=>by
  rw[ib,nR]at hy;split at hy
  ·rcases yo k y hy with h | ⟨j,h1,h2⟩
   ·exact .inl h
   ·exact .inr ⟨j,by omega,h2⟩
  ·rcases List.mem_append.1 hy with hy | hy
   ·rcases yo k y hy with h | ⟨j,h1,h2⟩
    ·exact .inl h
    ·exact .inr ⟨j,by omega,h2⟩
   ·exact .inr ⟨k,by omega,by simpa using hy⟩
theorem oO {F:α->Nat->α} {lt:Nat->Nat} {K:Nat} {p0:α} :∀ n,∀ y∈cY F lt K p0 n,y.2.length<=n
 | 0,y,hy=>by
  have:y=(p0,[]):=by simpa[cY]using hy
  rw[this];exact aD _
 | n+1,y,hy=>by
  rw[cY]at hy;split at hy
  ·have:=oO n y hy;omega
  ·rename_i x hx
   rcases yo K y hy with h | ⟨j,_,h2⟩
   ·have:=oO n y h;omega
   ·have:=oO n x (aw hx)
    rw[h2,aG,List.length_singleton];show x.2.length+1<=n+1;omega
end
theorem Gx {F:Nat×Nat->Nat->Nat×Nat} {lt:Nat->Nat} {x:(Nat×Nat)×List Nat} {E:List ((Nat×Nat)×List Nat)} :∀ k,E.length<=(ib F lt x E k).length
 | 0=>aD _
 | k+1=>by
  have h:=Gx (F:=F) (lt:=lt) (x:=x) (E:=E) k;rw[ib,nR];split
  ·exact h
  ·rw[aG];omega
theorem Gy {F:Nat×Nat→Nat→Nat×Nat} {lt:Nat→Nat} {x:(Nat×Nat)×List Nat} {E:List ((Nat×Nat)×List Nat)} {k m:Nat} (h:k≤m):(ib F lt x E k).length≤ (ib F lt x E m).length:=by
  induction m with
  | zero => obtain rfl : k = 0 := by omega
            exact aD _
  | succ m ih =>
    by_cases e : k = m + 1
    · subst e; exact aD _
    · refine Nat.le_trans (ih (by omega)) ?_
      rw[ib,nR];split
      · exact aD _
      · rw[aG];omega
end
end Go.Proofs.YtjgccapbphadjaaGreatDoor
