/- product.First. -/
import Derived.Test.YtalombmiochpmaaGreatDoorOR11
import Derived.Test.YtalombmiochpmaaGreatDoorRows
set_option maxRecDepth 100000
set_option maxHeartbeats 16000000
open Go.Lib (hid)
namespace Go.Proofs.YtalombmiochpmaaGreatDoor
section
open Go Go.RowKit Go.Shelf Go.Maps
attribute [local go_sem] encS
theorem fj {w:World} {base n cap:Nat} {e:TypeId} {ad:Option Addr} {xs:List Value} (h:w.ownsRow base e 1 (.slice ad n cap) n xs) {i:Nat} (hi:i<n):∃ g u,ad=some ⟨g,0,none⟩/\base<=g/\g<w.heap.size/\xs[i]? =some u/\w.cell? ⟨g,i,none⟩=some u/\w.frozen? ⟨g,i,none⟩=false:=by
 have hl:=h.1;have hu:xs[i]? =some (xs[i]'(by omega)):=List.getElem?_eq_getElem (by omega);obtain⟨a,c,e1⟩:=ownsRow_form h;rcases h.2 with⟨_,e2⟩ | ⟨g,c',cur,e2,_⟩
 ·omega
 ·injection e2 with e2 _ _
  subst e2;have hlt:=h.lt g rfl;exact⟨g,_,rfl,hlt.1,hlt.2,hu,by have:=h.cells (g:=g) rfl _ _ hu;rw[Addr.add_mid]at this;simpa using this,h.frozenAt _⟩
theorem aW.aaS {base b2 m:Nat} {w w':World} {v tv:Value} {ll:List (List Int)} {xs:List Value} (h:aW base w v ll) (hf:mH v tv) (ht:w.ownsRow b2 47 1 tv m xs) (hk:aa (fun x=>x<w.heap.size/\tv.ownBlock≠some x) w w'):aW base w' v ll:=by
 obtain⟨us,h1,h2,h3⟩:=h;refine⟨us,h1,aj h2 hk fun x hx=>⟨(h2.lt x hx).2,fun e=>?_⟩,fun i u l hu hl=>?_⟩
 ·rcases hf with h5 | h5
  ·rw[h5]at hx;cases hx
  ·exact h5 (hx.trans e.symm)
 ·have hr:=h3 i u l hu hl
  refine aj hr hk fun x hx=>⟨(hr.lt x hx).2,fun e=>?_⟩
  rcases ownBlock_ne (show(3:Nat)≠47 by decide) hr ht with h5 | h5
  ·rw[h5]at hx;cases hx
  ·exact h5 (hx.trans e.symm)
def Sl (m:List Int):List Int:=if m.isEmpty then [0]else []
theorem Hr {mr:List (List Int)} {k:Nat} {l:List Int} (hl:mr[k]? =some l) (i:Nat):(((mr.take (k+1)).map Sl)++mr.drop (k+1))[i]? =if i=k then some (Sl l)else(((mr.take k).map Sl)++mr.drop k)[i]? :=by
 have Jz:=(List.getElem?_eq_some_iff.1 hl).1;have h1:((mr.take (k+1)).map Sl).length=k+1:=by simp;omega
 have h2:((mr.take k).map Sl).length=k:=by simp;omega
 by_cases e:i=k
 ·subst e
  rw[if_pos rfl,List.getElem?_append_left (by omega),List.getElem?_map,List.getElem?_take,if_pos (by omega),hl];rfl
 ·rw[if_neg e]
  by_cases h:i<k
  ·rw[List.getElem?_append_left (by omega),List.getElem?_append_left (by omega),List.getElem?_map,List.getElem?_map,List.getElem?_take,List.getElem?_take,if_pos (by omega),if_pos h]
  ·rw[List.getElem?_append_right (by omega),List.getElem?_append_right (by omega),h1,h2,List.getElem?_drop,List.getElem?_drop]
   congr 1
   omega
theorem Cv {wo W':World} {g k n mc base:Nat} {mr:List (List Int)} {l:List Int} {us:List Value} {u:Value} (hl:mr[k]? =some l) (hrow:wo.ownsRow base 47 1 (.slice (some ⟨g,0,none⟩) n mc) n us) (tI:∀ (i:Nat) (u:Value) (l:List Int),us[i]? =some u->(((mr.take k).map Sl)++mr.drop k)[i]? =some l->wo.ownsRow base 3 1 u l.length (l.map aS)) (hk:aa (fun x=>x≠g/\x<wo.heap.size) wo W') (hu:W'.ownsRow base 3 1 u (Sl l).length ((Sl l).map aS)): ∀ (i:Nat) (u':Value) (l':List Int),(us.set k u)[i]? =some u'->(((mr.take (k+1)).map Sl)++mr.drop (k+1))[i]? =some l'->W'.ownsRow base 3 1 u' l'.length (l'.map aS):=fun i u' l' Yh hl'=>by
 rw[Hr hl]at hl';by_cases e:i=k
 ·subst e
  rw[if_pos rfl]at hl';cases hl';have jK:=(List.getElem?_eq_some_iff.1 Yh).1;rw[List.length_set]at jK;rw[List.getElem?_set_self jK]at Yh;cases Yh;exact hu
 ·rw[if_neg e]at hl'
  rw[List.getElem?_set_ne (fun h=>e h.symm)]at Yh;have hr:=tI i u' l' Yh hl';refine aj hr hk fun x hx=>⟨fun e2=>?_,(hr.lt x hx).2⟩
  rcases ownBlock_ne (show(3:Nat)≠47 by decide) hr hrow with h5 | h5
  ·rw[h5]at hx;cases hx
  ·exact h5 (hx.trans (congrArg some e2))
theorem Og (v:Value) (d:DF) (rt:Rt d) (sm:Sm d) (w:World) (h:aT w v d): Calls Tryz.prog 14 #[v] w fun e w'=>∃ u,e=.returned (.tuple #[u,.int .i64 0])/\ay w.heap.size w' u (aK d)/\Below w.heap.size w w':=by
 have CR:Hid (∀ W,Below w.heap.size w W->Calls Tryz.prog 13 #[v] W fun e w'=>e=.returned (.bool true)/\Below W.heap.size W w'):=fun W hW=>by
  have:=dJ v d W (h.below hW) sm;rwa[(aC d).2 rt]at this
 have CC:Hid (∀ W,Below w.heap.size w W->Calls Tryz.prog 20 #[v] W fun e w'=>∃ u,e=.returned u/\ay W.heap.size w' u d/\(∀ v0 v1 v2,u=.agg #[v0,v1,v2]->mH v1 v2)/\Below W.heap.size W w'):=fun W hW=>Cs v d W (h.below hW) sm
 obtain⟨v0,v1,v2,rfl,h0,h1,h2⟩:=h;obtain⟨a2,c2,rfl⟩:=h2.form;obtain⟨n,hn⟩:∃ n,n=d.mr.length:=⟨_,rfl⟩;have Wx:n<=4000:=by have:=rt.mr;have:=rt.le;omega
 rw[<-hn]at h2 CR CC ⊢;have H2:=hid h2;have HN:=hid hn;have SM:=hid sm;clear h0 h1 h2 hn sm rt;go_enter Tryz.func14,Tryz.ntmps14;go_wp2_with fail
 refine az ?_;intro V hV;have B1:Hid (ah V w.heap.size #[v0,v1,.slice a2 n c2] 28):=by rw[hV];exact(ah.new w _ _).alloc _
 have B2:Hid (ah V (w.heap.size+1) #[.slice none 0 0,.slice none 0 0,.slice none 0 0] 28):=by rw[hV];exact(ah.new (w.alloc _) _ _).at (by simp)
 have X1:Hid (Below w.heap.size w V):=by rw[hV];exact(((Ext.refl w).alloc _).alloc _).below
 clear hV;obtain⟨⟨k0,k1,k2⟩,_⟩:=B1.out.three;refine(CR.out V X1.out).mono ?_;rintro e w2 ⟨rfl,hx⟩;have C1:=hid (B1.out.below hx B1.out.lt);have C2:=hid (B2.out.below hx B2.out.lt);have X2:=hid (X1.out.trans (hx.mono X1.out.size));clear hx k0 k1 k2 B1 B2 X1;obtain⟨⟨k0,k1,k2⟩,_⟩:=C1.out.three;go_wp2_with fail
 refine(CC.out w2 X2.out).mono ?_;rintro e w3 ⟨u,rfl,ho,hf,hx⟩;obtain⟨u0,u1,u2,rfl,o0,o1,o2⟩:=ho;have hf2:=hf u0 u1 u2 rfl;clear hf;obtain⟨ca,cc,rfl⟩:=ownsRow_form o0;obtain⟨na,nc,rfl⟩:=o1.form;obtain⟨ma,mc,rfl⟩:=o2.form;rw[<-HN.out]at o2 hf2 ⊢;have O0:=hid o0;have O1:=hid o1;have O2:=hid o2;have FF:=hid hf2;have D1:=hid (C1.out.below hx C1.out.lt);have D2:=hid (C2.out.below hx C2.out.lt);have X3:=hid (X2.out.trans (hx.mono X2.out.size));have aqS:w2.heap.size<=w3.heap.size:=hx.size;have aqT:w.heap.size+1<w2.heap.size:=C2.out.lt;clear o0 o1 o2 hf2 hx k0 k1 k2 C1 C2 X2 CR CC;obtain⟨n0,dD⟩:∃ n,n=d.cl.length:=⟨_,rfl⟩;rw[<-dD]at O0 ⊢;have lJ:Hid (d.cl.length=n0):=hid dD.symm;clear dD;generalize d.nx.length=n1 at*;have q2:∀ o,(w3.alloc o).cell? ⟨w.heap.size,2,none⟩=some (.slice a2 n c2):=fun o=>(D1.out.alloc o).cell 2
 go_wp2;go_loopw [16] (fun i wr=>∃ (k:Nat) (us:List Value),k<=n/\i=.int .i64 k/\us.length=n/\wr.ownsRow w2.heap.size 47 1 (.slice ma n mc) n us/\(∀ (i:Nat) (u:Value) (l:List Int),us[i]? =some u->(((d.mr.take k).map Sl)++d.mr.drop k)[i]? =some l->wr.ownsRow w2.heap.size 3 1 u l.length (l.map aS))/\ah wr w3.heap.size #[.slice ca n0 cc,.slice na n1 nc,.slice ma n mc] 28/\aa (fun x=>x<w3.heap.size/\(Value.slice ma n mc).ownBlock≠some x) w3 wr) (fun i _=>n-(intOf i).toNat);case atStart=>
  obtain⟨us,u1,u2,u3⟩:=O2.out;rw[<-HN.out]at u1;rw[u1]at u2;exact⟨0,us,Nat.zero_le _,rfl,u1,u2.alloc _,fun i u l hu hl=>(u3 i u l hu (by simpa using hl)).alloc _,ah.new _ _ _,aa.ag ((Ext.refl _).alloc _).below fun x hx=>hx.1⟩
 case round=>
  obtain⟨k,us,hk,rfl,Vc,hrow,tI,hb,hx⟩:=hrel;obtain⟨wo,rfl⟩:∃ wo:World,wo=wr:=⟨_,rfl⟩;have hso:w3.heap.size<wo.heap.size:=hb.lt;have L2:Hid (∀ x,(Value.slice ma n mc).ownBlock=some x->w2.heap.size<=x/\x<w3.heap.size):=by obtain⟨ms,m1,m2,_⟩:=O2.out;rw[m1, <-HN.out]at m2;exact hid fun x e=>m2.lt x e
  have XX:Hid (Below w.heap.size w wo):=X3.out.trans (hx.mono fun x my=>by
   have h5:x<w.heap.size:=my
   exact⟨by omega,fun e=>by have:=(L2.out x e).1;omega⟩:aa (· <w.heap.size) w3 wo).below
  by_cases hlt:k<n
  ·obtain⟨l,hl⟩:∃ l,d.mr[k]? =some l:=⟨_,List.getElem?_eq_getElem (by have:=HN.out;omega)⟩
   obtain⟨b,off,a',c',rfl,hbl,cl,_⟩:=(H2.out.below XX.out).elem hl;obtain⟨g,uo,rfl,hg1,hg2,hgu,gc,gf⟩:=fj hrow hlt;have gz:(k:Int)<n:=by omega
   have hg3:=L2.out g rfl;have HR:=hid hrow;have Yz:=hid tI;have HB:=hid hb;have HX:=hid hx;have HL:=hid hl;have HU:=hid Vc;have b2:=HB.out.cell 2;have b2':∀ u:Value,(wo.setCell ⟨g,k,none⟩ u).cell? ⟨w3.heap.size,2,none⟩=some (.slice (some ⟨g,0,none⟩) n mc):=fun u=>((HB.out.keeps ((aa.refl (· ≠g) wo).setCell (p:=⟨g,k,none⟩) (fun h=>h rfl) u) (by show w3.heap.size≠g;omega)).cell 2)
   have b2o:∀ (u:Value) (o:Obj),((wo.setCell ⟨g,k,none⟩ u).alloc o).cell? ⟨w3.heap.size,2,none⟩=some (.slice (some ⟨g,0,none⟩) n mc):=fun u o=>(((HB.out.keeps ((aa.refl (· ≠g) wo).setCell (p:=⟨g,k,none⟩) (fun h=>h rfl) u) (by show w3.heap.size≠g;omega)).alloc o).cell 2)
   clear hrow tI hb hx hl Vc q2;cases l with
   | nil=>
    go_wp2;go_roundw;case rel=>
     have kg0:aa (fun x=>x≠g/\x<wo.heap.size) wo ((wo.setCell ⟨g,k,none⟩ (.slice none 0 0)).setCell ⟨g,k,none⟩ (.slice (some ⟨wo.heap.size,0,none⟩) 1 1)):=
      ((aa.refl _ wo).setCell (p:=⟨g,k,none⟩) (fun h=>h.1 rfl) (.slice none 0 0)).setCell (p:=⟨g,k,none⟩) (fun h=>h.1 rfl) (.slice (some ⟨wo.heap.size,0,none⟩) 1 1)
     have kg:=kg0.alloc (fun y hy=>by simpa using hy.2) (.cells #[.int .i64 0] 3);have xX:(us.set k (.slice none 0 0)).set k (.slice (some ⟨wo.heap.size,0,none⟩) 1 1)=us.set k (.slice (some ⟨wo.heap.size,0,none⟩) 1 1):=by simp
     have YA:=(((HR.out.stored k (.slice none 0 0)).1.stored k (.slice (some ⟨wo.heap.size,0,none⟩) 1 1)).1.alloc (.cells #[.int .i64 0] 3));rw[xX]at YA;refine⟨k+1,us.set k (.slice (some ⟨wo.heap.size,0,none⟩) 1 1),by omega,by go_num,by rw[List.length_set];exact HU.out,YA,?_,HB.out.keeps kg ⟨by omega,hso⟩,HX.out.tr (kg.mono fun x hx=>⟨fun e=>hx.2 (by rw[e];rfl),by have:=hx.1;omega⟩)⟩;refine Cv HL.out HR.out Yz.out kg ⟨rfl,.inr ⟨_,1, #[.int .i64 0],rfl,by omega,?_,Nat.le_refl _,by unfold maxLen;omega,rfl,rfl⟩⟩;exact(ah.new ((wo.setCell ⟨g,k,none⟩ (.slice none 0 0)).setCell ⟨g,k,none⟩ (.slice (some ⟨wo.heap.size,0,none⟩) 1 1)) _ _).at (by simp)
    case measure=>simp[intOf];omega
   | cons x l=>
    have kg:aa (· ≠g) wo (wo.setCell ⟨g,k,none⟩ (.slice none 0 0)):=(aa.refl (· ≠g) wo).setCell (p:=⟨g,k,none⟩) (fun h=>h rfl) _;go_wp2;go_roundw;case rel=>
     refine⟨k+1,us.set k (.slice none 0 0),by omega,by go_num,by rw[List.length_set];exact HU.out,(HR.out.stored k _).1,?_,HB.out.keeps kg (by show w3.heap.size≠g;omega),HX.out.tr (kg.mono fun x hx e=>hx.2 (by rw[e];rfl))⟩;exact Cv HL.out HR.out Yz.out (kg.mono fun x hx=>hx.1) (World.ownsRow_nil _ _ _ _)
    case measure=>simp[intOf];omega
  ·obtain rfl:k=n:=by omega
   have HR:=hid hrow;have Yz:=hid tI;have HX:=hid hx;have E2:=hid (D2.out.keeps hx ⟨D2.out.lt,fun e=>by have:=(L2.out _ e).1;omega⟩);obtain⟨⟨k0,k1,k2⟩,_⟩:=hb.three;obtain⟨⟨l0,l1,l2⟩,z0,z1,z2⟩:=E2.out.three;have HU:=hid Vc;clear hrow tI hx hb Vc q2;go_wp2;refine bB ?_;intro W9 dK;have E9:Hid (ah W9 (w.heap.size+1) #[.slice ca n0 cc,.slice na n1 nc,.slice ma k mc] 28/\aa (· ≠w.heap.size+1) wo W9):=by rw[dK];exact hid ⟨E2.out.rW,((((aa.refl _ _).setCell (p:=⟨w.heap.size+1,0,none⟩) (fun h=>h rfl) _).setCell (p:=⟨w.heap.size+1,1,none⟩) (fun h=>h rfl) _).setCell (p:=⟨w.heap.size+1,2,none⟩) (fun h=>h rfl) _)⟩
   clear dK k0 k1 k2 l0 l1 l2 z0 z1 z2;obtain⟨⟨m0,m1,m2⟩,_⟩:=E9.out.1.three;refine bodyPost_ret (v:=.tuple #[.agg #[.slice ca n0 cc,.slice na n1 nc,.slice ma k mc],.int .i64 0]) (by simp[results,Tryz.results14,go_sem,m0,m1,m2]) rfl ⟨_,rfl,?_,XX.out.trans (E9.out.2.mono fun x hx e=>by have:x<w.heap.size:=hx;omega:aa (· <w.heap.size) wo W9).below⟩;obtain⟨ms,m1',m2',_⟩:=O2.out;have kk:∀ x,w2.heap.size<=x->x<wo.heap.size->x≠w.heap.size+1:=fun x h1 _=>by omega
   refine⟨_,_,_,rfl,?_,?_,?_⟩
   ·show W9.ownsRow w.heap.size 59 4 _ d.cl.length _
    have h5:=aj O0.out HX.out fun x my=>⟨(O0.out.lt x my).2,fun e=>by
     rcases ownBlock_ne (show(59:Nat)≠47 by decide) O0.out m2' with h6 | h6
     ·rw[h6]at my;cases my
     ·exact h6 (my.trans e.symm)⟩
    rw[lJ.out];exact aA (aQ h5 E9.out.2 kk) (by omega)
   ·exact((O1.out.aaS FF.out m2' HX.out).keeps E9.out.2 kk).base (by omega)
   ·have e1:(d.mr.take k).map Sl++d.mr.drop k=(aK d).mr:=by
     rw[HN.out,List.take_length,List.drop_length,List.append_nil];rfl
    rw[e1]at Yz;have uC:us.length=(aK d).mr.length:=by rw[HU.out,HN.out];simp[aK]
    exact(aW.keeps ⟨us,uC,by rw[HU.out];exact HR.out,Yz.out⟩ E9.out.2 kk).base (by omega)
theorem mN (v:Value) (d:DF) (sm:Sm d) (w:World) (h:aT w v d): Calls Tryz.prog 14 #[v] w fun e w'=>∃ u,e=.returned (.tuple #[u,.int .i64 (if d.right then 0 else 182)])/\ay w.heap.size w' u (if d.right then aK d else sN)/\Below w.heap.size w w':=by
 cases hr:d.right with
 | true=>exact Og v d ((aC d).1 hr) sm w h
 | false=>
  have CR:Hid (∀ W,Below w.heap.size w W->Calls Tryz.prog 13 #[v] W fun e w'=>e=.returned (.bool false)/\Below W.heap.size W w'):=fun W hW=>by
   have:=dJ v d W (h.below hW) sm;rwa[hr]at this
  obtain⟨v0,v1,v2,rfl,h0,h1,h2⟩:=h;clear h0 h1 h2 hr sm;go_enter Tryz.func14,Tryz.ntmps14;go_wp2_with fail
  refine az ?_;intro V hV;have B1:Hid (ah V w.heap.size #[v0,v1,v2] 28):=by rw[hV];exact(ah.new w _ _).alloc _
  have B2:Hid (ah V (w.heap.size+1) #[.slice none 0 0,.slice none 0 0,.slice none 0 0] 28):=by rw[hV];exact(ah.new (w.alloc _) _ _).at (by simp)
  have X1:Hid (Below w.heap.size w V):=by rw[hV];exact(((Ext.refl w).alloc _).alloc _).below
  clear hV;obtain⟨⟨k0,k1,k2⟩,_⟩:=B1.out.three;refine(CR.out V X1.out).mono ?_;rintro e w2 ⟨rfl,hx⟩;have C2:=hid (B2.out.below hx B2.out.lt);have X2:=hid (X1.out.trans (hx.mono X1.out.size));clear hx k0 k1 k2 B1 B2 X1;obtain⟨⟨k0,k1,k2⟩,z0,z1,z2⟩:=C2.out.three;go_wp2;refine bB ?_;intro W9 dK;have E9:Hid (ah W9 (w.heap.size+1) #[.slice none 0 0,.slice none 0 0,.slice none 0 0] 28/\Below w.heap.size w W9):=by rw[dK];exact hid ⟨C2.out.rW,dZ X2.out (by omega)⟩
  clear dK;obtain⟨⟨m0,m1,m2⟩,_⟩:=E9.out.1.three;exact bodyPost_ret (v:=.tuple #[.agg #[.slice none 0 0,.slice none 0 0,.slice none 0 0],.int .i64 182]) (by simp[results,Tryz.results14,go_sem,m0,m1,m2]) rfl ⟨_,rfl,Ez _ _,E9.out.2⟩
end
section
open Go Go.ChangeShapes Go.WideShapes Go.ChangeAt Go.RowKit Go.Deep
section
variable {H:Type} {enc:TypeId×Value→H} {W:World}
theorem fV {P:Program} {ts:List TypeId} {ds:List (DataW H)} (h:(DataW.weightsEach P ts ds).all (· <=reachBytes)=true) {j:Nat} {t:TypeId} {d:DataW H} (ht:ts[j]? =some t) (hd:ds[j]? =some d):∀ n∈d.weights P t,n<=reachBytes:=fun n hn=>by
 simpa using List.all_eq_true.1 h _ (DataW.weights_mem_each ht hd n hn)
end
end
section
open Go Go.RowKit Go.Shelf Go.Maps
attribute [local go_sem] encS
def gh (l:List Nat):Nat->List Nat
 | 0=>l
 | i+1=>((gh l i).set i ((gh l i).getD (l.length-1-i) 0)).set (l.length-1-i) ((gh l i).getD i 0)
theorem qT (l:List Nat):∀ i,(gh l i).length=l.length
 | 0=>rfl
 | i+1=>by simp[gh,qT l i]
theorem Cw (l:List Nat):∀ i,2*i<=l.length->∀ k,k<l.length->(gh l i)[k]? =if k<i\/l.length-1-k<i then l[l.length-1-k]? else l[k]?
 | 0,_,k,_=>by simp[gh]
 | i+1,h,k,hk=>by
  have ih:=Cw l i (by omega);have hl:=qT l i;have hi:(gh l i).getD i 0=l.getD i 0:=by rw[List.getD_eq_getElem?_getD,ih i (by omega),if_neg (by omega),List.getD_eq_getElem?_getD]
  have hj:(gh l i).getD (l.length-1-i) 0=l.getD (l.length-1-i) 0:=by rw[List.getD_eq_getElem?_getD,ih _ (by omega),if_neg (by omega),List.getD_eq_getElem?_getD]
  show(((gh l i).set i ((gh l i).getD (l.length-1-i) 0)).set (l.length-1-i) ((gh l i).getD i 0))[k]? =_;rw[hi,hj];by_cases e1:k=l.length-1-i
  ·subst e1
   rw[List.getElem?_set_self (by simp[hl];omega),if_pos (by omega),show l.length-1-(l.length-1-i)=i by omega,aI 0 (by omega)]
  ·rw[List.getElem?_set_ne (fun h=>e1 h.symm)]
   by_cases e2:k=i
   ·subst e2
    rw[List.getElem?_set_self (by omega),if_pos (by omega),aI 0 (by omega)]
   ·rw[List.getElem?_set_ne (fun h=>e2 h.symm),ih k hk]
    by_cases h3:k<i\/l.length-1-k<i
    ·rw[if_pos h3,if_pos (by omega)]
    ·rw[if_neg h3,if_neg (by omega)]
theorem Oh (l:List Nat) {i:Nat} (h1:2*i<=l.length) (h2:l.length<=2*i+1):gh l i=l.reverse:=by
 apply List.ext_getElem?;intro k;by_cases hk:k<l.length
 ·rw[Cw l i h1 k hk,List.getElem?_reverse hk]
  split
  ·rfl
  ·rename_i h3
   rw[show l.length-1-k=k by omega]
 ·rw[List.getElem?_eq_none (by rw[qT];omega),List.getElem?_eq_none (by simp;omega)]
theorem Wy (base:Nat) (v:Value) (l:List Nat) (hl:l.length<=1000000) (w:World) (h:w.ownsRow base 5 1 v l.length (l.map bu)): Calls Tryz.prog 45 #[v] w fun e w'=>e=.returned (.tuple #[])/\w'.ownsRow base 5 1 v l.length (l.reverse.map bu)/\aa (fun x=>v.ownBlock≠some x) w w':=by
 obtain⟨ad,cap,rfl⟩:=ownsRow_form h;obtain⟨n,hn⟩:∃ n,n=l.length:=⟨_,rfl⟩;rw[<-hn]at h hl ⊢;have H:=hid h;have HN:=hid hn;clear h hn;go_enter Tryz.func45,Tryz.ntmps45;go_wp2;go_loopw [2,3] (fun u v wr=>∃ (i:Nat) (jz:Int),2*i<=n/\u=.int .i64 i/\v=.int .i64 jz/\jz=(n:Int)-1-i/\wr.ownsRow base 5 1 (.slice ad n cap) n ((gh l i).map bu)/\aa (fun x=>(Value.slice ad n cap).ownBlock≠some x) w wr) (fun i _ _=>n-(intOf i).toNat);case atStart=>exact⟨0,_,by omega,rfl,rfl,by omega,H.out,aa.refl _ _⟩
 case round=>
  obtain⟨i,jz,hi,rfl,rfl,hj,hr,hx⟩:=hrel;obtain⟨wo,rfl⟩:∃ wo:World,wo=wr:=⟨_,rfl⟩;by_cases hlt:(i:Int)<jz
  ·obtain⟨j,rfl⟩:∃ j:Nat,jz=j:=⟨jz.toNat,by omega⟩
   have hjn:j=n-1-i:=by omega
   obtain⟨g,u1,rfl,hg1,hg2,hu1,c1,f1⟩:=fj hr (i:=i) (by omega);obtain⟨g',u2,e2,_,_,hu2,c2,f2⟩:=fj hr (i:=j) (by omega);cases e2;have hlen:=qT l i;rw[List.getElem?_map,aI 0 (by rw[hlen, <-HN.out];omega)]at hu1 hu2;obtain⟨x,hxx⟩:∃ x,x=(gh l i).getD i 0:=⟨_,rfl⟩;obtain⟨y,hyy⟩:∃ y,y=(gh l i).getD j 0:=⟨_,rfl⟩;rw[<-hxx]at hu1;rw[<-hyy]at hu2;cases hu1;cases hu2;replace c1:wo.cell? ⟨g,i,none⟩=some (.int .u8 x):=c1;replace c2:wo.cell? ⟨g,j,none⟩=some (.int .u8 y):=c2;have HR:=hid hr;have HX:=hid hx;have Sn:=hid hxx;have HYY:=hid hyy;have HJ:=hid hjn;have lB:(i:Int)<n:=by omega
   have aqW:(j:Int)<n:=by omega
   clear hr hx hlen hxx hyy hjn hj;go_wp2_with fail
   go_region
   go_wp2;go_roundw;case rel=>
    have kg:aa (· ≠g) wo ((wo.setCell ⟨g,i,none⟩ (.int .u8 y)).setCell ⟨g,j,none⟩ (.int .u8 x)).drew:=(((aa.refl (· ≠g) wo).setCell (p:=⟨g,i,none⟩) (fun h=>h rfl) _).setCell (p:=⟨g,j,none⟩) (fun h=>h rfl) _).drew;have hrow:=((HR.out.stored i (.int .u8 y)).1.stored j (.int .u8 x)).1;have e1:(((gh l i).map bu).set i (.int .u8 y)).set j (.int .u8 x)=(gh l (i+1)).map bu:=by
     have hj:l.length-1-i=j:=by rw[HJ.out,HN.out]
     show _=(((gh l i).set i ((gh l i).getD (l.length-1-i) 0)).set (l.length-1-i) ((gh l i).getD i 0)).map bu;rw[hj, <-Sn.out, <-HYY.out,List.map_set,List.map_set];rfl
    rw[e1]at hrow;refine⟨i+1,_,by have:=HJ.out;omega,by go_num,rfl,by have:=HJ.out;push_cast;omega,?_,HX.out.tr (kg.mono fun x hx e=>hx (by rw[e];rfl))⟩;exact hrow
   case measure=>simp[intOf];omega
  ·have HR:=hid hr
   have HX:=hid hx;have he:gh l i=l.reverse:=Oh l (by rw[<-HN.out];exact hi) (by rw[<-HN.out];omega);rw[he]at HR;clear hr hx hj;go_wp2;refine bodyPost_end (v:=.tuple #[]) (by simp[results,Tryz.results45,go_sem]) rfl ⟨rfl,?_,HX.out⟩;rw[<-List.map_reverse];exact HR.out
end
section
open Go Go.RowKit Go.Shelf Go.Maps
attribute [local go_sem] encS
theorem uW (n:Nat):(madeCells (Value.int .i64 0).cells (n*1)).toList=(List.replicate n (0:Int)).map aS:=by
 apply List.ext_getElem?;intro k;simp only[madeCells,Value.cells,Nat.mul_one,Array.toList_map,Array.toList_range,List.map_replicate,List.getElem?_map,List.getElem?_replicate];by_cases h:k<n
 ·rw[List.getElem?_range h,if_pos h];simp[aS,Nat.mod_one]
 ·rw[List.getElem?_eq_none (by simpa using h),if_neg h];rfl
theorem Kt (n:Nat):(madeCells (Value.int .u8 0).cells (n*1)).toList=(List.replicate n (0:Nat)).map bu:=by
 apply List.ext_getElem?;intro k;simp only[madeCells,Value.cells,Nat.mul_one,Array.toList_map,Array.toList_range,List.map_replicate,List.getElem?_map,List.getElem?_replicate];by_cases h:k<n
 ·rw[List.getElem?_range h,if_pos h];simp[bu,Nat.mod_one]
 ·rw[List.getElem?_eq_none (by simpa using h),if_neg h];rfl
theorem aaT {d:DF} {st:MJ} {i s k:Nat} (hs:st.todo[i]? =some s) (hk:k<d.cl.length):vis d st (i*d.cl.length+k)=if st.fr.getD (eJ d s k) 0=0 then⟨st.todo++ [eJ d s k],st.keys++ [i*d.cl.length+k],st.fr.set (eJ d s k) (s+1),st.jN.set (eJ d s k) (lb d.cl k)⟩else st:=by
 have h1:(i*d.cl.length+k)/d.cl.length=i:=by rw[Nat.mul_comm,Nat.mul_add_div (by omega),Nat.div_eq_of_lt hk,Nat.add_zero]
 have h2:(i*d.cl.length+k)%d.cl.length=k:=by rw[Nat.mul_comm,Nat.mul_add_mod,Nat.mod_eq_of_lt hk]
 unfold vis;rw[h1,h2,hs]
def aet:Value->Nat
 | .slice _ n _=>n
 | _=>0
theorem Hs (v:Value) (d:DF) (rt:Rt d) (sm:Sm d) (w:World) (h:aT w v d): Calls Tryz.prog 21 #[v] w fun e w'=>∃ u,e=.returned (.tuple #[u,.bool (aJ d).isSome,.int .i64 0])/\w'.ownsRow w.heap.size 5 1 u ((aJ d).getD []).length (((aJ d).getD []).map bu)/\Below w.heap.size w w':=by
 obtain⟨iI,Hh,pT,pU,pV⟩:=info_parts Tryz.tz;obtain⟨iB,Qp,wY,tJ,yK⟩:=info_parts Tryz.Eh;have CR:Hid (∀ W,Below w.heap.size w W->Calls Tryz.prog 13 #[v] W fun e w'=>e=.returned (.bool true)/\Below W.heap.size W w'):=fun W hW=>by
  have:=dJ v d W (h.below hW) sm;rwa[(aC d).2 rt]at this
 obtain⟨v0,v1,v2,rfl,h0,h1,h2⟩:=h;obtain⟨a0,c0,rfl⟩:=h0.1.form;obtain⟨a1,c1,rfl⟩:=h1.form;obtain⟨a2,c2,rfl⟩:=h2.form;have Vd:=rt.mr;rw[Vd]at h2 CR ⊢;obtain⟨n,hn⟩:∃ n,n=d.nx.length:=⟨_,rfl⟩;obtain⟨K,hK⟩:∃ n,n=d.cl.length:=⟨_,rfl⟩;have Wx:n<=4000:=by have:=rt.le;omega
 have gR:1<=n:=by have:=rt.pos;omega
 have hK2:K<=256:=by have:=rt.NJ;omega
 have hK1:0<K:=by have:=rt.tB;omega
 rw[<-hn]at h1 h2 CR ⊢;rw[<-hK]at h0 CR ⊢;have H0:=hid h0.1;have H1:=hid h1;have H2:=hid h2;have HN:=hid hn;have HK:=hid hK;have HMR:=hid Vd;have RT:=hid rt;have BO:Hid (∀ x,Sd d x (JE d x)):=hid fun x=>Sg rt x
 clear h0 h1 h2 hn hK Vd rt sm;go_enter Tryz.func21,Tryz.ntmps21;go_wp2_with fail
 refine aw ?_;intro V hV;have B1:Hid (ah V w.heap.size #[.slice a0 K c0,.slice a1 n c1,.slice a2 n c2] 28):=by rw[hV];exact ah.new w _ _
 have X1:Hid (Below w.heap.size w V):=by rw[hV];exact((Ext.refl w).alloc _).below
 clear hV;obtain⟨⟨k0,k1,k2⟩,_⟩:=B1.out.three;refine wp_scope_straight ?_;go_wp2_with fail
 refine(CR.out V X1.out).mono ?_;rintro e w2 ⟨rfl,hx⟩;have C1:=hid (B1.out.below hx B1.out.lt);have Yl:w.heap.size<w2.heap.size:=C1.out.lt;have X2:=hid (X1.out.trans (hx.mono X1.out.size));clear hx B1 X1 CR k0 k1 k2;obtain⟨⟨k0,k1,k2⟩,_⟩:=C1.out.three;go_wp2_with (at_make;refine wpList_make_full _ rfl (.tmp 20) (.tmp 20) 47 rfl w2.heap.size 3 iI (.int .i64 0) 1 Tryz.underlying47 Hh pT pU .i64 .i64 _ _ n rfl rfl rfl rfl (by rw[pV];omega) (by unfold maxLen;omega) (Nat.le_refl _) ?_;intro w3 hr hg;refine Hid.out ?_);refine hid ?_;have hs3:w2.heap.size<w3.heap.size:=by
  rcases hr.2 with⟨h5,_⟩ | ⟨g,c,cur,h5,_,h6,_⟩
  ·cases h5
  ·cases h5;exact(Array.getElem?_eq_some_iff.1 h6).1
 have hb3:Below w2.heap.size w2 w3:=(aa.bG hg fun x hx=>⟨hx,fun e=>by cases e⟩:aa (· <w2.heap.size) w2 w3).below;rw[uW]at hr;have R3:=hid hr;have D1:=hid (C1.out.below hb3 C1.out.lt);have X3:=hid (X2.out.trans (hb3.mono X2.out.size));clear hr hg hb3 k0 k1 k2 C1;obtain⟨⟨k0,k1,k2⟩,_⟩:=D1.out.three;go_wp2_with (at_make;refine wpList_make_full _ rfl (.tmp 24) (.tmp 24) 23 rfl w3.heap.size 5 iB (.int .u8 0) 1 Tryz.underlying23 Qp wY tJ .i64 .i64 _ _ n rfl rfl rfl rfl (by rw[yK];omega) (by unfold maxLen;omega) (Nat.le_refl _) ?_;intro w4 hr hg;refine Hid.out ?_);refine hid ?_;have Qq:w3.heap.size<w4.heap.size:=by
  rcases hr.2 with⟨h5,_⟩ | ⟨g,c,cur,h5,_,h6,_⟩
  ·cases h5
  ·cases h5;exact(Array.getElem?_eq_some_iff.1 h6).1
 have hb4:Below w3.heap.size w3 w4:=(aa.bG hg fun x hx=>⟨hx,fun e=>by cases e⟩:aa (· <w3.heap.size) w3 w4).below;rw[Kt]at hr;have Y4:=hid hr;have R4:=hid (aq R3.out hb4);have E1:=hid (D1.out.below hb4 D1.out.lt);have X4:=hid (X3.out.trans (hb4.mono X3.out.size));clear hr hg hb4 k0 k1 k2 D1 R3 X3 X2;obtain⟨g5,hg5⟩:∃ g,g=w2.heap.size:=⟨_,rfl⟩;obtain⟨g6,hg6⟩:∃ g,g=w3.heap.size:=⟨_,rfl⟩;rw[<-hg5]at R4 hs3 Yl ⊢;rw[<-hg6]at Y4 hs3 Qq ⊢;clear hg5 hg6;have f0:∀ o,(w4.alloc o).frozen? ⟨g5,0,none⟩=false:=fun o=>(R4.out.alloc o).frozenAt 0
 have f1:∀ o,(w4.alloc o).cell? ⟨g5,0,none⟩=some (.int .i64 0):=fun o=>by
  rw[(R4.out.alloc o).cellAt 0 (by omega),List.getElem?_map,List.getElem?_replicate,if_pos (by omega)];rfl
 have hni:(0:Int)<n:=by omega
 go_wp2;clear f0 f1;go_step3;go_wp2;go_loopw [7,8,9] (fun todo fd iv wr=>fd=.int .i64 (-1)/\∃ (i:Nat) (st:MJ),iv=.int .i64 i/\st=JE d (i*K)/\i<=st.todo.length/\(∀ (j t:Nat),j<i->st.todo[j]? =some t->acc d t=false)/\wr.ownsRow g5 3 1 (.slice (some ⟨g5,0,none⟩) n n) n (st.fr.map aS)/\wr.ownsRow g6 5 1 (.slice (some ⟨g6,0,none⟩) n n) n (st.jN.map bu)/\wr.ownsRow w4.heap.size 3 1 todo st.todo.length (st.todo.map aau)/\aa (fun x=>x<w4.heap.size/\x≠g5/\x≠g6) w4 wr) (fun _ _ iv _=>n-(intOf iv).toNat);case atStart=>
  have hb0:JE d (0*K)=⟨[0],[0],(List.replicate n 0).set 0 (-1),List.replicate n 0⟩:=by rw[Nat.zero_mul,HN.out];rfl
  have kg:aa (· ≠g5) (w4.alloc (.cells #[.int .i64 0] 3)) ((w4.alloc (.cells #[.int .i64 0] 3)).setCell ⟨g5,0,none⟩ (.int .i64 (-1))):=(aa.refl (· ≠g5) _).setCell (p:=⟨g5,0,none⟩) (fun h=>h rfl) _;refine⟨rfl,0,⟨[0],[0],(List.replicate n 0).set 0 (-1),List.replicate n 0⟩,rfl,hb0.symm,Nat.zero_le _,fun j t hj=>by omega,?_,?_,?_,((aa.refl _ w4).alloc (fun x hx=>hx.1) _).tr (kg.mono fun x hx=>hx.2.1)⟩
  ·have h5:=((R4.out.alloc (.cells #[.int .i64 0] 3)).stored 0 (.int .i64 (-1))).1
   rw[show(((List.replicate n (0:Int)).set 0 (-1)).map aS)=((List.replicate n (0:Int)).map aS).set 0 (.int .i64 (-1)) by rw[List.map_set];rfl];exact h5
  ·exact aQ (Y4.out.alloc _) kg fun x h1 _ e=>by omega
  ·refine aQ (w:=w4.alloc (.cells #[.int .i64 0] 3)) (base:=w4.heap.size) ⟨rfl,.inr ⟨_,1, #[.int .i64 0],rfl,Nat.le_refl _,ah.new _ _ _,Nat.le_refl _,by unfold maxLen;omega,rfl,rfl⟩⟩ kg fun x h1 _ e=>by omega
 case round=>
  obtain⟨rfl,i,st,rfl,hst,hi,ha,BH,hby,htd,hx⟩:=hrel;obtain⟨wo,rfl⟩:∃ wo:World,wo=wr:=⟨_,rfl⟩;have I:Hid (Sd d (i*d.cl.length) st):=hid (by rw[hst,HK.out];exact BO.out _);obtain⟨L,hL⟩:∃ L,L=st.todo.length:=⟨_,rfl⟩;have hLn:L<=n:=by have:=I.out.len;have:=HN.out;omega
  rw[<-hL]at hi htd;obtain⟨ta,tc,rfl⟩:=ownsRow_form htd;have HST:=hid hst;have HA:=hid ha;have FR:=hid BH;have BY:=hid hby;have TD:=hid htd;have HX:=hid hx;have HL:=hid hL;have XO:=hid (X4.out.trans (hx.mono fun x my=>by have:x<w.heap.size:=my;exact⟨by omega,by omega,by omega⟩:aa (· <w.heap.size) w4 wo).below);have BB:=hid (E1.out.keeps hx ⟨by omega,by omega,by omega⟩);have hw4:w4.heap.size<=wo.heap.size:=hx.size;clear hst ha BH hby htd hx hL;by_cases hlt:i<L
  ·obtain⟨g7,u7,rfl,hg1,hg2,hu7,c7,_⟩:=fj TD.out hlt
   obtain⟨s,hs⟩:∃ s,st.todo[i]? =some s:=⟨_,List.getElem?_eq_getElem (by rw[<-HL.out];exact hlt)⟩;rw[List.getElem?_map,hs]at hu7;cases hu7;replace c7:wo.cell? ⟨g7,i,none⟩=some (.int .i64 s):=c7;have Gl:s<n:=by have:=I.out.lt s (List.mem_of_getElem? hs);have:=HN.out;omega
   have HS:=hid hs;obtain⟨m,hm⟩:∃ m,d.mr[s]? =some m:=⟨_,List.getElem?_eq_getElem (by have:=HMR.out;have:=HN.out;omega)⟩;obtain⟨l,hl⟩:∃ l,d.nx[s]? =some l:=⟨_,List.getElem?_eq_getElem (by have:=HN.out;omega)⟩;obtain⟨bm,om,am,cm,e2,Yt,cmm,_⟩:=(H2.out.below XO.out).elem hm;obtain⟨bl,ol,al,cl,e1,hbl,aew,fy⟩:=H1.out.elem hl;have cll:wo.cell? ⟨bl,ol+s,none⟩=some (.slice al l.length cl):=((aa.ag XO.out (R:=(· <w.heap.size)) fun _ h=>h).cell (p:=⟨bl,ol+s,none⟩) hbl).trans aew;clear aew;have mL:acc d s= !m.isEmpty:=by unfold acc;rw[getD_some hm]
   have hlK:l.length=K:=by have:=RT.out.len s (by have:=HN.out;omega);rw[getD_some hl]at this;rw[this,HK.out]
   rw[hlK]at cll fy;obtain⟨ml,uC⟩:∃ x,x=m.length:=⟨_,rfl⟩;rw[<-uC]at cmm;cases e2;cases e1;obtain⟨⟨b0,b1,b2⟩,_⟩:=BB.out.three;have hii:(i:Int)<L:=by omega
   have Yd:(s:Int)<n:=by omega
   have HM:=hid hm;have HLL:=hid hl;have SL:=hid fy;have ACC:=hid mL;have AW:=hid uC;clear hm hl fy mL hlK uC hs;by_cases hz:ml=0
   ·subst hz
    have aey:Hid (acc d s=false):=hid (by rw[ACC.out];cases m with | nil=>rfl | cons _ _=>have:=AW.out;simp at this);go_wp2;go_loopw [7,53] (fun todo kv wr=>∃ (k:Nat) (fT:MJ),k<=K/\kv=.int .i64 k/\fT=JE d (i*K+k)/\(∀ (j t:Nat),st.todo[j]? =some t->fT.todo[j]? =some t)/\wr.ownsRow g5 3 1 (.slice (some ⟨g5,0,none⟩) n n) n (fT.fr.map aS)/\wr.ownsRow g6 5 1 (.slice (some ⟨g6,0,none⟩) n n) n (fT.jN.map bu)/\wr.ownsRow w4.heap.size 3 1 todo fT.todo.length (fT.todo.map aau)/\aa (fun x=>x<w4.heap.size/\x≠g5/\x≠g6) w4 wr) (fun _ kv _=>K-(intOf kv).toNat);case atStart=>exact⟨0,st,Nat.zero_le _,rfl,HST.out,fun _ _ h=>h,FR.out,BY.out,by rw[<-HL.out];exact TD.out,HX.out⟩
    case round=>
     obtain⟨k,fT,hk,rfl,hst',bQ,hfr',hby',htd',my⟩:=hrel;obtain⟨wi,rfl⟩:∃ wi:World,wi=wr:=⟨_,rfl⟩;have XI:=hid (X4.out.trans (my.mono fun x my=>by have:x<w.heap.size:=my;exact⟨by omega,by omega,by omega⟩:aa (· <w.heap.size) w4 wi).below);have I':Hid (Sd d (i*d.cl.length+k) fT):=hid (by rw[hst',HK.out];exact BO.out _);obtain⟨L',hL'⟩:∃ L,L=fT.todo.length:=⟨_,rfl⟩;have aqX:L'<=n:=by have:=I'.out.len;have:=HN.out;omega
     rw[<-hL']at htd';have hs':=bQ i s HS.out;have aaW:=hid bQ;have Sq:=hid hst';have FR':=hid hfr';have BY':=hid hby';have TD':=hid htd';have HX':=hid my;have HL':=hid hL';have HS':=hid hs';have aqY:w4.heap.size<=wi.heap.size:=my.size;clear hst' bQ hfr' hby' htd' my hL' hs' b0 b1 b2 c7 cmm cll;by_cases hkK:k<K
     ·obtain⟨t,ht⟩:∃ t,t=eJ d s k:=⟨_,rfl⟩
      have hkd:k<d.cl.length:=by rw[<-HK.out];exact hkK
      have hsd:s<d.nx.length:=by rw[<-HN.out];exact Gl
      have yL:t<n:=by rw[ht,HN.out];exact RT.out.cK hsd hkd
      have hlk:l[k]? =some (t:Int):=by have:=RT.out.pN hsd hkd;rw[getD_some HLL.out, <-ht]at this;exact this
      obtain⟨bz,oz,e9,YC,cz⟩:=((SL.out.below XI.out).elem hlk);cases e9;replace cz:wi.cell? ⟨bz,oz+k,none⟩=some (.int .i64 t):=cz;obtain⟨_,uf,e5,_,_,huf,cf,ff⟩:=fj FR'.out yL;cases e5;rw[List.getElem?_map,aI 0 (by rw[I'.out.fr, <-HN.out];exact yL)]at huf;cases huf;have hti:(t:Int)<n:=by omega
      have gz:(k:Int)<K:=by omega
      have HT:=hid ht;have Ku:=aaT HS'.out hkd;rw[<-HT.out]at Ku;by_cases hz0:fT.fr.getD t 0=0
      ·rw[if_pos hz0]at Ku
       replace cf:wi.cell? ⟨g5,t,none⟩=some (.int .i64 0):=by rw[cf,hz0];rfl
       obtain⟨c,hc⟩:∃ c,d.cl[k]? =some c:=⟨_,List.getElem?_eq_getElem hkd⟩;obtain⟨bc,oc,e8,hbc,q0,q1,q2,q3⟩:=(H0.out.below XI.out).elem hc;cases e8;have rK:bc<w.heap.size:=by obtain⟨bw,ow,e7,rK,_⟩:=H0.out.elem hc;cases e7;exact rK
       have Kv:∀ u,aa (· ≠g5) wi (wi.setCell ⟨g5,t,none⟩ u):=fun u=>(aa.refl (· ≠g5) wi).setCell (p:=⟨g5,t,none⟩) (fun h=>h rfl) u
       have BBi:=hid (E1.out.keeps HX'.out ⟨by omega,by omega,by omega⟩);have aq0:bc<w.heap.size:=rK;have b0s:∀ u,(wi.setCell ⟨g5,t,none⟩ u).cell? ⟨w.heap.size,0,none⟩=some (.slice (some ⟨bc,oc,none⟩) K c0):=fun u=>((BBi.out.keeps (Kv u) (by show w.heap.size≠g5;omega)).cell 0)
       have q0s:∀ u,(wi.setCell ⟨g5,t,none⟩ u).cell? ⟨bc,oc+k*4,none⟩=some (.int .u64 (wd c 0).toNat):=fun u=>((Kv u).cell (p:=⟨bc,oc+k*4,none⟩) (by show bc≠g5;omega)).trans q0
       have q1s:∀ u,(wi.setCell ⟨g5,t,none⟩ u).cell? ⟨bc,oc+k*4+1,none⟩=some (.int .u64 (wd c 1).toNat):=fun u=>((Kv u).cell (p:=⟨bc,oc+k*4+1,none⟩) (by show bc≠g5;omega)).trans q1
       have q2s:∀ u,(wi.setCell ⟨g5,t,none⟩ u).cell? ⟨bc,oc+k*4+2,none⟩=some (.int .u64 (wd c 2).toNat):=fun u=>((Kv u).cell (p:=⟨bc,oc+k*4+2,none⟩) (by show bc≠g5;omega)).trans q2
       have q3s:∀ u,(wi.setCell ⟨g5,t,none⟩ u).cell? ⟨bc,oc+k*4+3,none⟩=some (.int .u64 (wd c 3).toNat):=fun u=>((Kv u).cell (p:=⟨bc,oc+k*4+3,none⟩) (by show bc≠g5;omega)).trans q3
       have aaZ:=hid Ku;have HCC:=hid hc;clear q0 q1 q2 q3 hc ht hlk Ku;go_wp2_with fail
       refine az ?_;intro W1 hW1;have KW:Hid (aa (· ≠g5) wi W1):=by rw[hW1];exact hid (Kv _)
       have F1:Hid (W1.ownsRow g5 3 1 (.slice (some ⟨g5,0,none⟩) n n) n ((fT.fr.set t (s+1)).map aS)):=by rw[hW1,List.map_set];exact hid (FR'.out.stored t _).1
       clear hW1 Kv b0s q0s q1s q2s q3s cf ff;refine(uN c W1).mono ?_;rintro e w6 ⟨rfl,hx⟩;obtain⟨cb,hcb⟩:∃ x,x=(bC c).1:=⟨_,rfl⟩;have aeA:lb d.cl k=cb:=by rw[hcb];unfold lb;rw[getD_some HCC.out]
       rw[<-hcb];have HCB:=hid aeA;have F6:=hid (aq F1.out hx.below);have aq7:wi.heap.size<=W1.heap.size:=KW.out.size;have B6:=hid (aq (aQ BY'.out KW.out fun x h1 _=>by show x≠g5;omega) hx.below);have T6:=hid (aq (aQ TD'.out KW.out fun x h1 _=>by show x≠g5;omega) hx.below);have K6:Hid (aa (fun x=>x<w4.heap.size/\x≠g5/\x≠g6) w4 w6):=hid ((HX'.out.tr (KW.out.mono fun x hx=>hx.2.1)).tr (aa.ag hx.below fun x my=>by have:=my.1;omega));have aq8:W1.heap.size<=w6.heap.size:=hx.size;clear hcb aeA hx F1 KW;obtain⟨NY,NZ,rfl⟩:=ownsRow_form T6.out;obtain⟨_,ub,e5,_,_,_,cb6,fb6⟩:=fj B6.out yL;cases e5;have T7:=hid (aQ T6.out ((aa.refl (· ≠g6) w6).setCell (p:=⟨g6,t,none⟩) (fun h=>h rfl) (.int .u8 cb)) fun x h1 _=>by show x≠g6;omega);go_wp2_with (at_builtin;refine wpList_append_own_at _ rfl (.tmp 80) (.tmp 82) 47 rfl w4.heap.size 3 iI (.int .i64 0) 1 8 Tryz.underlying47 Hh pT pU pV rfl (by decide) _ _ _ rfl (T7.out.alloc _) ⟨_,0,none⟩ 1 1 [.int .i64 t] rfl rfl (bU ((ah.new (w6.setCell ⟨g6,t,none⟩ (.int .u8 cb)) #[.int .i64 t] 3).at (by simp))) (by intro u hu;simp at hu;rw[hu];rfl) (by unfold maxLen;omega) (by omega) (by simp;omega) ?_;intro v' w9 hown' hgrow hh hat;refine Hid.out ?_);refine hid ?_;have HO9:=hid hown';have HG:=hid hgrow;obtain⟨va,vc,rfl⟩:=ownsRow_form hown';have K7:aa (fun x=>x<w4.heap.size/\x≠g6) w6 w9:=(((aa.refl _ w6).setCell (p:=⟨g6,t,none⟩) (fun h=>h.2 rfl) (.int .u8 cb)).alloc (fun x hx=>by have:=hx.1;simp;omega) (.cells #[.int .i64 t] 3)).tr (aa.bG HG.out fun x hx=>⟨by have:=hx.1;simp;omega,fun e=>by have:=(T7.out.lt x e.symm).1;have:=hx.1;omega⟩);have K8:aa (fun x=>x<w4.heap.size) (w6.setCell ⟨g6,t,none⟩ (.int .u8 cb)) w9:=((aa.refl _ _).alloc (fun x hx=>by have:x<w4.heap.size:=hx;simp;omega) (.cells #[.int .i64 t] 3)).tr (aa.bG HG.out fun x hx=>⟨by have:x<w4.heap.size:=hx;simp;omega,fun e=>by have:=(T7.out.lt x e.symm).1;have:x<w4.heap.size:=hx;omega⟩);clear hown' hgrow hh hat cb6 fb6;go_wp2;go_roundw;case rel=>
        refine⟨k+1,⟨fT.todo++ [t],fT.keys++ [i*d.cl.length+k],fT.fr.set t (s+1),fT.jN.set t cb⟩,by omega,by go_num,?_,?_,?_,?_,?_,K6.out.tr (K7.mono fun x hx=>⟨hx.1,hx.2.2⟩)⟩
        ·rw[Sq.out]
         show _=vis d (JE d (i*K+k)) (i*K+k);rw[<-Sq.out,HK.out,aaZ.out,HCB.out]
        ·intro j u hu
         have h5:=aaW.out j u hu;show(fT.todo++ [t])[j]? =some u;rw[List.getElem?_append_left (List.getElem?_eq_some_iff.1 h5).1];exact h5
        ·exact aj F6.out K7 fun x e=>by cases e;exact⟨show g5<w4.heap.size by omega,show g5≠g6 by omega⟩
        ·show w9.ownsRow g6 _ 1 _ n ((fT.jN.set t cb).map bu)
         rw[List.map_set];exact aj ((B6.out.stored t (.int .u8 cb)).1) K8 fun x e=>by cases e;show g6<w4.heap.size;omega
        ·show w9.ownsRow w4.heap.size _ 1 _ (fT.todo++ [t]).length ((fT.todo++ [t]).map aau)
         rw[List.map_append,List.length_append, <-HL'.out];exact HO9.out
       case measure=>simp[intOf];omega
      ·rw[if_neg hz0]at Ku
       have hb9:((fT.fr.getD t 0:Int)==0)=false:=by rw[beq_eq_false_iff_ne];exact hz0
       obtain⟨z,hz⟩:∃ z,z=fT.fr.getD t 0:=⟨_,rfl⟩;rw[<-hz]at hb9;replace cf:wi.cell? ⟨g5,t,none⟩=some (.int .i64 z):=by rw[cf, <-hz];rfl
       have aaZ:=hid Ku;obtain⟨NY,NZ,rfl⟩:=ownsRow_form TD'.out;clear hz hz0 Ku ht hlk;go_wp2;go_roundw;case rel=>
        refine⟨k+1,fT,by omega,by go_num,?_,aaW.out,FR'.out,BY'.out,by rw[<-HL'.out];exact TD'.out,HX'.out⟩;rw[Sq.out];show _=vis d (JE d (i*K+k)) (i*K+k);rw[<-Sq.out,HK.out];exact aaZ.out.symm
       case measure=>simp[intOf];omega
     ·obtain rfl:k=K:=by omega
      obtain⟨NY,NZ,rfl⟩:=ownsRow_form TD'.out;clear hkK;go_wp2;go_roundw;case rel=>
       have rB:i<st.todo.length:=by rw[<-HL.out];exact hlt
       refine⟨rfl,i+1,fT,by go_num,?_,?_,?_,FR'.out,BY'.out,by rw[<-HL'.out];exact TD'.out,HX'.out⟩
       ·rw[Sq.out,Nat.succ_mul]
       ·exact(List.getElem?_eq_some_iff.1 HS'.out).1
       ·intro j t hj ht
        by_cases e:j=i
        ·subst e
         rw[HS'.out]at ht;cases ht;exact aey.out
        ·have h5:j<st.todo.length:=by omega
         have h6:=aaW.out j _ (List.getElem?_eq_getElem h5);rw[h6]at ht;cases ht;exact HA.out j _ (by omega) (List.getElem?_eq_getElem h5)
      case measure=>simp[intOf];omega
   ·have wZ:(0:Int)<ml:=by omega
    have hmd:decide ((0:Int)<ml)=true:=decide_eq_true wZ;have hmq:0<ml:=by omega
    have arc:decide (0<ml)=true:=decide_eq_true hmq;have aeB:Hid (acc d s=true):=hid (by rw[ACC.out];cases m with | nil=>have:=AW.out;simp at this;omega | cons _ _=>rfl);go_wp2;obtain⟨m2,ss,bs,aeC,aeD,Sr,aeE,hmn,Ss⟩:=Ks RT.out I.out HS.out HA.out aeB.out;have Gm:m2<=4000:=by have:=HN.out;omega
    have HC:=hid Sr;have HSS:=hid aeE;have HF:=hid Ss;have HS0:=hid aeC;have HSM:=hid aeD;clear Sr aeE Ss aeC aeD b0 b1 b2 c7 cmm cll;go_loopw [13,14] (fun ov sv wr=>∃ lq:Nat,lq<=m2/\sv=.int .i64 (ss lq)/\wr.ownsRow wo.heap.size 5 1 ov (m2-lq) (((((List.range m2).drop lq).map bs).reverse).map bu)/\aa (fun x=>x<wo.heap.size) wo wr) (fun ov _ _=>m2-aet ov);case atStart=>
     refine⟨m2,Nat.le_refl _,by rw[HSM.out],?_,aa.refl _ _⟩;rw[Nat.sub_self,List.drop_eq_nil_of_le (by simp)];exact World.ownsRow_nil _ _ _ _
    case round=>
     obtain⟨lq,hlq,rfl,hov,Oi⟩:=hrel;obtain⟨wi,rfl⟩:∃ wi:World,wi=wr:=⟨_,rfl⟩;have FRi:=hid (aj FR.out Oi fun x e=>(FR.out.lt x e).2);have BYi:=hid (aj BY.out Oi fun x e=>(BY.out.lt x e).2);have ari:wo.heap.size<=wi.heap.size:=Oi.size;have OV:=hid hov;have HXR:=hid Oi;obtain⟨oa,oc,rfl⟩:=ownsRow_form hov;clear hov Oi;have fy:=HSS.out lq hlq;obtain⟨sq,hsq⟩:∃ x,x=ss lq:=⟨_,rfl⟩;rw[<-hsq]at fy ⊢;have Wz:sq<n:=by rw[HN.out];exact fy
     obtain⟨_,uz,e5,_,_,huz,cz,_⟩:=fj FRi.out Wz;cases e5;obtain⟨_,uy,e6,_,_,huy,cy,_⟩:=fj BYi.out Wz;cases e6;rw[List.getElem?_map,aI 0 (by rw[I.out.fr, <-HN.out];exact Wz)]at huz;rw[List.getElem?_map,aI 0 (by rw[I.out.jN, <-HN.out];exact Wz)]at huy;cases huz;cases huy;have arj:(sq:Int)<n:=by omega
     cases lq with
     | zero=>
      have hz0:st.fr.getD sq 0= -1:=by rw[hsq,HS0.out];exact I.out.root
      replace cz:wi.cell? ⟨g5,sq,none⟩=some (.int .i64 (-1)):=by rw[cz,hz0];rfl
      have HQ:=hid hsq;clear hsq hz0 cy;obtain⟨lr,WA⟩:∃ l,l=((List.range m2).map bs).reverse:=⟨_,rfl⟩;have aeF:lr.length=m2:=by rw[WA];simp
      have OV2:Hid (wi.ownsRow wo.heap.size 5 1 (.slice oa m2 oc) lr.length (lr.map bu)):=hid (by rw[aeF,WA];exact OV.out);have HLR:=hid WA;clear OV WA;go_wp2_with fail
      refine(Wy wo.heap.size _ lr (by omega) _ OV2.out).mono ?_;rintro e w6 ⟨rfl,hr,hx⟩;have hr6:=aA hr (show w.heap.size<=wo.heap.size by omega);have RR:=hid hr6
      have UZ:Hid (Below w.heap.size w w6):=hid ((XO.out.trans (HXR.out.mono fun x hx=>by have:x<w.heap.size:=hx;omega:aa (· <w.heap.size) wo wi).below).trans (hx.mono fun x hx=>by
       intro e;have:=(OV2.out.lt x e).1;have:x<w.heap.size:=hx
       omega:aa (· <w.heap.size) wi w6).below)
      clear hr hx hr6;go_wp2;rw[Exit.noGoto_ret];refine bodyPost_ret (v:=.tuple #[.slice oa m2 oc,.bool true,.int .i64 0]) (by simp[results,Tryz.results21,go_sem]) rfl ?_;rw[HF.out];refine⟨_,rfl,?_,UZ.out⟩;have e7:lr.reverse=(List.range m2).map bs:=by rw[HLR.out,List.reverse_reverse]
      have h9:=RR.out;rw[e7,aeF]at h9;show w6.ownsRow w.heap.size 5 1 _ ((List.range m2).map bs).length (((List.range m2).map bs).map bu);rw[List.length_map,List.length_range];exact h9
     | succ lp=>
      obtain⟨c1,c2,c3⟩:=HC.out lp (by omega);rw[<-hsq]at c1 c2;replace cz:wi.cell? ⟨g5,sq,none⟩=some (.int .i64 (ss lp+1:Nat)):=by rw[cz,c1];rfl
      replace cy:wi.cell? ⟨g6,sq,none⟩=some (.int .u8 (bs lp)):=by rw[cy,c2];rfl
      have HQ:=hid hsq;have hp9:(0:Int)<(ss lp+1:Nat):=by omega
      have hp8:ss lp<=4000:=by have:=HSS.out lp (by omega);have:=HN.out;omega
      clear hsq c1 c2;go_wp2_with (at_builtin;refine wpList_append_own_at _ rfl (.tmp 98) (.tmp 103) 23 rfl wo.heap.size 5 iB (.int .u8 0) 1 1 Tryz.underlying23 Qp wY tJ yK rfl (by decide) _ _ _ rfl (OV.out.alloc _) ⟨_,0,none⟩ 1 1 [.int .u8 (bs lp)] rfl rfl (bU (ah.new _ _ _)) (by intro u hu;simp at hu;rw[hu];rfl) (by unfold maxLen;omega) (by omega) (by simp;omega) ?_;intro v' w9 hown' hgrow hh hat;refine Hid.out ?_);refine hid ?_;have HG:=hid hgrow;have HO9:=hid hown';obtain⟨va,vc,rfl⟩:=ownsRow_form hown';have K9:aa (fun x=>x<wo.heap.size) wi w9:=((aa.refl _ wi).alloc (fun x hx=>by have:x<wo.heap.size:=hx;omega) _).tr (aa.bG HG.out fun x hx=>⟨by have:x<wo.heap.size:=hx;simp;omega,fun e=>by have:=(OV.out.lt x e.symm).1;have:x<wo.heap.size:=hx;omega⟩);have cz9:=(K9.cell (p:=⟨g5,sq,none⟩) (by show g5<wo.heap.size;omega)).trans cz;clear hgrow hown' hh hat cz cy;go_wp2;go_roundw;case rel=>
       refine⟨lp,by omega,by go_num,?_,HXR.out.tr K9⟩;have e8:m2-lp=m2-(lp+1)+1:=by omega
       have e9:(List.range m2).drop lp=lp::(List.range m2).drop (lp+1):=by rw[List.drop_eq_getElem_cons (by simp;omega)];simp
       rw[e8,e9,List.map_cons,List.reverse_cons,List.map_append];exact HO9.out
      case measure=>simp[aet];omega
  ·have gR:=Kr RT.out I.out (by rw[<-HL.out];omega) (fun j t ht=>HA.out j t (by have:=(List.getElem?_eq_some_iff.1 ht).1;have:=HL.out;omega) ht)
   have HF:=hid gR;clear gR;go_wp2;rw[Exit.noGoto_ret];refine bodyPost_ret (v:=.tuple #[.slice none 0 0,.bool false,.int .i64 0]) (by simp[results,Tryz.results21,go_sem]) rfl ?_;rw[HF.out];exact⟨_,rfl,World.ownsRow_nil _ _ _ _,XO.out⟩
end
end Go.Proofs.YtalombmiochpmaaGreatDoor
