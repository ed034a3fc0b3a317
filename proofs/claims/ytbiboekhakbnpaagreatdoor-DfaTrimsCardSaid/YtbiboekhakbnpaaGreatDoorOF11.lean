/- strings.Builder's WriteString and WriteByte: the library's contracts at this program's numbers (laid by hand: the layer's word does not find a number for the type interface{}, which no body of the closure names). -/
import Derived.Test.YtbiboekhakbnpaaGreatDoorOF10
import Derived.Shelf.Strings.BuilderK
import Derived.Shelf.Strconv.Itoa3
set_option maxRecDepth 100000
set_option maxHeartbeats 16000000
open Go.Lib (hid)
namespace Go.Proofs.YtbiboekhakbnpaaGreatDoor
open Go Go.RowKit Go.Shelf Go.Maps
attribute [local go_sem] encS
theorem IC (v u:Value) (a:NF) (rt:Nt a) (l:List Int) (hst:a.st l=true) (c:Nat) (hc:c<256) (w:World) (h:dO w v a) (sm:vR a) (hu:bg aF w u l) (hl:l.length<=1000000): Calls Tryz.prog 95 #[v,u,.int .u8 c] w fun e w'=>∃ r,e=.returned r/\w'.ownsRow w.heap.size 3 1 r (a.step l c).length ((a.step l c).map aF)/\Below w.heap.size w w':=by
 have HSt:=hid (IB rt hst c);have FR:Hid (∀ p∈l,∀ q∈a.nL p,0<=q/\q<a.az.length):=hid fun p hp q hq=>by have:=(cZ (rt.LL hst hp)).2 q hq;omega
 have FL:Hid (∀ p,(a.nL p).length<=1000000):=hid fun p=>by
  unfold NF.nL;split
  ·exact sm.fst
  ·rcases Nat.lt_or_ge p.toNat a.bJ.length with h1 | h1
   ·exact sm.row _ (List.mem_of_getElem? (bh [] h1))
   ·rw[List.getD_eq_getElem?_getD,List.getElem?_eq_none h1];exact Nat.zero_le _
 have ST:Hid (∀ p∈l, -1<=p/\p<a.az.length):=hid fun p hp=>by have:=(cZ hst).2 p hp;omega
 have hle:=rt.le;have Qd:=rt.bJ;obtain⟨v0,v1,v2,v3,rfl,h0,h1,h2,h3⟩:=h;obtain⟨a0,c0,rfl⟩:=h0.1.form;obtain⟨a1,c1,rfl⟩:=h1.form;obtain⟨a2,c2,rfl⟩:=h2.form;obtain⟨ua,uc,rfl⟩:=hu.form;obtain⟨n0,cN⟩:∃ n,n=a.az.length:=⟨_,rfl⟩;obtain⟨n2,jc⟩:∃ n,n=a.fst.length:=⟨_,rfl⟩;obtain⟨m,hm⟩:∃ n,n=l.length:=⟨_,rfl⟩;rw[Qd]at h1;rw[<-cN]at h0 h1 hle ST FR ⊢;rw[<-jc]at h2 ⊢;rw[<-hm]at hu hl ⊢;rw[Qd, <-cN];have j8:=hid cN;have kI:=hid jc;have HM:=hid hm;have ade:=hid Qd;have H0:=hid h0;have H1:=hid h1;have H2:=hid h2;have HU:=hid hu;have CH:Hid (∀ s W,Calls Tryz.prog 128 #[.agg (encS s),.int .u8 c] W fun e w'=>e=.returned (.bool (s.getLsbD c))/\Ext W w'):=hid fun s W=>oL s c hc W
 clear h0 h1 h2 h3 hu cN jc hm Qd sm rt hst;go_enter Tryz.func95,Tryz.ntmps95;go_wp2;refine au ?_;intro V hV;have B1:Hid (ak V w.heap.size #[.slice a0 n0 c0,.slice a1 n0 c1,.slice a2 n2 c2,v3,.bool a.emp] 44):=hid (by rw[hV];exact(ak.new w _ _).alloc _);have B2:Hid (ak V (w.heap.size+1) (bK fun _=>0) 129):=hid (by rw[hV];exact(ak.new _ _ _).at (by simp));have X1:Hid (Below w.heap.size w V):=hid (by rw[hV];exact(((Ext.refl w).alloc _).alloc _).below);have Bg:V.heap.size=w.heap.size+2:=by rw[hV];simp
 have rr:=hid Bg;clear hV Bg;go_loopw [15] (fun iv wr=>∃ k:Nat,k<=m/\iv=.int .i64 k/\ak wr (w.heap.size+1) (bK (setW (ew a c (l.take k)))) 129/\aa (fun x=>x<w.heap.size+1) V wr) (fun iv _=>m-(intOf iv).toNat);case atStart=>exact⟨0,by omega,rfl,B2.out,aa.refl _ _⟩
 case round=>
  obtain⟨k,hk,rfl,hb,hx⟩:=hrel;obtain⟨wo,rfl⟩:∃ wo:World,wo=wr:=⟨_,rfl⟩;have HB:=hid hb;have HX:=hid hx;have XX:Hid (Below w.heap.size w wo):=hid (X1.out.trans (hx.mono fun x yx=>by have:x<w.heap.size:=yx;show x<w.heap.size+1;omega:aa (· <w.heap.size) V wo).below);have BN:=hid (B1.out.keeps hx (by show w.heap.size<w.heap.size+1;omega));clear hb hx;by_cases hlt:k<m
  ·obtain⟨p,hp⟩:∃ p,l[k]? =some p:=⟨_,List.getElem?_eq_getElem (by have:=HM.out;omega)⟩
   obtain⟨g,off,rfl,hg,q1⟩:=(HU.out.below XX.out).elem hp;replace q1:wo.cell? ⟨g,off+k,none⟩=some (.int .i64 p):=q1;have tk:=List.mem_of_getElem? hp;have GH:=ST.out p tk;have FRp:=hid (FR.out p tk);have HP:=hid hp;have ed:(k:Int)<m:=by omega
   clear hp tk;obtain⟨fl,zN⟩:∃ fl,fl=(a.nL p).length:=⟨_,rfl⟩;have flm:fl<=1000000:=by rw[zN];exact FL.out p
   have jW:Hid (ew a c (l.take (k+1))=ew a c (l.take k)++kh a c (a.nL p)):=hid (by
    rw[List.take_add_one,HP.out]
    exact EL a c _ p)
   have GI:=hid zN;clear zN;rcases Decidable.em (p= -1)with h1 | h1
   ·subst h1
    obtain rfl:fl=n2:=by rw[GI.out,show a.nL (-1)=a.fst from rfl,kI.out]
    have HF:Hid (∀ W,Below w.heap.size w W->bg aF W (.slice a2 fl c2) (a.nL (-1))):=hid fun W hW=>H2.out.below hW
    obtain⟨i0,i1,i2,i3,i4⟩:=BN.out.five;go_wp2;clear GH q1 i0 i1 i2 i3 i4;go_loopw [30] (fun iv wi=>∃ j:Nat,j<=fl/\iv=.int .i64 j/\ak wi (w.heap.size+1) (bK (setW (ew a c (l.take k)++kh a c ((a.nL (-1)).take j)))) 129/\aa (fun x=>x<w.heap.size+1) wo wi) (fun iv _=>fl-(intOf iv).toNat);case atStart=>exact⟨0,by omega,rfl,by rw[List.take_zero];simp only[kh,List.map_nil,List.filter_nil,List.append_nil];exact HB.out,aa.refl _ _⟩
    case round=>
     obtain⟨j,hj,rfl,hb,hx⟩:=hrel;have eB:=hid hb;have eZ:=hid hx;have XI:Hid (Below w.heap.size w wr):=hid (XX.out.trans (hx.mono fun x yx=>by have:x<w.heap.size:=yx;show x<w.heap.size+1;omega:aa (· <w.heap.size) wo wr).below);have BI:=hid (BN.out.keeps hx (by show w.heap.size<w.heap.size+1;omega));clear hb hx;by_cases iz:j<fl
     ·obtain⟨q,hq⟩:∃ q,(a.nL (-1))[j]? =some q:=⟨_,List.getElem?_eq_getElem (by have:=GI.out;omega)⟩
      have hqr:=FRp.out q (List.mem_of_getElem? hq);obtain⟨qn,rfl⟩:∃ qn:Nat,q=qn:=⟨q.toNat,by omega⟩;have Yc:(qn:Int)<n0:=by omega
      have jA:(j:Int)<fl:=by omega
      obtain⟨s,hs⟩:∃ s,a.az[qn]? =some s:=⟨_,List.getElem?_eq_getElem (by have:=j8.out;omega)⟩;obtain⟨g2,o2,rfl,_,q2⟩:=(HF.out wr XI.out).elem hq;replace q2:wr.cell? ⟨g2,o2+j,none⟩=some (.int .i64 (qn:Int)):=q2;obtain⟨b3,o3,rfl,hb3,s0,s1,s2,s3⟩:=(H0.out.1.below XI.out).elem hs;obtain⟨i0,i1,i2,i3,i4⟩:=BI.out.five
      have HQ:Hid (ew a c (l.take k)++kh a c ((a.nL (-1)).take (j+1))=if s.getLsbD c then(ew a c (l.take k)++kh a c ((a.nL (-1)).take j))++ [qn]else ew a c (l.take k)++kh a c ((a.nL (-1)).take j)):=hid (by
       rw[List.take_add_one,hq];show ew a c (l.take k)++kh a c ((a.nL (-1)).take j++ [(qn:Int)])=_;rw[wQ,Int.toNat_natCast,show a.on c qn=s.getLsbD c from by unfold NF.on;rw[getD_some hs]];split
       ·rw[List.append_assoc]
       ·rw[List.append_nil])
      obtain⟨bt,Yd⟩:∃ bt,bt=s.getLsbD c:=⟨_,rfl⟩;have Uc:=hid (CH.out s);rw[<-Yd]at HQ Uc;clear hq hs Yd;cases bt
      ·go_wp2_with fail
       refine(Uc.out _).mono ?_;rintro e w1 ⟨rfl,hx⟩;have nG:=hid hx;clear hx;go_wp2;exact⟨⟨j+1,by omega,by go_num,by rw[HQ.out];exact eB.out.ext nG.out,eZ.out.tr (nG.out.mono fun x hx=>by have:x<w.heap.size+1:=hx;have:=eB.out.lt;omega)⟩,by simp[intOf];omega⟩
      ·go_wp2_with fail
       refine(Uc.out _).mono ?_;rintro e w1 ⟨rfl,hx⟩;have nG:=hid hx;clear hx;go_wp2_with fail
       refine(lK _ _ qn (by omega) w1 (eB.out.ext nG.out)).mono ?_;rintro e w2 ⟨⟨u,rfl⟩,hb4,hx4⟩;have Ud:=hid hb4;have Au:=hid hx4;clear hb4 hx4;go_wp2;exact⟨⟨j+1,by omega,by go_num,by rw[HQ.out,if_pos trivial,qp];exact Ud.out,(eZ.out.tr (nG.out.mono fun x hx=>by have:x<w.heap.size+1:=hx;have:=eB.out.lt;omega)).tr (Au.out.mono fun x hx=>by have h5:x<w.heap.size+1:=hx;have:=eB.out.lt;have:=nG.out.size;exact⟨by omega,by omega⟩)⟩,by simp[intOf];omega⟩
     ·obtain rfl:j=fl:=by omega
      have jA:¬ ((j:Int)<j):=by omega
      have dw:(a.nL (-1)).take j=a.nL (-1):=by rw[GI.out,List.take_length]
      rw[dw, <-jW.out]at eB;go_wp2;exact⟨⟨k+1,by omega,by go_num,eB.out,HX.out.tr eZ.out⟩,by simp[intOf];omega⟩
   ·obtain⟨pn,rfl⟩:∃ pn:Nat,p=pn:=⟨p.toNat,by omega⟩
    have d1:((pn:Int) != -1)=true:=by rw[bne_iff_ne];omega
    have Bh:(pn:Int)<n0:=by omega
    obtain⟨b1,o1,fa,fc,ea1,hb1,cl1,h4⟩:=H1.out.elem (bh (l:=a.bJ) [] (by rw[ade.out, <-j8.out];omega:pn<a.bJ.length));have e:a.nL (pn:Int)=a.bJ.getD pn []:=by unfold NF.nL;rw[if_neg h1,Int.toNat_natCast]
    rw[<-e, <-GI.out]at cl1 h4;have HF:Hid (∀ W,Below w.heap.size w W->bg aF W (.slice fa fl fc) (a.nL (pn:Int))):=hid fun W hW=>h4.below hW
    have LN:wo.cell? ⟨b1,o1+pn,none⟩=some (.slice fa fl fc):=((aa.ah XX.out fun _ h=>h:aa (· <w.heap.size) w wo).cell (p:=⟨b1,o1+pn,none⟩) hb1).trans cl1;subst ea1;clear cl1 h4 e;obtain⟨i0,i1,i2,i3,i4⟩:=BN.out.five;go_wp2;clear GH q1 i0 i1 i2 i3 i4;go_loopw [30] (fun iv wi=>∃ j:Nat,j<=fl/\iv=.int .i64 j/\ak wi (w.heap.size+1) (bK (setW (ew a c (l.take k)++kh a c ((a.nL (pn:Int)).take j)))) 129/\aa (fun x=>x<w.heap.size+1) wo wi) (fun iv _=>fl-(intOf iv).toNat);case atStart=>exact⟨0,by omega,rfl,by rw[List.take_zero];simp only[kh,List.map_nil,List.filter_nil,List.append_nil];exact HB.out,aa.refl _ _⟩
    case round=>
     obtain⟨j,hj,rfl,hb,hx⟩:=hrel;have eB:=hid hb;have eZ:=hid hx;have XI:Hid (Below w.heap.size w wr):=hid (XX.out.trans (hx.mono fun x yx=>by have:x<w.heap.size:=yx;show x<w.heap.size+1;omega:aa (· <w.heap.size) wo wr).below);have BI:=hid (BN.out.keeps hx (by show w.heap.size<w.heap.size+1;omega));clear hb hx;by_cases iz:j<fl
     ·obtain⟨q,hq⟩:∃ q,(a.nL (pn:Int))[j]? =some q:=⟨_,List.getElem?_eq_getElem (by have:=GI.out;omega)⟩
      have hqr:=FRp.out q (List.mem_of_getElem? hq);obtain⟨qn,rfl⟩:∃ qn:Nat,q=qn:=⟨q.toNat,by omega⟩;have Yc:(qn:Int)<n0:=by omega
      have jA:(j:Int)<fl:=by omega
      obtain⟨s,hs⟩:∃ s,a.az[qn]? =some s:=⟨_,List.getElem?_eq_getElem (by have:=j8.out;omega)⟩;obtain⟨g2,o2,rfl,_,q2⟩:=(HF.out wr XI.out).elem hq;replace q2:wr.cell? ⟨g2,o2+j,none⟩=some (.int .i64 (qn:Int)):=q2;obtain⟨b3,o3,rfl,hb3,s0,s1,s2,s3⟩:=(H0.out.1.below XI.out).elem hs;obtain⟨i0,i1,i2,i3,i4⟩:=BI.out.five
      have HQ:Hid (ew a c (l.take k)++kh a c ((a.nL (pn:Int)).take (j+1))=if s.getLsbD c then(ew a c (l.take k)++kh a c ((a.nL (pn:Int)).take j))++ [qn]else ew a c (l.take k)++kh a c ((a.nL (pn:Int)).take j)):=hid (by
       rw[List.take_add_one,hq];show ew a c (l.take k)++kh a c ((a.nL (pn:Int)).take j++ [(qn:Int)])=_;rw[wQ,Int.toNat_natCast,show a.on c qn=s.getLsbD c from by unfold NF.on;rw[getD_some hs]];split
       ·rw[List.append_assoc]
       ·rw[List.append_nil])
      obtain⟨bt,Yd⟩:∃ bt,bt=s.getLsbD c:=⟨_,rfl⟩;have Uc:=hid (CH.out s);rw[<-Yd]at HQ Uc;clear hq hs Yd;cases bt
      ·go_wp2_with fail
       refine(Uc.out _).mono ?_;rintro e w1 ⟨rfl,hx⟩;have nG:=hid hx;clear hx;go_wp2;exact⟨⟨j+1,by omega,by go_num,by rw[HQ.out];exact eB.out.ext nG.out,eZ.out.tr (nG.out.mono fun x hx=>by have:x<w.heap.size+1:=hx;have:=eB.out.lt;omega)⟩,by simp[intOf];omega⟩
      ·go_wp2_with fail
       refine(Uc.out _).mono ?_;rintro e w1 ⟨rfl,hx⟩;have nG:=hid hx;clear hx;go_wp2_with fail
       refine(lK _ _ qn (by omega) w1 (eB.out.ext nG.out)).mono ?_;rintro e w2 ⟨⟨u,rfl⟩,hb4,hx4⟩;have Ud:=hid hb4;have Au:=hid hx4;clear hb4 hx4;go_wp2;exact⟨⟨j+1,by omega,by go_num,by rw[HQ.out,if_pos trivial,qp];exact Ud.out,(eZ.out.tr (nG.out.mono fun x hx=>by have:x<w.heap.size+1:=hx;have:=eB.out.lt;omega)).tr (Au.out.mono fun x hx=>by have h5:x<w.heap.size+1:=hx;have:=eB.out.lt;have:=nG.out.size;exact⟨by omega,by omega⟩)⟩,by simp[intOf];omega⟩
     ·obtain rfl:j=fl:=by omega
      have jA:¬ ((j:Int)<j):=by omega
      have dw:(a.nL (pn:Int)).take j=a.nL (pn:Int):=by rw[GI.out,List.take_length]
      rw[dw, <-jW.out]at eB;go_wp2;exact⟨⟨k+1,by omega,by go_num,eB.out,HX.out.tr eZ.out⟩,by simp[intOf];omega⟩
  ·obtain rfl:k=m:=by omega
   have vQ:¬ ((k:Int)<k):=by omega
   have dw:l.take k=l:=by rw[HM.out,List.take_length]
   rw[dw]at HB;go_wp2_with fail
   refine(yA _ _ wo HB.out).mono ?_;rintro e w2 ⟨v,rfl,ho,hx⟩;have HO:=hid ho;have eZ:=hid hx;clear ho hx;go_wp2;go_ret;refine⟨_,rfl,?_,XX.out.trans (eZ.out.mono XX.out.size)⟩;have h:=ax HO.out XX.out.size;have e:(cO (setW (ew a c l)) 448).map tK=(a.step l c).map aF:=by rw[<-HSt.out,List.map_map];rfl
   have e2:(cO (setW (ew a c l)) 448).length=(a.step l c).length:=by rw[<-HSt.out,List.length_map]
   rwa[e,e2]at h
theorem ID (v u:Value) (a:NF) (rt:Nt a) (l:List Int) (hst:a.st l=true) (c:Nat) (hc:c<256) (w:World) (h:dO w v a) (sm:vR a) (hu:bg aF w u l) (hl:l.length<=1000000): Calls Tryz.prog 121 #[v,u,.int .u8 c] w fun e w'=>∃ r,e=.returned (.tuple #[r,.int .i64 0])/\w'.ownsRow w.heap.size 3 1 r (a.step l c).length ((a.step l c).map aF)/\Below w.heap.size w w':=by
 have CK:Hid (∀ W,Below w.heap.size w W->Calls Tryz.prog 157 #[v,u] W fun e w'=>e=.returned (.int .i64 0)/\Below W.heap.size W w'):=hid fun W hW=>by
  have:=tI v u a l W (h.below hW) sm (hu.below hW) hl;have e:a.Ua l=0:=by unfold NF.Ua;rw[(dW a).2 rt,hst];rfl
  rwa[e]at this
 have CA:Hid (∀ W,Below w.heap.size w W->Calls Tryz.prog 95 #[v,u,.int .u8 c] W fun e w'=>∃ r,e=.returned r/\w'.ownsRow W.heap.size 3 1 r (a.step l c).length ((a.step l c).map aF)/\Below W.heap.size W w'):=hid fun W hW=>IC v u a rt l hst c hc W (h.below hW) sm (hu.below hW) hl
 obtain⟨a0,c0,a1,n1,c1,a2,n2,c2,a3,n3,c3,rfl⟩:=h.LG;generalize a.az.length=n0 at*;generalize a.step l c=R at*;obtain⟨ua,uc,rfl⟩:=hu.form;generalize l.length=m at*;clear h hu sm rt hst hl;go_enter Tryz.func121,Tryz.ntmps121;go_wp2_with fail
 refine aw ?_;intro V hV;have B1:Hid (ak V w.heap.size #[.slice a0 n0 c0,.slice a1 n1 c1,.slice a2 n2 c2,.slice a3 n3 c3,.bool a.emp] 44):=hid (by rw[hV];exact ak.new w _ _);have X1:Hid (Below w.heap.size w V):=hid (by rw[hV];exact((Ext.refl w).alloc _).below);clear hV;refine(CK.out V X1.out).mono ?_;rintro e w1 ⟨rfl,hx⟩;have B2:=hid (B1.out.below hx B1.out.lt);have X2:=hid (X1.out.trans (hx.mono X1.out.size));clear hx B1 X1;obtain⟨i0,i1,i2,i3,i4⟩:=B2.out.five;go_wp2_with fail
 refine(CA.out w1 X2.out).mono ?_;rintro e w2 ⟨r,rfl,ho,hx⟩;have X3:=hid (X2.out.trans (hx.mono X2.out.size));have HO:=hid (ax ho X2.out.size);clear ho hx i0 i1 i2 i3 i4;go_wp2;refine bodyPost_ret (v:=.tuple #[r,.int .i64 0]) (by simp[results,Tryz.results121,go_sem]) rfl ⟨_,rfl,HO.out,X3.out⟩
end Go.Proofs.YtbiboekhakbnpaaGreatDoor
namespace Go.Proofs.YtbiboekhakbnpaaGreatDoor
open Go Go.RowKit Go.Shelf Go.Maps
theorem qs (u:Nat):∀ c∈Lib.decDigits u,48<=c.toNat/\c.toNat<=57:=by
 induction u using Nat.strongRecOn with
 | _ u ih=>
  intro c hc;rw[Lib.decDigits]at hc;split at hc
  ·rename_i h
   simp at hc;subst hc;simp;omega
  ·rename_i h
   rcases List.mem_append.1 hc with hc | hc
   ·exact ih (u/10) (by omega) c hc
   ·simp at hc
    subst hc;have:u%10<10:=Nat.mod_lt _ (by decide);simp;omega
def numOf (l:List UInt8):Nat:=l.foldl (fun a c=>a*10+(c.toNat-48)) 0
theorem wR (u:Nat):numOf (Lib.decDigits u)=u:=by
 induction u using Nat.strongRecOn with
 | _ u ih=>
  rw[Lib.decDigits];split
  ·rename_i h
   simp[numOf];omega
  ·rename_i h
   unfold numOf at ih ⊢;rw[List.foldl_append,ih (u/10) (by omega)];have:u%10<10:=Nat.mod_lt _ (by decide);simp;omega
theorem GJ {u v:Nat} (h:Lib.decDigits u=Lib.decDigits v):u=v:=by rw[<-wR u, <-wR v,h]
theorem nN (x:Int):∀ c∈Lib.itoa x,c≠44/\c≠59:=by
 have key:∀ c:UInt8,(48<=c.toNat/\c.toNat<=57)->c≠44/\c≠59:=fun c h=>⟨fun e=>by subst e;simp at h,fun e=>by subst e;simp at h⟩
 intro c hc;rw[Lib.itoa]at hc;split at hc
 ·rcases List.mem_cons.1 hc with rfl | hc
  ·decide
  ·exact key c (qs _ c hc)
 ·exact key c (qs _ c hc)
theorem LP {x y:Int} (h:Lib.itoa x=Lib.itoa y):x=y:=by
 have hne:∀ u (t:List UInt8),Lib.decDigits u≠45::t:=fun u t e=>by
  have:=qs u 45 (by rw[e];exact List.mem_cons_self ..);simp at this
 unfold Lib.itoa at h;split at h<;>split at h
 ·have:=GJ (List.cons.inj h).2
  omega
 ·exact absurd h.symm (hne _ _)
 ·exact absurd h (hne _ _)
 ·have:=GJ h
  omega
theorem EN {α:Type} {s:α} :∀ {a b c d:List α},(∀ x∈a,x≠s)->(∀ x∈b,x≠s)->a++s::c=b++s::d->a=b/\c=d
 | [],[],c,d,_,_,h=>⟨rfl,by simpa using h⟩
 | [],y::b,c,d,_,hb,h=>by
  have:s=y:=by simpa using(List.cons.inj (by simpa using h)).1
  exact absurd this.symm (hb y (List.mem_cons_self ..))
 | x::a,[],c,d,ha,_,h=>by
  have:x=s:=by simpa using(List.cons.inj (by simpa using h)).1
  exact absurd this (ha x (List.mem_cons_self ..))
 | x::a,y::b,c,d,ha,hb,h=>by
  have h':=List.cons.inj (by simpa using h:x::(a++s::c)=y::(b++s::d));obtain⟨e1,e2⟩:=EN (fun z hz=>ha z (List.mem_cons_of_mem _ hz)) (fun z hz=>hb z (List.mem_cons_of_mem _ hz)) h'.2;exact⟨by rw[h'.1,e1],e2⟩
def qu (p:Int):List UInt8:=Lib.itoa p++ [44]
def dN (l:List Int):List UInt8:=l.flatMap qu
def rv (l:List Int):List UInt8:=dN l++ [59]
def fG (row:List (List Int)):List UInt8:=row.flatMap rv
theorem iJ (p:Int) (l:List Int):dN (p::l)=qu p++dN l:=rfl
theorem Bi (l:List Int):∀ c∈dN l,c≠59:=by
 intro c hc;obtain⟨p,_,hp⟩:=List.mem_flatMap.1 hc;rcases List.mem_append.1 hp with h | h
 ·exact(nN p c h).2
 ·simp at h;subst h;decide
theorem wS:∀ {l m:List Int},dN l=dN m->l=m
 | [],[],_=>rfl
 | [],y::m,h=>by
  have:(dN (y::m)).length=0:=by rw[<-h];rfl
  rw[iJ]at this;simp[qu]at this
 | x::l,[],h=>by
  have:(dN (x::l)).length=0:=by rw[h];rfl
  rw[iJ]at this;simp[qu]at this
 | x::l,y::m,h=>by
  rw[iJ,iJ]at h;unfold qu at h;simp only[List.append_assoc,List.cons_append,List.nil_append]at h;obtain⟨e1,e2⟩:=EN (fun c hc=>(nN x c hc).1) (fun c hc=>(nN y c hc).1) h;rw[LP e1,wS e2]
theorem jK (l:List Int) (row:List (List Int)):fG (l::row)=rv l++fG row:=rfl
theorem Bj:∀ {r s:List (List Int)},fG r=fG s->r=s
 | [],[],_=>rfl
 | [],y::s,h=>by
  have:(fG (y::s)).length=0:=by rw[<-h];rfl
  rw[jK]at this;simp[rv]at this
 | x::r,[],h=>by
  have:(fG (x::r)).length=0:=by rw[h];rfl
  rw[jK]at this;simp[rv]at this
 | x::r,y::s,h=>by
  rw[jK,jK]at h;unfold rv at h;simp only[List.append_assoc,List.cons_append,List.nil_append]at h;obtain⟨e1,e2⟩:=EN (Bi x) (Bi y) h;rw[wS e1,Bj e2]
open Go.ChangeMaps (setBlock heap_setBlock_same)
open Go.WideMaps (keyOf_string_mk)
def Qe (l:List UInt8):Value:=.string ⟨l.toArray⟩
theorem LQ {a b:List UInt8} (h:Qe a=Qe b):a=b:=by
 unfold Qe at h;injection h with h
 injection h with h
 simpa using h
def qw (r:List (List Int)):Value:=Qe (fG r)
theorem Bk {a b:List (List Int)} (h:qw a=qw b):a=b:=Bj (LQ h)
def mU:Nat->List (List (List Int))->List MapEntry
 | _,[]=>[]
 | n,p::l=>⟨qw p,.int .i64 n,n⟩::mU (n+1) l
theorem lL:∀ (l:List (List (List Int))) (n i:Nat),(mU n l)[i]? =(l[i]?).map fun p=>⟨qw p,.int .i64 (n+i:Nat),n+i⟩
 | [],_,_=>by simp[mU]
 | p::l,n,0=>by simp[mU]
 | p::l,n,i+1=>by
  simp only[mU,List.getElem?_cons_succ,lL l];rw[show n+1+i=n+(i+1) by omega]
theorem ry:∀ (l:List (List (List Int))) (n:Nat) (q:List (List Int)),mU n (l++ [q])=mU n l++ [⟨qw q,.int .i64 (n+l.length:Nat),n+l.length⟩]
 | [],n,q=>by simp[mU]
 | p::l,n,q=>by
  simp only[List.cons_append,mU,ry l,List.length_cons];rw[show n+1+l.length=n+(l.length+1) by omega]
def ki (w:World) (b:Nat) (l:List (List (List Int))):Prop:=w.heap[b]? =some (.map (mU 0 l).toArray l.length)
theorem ki.keeps {w w':World} {b:Nat} {l:List (List (List Int))} (h:ki w b l) {R:Nat->Prop} (hk:aa R w w') (hb:R b):ki w' b l:=(hk.keep b hb).trans h
theorem ki.lt {w:World} {b:Nat} {l:List (List (List Int))} (h:ki w b l):b<w.heap.size:=(Array.getElem?_eq_some_iff.1 h).1
theorem ki.below {w w':World} {b:Nat} {l:List (List (List Int))} (h:ki w b l) (hk:Below w.heap.size w w'):ki w' b l:=(hk.block b h.lt).trans h
def nr (r:List (List Int)):Prop:=(fG r).length<=maxLen
theorem Tryz.Bl:Keyed Tryz.prog 9:=string_keyed Tryz.underlying9
theorem EO (r:List (List Int)) (h:nr r):∃ l,keyOf Tryz.prog 9 (qw r)=some l:=⟨_,keyOf_string_mk Tryz.underlying9 (by show(fG r).toArray.size<=maxLen;rw[List.size_toArray];exact h)⟩
theorem Bn {l:List (List (List Int))} (hl:∀ p∈l,nr p):∀ e∈mU 0 l,∃ k,keyOf Tryz.prog 9 e.key=some k:=fun e he=>by
 obtain⟨i,hi⟩:=List.mem_iff_getElem?.1 he;rw[lL]at hi;obtain⟨p,hp,rfl⟩:=Option.map_eq_some_iff.1 hi;exact EO p (hl p (List.mem_of_getElem? hp))
theorem ER {α:Type} [DecidableEq α] {l:List α} (hn:l.Nodup) {i:Nat} {q:α} (h:l[i]? =some q):l.idxOf q=i:=by obtain⟨h1,h2⟩:=List.getElem?_eq_some_iff.1 h;subst h2;exact List.Nodup.idxOf_getElem hn i h1
def Ue (l:List (List (List Int))) (q:List (List Int)):Nat:= @List.idxOf _ instBEqOfDecidableEq q l
theorem Qf {w:World} {b:Nat} {l:List (List (List Int))} (h:ki w b l) (hn:l.Nodup) (hl:∀ p∈l,nr p) (q:List (List Int)) (hq:nr q): (q∉l/\(Instr.lookup 92 (.map (some b)) (qw q) true).run Tryz.prog w=.ok (.tuple #[.int .i64 0,.bool false]) w)\/ (q∈l/\(Instr.lookup 92 (.map (some b)) (qw q) true).run Tryz.prog w=.ok (.tuple #[.int .i64 (Ue l q),.bool true]) w):=by
 have K:=Tryz.Bl;obtain⟨kl,hk⟩:=EO q hq;have hz:(zeroValue 3).run Tryz.prog w=.ok (.int .i64 0) w:=by kernel_rfl
 have hb:w.heap[b]? =some (.map (mU 0 l).toArray l.length):=h;rcases K.find w hk (mU 0 l) (Bn hl)with⟨f1,f2⟩ | ⟨j,e0,f1,f2,f3⟩
 ·refine .inl ⟨fun hm=>?_,?_⟩
  ·obtain⟨i,hi⟩:=List.mem_iff_getElem?.1 hm
   have:=lL l 0 i;rw[hi]at this;exact f2 _ (List.mem_of_getElem? this) rfl
  ·simp[Instr.lookup,run_underlying Tryz.underlying92,MapKept.run_getObj_map hb,K.check w _ hk,f1,hz,Result.andThen]
 ·rw[lL]at f2
  obtain⟨p,hp,rfl⟩:=Option.map_eq_some_iff.1 f2;have e:p=q:=Bk f3;subst e;refine .inr ⟨List.mem_of_getElem? hp,?_⟩;rw[show Ue l p=j from ER hn hp];simp[Instr.lookup,run_underlying Tryz.underlying92,MapKept.run_getObj_map hb,K.check w _ hk,f1,Result.andThen]
theorem Uf {w:World} {b:Nat} {l:List (List (List Int))} (h:ki w b l) (hl:∀ p∈l,nr p) (q:List (List Int)) (hqk:nr q) (hq:q∉l): ∃ w',(Instr.mapUpdate 92 (.map (some b)) (qw q) (.int .i64 l.length)).run Tryz.prog w=.ok () w'/\ki w' b (l++ [q])/\aa (· ≠b) w w'/\w'.heap.size=w.heap.size:=by
 have K:=Tryz.Bl;obtain⟨kl,hk⟩:=EO q hqk;have hb:w.heap[b]? =some (.map (mU 0 l).toArray l.length):=h;rcases K.find w hk (mU 0 l) (Bn hl)with⟨f1,f2⟩ | ⟨j,e0,f1,f2,f3⟩
 ·refine⟨setBlock w b (.map (mU 0 (l++ [q])).toArray (l++ [q]).length),?_,heap_setBlock_same hb _,⟨rfl,rfl,rfl,by simp[setBlock],fun i hi=>by show(w.heap.setIfInBounds b _)[i]? =_;exact Array.getElem?_setIfInBounds_ne (Ne.symm hi)⟩,by simp[setBlock]⟩
  rw[ry];simp[Instr.mapUpdate,run_underlying Tryz.underlying92,MapKept.run_getObj_map hb,K.check w false hk,f1,MapKept.run_setObj_map _ hb,Result.andThen,setBlock]
 ·rw[lL]at f2
  obtain⟨p,hp,rfl⟩:=Option.map_eq_some_iff.1 f2;have e:p=q:=Bk f3;subst e;exact absurd (List.mem_of_getElem? hp) hq
end Go.Proofs.YtbiboekhakbnpaaGreatDoor
namespace Go.Proofs
open Go.Shelf
def Tryz.wT:Go.Shelf.Ren:=⟨fun | 169=>156 | n=>n,fun | 70=>211 | 9=>9 | 0=>0 | 72=>213 | 37=>23 | 127=>237 | 3=>3 | 5=>5 | n=>n,fun | n=>n⟩
theorem Tryz.Ye:Go.Proofs.Lays.n169 Tryz.prog Tryz.wT:= {
 mixed:=by kernel_rfl
 f169:=Tryz.func156.trans (congrArg some (by kernel_rfl))
 t0:=Tryz.underlying0
 a0:=Tryz.isAgg0
 z0:=Tryz.sizeOf0
 v0:=Tryz.zeroValue0
 t3:=Tryz.underlying3
 a3:=Tryz.isAgg3
 z3:=Tryz.sizeOf3
 v3:=Tryz.zeroValue3
 t9:=Tryz.underlying9
 a9:=Tryz.isAgg9
 z9:=Tryz.sizeOf9
 v9:=Tryz.zeroValue9
 t37:=Tryz.underlying23
 a37:=Tryz.isAgg23
 z37:=Tryz.sizeOf23
 v37:=Tryz.zeroValue23
 t70:=Tryz.underlying211
 a70:=Tryz.isAgg211
 z70:=Tryz.sizeOf211
 v70:=Tryz.zeroValue211
 t72:=Tryz.underlying213
 a72:=Tryz.isAgg213
 z72:=Tryz.sizeOf213
 v72:=Tryz.zeroValue213
 t127:=Tryz.underlying237
 a127:=Tryz.isAgg237
 z127:=Tryz.sizeOf237
 v127:=Tryz.zeroValue237}
theorem Tryz.Yf:Builder.Extra Tryz.prog Tryz.wT:= {
 sizeBuilder:=by kernel_rfl
 liesBuilder:=by kernel_rfl
 t5:=Tryz.underlying5
 a5:=Tryz.isAgg5
 z5:=Tryz.sizeOf5
 v5:=Tryz.zeroValue5
 infoByte:=by kernel_rfl
 cellsByte:=by kernel_rfl
 sizeByte:=by kernel_rfl
 neB5:=by decide}
def Tryz.IE:Go.Shelf.Ren:=⟨fun | 171=>154 | 243=>176 | 246=>183 | 283=>185 | 284=>186 | 285=>187 | 286=>188 | 129=>105 | 317=>189 | 318=>190 | 319=>191 | 320=>192 | 337=>193 | 338=>194 | n=>n,fun | 3=>3 | 9=>9 | 2=>2 | 4=>4 | 171=>246 | 0=>0 | 53=>68 | 37=>23 | 5=>5 | 173=>248 | 212=>251 | 51=>167 | 20=>20 | 213=>252 | 46=>116 | 232=>253 | 233=>254 | n=>n,fun | 17=>0 | 18=>1 | 19=>2 | n=>n⟩
theorem Tryz.Yg:Go.Proofs.LaysM.n171 Tryz.prog Tryz.IE:= {
 mixed:=by kernel_rfl
 f129:=Tryz.func105.trans (congrArg some (by kernel_rfl))
 f171:=Tryz.func154.trans (congrArg some (by kernel_rfl))
 f243:=Tryz.func176.trans (congrArg some (by kernel_rfl))
 f246:=Tryz.func183.trans (congrArg some (by kernel_rfl))
 f283:=Tryz.func185.trans (congrArg some (by kernel_rfl))
 f284:=Tryz.func186.trans (congrArg some (by kernel_rfl))
 f285:=Tryz.func187.trans (congrArg some (by kernel_rfl))
 f286:=Tryz.func188.trans (congrArg some (by kernel_rfl))
 f317:=Tryz.func189.trans (congrArg some (by kernel_rfl))
 f318:=Tryz.func190.trans (congrArg some (by kernel_rfl))
 f319:=Tryz.func191.trans (congrArg some (by kernel_rfl))
 f320:=Tryz.func192.trans (congrArg some (by kernel_rfl))
 f337:=Tryz.func193.trans (congrArg some (by kernel_rfl))
 f338:=Tryz.func194.trans (congrArg some (by kernel_rfl))
 t0:=Tryz.underlying0
 a0:=Tryz.isAgg0
 z0:=Tryz.sizeOf0
 v0:=Tryz.zeroValue0
 t2:=Tryz.underlying2
 a2:=Tryz.isAgg2
 z2:=Tryz.sizeOf2
 v2:=Tryz.zeroValue2
 t3:=Tryz.underlying3
 a3:=Tryz.isAgg3
 z3:=Tryz.sizeOf3
 v3:=Tryz.zeroValue3
 t4:=Tryz.underlying4
 a4:=Tryz.isAgg4
 z4:=Tryz.sizeOf4
 v4:=Tryz.zeroValue4
 t5:=Tryz.underlying5
 a5:=Tryz.isAgg5
 z5:=Tryz.sizeOf5
 v5:=Tryz.zeroValue5
 t9:=Tryz.underlying9
 a9:=Tryz.isAgg9
 z9:=Tryz.sizeOf9
 v9:=Tryz.zeroValue9
 t20:=Tryz.underlying20
 a20:=Tryz.isAgg20
 z20:=Tryz.sizeOf20
 v20:=Tryz.zeroValue20
 t37:=Tryz.underlying23
 a37:=Tryz.isAgg23
 z37:=Tryz.sizeOf23
 v37:=Tryz.zeroValue23
 t46:=Tryz.underlying116
 a46:=Tryz.isAgg116
 z46:=Tryz.sizeOf116
 v46:=Tryz.zeroValue116
 t51:=Tryz.underlying167
 a51:=Tryz.isAgg167
 z51:=Tryz.sizeOf167
 v51:=Tryz.zeroValue167
 t53:=Tryz.underlying68
 a53:=Tryz.isAgg68
 z53:=Tryz.sizeOf68
 v53:=Tryz.zeroValue68
 t171:=Tryz.underlying246
 a171:=Tryz.isAgg246
 z171:=Tryz.sizeOf246
 v171:=Tryz.zeroValue246
 t173:=Tryz.underlying248
 a173:=Tryz.isAgg248
 z173:=Tryz.sizeOf248
 v173:=Tryz.zeroValue248
 t212:=Tryz.underlying251
 a212:=Tryz.isAgg251
 z212:=Tryz.sizeOf251
 v212:=Tryz.zeroValue251
 t213:=Tryz.underlying252
 a213:=Tryz.isAgg252
 z213:=Tryz.sizeOf252
 t232:=Tryz.underlying253
 a232:=Tryz.isAgg253
 z232:=Tryz.sizeOf253
 v232:=Tryz.zeroValue253
 t233:=Tryz.underlying254
 a233:=Tryz.isAgg254
 z233:=Tryz.sizeOf254
 v233:=Tryz.zeroValue254
 g17:=by kernel_rfl
 g18:=by kernel_rfl
 g19:=by kernel_rfl
 i0:=by kernel_rfl
 i2:=by kernel_rfl
 i3:=by kernel_rfl
 i4:=by kernel_rfl
 i5:=by kernel_rfl
 i9:=by kernel_rfl
 i20:=by kernel_rfl
 i37:=by kernel_rfl
 i46:=by kernel_rfl
 i51:=by kernel_rfl
 i53:=by kernel_rfl
 i171:=by kernel_rfl
 i173:=by kernel_rfl
 i212:=by kernel_rfl
 i232:=by kernel_rfl
 i233:=by kernel_rfl
 m17:=by kernel_rfl
 m18:=by kernel_rfl
 m19:=by kernel_rfl}
def Tryz.wU:Go.Shelf.Ren:=⟨fun | 166=>153 | 240=>175 | 276=>182 | n=>n,fun | 0=>0 | 3=>3 | 4=>4 | 5=>5 | 9=>9 | 20=>20 | 37=>23 | 70=>211 | 72=>213 | 75=>215 | 80=>220 | 164=>242 | n=>n,fun | n=>n⟩
theorem Tryz.Yh:Go.Proofs.Lays.n166 Tryz.prog Tryz.wU:= {
 mixed:=by kernel_rfl
 f166:=Tryz.func153.trans (congrArg some (by kernel_rfl))
 f240:=Tryz.func175.trans (congrArg some (by kernel_rfl))
 f276:=Tryz.func182.trans (congrArg some (by kernel_rfl))
 t0:=Tryz.underlying0
 a0:=Tryz.isAgg0
 z0:=Tryz.sizeOf0
 v0:=Tryz.zeroValue0
 t3:=Tryz.underlying3
 a3:=Tryz.isAgg3
 z3:=Tryz.sizeOf3
 v3:=Tryz.zeroValue3
 t4:=Tryz.underlying4
 a4:=Tryz.isAgg4
 z4:=Tryz.sizeOf4
 v4:=Tryz.zeroValue4
 t9:=Tryz.underlying9
 a9:=Tryz.isAgg9
 z9:=Tryz.sizeOf9
 v9:=Tryz.zeroValue9
 t20:=Tryz.underlying20
 a20:=Tryz.isAgg20
 z20:=Tryz.sizeOf20
 v20:=Tryz.zeroValue20
 t37:=Tryz.underlying23
 a37:=Tryz.isAgg23
 z37:=Tryz.sizeOf23
 v37:=Tryz.zeroValue23
 t70:=Tryz.underlying211
 a70:=Tryz.isAgg211
 z70:=Tryz.sizeOf211
 v70:=Tryz.zeroValue211
 t72:=Tryz.underlying213
 a72:=Tryz.isAgg213
 z72:=Tryz.sizeOf213
 v72:=Tryz.zeroValue213
 t75:=Tryz.underlying215
 a75:=Tryz.isAgg215
 z75:=Tryz.sizeOf215
 v75:=Tryz.zeroValue215
 t164:=Tryz.underlying242
 a164:=Tryz.isAgg242
 z164:=Tryz.sizeOf242
 v164:=Tryz.zeroValue242}
theorem Tryz.Yi:Builder.Extra Tryz.prog Tryz.wU:= {
 sizeBuilder:=by kernel_rfl
 liesBuilder:=by kernel_rfl
 t5:=Tryz.underlying5
 a5:=Tryz.isAgg5
 z5:=Tryz.sizeOf5
 v5:=Tryz.zeroValue5
 infoByte:=by kernel_rfl
 cellsByte:=by kernel_rfl
 sizeByte:=by kernel_rfl
 neB5:=by decide}
def Tryz.wV:Go.Shelf.Ren:=⟨fun | 167=>155 | 240=>175 | 276=>182 | n=>n,fun | 0=>0 | 3=>3 | 4=>4 | 5=>5 | 9=>9 | 20=>20 | 37=>23 | 70=>211 | 72=>213 | 75=>215 | 80=>220 | 164=>242 | n=>n,fun | n=>n⟩
theorem Tryz.Yj:Go.Proofs.Lays.n167 Tryz.prog Tryz.wV:= {
 mixed:=by kernel_rfl
 f167:=Tryz.func155.trans (congrArg some (by kernel_rfl))
 f240:=Tryz.func175.trans (congrArg some (by kernel_rfl))
 f276:=Tryz.func182.trans (congrArg some (by kernel_rfl))
 t0:=Tryz.underlying0
 a0:=Tryz.isAgg0
 z0:=Tryz.sizeOf0
 v0:=Tryz.zeroValue0
 t4:=Tryz.underlying4
 a4:=Tryz.isAgg4
 z4:=Tryz.sizeOf4
 v4:=Tryz.zeroValue4
 t5:=Tryz.underlying5
 a5:=Tryz.isAgg5
 z5:=Tryz.sizeOf5
 v5:=Tryz.zeroValue5
 t9:=Tryz.underlying9
 a9:=Tryz.isAgg9
 z9:=Tryz.sizeOf9
 v9:=Tryz.zeroValue9
 t20:=Tryz.underlying20
 a20:=Tryz.isAgg20
 z20:=Tryz.sizeOf20
 v20:=Tryz.zeroValue20
 t37:=Tryz.underlying23
 a37:=Tryz.isAgg23
 z37:=Tryz.sizeOf23
 v37:=Tryz.zeroValue23
 t70:=Tryz.underlying211
 a70:=Tryz.isAgg211
 z70:=Tryz.sizeOf211
 v70:=Tryz.zeroValue211
 t72:=Tryz.underlying213
 a72:=Tryz.isAgg213
 z72:=Tryz.sizeOf213
 v72:=Tryz.zeroValue213
 t75:=Tryz.underlying215
 a75:=Tryz.isAgg215
 z75:=Tryz.sizeOf215
 v75:=Tryz.zeroValue215
 t164:=Tryz.underlying242
 a164:=Tryz.isAgg242
 z164:=Tryz.sizeOf242
 v164:=Tryz.zeroValue242}
theorem Tryz.Yk:Builder.Extra Tryz.prog Tryz.wV:= {
 sizeBuilder:=by kernel_rfl
 liesBuilder:=by kernel_rfl
 t5:=Tryz.underlying5
 a5:=Tryz.isAgg5
 z5:=Tryz.sizeOf5
 v5:=Tryz.zeroValue5
 infoByte:=by kernel_rfl
 cellsByte:=by kernel_rfl
 sizeByte:=by kernel_rfl
 neB5:=by decide}
end Go.Proofs
