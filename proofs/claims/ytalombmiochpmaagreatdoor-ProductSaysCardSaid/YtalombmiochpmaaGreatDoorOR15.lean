/- strings.Builder's WriteString and WriteByte: the library's contracts at this program's numbers (laid by hand: the layer's word does not find a number for the type interface{}, which no body of the closure names). -/
import Derived.Test.YtalombmiochpmaaGreatDoorOR14
import Derived.Shelf.Strings.BuilderK
import Derived.Shelf.Strconv.Itoa3
set_option maxRecDepth 100000
set_option maxHeartbeats 16000000
open Go.Lib (hid)
namespace Go.Proofs.YtalombmiochpmaaGreatDoor
section
open Go Go.RowKit Go.Shelf Go.Maps
attribute [local go_sem] encS
theorem Ou (v u:Value) (a:NF) (rt:Nt a) (l:List Int) (hst:a.st l=true) (c:Nat) (hc:c<256) (w:World) (h:mP w v a) (sm:Qs a) (hu:aZ aS w u l) (hl:l.length<=1000000): Calls Tryz.prog 163 #[v,u,.int .u8 c] w fun e w'=>∃ r,e=.returned r/\w'.ownsRow w.heap.size 3 1 r (a.step l c).length ((a.step l c).map aS)/\Below w.heap.size w w':=by
 have HSt:=hid (Ot rt hst c);have FR:Hid (∀ p∈l,∀ q∈a.rX p,0<=q/\q<a.aM.length):=hid fun p hp q hq=>by have:=(ei (rt.SJ hst hp)).2 q hq;omega
 have FL:Hid (∀ p,(a.rX p).length<=1000000):=hid fun p=>by
  unfold NF.rX;split
  ·exact sm.fst
  ·rcases Nat.lt_or_ge p.toNat a.cN.length with h1 | h1
   ·exact sm.row _ (List.mem_of_getElem? (aI [] h1))
   ·rw[List.getD_eq_getElem?_getD,List.getElem?_eq_none h1];exact Nat.zero_le _
 have ST:Hid (∀ p∈l, -1<=p/\p<a.aM.length):=hid fun p hp=>by have:=(ei hst).2 p hp;omega
 have hle:=rt.le;have WJ:=rt.cN;obtain⟨v0,v1,v2,v3,rfl,h0,h1,h2,h3⟩:=h;obtain⟨a0,c0,rfl⟩:=h0.1.form;obtain⟨a1,c1,rfl⟩:=h1.form;obtain⟨a2,c2,rfl⟩:=h2.form;obtain⟨ua,uc,rfl⟩:=hu.form;obtain⟨n0,dD⟩:∃ n,n=a.aM.length:=⟨_,rfl⟩;obtain⟨n2,jB⟩:∃ n,n=a.fst.length:=⟨_,rfl⟩;obtain⟨m,hm⟩:∃ n,n=l.length:=⟨_,rfl⟩;rw[WJ]at h1;rw[<-dD]at h0 h1 hle ST FR ⊢;rw[<-jB]at h2 ⊢;rw[<-hm]at hu hl ⊢;rw[WJ, <-dD];have lJ:=hid dD;have j9:=hid jB;have HM:=hid hm;have ajQ:=hid WJ;have H0:=hid h0;have H1:=hid h1;have H2:=hid h2;have HU:=hid hu;have CH:Hid (∀ s W,Calls Tryz.prog 92 #[.agg (encS s),.int .u8 c] W fun e w'=>e=.returned (.bool (s.getLsbD c))/\Ext W w'):=hid fun s W=>s6 s c hc W
 clear h0 h1 h2 h3 hu dD jB hm WJ sm rt hst;go_enter Tryz.func163,Tryz.ntmps163;go_wp2;refine aw ?_;intro V hV;have B1:Hid (ah V w.heap.size #[.slice a0 n0 c0,.slice a1 n0 c1,.slice a2 n2 c2,v3,.bool a.emp] 97):=hid (by rw[hV];exact(ah.new w _ _).alloc _);have B2:Hid (ah V (w.heap.size+1) (cM fun _=>0) 137):=hid (by rw[hV];exact(ah.new _ _ _).at (by simp));have X1:Hid (Below w.heap.size w V):=hid (by rw[hV];exact(((Ext.refl w).alloc _).alloc _).below);have H7:V.heap.size=w.heap.size+2:=by rw[hV];simp
 have uE:=hid H7;clear hV H7;go_loopw [15] (fun iv wr=>∃ k:Nat,k<=m/\iv=.int .i64 k/\ah wr (w.heap.size+1) (cM (setW (gq a c (l.take k)))) 137/\aa (fun x=>x<w.heap.size+1) V wr) (fun iv _=>m-(intOf iv).toNat);case atStart=>exact⟨0,by omega,rfl,B2.out,aa.refl _ _⟩
 case round=>
  obtain⟨k,hk,rfl,hb,hx⟩:=hrel;obtain⟨wo,rfl⟩:∃ wo:World,wo=wr:=⟨_,rfl⟩;have HB:=hid hb;have HX:=hid hx;have XX:Hid (Below w.heap.size w wo):=hid (X1.out.trans (hx.mono fun x my=>by have:x<w.heap.size:=my;show x<w.heap.size+1;omega:aa (· <w.heap.size) V wo).below);have BN:=hid (B1.out.keeps hx (by show w.heap.size<w.heap.size+1;omega));clear hb hx;by_cases hlt:k<m
  ·obtain⟨p,hp⟩:∃ p,l[k]? =some p:=⟨_,List.getElem?_eq_getElem (by have:=HM.out;omega)⟩
   obtain⟨g,off,rfl,hg,q1⟩:=(HU.out.below XX.out).elem hp;replace q1:wo.cell? ⟨g,off+k,none⟩=some (.int .i64 p):=q1;have Rn:=List.mem_of_getElem? hp;have MN:=ST.out p Rn;have FRp:=hid (FR.out p Rn);have HP:=hid hp;have gz:(k:Int)<m:=by omega
   clear hp Rn;obtain⟨fl,xW⟩:∃ fl,fl=(a.rX p).length:=⟨_,rfl⟩;have flm:fl<=1000000:=by rw[xW];exact FL.out p
   have kq:Hid (gq a c (l.take (k+1))=gq a c (l.take k)++nK a c (a.rX p)):=hid (by
    rw[List.take_add_one,HP.out]
    exact KN a c _ p)
   have MP:=hid xW;clear xW;rcases Decidable.em (p= -1)with h1 | h1
   ·subst h1
    obtain rfl:fl=n2:=by rw[MP.out,show a.rX (-1)=a.fst from rfl,j9.out]
    have HF:Hid (∀ W,Below w.heap.size w W->aZ aS W (.slice a2 fl c2) (a.rX (-1))):=hid fun W hW=>H2.out.below hW
    obtain⟨i0,i1,i2,i3,i4⟩:=BN.out.five;go_wp2;clear MN q1 i0 i1 i2 i3 i4;go_loopw [30] (fun iv wi=>∃ j:Nat,j<=fl/\iv=.int .i64 j/\ah wi (w.heap.size+1) (cM (setW (gq a c (l.take k)++nK a c ((a.rX (-1)).take j)))) 137/\aa (fun x=>x<w.heap.size+1) wo wi) (fun iv _=>fl-(intOf iv).toNat);case atStart=>exact⟨0,by omega,rfl,by rw[List.take_zero];simp only[nK,List.map_nil,List.filter_nil,List.append_nil];exact HB.out,aa.refl _ _⟩
    case round=>
     obtain⟨j,hj,rfl,hb,hx⟩:=hrel;have eT:=hid hb;have gP:=hid hx;have XI:Hid (Below w.heap.size w wr):=hid (XX.out.trans (hx.mono fun x my=>by have:x<w.heap.size:=my;show x<w.heap.size+1;omega:aa (· <w.heap.size) wo wr).below);have BI:=hid (BN.out.keeps hx (by show w.heap.size<w.heap.size+1;omega));clear hb hx;by_cases eE:j<fl
     ·obtain⟨q,hq⟩:∃ q,(a.rX (-1))[j]? =some q:=⟨_,List.getElem?_eq_getElem (by have:=MP.out;omega)⟩
      have hqr:=FRp.out q (List.mem_of_getElem? hq);obtain⟨qn,rfl⟩:∃ qn:Nat,q=qn:=⟨q.toNat,by omega⟩;have MC:(qn:Int)<n0:=by omega
      have nz:(j:Int)<fl:=by omega
      obtain⟨s,hs⟩:∃ s,a.aM[qn]? =some s:=⟨_,List.getElem?_eq_getElem (by have:=lJ.out;omega)⟩;obtain⟨g2,o2,rfl,_,q2⟩:=(HF.out wr XI.out).elem hq;replace q2:wr.cell? ⟨g2,o2+j,none⟩=some (.int .i64 (qn:Int)):=q2;obtain⟨b3,o3,rfl,hb3,s0,s1,s2,s3⟩:=(H0.out.1.below XI.out).elem hs;obtain⟨i0,i1,i2,i3,i4⟩:=BI.out.five
      have HQ:Hid (gq a c (l.take k)++nK a c ((a.rX (-1)).take (j+1))=if s.getLsbD c then(gq a c (l.take k)++nK a c ((a.rX (-1)).take j))++ [qn]else gq a c (l.take k)++nK a c ((a.rX (-1)).take j)):=hid (by
       rw[List.take_add_one,hq];show gq a c (l.take k)++nK a c ((a.rX (-1)).take j++ [(qn:Int)])=_;rw[Cy,Int.toNat_natCast,show a.on c qn=s.getLsbD c from by unfold NF.on;rw[getD_some hs]];split
       ·rw[List.append_assoc]
       ·rw[List.append_nil])
      obtain⟨bt,hbt⟩:∃ bt,bt=s.getLsbD c:=⟨_,rfl⟩;have CHs:=hid (CH.out s);rw[<-hbt]at HQ CHs;clear hq hs hbt;cases bt
      ·go_wp2_with fail
       refine(CHs.out _).mono ?_;rintro e w1 ⟨rfl,hx⟩;have rT:=hid hx;clear hx;go_wp2;exact⟨⟨j+1,by omega,by go_num,by rw[HQ.out];exact eT.out.ext rT.out,gP.out.tr (rT.out.mono fun x hx=>by have:x<w.heap.size+1:=hx;have:=eT.out.lt;omega)⟩,by simp[intOf];omega⟩
      ·go_wp2_with fail
       refine(CHs.out _).mono ?_;rintro e w1 ⟨rfl,hx⟩;have rT:=hid hx;clear hx;go_wp2_with fail
       refine(qf _ _ qn (by omega) w1 (eT.out.ext rT.out)).mono ?_;rintro e w2 ⟨⟨u,rfl⟩,hb4,hx4⟩;have HB4:=hid hb4;have Eg:=hid hx4;clear hb4 hx4;go_wp2;exact⟨⟨j+1,by omega,by go_num,by rw[HQ.out,if_pos trivial,uZ];exact HB4.out,(gP.out.tr (rT.out.mono fun x hx=>by have:x<w.heap.size+1:=hx;have:=eT.out.lt;omega)).tr (Eg.out.mono fun x hx=>by have h5:x<w.heap.size+1:=hx;have:=eT.out.lt;have:=rT.out.size;exact⟨by omega,by omega⟩)⟩,by simp[intOf];omega⟩
     ·obtain rfl:j=fl:=by omega
      have nz:¬ ((j:Int)<j):=by omega
      have eH:(a.rX (-1)).take j=a.rX (-1):=by rw[MP.out,List.take_length]
      rw[eH, <-kq.out]at eT;go_wp2;exact⟨⟨k+1,by omega,by go_num,eT.out,HX.out.tr gP.out⟩,by simp[intOf];omega⟩
   ·obtain⟨pn,rfl⟩:∃ pn:Nat,p=pn:=⟨p.toNat,by omega⟩
    have d1:((pn:Int) != -1)=true:=by rw[bne_iff_ne];omega
    have ER:(pn:Int)<n0:=by omega
    obtain⟨b1,o1,fa,fc,ea1,hb1,cl1,h4⟩:=H1.out.elem (aI (l:=a.cN) [] (by rw[ajQ.out, <-lJ.out];omega:pn<a.cN.length));have e:a.rX (pn:Int)=a.cN.getD pn []:=by unfold NF.rX;rw[if_neg h1,Int.toNat_natCast]
    rw[<-e, <-MP.out]at cl1 h4;have HF:Hid (∀ W,Below w.heap.size w W->aZ aS W (.slice fa fl fc) (a.rX (pn:Int))):=hid fun W hW=>h4.below hW
    have SK:wo.cell? ⟨b1,o1+pn,none⟩=some (.slice fa fl fc):=((aa.ag XX.out fun _ h=>h:aa (· <w.heap.size) w wo).cell (p:=⟨b1,o1+pn,none⟩) hb1).trans cl1;subst ea1;clear cl1 h4 e;obtain⟨i0,i1,i2,i3,i4⟩:=BN.out.five;go_wp2;clear MN q1 i0 i1 i2 i3 i4;go_loopw [30] (fun iv wi=>∃ j:Nat,j<=fl/\iv=.int .i64 j/\ah wi (w.heap.size+1) (cM (setW (gq a c (l.take k)++nK a c ((a.rX (pn:Int)).take j)))) 137/\aa (fun x=>x<w.heap.size+1) wo wi) (fun iv _=>fl-(intOf iv).toNat);case atStart=>exact⟨0,by omega,rfl,by rw[List.take_zero];simp only[nK,List.map_nil,List.filter_nil,List.append_nil];exact HB.out,aa.refl _ _⟩
    case round=>
     obtain⟨j,hj,rfl,hb,hx⟩:=hrel;have eT:=hid hb;have gP:=hid hx;have XI:Hid (Below w.heap.size w wr):=hid (XX.out.trans (hx.mono fun x my=>by have:x<w.heap.size:=my;show x<w.heap.size+1;omega:aa (· <w.heap.size) wo wr).below);have BI:=hid (BN.out.keeps hx (by show w.heap.size<w.heap.size+1;omega));clear hb hx;by_cases eE:j<fl
     ·obtain⟨q,hq⟩:∃ q,(a.rX (pn:Int))[j]? =some q:=⟨_,List.getElem?_eq_getElem (by have:=MP.out;omega)⟩
      have hqr:=FRp.out q (List.mem_of_getElem? hq);obtain⟨qn,rfl⟩:∃ qn:Nat,q=qn:=⟨q.toNat,by omega⟩;have MC:(qn:Int)<n0:=by omega
      have nz:(j:Int)<fl:=by omega
      obtain⟨s,hs⟩:∃ s,a.aM[qn]? =some s:=⟨_,List.getElem?_eq_getElem (by have:=lJ.out;omega)⟩;obtain⟨g2,o2,rfl,_,q2⟩:=(HF.out wr XI.out).elem hq;replace q2:wr.cell? ⟨g2,o2+j,none⟩=some (.int .i64 (qn:Int)):=q2;obtain⟨b3,o3,rfl,hb3,s0,s1,s2,s3⟩:=(H0.out.1.below XI.out).elem hs;obtain⟨i0,i1,i2,i3,i4⟩:=BI.out.five
      have HQ:Hid (gq a c (l.take k)++nK a c ((a.rX (pn:Int)).take (j+1))=if s.getLsbD c then(gq a c (l.take k)++nK a c ((a.rX (pn:Int)).take j))++ [qn]else gq a c (l.take k)++nK a c ((a.rX (pn:Int)).take j)):=hid (by
       rw[List.take_add_one,hq];show gq a c (l.take k)++nK a c ((a.rX (pn:Int)).take j++ [(qn:Int)])=_;rw[Cy,Int.toNat_natCast,show a.on c qn=s.getLsbD c from by unfold NF.on;rw[getD_some hs]];split
       ·rw[List.append_assoc]
       ·rw[List.append_nil])
      obtain⟨bt,hbt⟩:∃ bt,bt=s.getLsbD c:=⟨_,rfl⟩;have CHs:=hid (CH.out s);rw[<-hbt]at HQ CHs;clear hq hs hbt;cases bt
      ·go_wp2_with fail
       refine(CHs.out _).mono ?_;rintro e w1 ⟨rfl,hx⟩;have rT:=hid hx;clear hx;go_wp2;exact⟨⟨j+1,by omega,by go_num,by rw[HQ.out];exact eT.out.ext rT.out,gP.out.tr (rT.out.mono fun x hx=>by have:x<w.heap.size+1:=hx;have:=eT.out.lt;omega)⟩,by simp[intOf];omega⟩
      ·go_wp2_with fail
       refine(CHs.out _).mono ?_;rintro e w1 ⟨rfl,hx⟩;have rT:=hid hx;clear hx;go_wp2_with fail
       refine(qf _ _ qn (by omega) w1 (eT.out.ext rT.out)).mono ?_;rintro e w2 ⟨⟨u,rfl⟩,hb4,hx4⟩;have HB4:=hid hb4;have Eg:=hid hx4;clear hb4 hx4;go_wp2;exact⟨⟨j+1,by omega,by go_num,by rw[HQ.out,if_pos trivial,uZ];exact HB4.out,(gP.out.tr (rT.out.mono fun x hx=>by have:x<w.heap.size+1:=hx;have:=eT.out.lt;omega)).tr (Eg.out.mono fun x hx=>by have h5:x<w.heap.size+1:=hx;have:=eT.out.lt;have:=rT.out.size;exact⟨by omega,by omega⟩)⟩,by simp[intOf];omega⟩
     ·obtain rfl:j=fl:=by omega
      have nz:¬ ((j:Int)<j):=by omega
      have eH:(a.rX (pn:Int)).take j=a.rX (pn:Int):=by rw[MP.out,List.take_length]
      rw[eH, <-kq.out]at eT;go_wp2;exact⟨⟨k+1,by omega,by go_num,eT.out,HX.out.tr gP.out⟩,by simp[intOf];omega⟩
  ·obtain rfl:k=m:=by omega
   have KD:¬ ((k:Int)<k):=by omega
   have eH:l.take k=l:=by rw[HM.out,List.take_length]
   rw[eH]at HB;go_wp2_with fail
   refine(EL _ _ wo HB.out).mono ?_;rintro e w2 ⟨v,rfl,ho,hx⟩;have HO:=hid ho;have gP:=hid hx;clear ho hx;go_wp2;go_ret;refine⟨_,rfl,?_,XX.out.trans (gP.out.mono XX.out.size)⟩;have h:=aA HO.out XX.out.size;have e:(dY (setW (gq a c l)) 448).map yT=(a.step l c).map aS:=by rw[<-HSt.out,List.map_map];rfl
   have e2:(dY (setW (gq a c l)) 448).length=(a.step l c).length:=by rw[<-HSt.out,List.length_map]
   rwa[e,e2]at h
theorem Ov (v u:Value) (a:NF) (rt:Nt a) (l:List Int) (hst:a.st l=true) (c:Nat) (hc:c<256) (w:World) (h:mP w v a) (sm:Qs a) (hu:aZ aS w u l) (hl:l.length<=1000000): Calls Tryz.prog 143 #[v,u,.int .u8 c] w fun e w'=>∃ r,e=.returned (.tuple #[r,.int .i64 0])/\w'.ownsRow w.heap.size 3 1 r (a.step l c).length ((a.step l c).map aS)/\Below w.heap.size w w':=by
 have CK:Hid (∀ W,Below w.heap.size w W->Calls Tryz.prog 158 #[v,u] W fun e w'=>e=.returned (.int .i64 0)/\Below W.heap.size W w'):=hid fun W hW=>by
  have:=yR v u a l W (h.below hW) sm (hu.below hW) hl;have e:a.chk l=0:=by unfold NF.chk;rw[(fE a).2 rt,hst];rfl
  rwa[e]at this
 have CA:Hid (∀ W,Below w.heap.size w W->Calls Tryz.prog 163 #[v,u,.int .u8 c] W fun e w'=>∃ r,e=.returned r/\w'.ownsRow W.heap.size 3 1 r (a.step l c).length ((a.step l c).map aS)/\Below W.heap.size W w'):=hid fun W hW=>Ou v u a rt l hst c hc W (h.below hW) sm (hu.below hW) hl
 obtain⟨a0,c0,a1,n1,c1,a2,n2,c2,a3,n3,c3,rfl⟩:=h.Sy;generalize a.aM.length=n0 at*;generalize a.step l c=R at*;obtain⟨ua,uc,rfl⟩:=hu.form;generalize l.length=m at*;clear h hu sm rt hst hl;go_enter Tryz.func143,Tryz.ntmps143;go_wp2_with fail
 refine az ?_;intro V hV;have B1:Hid (ah V w.heap.size #[.slice a0 n0 c0,.slice a1 n1 c1,.slice a2 n2 c2,.slice a3 n3 c3,.bool a.emp] 97):=hid (by rw[hV];exact ah.new w _ _);have X1:Hid (Below w.heap.size w V):=hid (by rw[hV];exact((Ext.refl w).alloc _).below);clear hV;refine(CK.out V X1.out).mono ?_;rintro e w1 ⟨rfl,hx⟩;have B2:=hid (B1.out.below hx B1.out.lt);have X2:=hid (X1.out.trans (hx.mono X1.out.size));clear hx B1 X1;obtain⟨i0,i1,i2,i3,i4⟩:=B2.out.five;go_wp2_with fail
 refine(CA.out w1 X2.out).mono ?_;rintro e w2 ⟨r,rfl,ho,hx⟩;have X3:=hid (X2.out.trans (hx.mono X2.out.size));have HO:=hid (aA ho X2.out.size);clear ho hx i0 i1 i2 i3 i4;go_wp2;refine bodyPost_ret (v:=.tuple #[r,.int .i64 0]) (by simp[results,Tryz.results143,go_sem]) rfl ⟨_,rfl,HO.out,X3.out⟩
end
section
open Go Go.RowKit Go.Shelf Go.Maps
theorem ve (u:Nat):∀ c∈Lib.decDigits u,48<=c.toNat/\c.toNat<=57:=by
 induction u using Nat.strongRecOn with
 | _ u ih=>
  intro c hc;rw[Lib.decDigits]at hc;split at hc
  ·rename_i h
   simp at hc;subst hc;simp;omega
  ·rename_i h
   rcases List.mem_append.1 hc with hc | hc
   ·exact ih (u/10) (by omega) c hc
   ·simp at hc
    subst hc;have:u%10<10:=Nat.mod_lt _ (by decide);simp;omega
def numOf (l:List UInt8):Nat:=l.foldl (fun a c=>a*10+(c.toNat-48)) 0
theorem Cz (u:Nat):numOf (Lib.decDigits u)=u:=by
 induction u using Nat.strongRecOn with
 | _ u ih=>
  rw[Lib.decDigits];split
  ·rename_i h
   simp[numOf];omega
  ·rename_i h
   unfold numOf at ih ⊢;rw[List.foldl_append,ih (u/10) (by omega)];have:u%10<10:=Nat.mod_lt _ (by decide);simp;omega
theorem MQ {u v:Nat} (h:Lib.decDigits u=Lib.decDigits v):u=v:=by rw[<-Cz u, <-Cz v,h]
theorem rY (x:Int):∀ c∈Lib.itoa x,c≠44/\c≠59:=by
 have key:∀ c:UInt8,(48<=c.toNat/\c.toNat<=57)->c≠44/\c≠59:=fun c h=>⟨fun e=>by subst e;simp at h,fun e=>by subst e;simp at h⟩
 intro c hc;rw[Lib.itoa]at hc;split at hc
 ·rcases List.mem_cons.1 hc with rfl | hc
  ·decide
  ·exact key c (ve _ c hc)
 ·exact key c (ve _ c hc)
theorem SN {x y:Int} (h:Lib.itoa x=Lib.itoa y):x=y:=by
 have hne:∀ u (t:List UInt8),Lib.decDigits u≠45::t:=fun u t e=>by
  have:=ve u 45 (by rw[e];exact List.mem_cons_self ..);simp at this
 unfold Lib.itoa at h;split at h<;>split at h
 ·have:=MQ (List.cons.inj h).2
  omega
 ·exact absurd h.symm (hne _ _)
 ·exact absurd h (hne _ _)
 ·have:=MQ h
  omega
theorem KQ {α:Type} {s:α} :∀ {a b c d:List α},(∀ x∈a,x≠s)->(∀ x∈b,x≠s)->a++s::c=b++s::d->a=b/\c=d
 | [],[],c,d,_,_,h=>⟨rfl,by simpa using h⟩
 | [],y::b,c,d,_,hb,h=>by
  have:s=y:=by simpa using(List.cons.inj (by simpa using h)).1
  exact absurd this.symm (hb y (List.mem_cons_self ..))
 | x::a,[],c,d,ha,_,h=>by
  have:x=s:=by simpa using(List.cons.inj (by simpa using h)).1
  exact absurd this (ha x (List.mem_cons_self ..))
 | x::a,y::b,c,d,ha,hb,h=>by
  have h':=List.cons.inj (by simpa using h:x::(a++s::c)=y::(b++s::d));obtain⟨e1,e2⟩:=KQ (fun z hz=>ha z (List.mem_cons_of_mem _ hz)) (fun z hz=>hb z (List.mem_cons_of_mem _ hz)) h'.2;exact⟨by rw[h'.1,e1],e2⟩
def vg (p:Int):List UInt8:=Lib.itoa p++ [44]
def fk (l:List Int):List UInt8:=l.flatMap vg
def wu (l:List Int):List UInt8:=fk l++ [59]
def iW (row:List (List Int)):List UInt8:=row.flatMap wu
theorem kL (p:Int) (l:List Int):fk (p::l)=vg p++fk l:=rfl
theorem H8 (l:List Int):∀ c∈fk l,c≠59:=by
 intro c hc;obtain⟨p,_,hp⟩:=List.mem_flatMap.1 hc;rcases List.mem_append.1 hp with h | h
 ·exact(rY p c h).2
 ·simp at h;subst h;decide
theorem CU:∀ {l m:List Int},fk l=fk m->l=m
 | [],[],_=>rfl
 | [],y::m,h=>by
  have:(fk (y::m)).length=0:=by rw[<-h];rfl
  rw[kL]at this;simp[vg]at this
 | x::l,[],h=>by
  have:(fk (x::l)).length=0:=by rw[h];rfl
  rw[kL]at this;simp[vg]at this
 | x::l,y::m,h=>by
  rw[kL,kL]at h;unfold vg at h;simp only[List.append_assoc,List.cons_append,List.nil_append]at h;obtain⟨e1,e2⟩:=KQ (fun c hc=>(rY x c hc).1) (fun c hc=>(rY y c hc).1) h;rw[SN e1,CU e2]
theorem mR (l:List Int) (row:List (List Int)):iW (l::row)=wu l++iW row:=rfl
theorem H9:∀ {r s:List (List Int)},iW r=iW s->r=s
 | [],[],_=>rfl
 | [],y::s,h=>by
  have:(iW (y::s)).length=0:=by rw[<-h];rfl
  rw[mR]at this;simp[wu]at this
 | x::r,[],h=>by
  have:(iW (x::r)).length=0:=by rw[h];rfl
  rw[mR]at this;simp[wu]at this
 | x::r,y::s,h=>by
  rw[mR,mR]at h;unfold wu at h;simp only[List.append_assoc,List.cons_append,List.nil_append]at h;obtain⟨e1,e2⟩:=KQ (H8 x) (H8 y) h;rw[CU e1,H9 e2]
open Go.ChangeMaps (setBlock heap_setBlock_same)
open Go.WideMaps (keyOf_string_mk)
def WK (l:List UInt8):Value:=.string ⟨l.toArray⟩
theorem SP {a b:List UInt8} (h:WK a=WK b):a=b:=by
 unfold WK at h;injection h with h
 injection h with h
 simpa using h
def vh (r:List (List Int)):Value:=WK (iW r)
theorem Ib {a b:List (List Int)} (h:vh a=vh b):a=b:=H9 (SP h)
def rE:Nat->List (List (List Int))->List MapEntry
 | _,[]=>[]
 | n,p::l=>⟨vh p,.int .i64 n,n⟩::rE (n+1) l
theorem qg:∀ (l:List (List (List Int))) (n i:Nat),(rE n l)[i]? =(l[i]?).map fun p=>⟨vh p,.int .i64 (n+i:Nat),n+i⟩
 | [],_,_=>by simp[rE]
 | p::l,n,0=>by simp[rE]
 | p::l,n,i+1=>by
  simp only[rE,List.getElem?_cons_succ,qg l];rw[show n+1+i=n+(i+1) by omega]
theorem wy:∀ (l:List (List (List Int))) (n:Nat) (q:List (List Int)),rE n (l++ [q])=rE n l++ [⟨vh q,.int .i64 (n+l.length:Nat),n+l.length⟩]
 | [],n,q=>by simp[rE]
 | p::l,n,q=>by
  simp only[List.cons_append,rE,wy l,List.length_cons];rw[show n+1+l.length=n+(l.length+1) by omega]
def nL (w:World) (b:Nat) (l:List (List (List Int))):Prop:=w.heap[b]? =some (.map (rE 0 l).toArray l.length)
theorem nL.keeps {w w':World} {b:Nat} {l:List (List (List Int))} (h:nL w b l) {R:Nat->Prop} (hk:aa R w w') (hb:R b):nL w' b l:=(hk.keep b hb).trans h
theorem nL.lt {w:World} {b:Nat} {l:List (List (List Int))} (h:nL w b l):b<w.heap.size:=(Array.getElem?_eq_some_iff.1 h).1
theorem nL.below {w w':World} {b:Nat} {l:List (List (List Int))} (h:nL w b l) (hk:Below w.heap.size w w'):nL w' b l:=(hk.block b h.lt).trans h
def rN (r:List (List Int)):Prop:=(iW r).length<=maxLen
theorem Tryz.Ic:Keyed Tryz.prog 9:=string_keyed Tryz.underlying9
theorem KS (r:List (List Int)) (h:rN r):∃ l,keyOf Tryz.prog 9 (vh r)=some l:=⟨_,keyOf_string_mk Tryz.underlying9 (by show(iW r).toArray.size<=maxLen;rw[List.size_toArray];exact h)⟩
theorem Ie {l:List (List (List Int))} (hl:∀ p∈l,rN p):∀ e∈rE 0 l,∃ k,keyOf Tryz.prog 9 e.key=some k:=fun e he=>by
 obtain⟨i,hi⟩:=List.mem_iff_getElem?.1 he;rw[qg]at hi;obtain⟨p,hp,rfl⟩:=Option.map_eq_some_iff.1 hi;exact KS p (hl p (List.mem_of_getElem? hp))
theorem KT {α:Type} [DecidableEq α] {l:List α} (hn:l.Nodup) {i:Nat} {q:α} (h:l[i]? =some q):l.idxOf q=i:=by obtain⟨h1,h2⟩:=List.getElem?_eq_some_iff.1 h;subst h2;exact List.Nodup.idxOf_getElem hn i h1
def ixR (l:List (List (List Int))) (q:List (List Int)):Nat:= @List.idxOf _ instBEqOfDecidableEq q l
theorem WL {w:World} {b:Nat} {l:List (List (List Int))} (h:nL w b l) (hn:l.Nodup) (hl:∀ p∈l,rN p) (q:List (List Int)) (hq:rN q): (q∉l/\(Instr.lookup 144 (.map (some b)) (vh q) true).run Tryz.prog w=.ok (.tuple #[.int .i64 0,.bool false]) w)\/ (q∈l/\(Instr.lookup 144 (.map (some b)) (vh q) true).run Tryz.prog w=.ok (.tuple #[.int .i64 (ixR l q),.bool true]) w):=by
 have K:=Tryz.Ic;obtain⟨kl,hk⟩:=KS q hq;have hz:(zeroValue 3).run Tryz.prog w=.ok (.int .i64 0) w:=by kernel_rfl
 have hb:w.heap[b]? =some (.map (rE 0 l).toArray l.length):=h;rcases K.find w hk (rE 0 l) (Ie hl)with⟨f1,f2⟩ | ⟨j,e0,f1,f2,f3⟩
 ·refine .inl ⟨fun hm=>?_,?_⟩
  ·obtain⟨i,hi⟩:=List.mem_iff_getElem?.1 hm
   have:=qg l 0 i;rw[hi]at this;exact f2 _ (List.mem_of_getElem? this) rfl
  ·simp[Instr.lookup,run_underlying Tryz.underlying144,MapKept.run_getObj_map hb,K.check w _ hk,f1,hz,Result.andThen]
 ·rw[qg]at f2
  obtain⟨p,hp,rfl⟩:=Option.map_eq_some_iff.1 f2;have e:p=q:=Ib f3;subst e;refine .inr ⟨List.mem_of_getElem? hp,?_⟩;rw[show ixR l p=j from KT hn hp];simp[Instr.lookup,run_underlying Tryz.underlying144,MapKept.run_getObj_map hb,K.check w _ hk,f1,Result.andThen]
theorem aa9 {w:World} {b:Nat} {l:List (List (List Int))} (h:nL w b l) (hl:∀ p∈l,rN p) (q:List (List Int)) (hqk:rN q) (hq:q∉l): ∃ w',(Instr.mapUpdate 144 (.map (some b)) (vh q) (.int .i64 l.length)).run Tryz.prog w=.ok () w'/\nL w' b (l++ [q])/\aa (· ≠b) w w'/\w'.heap.size=w.heap.size:=by
 have K:=Tryz.Ic;obtain⟨kl,hk⟩:=KS q hqk;have hb:w.heap[b]? =some (.map (rE 0 l).toArray l.length):=h;rcases K.find w hk (rE 0 l) (Ie hl)with⟨f1,f2⟩ | ⟨j,e0,f1,f2,f3⟩
 ·refine⟨setBlock w b (.map (rE 0 (l++ [q])).toArray (l++ [q]).length),?_,heap_setBlock_same hb _,⟨rfl,rfl,rfl,by simp[setBlock],fun i hi=>by show(w.heap.setIfInBounds b _)[i]? =_;exact Array.getElem?_setIfInBounds_ne (Ne.symm hi)⟩,by simp[setBlock]⟩
  rw[wy];simp[Instr.mapUpdate,run_underlying Tryz.underlying144,MapKept.run_getObj_map hb,K.check w false hk,f1,MapKept.run_setObj_map _ hb,Result.andThen,setBlock]
 ·rw[qg]at f2
  obtain⟨p,hp,rfl⟩:=Option.map_eq_some_iff.1 f2;have e:p=q:=Ib f3;subst e;exact absurd (List.mem_of_getElem? hp) hq
end
end Go.Proofs.YtalombmiochpmaaGreatDoor
namespace Go.Proofs
open Go.Shelf
def Tryz.C0:Go.Shelf.Ren:=⟨fun | 169=>157 | n=>n,fun | 70=>216 | 9=>9 | 0=>0 | 72=>218 | 37=>23 | 127=>239 | 3=>3 | 5=>5 | n=>n,fun | n=>n⟩
theorem Tryz.aeJ:Go.Proofs.Lays.n169 Tryz.prog Tryz.C0:= {
 mixed:=by kernel_rfl
 f169:=Tryz.func157.trans (congrArg some (by kernel_rfl))
 t0:=Tryz.underlying0
 a0:=Tryz.isAgg0
 z0:=Tryz.sizeOf0
 v0:=Tryz.zeroValue0
 t3:=Tryz.underlying3
 a3:=Tryz.isAgg3
 z3:=Tryz.sizeOf3
 v3:=Tryz.zeroValue3
 t9:=Tryz.underlying9
 a9:=Tryz.isAgg9
 z9:=Tryz.sizeOf9
 v9:=Tryz.zeroValue9
 t37:=Tryz.underlying23
 a37:=Tryz.isAgg23
 z37:=Tryz.sizeOf23
 v37:=Tryz.zeroValue23
 t70:=Tryz.underlying216
 a70:=Tryz.isAgg216
 z70:=Tryz.sizeOf216
 v70:=Tryz.zeroValue216
 t72:=Tryz.underlying218
 a72:=Tryz.isAgg218
 z72:=Tryz.sizeOf218
 v72:=Tryz.zeroValue218
 t127:=Tryz.underlying239
 a127:=Tryz.isAgg239
 z127:=Tryz.sizeOf239
 v127:=Tryz.zeroValue239}
theorem Tryz.aeK:Builder.Extra Tryz.prog Tryz.C0:= {
 sizeBuilder:=by kernel_rfl
 liesBuilder:=by kernel_rfl
 t5:=Tryz.underlying5
 a5:=Tryz.isAgg5
 z5:=Tryz.sizeOf5
 v5:=Tryz.zeroValue5
 infoByte:=by kernel_rfl
 cellsByte:=by kernel_rfl
 sizeByte:=by kernel_rfl
 neB5:=by decide}
def Tryz.Ow:Go.Shelf.Ren:=⟨fun | 171=>155 | 243=>168 | 246=>182 | 283=>187 | 284=>188 | 285=>189 | 286=>190 | 129=>119 | 317=>192 | 318=>193 | 319=>194 | 320=>195 | 337=>196 | 338=>197 | n=>n,fun | 3=>3 | 9=>9 | 2=>2 | 4=>4 | 171=>251 | 0=>0 | 53=>57 | 37=>23 | 5=>5 | 173=>253 | 212=>258 | 51=>191 | 20=>20 | 213=>259 | 46=>159 | 232=>260 | 233=>261 | n=>n,fun | 17=>1 | 18=>2 | 19=>3 | n=>n⟩
theorem Tryz.aeL:Go.Proofs.LaysM.n171 Tryz.prog Tryz.Ow:= {
 mixed:=by kernel_rfl
 f129:=Tryz.func119.trans (congrArg some (by kernel_rfl))
 f171:=Tryz.func155.trans (congrArg some (by kernel_rfl))
 f243:=Tryz.func168.trans (congrArg some (by kernel_rfl))
 f246:=Tryz.func182.trans (congrArg some (by kernel_rfl))
 f283:=Tryz.func187.trans (congrArg some (by kernel_rfl))
 f284:=Tryz.func188.trans (congrArg some (by kernel_rfl))
 f285:=Tryz.func189.trans (congrArg some (by kernel_rfl))
 f286:=Tryz.func190.trans (congrArg some (by kernel_rfl))
 f317:=Tryz.func192.trans (congrArg some (by kernel_rfl))
 f318:=Tryz.func193.trans (congrArg some (by kernel_rfl))
 f319:=Tryz.func194.trans (congrArg some (by kernel_rfl))
 f320:=Tryz.func195.trans (congrArg some (by kernel_rfl))
 f337:=Tryz.func196.trans (congrArg some (by kernel_rfl))
 f338:=Tryz.func197.trans (congrArg some (by kernel_rfl))
 t0:=Tryz.underlying0
 a0:=Tryz.isAgg0
 z0:=Tryz.sizeOf0
 v0:=Tryz.zeroValue0
 t2:=Tryz.underlying2
 a2:=Tryz.isAgg2
 z2:=Tryz.sizeOf2
 v2:=Tryz.zeroValue2
 t3:=Tryz.underlying3
 a3:=Tryz.isAgg3
 z3:=Tryz.sizeOf3
 v3:=Tryz.zeroValue3
 t4:=Tryz.underlying4
 a4:=Tryz.isAgg4
 z4:=Tryz.sizeOf4
 v4:=Tryz.zeroValue4
 t5:=Tryz.underlying5
 a5:=Tryz.isAgg5
 z5:=Tryz.sizeOf5
 v5:=Tryz.zeroValue5
 t9:=Tryz.underlying9
 a9:=Tryz.isAgg9
 z9:=Tryz.sizeOf9
 v9:=Tryz.zeroValue9
 t20:=Tryz.underlying20
 a20:=Tryz.isAgg20
 z20:=Tryz.sizeOf20
 v20:=Tryz.zeroValue20
 t37:=Tryz.underlying23
 a37:=Tryz.isAgg23
 z37:=Tryz.sizeOf23
 v37:=Tryz.zeroValue23
 t46:=Tryz.underlying159
 a46:=Tryz.isAgg159
 z46:=Tryz.sizeOf159
 v46:=Tryz.zeroValue159
 t51:=Tryz.underlying191
 a51:=Tryz.isAgg191
 z51:=Tryz.sizeOf191
 v51:=Tryz.zeroValue191
 t53:=Tryz.underlying57
 a53:=Tryz.isAgg57
 z53:=Tryz.sizeOf57
 v53:=Tryz.zeroValue57
 t171:=Tryz.underlying251
 a171:=Tryz.isAgg251
 z171:=Tryz.sizeOf251
 v171:=Tryz.zeroValue251
 t173:=Tryz.underlying253
 a173:=Tryz.isAgg253
 z173:=Tryz.sizeOf253
 v173:=Tryz.zeroValue253
 t212:=Tryz.underlying258
 a212:=Tryz.isAgg258
 z212:=Tryz.sizeOf258
 v212:=Tryz.zeroValue258
 t213:=Tryz.underlying259
 a213:=Tryz.isAgg259
 z213:=Tryz.sizeOf259
 t232:=Tryz.underlying260
 a232:=Tryz.isAgg260
 z232:=Tryz.sizeOf260
 v232:=Tryz.zeroValue260
 t233:=Tryz.underlying261
 a233:=Tryz.isAgg261
 z233:=Tryz.sizeOf261
 v233:=Tryz.zeroValue261
 g17:=by kernel_rfl
 g18:=by kernel_rfl
 g19:=by kernel_rfl
 i0:=by kernel_rfl
 i2:=by kernel_rfl
 i3:=by kernel_rfl
 i4:=by kernel_rfl
 i5:=by kernel_rfl
 i9:=by kernel_rfl
 i20:=by kernel_rfl
 i37:=by kernel_rfl
 i46:=by kernel_rfl
 i51:=by kernel_rfl
 i53:=by kernel_rfl
 i171:=by kernel_rfl
 i173:=by kernel_rfl
 i212:=by kernel_rfl
 i232:=by kernel_rfl
 i233:=by kernel_rfl
 m17:=by kernel_rfl
 m18:=by kernel_rfl
 m19:=by kernel_rfl}
def Tryz.Da:Go.Shelf.Ren:=⟨fun | 166=>154 | 240=>167 | 276=>181 | n=>n,fun | 0=>0 | 3=>3 | 4=>4 | 5=>5 | 9=>9 | 20=>20 | 37=>23 | 70=>216 | 72=>218 | 75=>220 | 80=>225 | 164=>246 | n=>n,fun | n=>n⟩
theorem Tryz.aeM:Go.Proofs.Lays.n166 Tryz.prog Tryz.Da:= {
 mixed:=by kernel_rfl
 f166:=Tryz.func154.trans (congrArg some (by kernel_rfl))
 f240:=Tryz.func167.trans (congrArg some (by kernel_rfl))
 f276:=Tryz.func181.trans (congrArg some (by kernel_rfl))
 t0:=Tryz.underlying0
 a0:=Tryz.isAgg0
 z0:=Tryz.sizeOf0
 v0:=Tryz.zeroValue0
 t3:=Tryz.underlying3
 a3:=Tryz.isAgg3
 z3:=Tryz.sizeOf3
 v3:=Tryz.zeroValue3
 t4:=Tryz.underlying4
 a4:=Tryz.isAgg4
 z4:=Tryz.sizeOf4
 v4:=Tryz.zeroValue4
 t9:=Tryz.underlying9
 a9:=Tryz.isAgg9
 z9:=Tryz.sizeOf9
 v9:=Tryz.zeroValue9
 t20:=Tryz.underlying20
 a20:=Tryz.isAgg20
 z20:=Tryz.sizeOf20
 v20:=Tryz.zeroValue20
 t37:=Tryz.underlying23
 a37:=Tryz.isAgg23
 z37:=Tryz.sizeOf23
 v37:=Tryz.zeroValue23
 t70:=Tryz.underlying216
 a70:=Tryz.isAgg216
 z70:=Tryz.sizeOf216
 v70:=Tryz.zeroValue216
 t72:=Tryz.underlying218
 a72:=Tryz.isAgg218
 z72:=Tryz.sizeOf218
 v72:=Tryz.zeroValue218
 t75:=Tryz.underlying220
 a75:=Tryz.isAgg220
 z75:=Tryz.sizeOf220
 v75:=Tryz.zeroValue220
 t164:=Tryz.underlying246
 a164:=Tryz.isAgg246
 z164:=Tryz.sizeOf246
 v164:=Tryz.zeroValue246}
theorem Tryz.aeN:Builder.Extra Tryz.prog Tryz.Da:= {
 sizeBuilder:=by kernel_rfl
 liesBuilder:=by kernel_rfl
 t5:=Tryz.underlying5
 a5:=Tryz.isAgg5
 z5:=Tryz.sizeOf5
 v5:=Tryz.zeroValue5
 infoByte:=by kernel_rfl
 cellsByte:=by kernel_rfl
 sizeByte:=by kernel_rfl
 neB5:=by decide}
def Tryz.Db:Go.Shelf.Ren:=⟨fun | 167=>156 | 240=>167 | 276=>181 | n=>n,fun | 0=>0 | 3=>3 | 4=>4 | 5=>5 | 9=>9 | 20=>20 | 37=>23 | 70=>216 | 72=>218 | 75=>220 | 80=>225 | 164=>246 | n=>n,fun | n=>n⟩
theorem Tryz.aeO:Go.Proofs.Lays.n167 Tryz.prog Tryz.Db:= {
 mixed:=by kernel_rfl
 f167:=Tryz.func156.trans (congrArg some (by kernel_rfl))
 f240:=Tryz.func167.trans (congrArg some (by kernel_rfl))
 f276:=Tryz.func181.trans (congrArg some (by kernel_rfl))
 t0:=Tryz.underlying0
 a0:=Tryz.isAgg0
 z0:=Tryz.sizeOf0
 v0:=Tryz.zeroValue0
 t4:=Tryz.underlying4
 a4:=Tryz.isAgg4
 z4:=Tryz.sizeOf4
 v4:=Tryz.zeroValue4
 t5:=Tryz.underlying5
 a5:=Tryz.isAgg5
 z5:=Tryz.sizeOf5
 v5:=Tryz.zeroValue5
 t9:=Tryz.underlying9
 a9:=Tryz.isAgg9
 z9:=Tryz.sizeOf9
 v9:=Tryz.zeroValue9
 t20:=Tryz.underlying20
 a20:=Tryz.isAgg20
 z20:=Tryz.sizeOf20
 v20:=Tryz.zeroValue20
 t37:=Tryz.underlying23
 a37:=Tryz.isAgg23
 z37:=Tryz.sizeOf23
 v37:=Tryz.zeroValue23
 t70:=Tryz.underlying216
 a70:=Tryz.isAgg216
 z70:=Tryz.sizeOf216
 v70:=Tryz.zeroValue216
 t72:=Tryz.underlying218
 a72:=Tryz.isAgg218
 z72:=Tryz.sizeOf218
 v72:=Tryz.zeroValue218
 t75:=Tryz.underlying220
 a75:=Tryz.isAgg220
 z75:=Tryz.sizeOf220
 v75:=Tryz.zeroValue220
 t164:=Tryz.underlying246
 a164:=Tryz.isAgg246
 z164:=Tryz.sizeOf246
 v164:=Tryz.zeroValue246}
theorem Tryz.aeP:Builder.Extra Tryz.prog Tryz.Db:= {
 sizeBuilder:=by kernel_rfl
 liesBuilder:=by kernel_rfl
 t5:=Tryz.underlying5
 a5:=Tryz.isAgg5
 z5:=Tryz.sizeOf5
 v5:=Tryz.zeroValue5
 infoByte:=by kernel_rfl
 cellsByte:=by kernel_rfl
 sizeByte:=by kernel_rfl
 neB5:=by decide}
end Go.Proofs
