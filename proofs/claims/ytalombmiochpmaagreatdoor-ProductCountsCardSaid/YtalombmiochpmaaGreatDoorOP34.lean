/- What the outright laws of products begin with. -/
import Derived.Test.YtalombmiochpmaaGreatDoorOP33
set_option maxRecDepth 100000
set_option maxHeartbeats 16000000
open Go.Lib (hid)
namespace Go.Proofs.YtalombmiochpmaaGreatDoor
open Go Go.RowKit
section
variable {α:Type}
def yr (g:Nat->α) (st:List α×List Nat):Prop:=∀ (k t:Nat),st.2[k]? =some t->st.1[t]? =some (g k)
def aeA (f:α->Nat->α) (st:List α×List (List Nat)):Prop:=∀ (s:Nat) (r:List Nat),st.2[s]? =some r->∃ p,st.1[s]? =some p/\yr (f p) (st.1,r)
theorem yr.more {g:Nat->α} {t:List α} {r:List Nat} (h:yr g (t,r)) (ys:List α):yr g (t++ys,r):=fun k u hk=>by
 have h1:=h k u hk;show(t++ys)[u]? =_;rw[List.getElem?_append_left (List.getElem?_eq_some_iff.1 h1).1];exact h1
end
section
variable {α β:Type} [DecidableEq α] [DecidableEq β]
theorem N9 {f:Nat} {st pg:List α×List Nat} {q:α} (h:jA f st q=some pg):∃ t ys,pg=(st.1++ys,st.2++ [t])/\(st.1++ys)[t]? =some q:=by
 unfold jA at h;split at h
 ·split at h
  ·cases h
  ·cases h
   exact⟨_,[q],rfl,by simp⟩
 ·rename_i he
  cases h
  have hlt:st.1.idxOf q<st.1.length:=by have:=List.idxOf_le_length (a:=q) (l:=st.1);omega
  refine⟨_,[],by rw[List.append_nil],?_⟩;rw[List.append_nil,List.getElem?_eq_getElem hlt,List.getElem_idxOf hlt]
theorem Db {f:Nat} {g:Nat->α} {todo:List α} :∀ {k:Nat} {st:List α×List Nat},cI f g todo k=some st->(∃ ys,st.1=todo++ys)/\st.2.length=k/\yr g st
 | 0,st,h=>by cases h;exact⟨⟨[],by simp⟩,rfl,fun k t e=>by simp at e⟩
 | k+1,st,h=>by
  rw[cI]at h;obtain⟨s1,h1,h2⟩:=Option.bind_eq_some_iff.1 h;obtain⟨⟨ys,e1⟩,e2,e3⟩:=Db h1;obtain⟨t,zs,e4,e5⟩:=N9 h2;subst e4;refine⟨⟨ys++zs,by simp[e1]⟩,by simp[e2],fun j u hj=>?_⟩;rcases Nat.lt_or_ge j k with hjk | hjk
  ·have gz:s1.2[j]? =some u:=by
    have:(s1.2++ [t])[j]? =some u:=hj;rwa[List.getElem?_append_left (by omega)]at this
   have h3:=e3 j u gz;show(s1.1++zs)[u]? =_;rw[List.getElem?_append_left (List.getElem?_eq_some_iff.1 h3).1];exact h3
  ·have gz:(s1.2++ [t])[j]? =some u:=hj
   have hl:=(List.getElem?_eq_some_iff.1 gz).1;simp[e2]at hl;obtain rfl:j=k:=by omega
   rw[List.getElem?_append_right (by omega),e2,Nat.sub_self]at gz;cases gz;exact e5
theorem Ha {fuel K:Nat} {f:α->Nat->α} {p0:α} :∀ (n:Nat) {st:List α×List (List Nat)},dF fuel f K p0 n=some st->st.2.length=min n st.1.length/\aeA f st
 | 0,st,h=>by cases h;exact⟨by simp,fun s r e=>by simp at e⟩
 | n+1,st,h=>by
  rw[dF]at h;obtain⟨s1,h1,h2⟩:=Option.bind_eq_some_iff.1 h;obtain⟨i1,i2⟩:=Ha n h1;unfold fF at h2;split at h2
  ·rename_i he
   have e:=Option.some.inj h2;subst e;have hl:s1.1.length<=n:=by simpa using he
   exact⟨by omega,i2⟩
  ·rename_i p he
   obtain⟨r,h3,rfl⟩:=Option.map_eq_some_iff.1 h2;have hlt:n<s1.1.length:=(List.getElem?_eq_some_iff.1 he).1;obtain⟨⟨ys,e1⟩,e2,e3⟩:=Db h3;have PG:s1.1.length<=r.1.length:=by rw[e1];simp
   refine⟨by simp;omega,fun s x hx=>?_⟩;have hx:(s1.2++ [r.2])[s]? =some x:=hx;rcases Nat.lt_or_ge s n with hs | hs
   ·rw[List.getElem?_append_left (by omega)]at hx
    obtain⟨q,g1,g2⟩:=i2 s x hx;refine⟨q,?_,?_⟩
    ·show r.1[s]? =_
     rw[e1,List.getElem?_append_left (by omega)];exact g1
    ·show yr (f q) (r.1,x)
     rw[e1];exact g2.more ys
   ·have hl:=(List.getElem?_eq_some_iff.1 hx).1
    simp at hl;obtain rfl:s=n:=by omega
    rw[List.getElem?_append_right (by omega)]at hx;have:s-s1.2.length=0:=by omega
    rw[this]at hx;cases hx;refine⟨p,?_,e3⟩;show r.1[s]? =_;rw[e1,List.getElem?_append_left (by omega)];exact he
end
end Go.Proofs.YtalombmiochpmaaGreatDoor
namespace Go.Proofs.YtalombmiochpmaaGreatDoor
open Go Go.RowKit Go.Shelf Go.Maps
theorem zN (v:Value) (d:DF) (rt:Rt d) (w:World) (h:bJ w v d): Calls Tryz.prog 81 #[v] w fun e w'=>e=.returned (.agg (cC d.cl))/\Below w.heap.size w w':=by
 obtain⟨v0,v1,v2,rfl,h0,h1,h2⟩:=h;obtain⟨a0,c0,rfl⟩:=h0.1.form;obtain⟨a1,c1,rfl⟩:=h1.form;obtain⟨a2,c2,rfl⟩:=h2.form;have H0:=hid h0.1;have CO:Hid (∀ W,cB W (.slice a0 d.cl.length c0) d.cl->Calls Tryz.prog 60 #[.slice a0 d.cl.length c0] W fun e w'=>∃ b,e=.returned (.pointer (some ⟨b,0,none⟩))/\ck w' W.heap.size (.pointer (some ⟨b,0,none⟩)) d.cl/\Below W.heap.size W w'):=fun W h=>by
  have:=ig d.cl _ W h (by have:=rt.H5;omega);rwa[rt.cl]at this
 have CT:Hid (∀ b base W,ck W base (.pointer (some ⟨b,0,none⟩)) d.cl->Calls Tryz.prog 107 #[.pointer (some ⟨b,0,none⟩)] W fun e w'=>e=.returned (.agg (cC d.cl))/\Ext W w'):=fun b base W h=>Hy _ base d.cl W h
 clear h0 h1 h2;have hsz:=ij;have hz:=jY;generalize d.cl.length=n0 at*;go_enter Tryz.func81,Tryz.ntmps81;go_wp2_with fail
 refine ay ?_;intro V hV;have B2:Hid (ah V (w.heap.size+1) (cC []) 150):=by rw[hV];exact(ah.new (w.alloc _) _ _).at (by simp)
 have X1:Hid (Below w.heap.size w V):=by rw[hV];exact(((Ext.refl w).alloc _).alloc _).below
 clear hV;refine(CO.out _ (H0.out.below X1.out)).mono ?_;rintro e w2 ⟨b,rfl,ha,hx⟩;have B3:=hid (B2.out.below hx B2.out.lt);have X2:=hid (X1.out.trans (hx.mono X1.out.size));have A2:=hid ha;clear ha hx B2 X1;go_wp2_with fail
 refine(CT.out _ _ _ A2.out).mono ?_;rintro e w3 ⟨rfl,hx⟩;have B4:=hid (B3.out.ext hx);have X3:=hid (X2.out.trans (hx.below.mono X2.out.size));clear hx B3 X2;go_wp2_with (refine wpList_store_row rfl 150 (.tmp 2) (.tmp 6) rfl (w.heap.size+1) (cC d.cl) rfl rfl 150 (cC []) B4.out (by rw[bu];exact hsz) (by rw[bu,bu]) (jZ _) ?_);refine bodyPost_ret (results_cell_row rfl _ _ (w.heap.size+1) 150 (cC d.cl) (0,0) _ rfl B4.out.setRow Tryz.underlying150 rfl (by rw[bu];exact ij)) rfl ⟨rfl,Below.P8 X3.out (by omega) _⟩
def dm (d:DF) (s:Nat) (b:List Nat):Nat:=b.foldl (fun s c=>eO d s (cls d.cl c)) s
theorem JN {d:DF} {s:Nat} {b:List Nat} {k c:Nat} (h:b[k]? =some c):dm d s (b.take (k+1))=eO d (dm d s (b.take k)) (cls d.cl c):=by unfold dm;rw[List.take_add_one,h,List.foldl_append];rfl
theorem zO {d:DF} (rt:Rt d) {s:Nat} (hs:s<d.nx.length):∀ (b:List Nat),(∀ c∈b,c<256)->dm d s b<d.nx.length:=by
 intro b;induction b generalizing s with
 | nil=>intro _;exact hs
 | cons c r ih=>intro h;exact ih (rt.gI hs (rt.part.gF (h c (by simp)))) (fun x hx=>h x (by simp[hx]))
theorem FY (v bv:Value) (d:DF) (rt:Rt d) (sm:Sm d) (s:Nat) (hs:s<d.nx.length) (b:List Nat) (hb:∀ c∈b,c<256) (hbn:b.length<=1000000) (w:World) (h:bJ w v d) (Tg:cr cF w bv b): Calls Tryz.prog 54 #[v,.int .i64 s,bv] w fun e w'=>e=.returned (.tuple #[.int .i64 (dm d s b),.int .i64 0])/\Below w.heap.size w w':=by
 have CR:Hid (∀ W,Below w.heap.size w W->Calls Tryz.prog 13 #[v] W fun e w'=>e=.returned (.bool true)/\Below W.heap.size W w'):=fun W hW=>by
  have:=cU v d W (h.below hW) sm;rwa[(aS d).2 rt]at this
 have CT:Hid (∀ W,Below w.heap.size w W->Calls Tryz.prog 81 #[v] W fun e w'=>e=.returned (.agg (cC d.cl))/\Below W.heap.size W w'):=fun W hW=>zN v d rt W (h.below hW)
 obtain⟨v0,v1,v2,rfl,h0,h1,h2⟩:=h;obtain⟨a0,c0,rfl⟩:=h0.1.form;obtain⟨a1,c1,rfl⟩:=h1.form;obtain⟨a2,c2,rfl⟩:=h2.form;obtain⟨ab,cb,rfl⟩:=Tg.form;obtain⟨n1,ja⟩:∃ n,n=d.nx.length:=⟨_,rfl⟩;obtain⟨nb,pY⟩:∃ n,n=b.length:=⟨_,rfl⟩;have qw:=hid ja;have Pb:=hid pY;have hs1:s<n1:=by omega
 have Sy:n1<=4000:=by rw[ja];exact rt.le
 rw[<-ja]at h1 CR CT ⊢;rw[<-pY]at Tg hbn ⊢;have H1:=hid h1;have HBV:=hid Tg;have HB:=hid hb;have RT:=hid rt;have e1:decide ((s:Int)<0)=false:=decide_eq_false (by omega);have e2:decide ((n1:Int)<=s)=false:=decide_eq_false (by omega);have e3:decide (n1<=s)=false:=decide_eq_false (by omega);have hsz:=ij;have hz:=jY;clear h0 h1 h2 Tg ja pY hb;go_enter Tryz.func54,Tryz.ntmps54;go_wp2_with fail
 refine ay ?_;intro V hV;have B1:Hid (ah V w.heap.size #[.slice a0 d.cl.length c0,.slice a1 n1 c1,.slice a2 d.mr.length c2] 28):=by rw[hV];exact ah.new w _ _
 have X1:Hid (Below w.heap.size w V):=by rw[hV];exact((Ext.refl w).alloc _).below
 clear hV;refine(CR.out _ X1.out).mono ?_;rintro e w2 ⟨rfl,hx⟩;have B2:=hid (B1.out.below hx B1.out.lt);have X2:=hid (X1.out.trans (hx.mono X1.out.size));clear hx B1 X1;obtain⟨⟨k0,k1,k2⟩,_⟩:=B2.out.three;go_wp2_with fail
 refine(CT.out _ X2.out).mono ?_;rintro e w3 ⟨rfl,hx⟩;have B3:=hid (B2.out.below hx B2.out.lt);have X3:=hid (X2.out.trans (hx.mono X2.out.size));clear hx B2 X2 k0 k1 k2 e1 e2 e3 CR CT;have hst:=run_storeCells_new (P:=Tryz.prog) w3 150 (cC []) (cC d.cl) (by rw[bu];exact hsz) (by rw[bu,bu]) (jZ _);have hs0:=bu d.cl;go_wp2;refine ax ?_;intro V2 hV2;have B4:Hid (ah V2 w.heap.size #[.slice a0 d.cl.length c0,.slice a1 n1 c1,.slice a2 d.mr.length c2] 28):=by rw[hV2];exact B3.out.alloc _
 have T4:Hid (ah V2 w3.heap.size (cC d.cl) 150):=by rw[hV2];exact ah.new _ _ _
 have X4:Hid (Below w.heap.size w V2):=by rw[hV2];exact X3.out.alloc X3.out.size _
 clear hV2 hst hs0 hz hsz B3 X3;go_loopw [29,1] (fun i sv wr=>∃ k:Nat,k<=nb/\i=.int .i64 k/\sv=.int .i64 (dm d s (b.take k))/\Below V2.heap.size V2 wr) (fun i _ _=>nb-(intOf i).toNat);case atStart=>exact⟨0,by omega,rfl,rfl,Below.refl _ _⟩
 case round=>
  obtain⟨k,hk,rfl,rfl,hx⟩:=hrel;obtain⟨wo,rfl⟩:∃ wo:World,wo=wr:=⟨_,rfl⟩;have HX:=hid hx;have B5:=hid (B4.out.below hx B4.out.lt);have T5:=hid (T4.out.below hx T4.out.lt);have X5:=hid (X4.out.trans (hx.mono X4.out.size));clear hx;by_cases hlt:k<nb
  ·obtain⟨c,hc⟩:∃ c,b[k]? =some c:=⟨_,List.getElem?_eq_getElem (by have:=Pb.out;omega)⟩
   have ie:=HB.out c (List.mem_of_getElem? hc);have HT:=hid (JN (d:=d) (s:=s) hc);have fk:=zO RT.out (s:=s) (by rw[<-qw.out];exact hs1) (b.take k) (fun x hx=>HB.out x (List.mem_of_mem_take hx));obtain⟨g0,o0,rfl,hg0,x0⟩:=(HBV.out.below X5.out).elem hc;replace x0:wo.cell? ⟨g0,o0+k,none⟩=some (.int .u8 c):=x0;generalize dm d s (b.take k)=sv at HT fk ⊢;obtain⟨l,hl⟩:∃ l,d.nx[sv]? =some l:=⟨_,List.getElem?_eq_getElem fk⟩;obtain⟨g1,o1,e1,k1,rfl,hg1,x1,y1⟩:=(H1.out.below X5.out).elem hl;obtain⟨q,hq⟩:∃ q,q=cls d.cl c:=⟨_,rfl⟩;have hql:q<d.cl.length:=by rw[hq];exact RT.out.part.gF ie
   have Wq:l.length=d.cl.length:=by have:=RT.out.len sv fk;rwa[getD_some hl]at this
   obtain⟨r,hr⟩:∃ r,r=eO d sv q:=⟨_,rfl⟩;have Qy:l[q]? =some (r:Int):=by have:=RT.out.lO fk hql;rwa[getD_some hl, <-hr]at this
   obtain⟨g2,o2,rfl,hg2,x2⟩:=y1.elem Qy;replace x2:wo.cell? ⟨g2,o2+q,none⟩=some (.int .i64 r):=x2;have x3:wo.cell? ⟨w3.heap.size,c,none⟩=some (.int .u8 q):=by rw[hq];exact(T5.out.cell c).trans (tJ _ ie)
   have b1:=B5.out.cell 1;simp only[List.getElem?_toArray,List.getElem?_cons_zero,List.getElem?_cons_succ]at b1;have Pm:sv<n1:=by rw[qw.out];exact fk
   have hci:(c:Int)<256:=by omega
   have RS:(sv:Int)<n1:=by omega
   obtain⟨j,hj⟩:∃ j,j=l.length:=⟨_,rfl⟩;have hqj:q<j:=by omega
   have WC:(q:Int)<j:=by omega
   rw[<-hj]at x1;have eT:(k:Int)<nb:=by omega
   have HRQ:=hid hr;have HQ:=hid hq;clear hc hl y1 Qy Wq hql hq hr hj fk;go_wp2;refine aA false (fun _=>False) (by kernel_rfl) 11 [0,1,0,7,15,0,32,96,255,511,1023] (fun i=>false) (by kernel_rfl) (fun i=>aR.any _) ?_;intro C hC hne;have HC:=hid hC;have f0:=au hC (p:=⟨w.heap.size,1,none⟩) (by have:=B5.out.lt;exact this) (fun h=>h) b1;have f1:=au hC (p:=⟨g1,o1+sv,none⟩) hg1 (fun h=>h) x1;have f2:=au hC (p:=⟨g2,o2+q,none⟩) hg2 (fun h=>h) x2;have f3:=au hC (p:=⟨w3.heap.size,c,none⟩) (by have:=T5.out.lt;exact this) (fun h=>h) x3;clear hC b1 x1 x2 x3 x0
   repeat (refine ae (fun K hK=>?_);first | (refine bp rfl ?_;try go_simp;refine hK _ _ ?_;clear hK K) | (refine aX rfl rfl ?_;unfold aq;go_simp;refine hK _ _ ?_;clear hK K))
   refine aV (fun W hW hH=>?_);have hM:=(HC.out W).1 hW;have XX:=hid (HX.out.trans (hM.below.mono HX.out.size));clear hM hW hH HC HX f0 f1 f2 f3;go_wp2;go_roundw;case rel=>exact⟨k+1,by omega,by go_num,by rw[HT.out, <-HQ.out, <-HRQ.out],XX.out⟩
   case measure=>simp[intOf];omega
  ·obtain rfl:k=nb:=by omega
   have dL:b.take k=b:=by rw[Pb.out];exact List.take_length
   rw[dL];clear dL;go_wp2
   go_ret2
   exact⟨rfl,X5.out⟩
theorem pT (v bv:Value) (d:DF) (rt:Rt d) (sm:Sm d) (b:List Nat) (hb:∀ c∈b,c<256) (hbn:b.length<=1000000) (w:World) (h:bJ w v d) (Tg:cr cF w bv b): Calls Tryz.prog 28 #[v,bv] w fun e w'=>∃ u,e=.returned (.tuple #[u,.int .i64 0])/\w'.ownsRow w.heap.size 3 1 u (d.mr.getD (dm d 0 b) []).length ((d.mr.getD (dm d 0 b) []).map aG)/\Below w.heap.size w w':=by
 have CR:Hid (∀ W,Below w.heap.size w W->Calls Tryz.prog 54 #[v,.int .i64 0,bv] W fun e w'=>e=.returned (.tuple #[.int .i64 (dm d 0 b),.int .i64 0])/\Below W.heap.size W w'):=fun W hW=>FY v bv d rt sm 0 rt.pos b hb hbn W (h.below hW) (Tg.below hW)
 obtain⟨v0,v1,v2,rfl,h0,h1,h2⟩:=h;obtain⟨a0,c0,rfl⟩:=h0.1.form;obtain⟨a1,c1,rfl⟩:=h1.form;obtain⟨a2,c2,rfl⟩:=h2.form;obtain⟨ab,cb,rfl⟩:=Tg.form;have fk:=zO rt rt.pos b hb;rw[<-rt.mr]at fk;generalize dm d 0 b=sv at CR fk ⊢;obtain⟨m,hm⟩:∃ m,d.mr[sv]? =some m:=⟨_,List.getElem?_eq_getElem fk⟩;rw[getD_some hm];obtain⟨g1,o1,e1,k1,rfl,hg1,x1,y1⟩:=h2.elem hm;have lm:=sm.XG m (List.mem_of_getElem? hm);have RS:(sv:Int)<(d.mr.length:Nat):=by omega
 obtain⟨n2,kU⟩:∃ n,n=d.mr.length:=⟨_,rfl⟩;rw[<-kU]at fk RS CR ⊢;have Y1:=hid y1;obtain⟨j,hj⟩:∃ j,j=m.length:=⟨_,rfl⟩;rw[<-hj]at x1 Y1;have HJ:=hid hj;have LM:=hid lm;have X0:=hid x1;clear h0 h1 h2 hm y1 Tg hb hbn rt sm kU hj lm x1;go_enter Tryz.func28,Tryz.ntmps28;go_wp2_with fail
 refine ay ?_;intro V hV;have B1:Hid (ah V w.heap.size #[.slice a0 d.cl.length c0,.slice a1 d.nx.length c1,.slice (some ⟨g1,o1,none⟩) n2 c2] 28):=by rw[hV];exact ah.new w _ _
 have X1:Hid (Below w.heap.size w V):=by rw[hV];exact((Ext.refl w).alloc _).below
 clear hV;refine(CR.out _ X1.out).mono ?_;rintro e w2 ⟨rfl,hx⟩;have B2:=hid (B1.out.below hx B1.out.lt);have X2:=hid (X1.out.trans (hx.mono X1.out.size));clear hx B1 X1 CR;have b2:=B2.out.cell 2;simp only[List.getElem?_toArray,List.getElem?_cons_zero,List.getElem?_cons_succ]at b2;have x2:w2.cell? ⟨g1,o1+sv,none⟩=some (.slice e1 j k1):=(DX X2.out).1 g1 (o1+sv) hg1▸X0.out;go_wp2_with fail
 refine(wG _ m _ (Y1.out.below X2.out) LM.out).mono ?_;rintro e w3 ⟨ur,rfl,ho,hx⟩;have O3:=hid (az ho X2.out.size);have X3:=hid (X2.out.trans (hx.mono X2.out.size));clear ho hx b2 x2;go_wp2
 go_ret2
 exact⟨_,rfl,O3.out,X3.out⟩
end Go.Proofs.YtalombmiochpmaaGreatDoor
namespace Go.Proofs.YtalombmiochpmaaGreatDoor
open Go Go.RowKit
theorem Rp {α:Type} {P:List α->Prop} (h0:P []) (h1:∀ l x,P l->P (l++ [x])) (l:List α):P l:=by
 have key:∀ r:List α,P r.reverse:=fun r=>by
  induction r with
  | nil=>exact h0
  | cons x r ih=>rw[List.reverse_cons];exact h1 _ _ ih
 have:=key l.reverse;rwa[List.reverse_reverse]at this
theorem VO {d:DF} (rt:Rt d) {c:Nat} (hc:c<256):lb d.cl (cls d.cl c)<256/\cls d.cl (lb d.cl (cls d.cl c))=cls d.cl c:=by have h:=ze rt (rt.part.gF hc);exact⟨h.1,h.2.1⟩
def aeB (ps:List PT) (st:List (List (List Int))×List (List Nat)):DF:=⟨partsOf (bT ps),st.2.map fun r=>r.map Int.ofNat,st.1.map (dy ps)⟩
end Go.Proofs.YtalombmiochpmaaGreatDoor
namespace Go.Proofs.YtalombmiochpmaaGreatDoor
open Go Go.RowKit Go.Shelf Go.Maps
structure Ps (ps:List PT):Prop where
 len:ps.length<=64
 ok:∀ x∈ps,Nt x.nf/\Ka x.nf/\0<=x.mark/\x.mark<=255
theorem Ps.all {ps:List PT} (h:Ps ps):ps.all PT.ok=true:=by rw[List.all_eq_true];intro x hx;obtain⟨h1,_,h3,h4⟩:=h.ok x hx;unfold PT.ok;rw[(dY _).2 h1,decide_eq_true h3,decide_eq_true h4];rfl
theorem Rq {w:World} {b:Nat} {v0 v1 v2 v3:Value} {x:PT} {t:TypeId} (h:ah w b #[v0,v1,v2,v3,.bool x.nf.emp,.bool x.kf,.int .i64 x.mark] t) (hn:jH w (.agg #[v0,v1,v2,v3,.bool x.nf.emp]) x.nf):jd w (.slice (some ⟨b,0,none⟩) 1 1) [x]:=by
 obtain⟨h0,h1,h2,h3,h4,h5,h6⟩:=h.seven;refine .inr ⟨b,0,1,rfl,h.lt,fun i y hy=>?_⟩;cases i with
 | zero=>cases hy;exact⟨v0,v1,v2,v3,hn,h0,h1,h2,h3,h4,h5,h6⟩
 | succ i=>simp at hy
theorem Rs {ps:List PT} (h:Ps ps) {f:Int} (h0:0<=f) (h1:f<=4000):(kZ ps f).2=0\/(kZ ps f).2=181:=by
 unfold kZ;rw[if_neg (by have:=h.len;omega),if_neg (by rw[h.all];simp),if_neg (by omega)];split
 ·exact .inr rfl
 ·exact .inl rfl
theorem Oa {ps:List PT} {f:Int} {d:DF} (h:kZ ps f=(d,0)):∃ st,f<=4000/\0<=f/\sD ps f.toNat=some st/\d=aeB ps st:=by obtain⟨_,_,h0,h1,st,h2,h3⟩:=JE (ps:=ps) (f:=f) (by rw[h]);rw[h]at h3;exact⟨st,h1,h0,h2,h3⟩
theorem Ob {P:List PT} (h:Ps P) {f:Int} {d:DF} {code:Int} (he:kZ P f=(d,code)) {n0 n1 n2:Nat} (h0:n0=d.cl.length) (h1:n1=d.nx.length) (h2:n2=d.mr.length) (W:World) (u:Value) (hu:jd W u P) (hT:∀ V,Below W.heap.size W V->pK V): Calls Tryz.prog 47 #[u,.int .i64 f] W (wT n0 n1 n2 code d W):=(JM u P f W hu (fun x hx=>(h.ok x hx).2.1) hT).mono fun e w' ⟨r,hr,hd,hx⟩=>by
 rw[he]at hr hd;subst h0 h1 h2;obtain⟨a0,c0,a1,c1,a2,c2,rfl⟩:=hd.form;exact⟨a0,c0,a1,c1,a2,c2,hr,hd,hx⟩
def T1 (l:List (Nat×Nat×Nat)) (kf:Bool):List PT:=sW [(l,kf,0)]
theorem Th (l:List (Nat×Nat×Nat)) (kf:Bool):Ps (T1 l kf):=⟨by unfold T1;rw[CU];show min 4 1<=64;omega,FQ _ fun s hs=>by
 obtain rfl:=List.mem_singleton.1 hs
 exact(by decide:(0:Nat)<256)⟩
theorem Oc {ps:List PT} {f:Int} (h:(kZ ps f).2=181):(kZ ps f).1=⟨[],[],[]⟩:=by
 unfold kZ at h ⊢;split
 ·rfl
 ·split
  ·rfl
  ·split
   ·rfl
   ·split
    ·rfl
    ·rename_i h1 h2 h3 _ st hs
     rw[if_neg h1,if_neg h2,if_neg h3,hs]at h;cases h
theorem vx (l:List (Nat×Nat×Nat)) (kf:Bool):(∃ d,kZ (T1 l kf) 40=(d,0)/\Rt d/\d.nx.length<=40)\/kZ (T1 l kf) 40=(⟨[],[],[]⟩,181):=by
 rcases Rs (Th l kf) (f:=40) (by decide) (by decide)with h | h
 ·refine .inl ⟨(kZ (T1 l kf) 40).1,Prod.ext rfl h,JD (Prod.ext rfl h),?_⟩
  obtain⟨st,_,_,h2,h3⟩:=Oa (ps:=T1 l kf) (f:=40) (d:=(kZ (T1 l kf) 40).1) (Prod.ext rfl h);have I:=G7 h2;rw[h3];show(st.2.map _).length<=40;rw[List.length_map,I.len];exact Nat.min_le_left _ _
 ·exact .inr (Prod.ext (Oc h) h)
theorem vy (v:Value) (l:List (Nat×Nat×Nat)) (kf:Bool) {d:DF} {code:Int} (he:kZ (T1 l kf) 40=(d,code)) {m0 m1 m2:Nat} (h0:m0=d.cl.length) (h1:m1=d.nx.length) (h2:m2=d.mr.length) (w:World) (h:aF (· <w.heap.size) w v (dM l)) (hT:∀ W,Below w.heap.size w W->pK W): Calls Tryz.prog 23 #[v,.bool kf,.int .i64 40] w (wT m0 m1 m2 code d w):=by
 have CN:Hid (∀ W,Below w.heap.size w W->Calls Tryz.prog 46 #[v] W fun e w'=>∃ u,e=.returned (.tuple #[u,.int .i64 0])/\pH W.heap.size w' u (dM l).nf/\Below W.heap.size W w'):=hid fun W hW=>(Jy v (dM l) W ((h.l5 hW).mono fun b hb=>Nat.lt_of_lt_of_le hb hW.size) (l8 l).fine (by have:=(l8 l).size;omega) (l8 l).bR)
 have CO:Hid (∀ W u,Below w.heap.size w W->jd W u (T1 l kf)->Calls Tryz.prog 47 #[u,.int .i64 40] W (wT m0 m1 m2 code d W)):=hid fun W u hW hu=>Ob (Th l kf) he h0 h1 h2 W u hu fun V hV=>hT V (hW.trans (hV.mono hW.size))
 obtain⟨tp,tc,rfl⟩:=h.form;clear h hT he h0 h1 h2;generalize (dM l).kind=nk at*;generalize (dM l).set=ns at*;generalize (dM l).mn=ni at*;generalize (dM l).mx=nx at*;generalize (dM l).subs.length=nl at*;unfold ai at*;go_enter Tryz.func23,Tryz.ntmps23;go_upto_region 1 with fail
 refine ax ?_;intro V0 hV;have BR:Hid (ah V0 w.heap.size #[.int .u8 nk,.int .u64 (wd ns 0).toNat,.int .u64 (wd ns 1).toNat,.int .u64 (wd ns 2).toNat,.int .u64 (wd ns 3).toNat,.int .i64 ni,.int .i64 nx,.slice tp nl tc] 62):=hid (by rw[hV];exact(ah.new w _ _).alloc _);have BZ:Hid (ah V0 (w.heap.size+1) #[.slice none 0 0,.slice none 0 0,.slice none 0 0] 28):=hid (by rw[hV];exact(ah.new (w.alloc _) _ _).at (by simp));have X0:Hid (Below w.heap.size w V0):=hid (by rw[hV];exact(((Ext.refl w).alloc _).alloc _).below);clear hV;have r0:=BR.out.cell 0;have r1:=BR.out.cell 1;have r2:=BR.out.cell 2;have r3:=BR.out.cell 3;have r4:=BR.out.cell 4;have r5:=BR.out.cell 5;have r6:=BR.out.cell 6;have r7:=BR.out.cell 7;simp only[List.getElem?_toArray,List.getElem?_cons_zero,List.getElem?_cons_succ]at r0 r1 r2 r3 r4 r5 r6 r7;go_wp2_with fail
 refine(CN.out V0 X0.out).mono ?_;rintro e w1 ⟨u,rfl,ho,hx⟩;obtain⟨a0,n0,c0,a1,n1,c1,a2,n2,c2,a3,n3,c3,rfl⟩:=ho.form;have HO:=hid ho;have X1:=hid (X0.out.trans (hx.mono X0.out.size));have XA:Hid (Below V0.heap.size V0 w1):=hid hx;clear ho hx CN r0 r1 r2 r3 r4 r5 r6 r7 X0 BR;go_upto_region 2 with fail
 refine ax ?_;intro V hV;have BN:Hid (ah V w1.heap.size #[.slice a0 n0 c0,.slice a1 n1 c1,.slice a2 n2 c2,.slice a3 n3 c3,.bool (dM l).nf.emp] 97):=hid (by rw[hV];exact ah.new w1 _ _);have XV:Hid (Below w1.heap.size w1 V):=hid (by rw[hV];exact((Ext.refl w1).alloc _).below);clear hV;have gL:=hid (HO.out.below XV.out);have X2:=hid (X1.out.trans (XV.out.mono X1.out.size));have f0:V.cell? ⟨w1.heap.size,0,none⟩=some (.slice a0 n0 c0):=BN.out.cell 0;have f1:V.cell? ⟨w1.heap.size,1,none⟩=some (.slice a1 n1 c1):=BN.out.cell 1;have f2:V.cell? ⟨w1.heap.size,2,none⟩=some (.slice a2 n2 c2):=BN.out.cell 2;have f3:V.cell? ⟨w1.heap.size,3,none⟩=some (.slice a3 n3 c3):=BN.out.cell 3;have f4:V.cell? ⟨w1.heap.size,4,none⟩=some (.bool (dM l).nf.emp):=BN.out.cell 4;have qd:Hid (V0.heap.size<=V.heap.size):=hid (XA.out.trans (XV.out.mono XA.out.size)).size;have Y1:=hid (XA.out.trans (XV.out.mono XA.out.size));clear XV BN HO X1 XA;go_wp2_with fail
 refine(CO.out _ _ (X2.out.trans (((Ext.refl V).alloc _).below.mono X2.out.size)) (Rq (x:=⟨(dM l).nf,kf,0⟩) (ah.new V _ _) (gL.out.nf.below ((Ext.refl V).alloc _).below))).mono ?_;rintro e w2 ⟨x0,y0,x1,y1,x2,y2,rfl,ho,hx⟩;have hx2:Below V.heap.size V w2:=((Ext.refl V).alloc _).below.trans (hx.mono (by simp));have X3:=hid (X2.out.trans (hx2.mono X2.out.size));have Py:=hid (BZ.out.below (Y1.out.trans (hx2.mono Y1.out.size)) BZ.out.lt);have HD:=hid ho;clear ho hx hx2 CO f0 f1 f2 f3 f4 gL X2 Y1;obtain⟨z0,z1,z2⟩:=aT.nE Py.out;have z3:=Py.out.frozen 0;have z4:=Py.out.frozen 1;have z5:=Py.out.frozen 2;go_wp2;generalize hW:((w2.setCell ⟨w.heap.size+1,0,none⟩ (.slice x0 m0 y0)).setCell ⟨w.heap.size+1,1,none⟩ (.slice x1 m1 y1)).setCell ⟨w.heap.size+1,2,none⟩ (.slice x2 m2 y2)=W3;have BF:Hid (ah W3 (w.heap.size+1) #[.slice x0 m0 y0,.slice x1 m1 y1,.slice x2 m2 y2] 28):=hid (by rw[<-hW];exact((Py.out.set 0 _).set 1 _).set 2 _);have KF:aa (· ≠w.heap.size+1) w2 W3:=by
  rw[<-hW];exact(((aa.refl _ _).setCell (p:=⟨w.heap.size+1,0,none⟩) (fun h=>h rfl) _).setCell (p:=⟨w.heap.size+1,1,none⟩) (fun h=>h rfl) _).setCell (p:=⟨w.heap.size+1,2,none⟩) (fun h=>h rfl) _
 have HKF:=hid KF;clear hW z0 z1 z2 z3 z4 z5 KF;obtain⟨z0,z1,z2⟩:=aT.nE BF.out;have hVw:w.heap.size+1<V.heap.size:=Nat.lt_of_lt_of_le BZ.out.lt qd.out;refine bodyPost_ret (v:=.tuple #[.agg #[.slice x0 m0 y0,.slice x1 m1 y1,.slice x2 m2 y2],.int .i64 code]) (by simp[results,Tryz.results23,go_sem,z0,z1,z2]) rfl ⟨x0,y0,x1,y1,x2,y2,rfl,(HD.out.keeps HKF.out fun b hb _=>?_).base ?_,?_⟩
 ·have:V.heap.size+1<=b:=by simpa using hb
  show b≠w.heap.size+1;omega
 ·simp;omega
 ·exact X3.out.trans (HKF.out.mono fun x (hx:x<w.heap.size)=>by show x≠w.heap.size+1;omega:aa (· <w.heap.size) w2 W3).below
end Go.Proofs.YtalombmiochpmaaGreatDoor
namespace Go.Proofs.YtalombmiochpmaaGreatDoor
open Go Go.RowKit
def eF (d:DF) (b:List Nat):Bool:=acc d (dm d 0 b)
theorem qX (d:DF) (s:Nat) (b:List Nat) (c:Nat):dm d s (b++ [c])=eO d (dm d s b) (cls d.cl c):=by unfold dm;rw[List.foldl_append];rfl
theorem Dc {a:DF} (ha:Rt a) {L:List BS} (hL:∀ s∈a.cl,s∈L) {c e:Nat} (hc:c<256) (he:e<256) (h:cls (partsOf L) c=cls (partsOf L) e):cls a.cl c=cls a.cl e:=by have h1:Alike L c e:=((bX.lL L).oY hc he).1 h;exact(ha.part.oY hc he).2 fun s hs=>h1 s (hL s hs)
theorem FZ {a b:DF} {op:Int} {fuel:Nat} {d:DF} (h:eU a b op fuel=some d):∃ st,dF fuel (jC a b) (partsOf (a.cl++b.cl)).length (0,0) fuel=some st/\d=⟨partsOf (a.cl++b.cl),st.2.map fun r=>r.map Int.ofNat,st.1.map (cP a b op)⟩:=by unfold eU at h;obtain⟨st,h1,h2⟩:=Option.map_eq_some_iff.1 h;exact⟨st,h1,h2.symm⟩
theorem Od {a b d:DF} (ha:Rt a) (hb:Rt b) {op:Int} {fuel:Nat} (hf:1<=fuel) (hf2:fuel<=4000) (h:eU a b op fuel=some d) (w:List Nat) (hw:∀ c∈w,c<256): d.mr.getD (dm d 0 w) []=cP a b op (dm a 0 w,dm b 0 w):=by
 have rt:=nN ha hb hf hf2 h;obtain⟨st,h1,hd⟩:=FZ h;have I:=yS ha hb hf h1;have hl:=(Ha fuel h1).2;have hn:st.2.length=st.1.length:=by have:=I.len;have:=I.le;omega
 have key:st.1[dm d 0 w]? =some (dm a 0 w,dm b 0 w):=by
  revert hw;refine Rp (P:=fun w=>(∀ c∈w,c<256)->st.1[dm d 0 w]? =some (dm a 0 w,dm b 0 w)) (fun _=>I.head) (fun w c ih hw=>?_) w;have ih:=ih fun x hx=>hw x (List.mem_append_left _ hx)
  have hc:c<256:=hw c (by simp);obtain⟨s,hs⟩:∃ s,s=dm d 0 w:=⟨_,rfl⟩;rw[qX,qX,qX, <-hs];rw[<-hs]at ih;have fk:=(List.getElem?_eq_some_iff.1 ih).1;obtain⟨r,hr⟩:∃ r,st.2[s]? =some r:=⟨_,List.getElem?_eq_getElem (by omega)⟩;obtain⟨p,q1,q2⟩:=hl s r hr;rw[ih]at q1;cases q1;have kH:d.cl=partsOf (a.cl++b.cl):=by rw[hd]
  have e1:d.nx.getD s []=r.map Int.ofNat:=by rw[hd];show(st.2.map fun (r:List Nat)=>r.map Int.ofNat).getD s []=_;rw[List.getD_eq_getElem?_getD,List.getElem?_map,hr];rfl
  have hk:cls d.cl c<r.length:=by rw[(I.rows r (List.mem_of_getElem? hr)).1, <-kH];exact rt.part.gF hc
  have e2:eO d s (cls d.cl c)=r.getD (cls d.cl c) 0:=by unfold eO;rw[e1,List.getD_eq_getElem?_getD,List.getElem?_map,aI (l:=r) 0 hk];rfl
  have h3:=q2 (cls d.cl c) (r.getD (cls d.cl c) 0) (aI 0 hk);rw[e2];refine(show st.1[r.getD (cls d.cl c) 0]? =some (jC a b (dm a 0 w,dm b 0 w) (cls d.cl c)) from h3).trans ?_;have hq:=VO rt hc;rw[kH]at hq;unfold jC;rw[kH,Dc ha (L:=a.cl++b.cl) (fun s hs=>List.mem_append_left _ hs) hq.1 hc hq.2,Dc hb (L:=a.cl++b.cl) (fun s hs=>List.mem_append_right _ hs) hq.1 hc hq.2]
 rw[List.getD_eq_getElem?_getD,hd];show((st.1.map (cP a b op))[dm ⟨partsOf (a.cl++b.cl),st.2.map fun r=>r.map Int.ofNat,st.1.map (cP a b op)⟩ 0 w]?).getD []=_;rw[<-hd,List.getElem?_map,key];rfl
theorem Oe {a b d:DF} (ha:Rt a) (hb:Rt b) {op:Int} {fuel:Nat} (hf:1<=fuel) (hf2:fuel<=4000) (h:eU a b op fuel=some d) (w:List Nat) (hw:∀ c∈w,c<256):eF d w=rG op (eF a w) (eF b w):=by unfold eF acc;rw[Od ha hb hf hf2 h w hw];unfold cP;show(!(if rG op (acc a (dm a 0 w)) (acc b (dm b 0 w))then [0]else []).isEmpty)=rG op (acc a (dm a 0 w)) (acc b (dm b 0 w));cases rG op (acc a (dm a 0 w)) (acc b (dm b 0 w))<;>rfl
theorem Og {n m:Nat} :∀ (l:List (Nat×Nat)),l.Nodup->(∀ p∈l,p.1<n/\p.2<m)->l.length<=n*m:=fun l hn hl=>by
 have h1:(l.map fun p=>p.1*m+p.2).Nodup:=by
  rw[List.nodup_iff_pairwise_ne,List.pairwise_map];refine(List.nodup_iff_pairwise_ne.1 hn).imp_of_mem fun {p q} hp hq hne e=>hne ?_
  have h2:=hl p hp;have h3:=hl q hq;have hm:0<m:=by omega
  have e1:(p.1*m+p.2)/m=(q.1*m+q.2)/m:=by rw[e]
  have e2:(p.1*m+p.2)%m=(q.1*m+q.2)%m:=by rw[e]
  rw[Nat.mul_comm,Nat.mul_add_div hm,Nat.div_eq_of_lt h2.2,Nat.mul_comm q.1,Nat.mul_add_div hm,Nat.div_eq_of_lt h3.2]at e1;rw[Nat.mul_comm,Nat.mul_add_mod,Nat.mod_eq_of_lt h2.2,Nat.mul_comm q.1,Nat.mul_add_mod,Nat.mod_eq_of_lt h3.2]at e2;exact Prod.ext (by omega) e2
 have h2:=tZ (n*m) _ h1 fun t ht=>by
  obtain⟨p,hp,rfl⟩:=List.mem_map.1 ht;have h3:=hl p hp;have:(p.1+1)*m<=n*m:=Nat.mul_le_mul_right _ (by omega);rw[Nat.add_mul,Nat.one_mul]at this;omega
 rwa[List.length_map]at h2
theorem JO {α:Type} [DecidableEq α] {f:Nat} {st:List α×List Nat} {q:α} (h:jA f st q=none):q∉st.1/\st.1.length=f:=by
 unfold jA at h;split at h
 ·rename_i he
  split at h
  ·rename_i hf
   exact⟨fun hm=>by have:=List.idxOf_lt_length_of_mem hm;omega,hf⟩
  ·cases h
 ·cases h
theorem vz {α:Type} [DecidableEq α] {fuel:Nat} {P:α->Prop} {g:Nat->α} {todo:List α} (hB:∀ l:List α,l.Nodup->(∀ p∈l,P p)->l.length<=fuel) (hn:todo.Nodup) (hp:∀ p∈todo,P p):∀ k,(∀ j,j<k->P (g j))->∃ st,cI fuel g todo k=some st
 | 0,_=>⟨_,rfl⟩
 | k+1,hg=>by
  obtain⟨st,h⟩:=vz hB hn hp k fun j hj=>hg j (by omega)
  have R:=jB hn (hB _ hn hp) hp k (fun j hj=>hg j (by omega)) h;rw[cI,h];show ∃ s,jA fuel st (g k)=some s;cases e:jA fuel st (g k)with
  | some s=>exact⟨s,rfl⟩
  | none=>
   obtain⟨h1,h2⟩:=JO e;have:=hB (g k::st.1) (List.nodup_cons.2 ⟨h1,R.nodup⟩) fun p hp=>by
    rcases List.mem_cons.1 hp with rfl | hp
    ·exact hg k (by omega)
    ·exact R.all p hp
   rw[List.length_cons]at this;omega
theorem yt {α:Type} [DecidableEq α] {fuel K:Nat} {P:α->Prop} {f:α->Nat->α} {p0:α} (hB:∀ l:List α,l.Nodup->(∀ p∈l,P p)->l.length<=fuel) (h0:P p0) (hP:∀ p k,P p->k<K->P (f p k)):∀ n,∃ st,dF fuel f K p0 n=some st
 | 0=>⟨_,rfl⟩
 | n+1=>by
  obtain⟨st,h⟩:=yt hB h0 hP n;have hf:1<=fuel:=hB [p0] (by simp) (by simpa using h0);have I:=pq hf h0 hP n h;rw[dF,h];show ∃ s,fF fuel f K n st=some s;unfold fF;cases e:st.1[n]? with
  | none=>exact⟨_,rfl⟩
  | some p=>
   obtain⟨r,hr⟩:=vz hB I.nodup I.all K fun j hj=>hP p j (I.all p (List.mem_of_getElem? e)) hj
   show ∃ s,(cI fuel (f p) st.1 K).map (fun r=>(r.1,st.2++ [r.2]))=some s;rw[hr];exact⟨_,rfl⟩
theorem JP {a b:DF} (ha:Rt a) (hb:Rt b) (op:Int) {fuel:Nat} (hf:a.nx.length*b.nx.length<=fuel):∃ d,eU a b op fuel=some d:=by obtain⟨st,h⟩:=yt (α:=Nat×Nat) (fuel:=fuel) (K:=(partsOf (a.cl++b.cl)).length) (P:=fV a b) (f:=jC a b) (p0:=(0,0)) (fun l hn hl=>Nat.le_trans (Og l hn hl) hf) ⟨ha.pos,hb.pos⟩ (fun p k hp hk=>tS ha hb p k hp hk) fuel;unfold eU;rw[h];exact⟨_,rfl⟩
theorem vA {a b:DF} (ha:Rt a) (hb:Rt b) {op f:Int} (ho:1<=op/\op<=4) {n:Nat} (hfn:f=n) (hf:a.nx.length*b.nx.length<=n) (hf2:n<=4000):∃ d,bI a b op f=(d,0)/\Rt d/\∀ w:List Nat,(∀ c∈w,c<256)->eF d w=rG op (eF a w) (eF b w):=by
 obtain⟨d,hd⟩:=JP ha hb op hf;have h1:1<=n:=by have:=Nat.mul_le_mul ha.pos hb.pos;omega
 refine⟨d,?_,nN ha hb h1 hf2 hd,fun w hw=>Oe ha hb h1 hf2 hd w hw⟩;unfold bI;rw[if_neg (by rw[(aS a).2 ha,(aS b).2 hb];simp),if_neg (by omega),if_neg (by omega),if_neg (by omega)];subst hfn;rw[Int.toNat_natCast,hd]
theorem VP {d:DF} (h:Rt d):Rt (dR d) where
 pos:=h.pos
 le:=h.le
 mr:=by show(d.mr.map _).length=_;rw[List.length_map];exact h.mr
 cl:=h.cl
 len:=h.len
 jm:=h.jm
 ris:=fun s hs=>by
  show jl ((d.mr.map fun m=>if m.isEmpty then [0]else []).getD s [])=true;rw[List.getD_eq_getElem?_getD,List.getElem?_map,aI (l:=d.mr) [] (by rw[h.mr];exact hs)];show jl (if(d.mr.getD s []).isEmpty then [0]else [])=true;split
  ·exact qx
  ·exact A6
theorem Ru (d:DF) (s:Nat) (w:List Nat):dm (dR d) s w=dm d s w:=rfl
theorem Rv {d:DF} (h:Rt d) (w:List Nat) (hw:∀ c∈w,c<256):eF (dR d) w= !eF d w:=by have hs:=zO h h.pos w hw;unfold eF acc;rw[Ru];show(!((d.mr.map fun (m:List Int)=>if m.isEmpty then([0]:List Int)else []).getD (dm d 0 w) []).isEmpty)=_;rw[List.getD_eq_getElem?_getD,List.getElem?_map,aI (l:=d.mr) [] (by rw[h.mr];exact hs)];show(!(if(d.mr.getD (dm d 0 w) []).isEmpty then [0]else []:List Int).isEmpty)=_;cases (d.mr.getD (dm d 0 w) []).isEmpty<;>rfl
end Go.Proofs.YtalombmiochpmaaGreatDoor
namespace Go.Proofs.YtalombmiochpmaaGreatDoor
open Go Go.RowKit Go.Shelf Go.Maps
attribute [local go_sem] encS
theorem Rw {l:List Int} (h:jl l=true):∀ k,k<l.length->(k:Int)<=l.getD k 0/\l.getD k 0<=255:=by
 unfold jl at h;rw[List.all_eq_true]at h;intro k;induction k with
 | zero=>
  intro hk;have:=h 0 (by simpa using hk);unfold rF lN at this;simp at this;refine⟨?_,?_⟩<;>simp[List.getD_eq_getElem?_getD]at* <;>omega
 | succ k ih=>
  intro hk;have h1:=ih (by omega);have:=h (k+1) (by simpa using hk);unfold rF lN at this;rw[if_neg (by omega),Bool.and_eq_true,decide_eq_true_eq,decide_eq_true_eq,Nat.add_sub_cancel]at this
  push_cast
  omega
theorem Rt.sm {d:DF} (h:Rt d):Sm d:=by
 have hn:=h.le;have hk:=h.H5;have idx:∀ (ll:List (List Int)) (l:List Int),l∈ll->∃ i,i<ll.length/\ll.getD i []=l:=fun ll l hl=>by
  obtain⟨i,hi⟩:=List.getElem?_of_mem hl;exact⟨i,(List.getElem?_eq_some_iff.1 hi).1,getD_some hi⟩
 refine⟨by omega,by omega,by have:=h.mr;omega,fun l hl=>?_,fun l hl=>?_⟩
 ·obtain⟨i,h1,h2⟩:=idx _ _ hl
  have:=h.len i h1;rw[h2]at this;omega
 ·obtain⟨i,h1,h2⟩:=idx _ _ hl
  have hr:=h.ris i (by have:=h.mr;omega);rw[h2]at hr;by_cases h0:l.length=0
  ·omega
  ·have:=Rw hr (l.length-1) (by omega)
   omega
theorem vB:Sm EG:=⟨by decide,by decide,by decide,fun _ h=>(by cases h),fun _ h=>(by cases h)⟩
theorem Oh (a b:DF) (op f:Int):Sm (bI a b op f).1/\((bI a b op f).2=0->(bI a b op f).1.right=true):=by
 unfold bI;split
 ·exact⟨vB,fun h=>by cases h⟩
 ·rename_i hr
  split
  ·exact⟨vB,fun h=>by cases h⟩
  ·split
   ·exact⟨vB,fun h=>by cases h⟩
   ·split
    ·exact⟨vB,fun h=>by cases h⟩
    ·have hab:a.right=true/\b.right=true:=by
      cases ha:a.right<;>cases hb:b.right<;>simp[ha,hb]at hr<;>simp
     split
     ·rename_i d hd
      have:=nN ((aS a).1 hab.1) ((aS b).1 hab.2) (fuel:=f.toNat) (by omega) (by omega) hd;exact⟨this.sm,fun _=>(aS d).2 this⟩
     ·exact⟨vB,fun h=>by cases h⟩
theorem vC (v v':Value) (a b:DF) (sa:Sm a) (sb:Sm b) (op:Nat) (f:Int) (w:World) (h:bJ w v a) (h':bJ w v' b): Calls Tryz.prog 40 #[v,v',.int .u8 op,.int .i64 f] w fun e w'=>∃ u,e=.returned (.tuple #[u,.bool (bE a b op f).2.1,.int .i64 (bE a b op f).2.2])/\w'.ownsRow w.heap.size 5 1 u (bE a b op f).1.length ((bE a b op f).1.map cF)/\Below w.heap.size w w':=by
 have CO:Hid (∀ W,Below w.heap.size w W->Calls Tryz.prog 12 #[v,v',.int .u8 op,.int .i64 f] W fun e w'=>∃ u,e=.returned (.tuple #[u,.int .i64 (bI a b op f).2])/\aT W.heap.size w' u (bI a b op f).1/\Below W.heap.size W w'):=fun W hW=>pC v v' a b sa sb op f W (h.below hW) (h'.below hW)
 have hsm:=Oh a b op f;have LU:((bI a b op f).2=0/\bE a b op f=((bU (bI a b op f).1).getD [], !(bU (bI a b op f).1).isSome,0))\/((bI a b op f).2≠0/\bE a b op f=([],false,(bI a b op f).2)):=by
  unfold bE;by_cases h0:(bI a b op f).2=0
  ·exact .inl ⟨h0,if_pos h0⟩
  ·exact .inr ⟨h0,if_neg h0⟩
 generalize bI a b op f=pe at*;generalize bE a b op f=qe at*;obtain⟨pd,pc⟩:=pe;obtain⟨v0,v1,v2,rfl,h0,h1,h2⟩:=h;obtain⟨u0,u1,u2,rfl,g0,g1,g2⟩:=h';have SM:=hid hsm;have Pn:=hid LU;clear h0 h1 h2 g0 g1 g2 sa sb hsm LU;replace CO:Hid (∀ W,Below w.heap.size w W->Calls Tryz.prog 12 #[.agg #[v0,v1,v2],.agg #[u0,u1,u2],.int .u8 op,.int .i64 f] W fun e w'=>∃ u,e=.returned (.tuple #[u,.int .i64 pc])/\aT W.heap.size w' u pd/\Below W.heap.size W w'):=CO;go_enter Tryz.func40,Tryz.ntmps40;go_wp2_with fail
 refine ay ?_;intro V hV;have X1:Hid (Below w.heap.size w V):=by rw[hV];exact(((Ext.refl w).alloc _).alloc _).below
 clear hV;refine(CO.out V X1.out).mono ?_;rintro e w2 ⟨u,rfl,ho,hx⟩;obtain⟨x0,x1,x2,rfl,o0,o1,o2⟩:=ho;obtain⟨a0,c0,rfl⟩:=ownsRow_form o0;obtain⟨a1,c1,rfl⟩:=o1.form;obtain⟨a2,c2,rfl⟩:=o2.form;have OD:Hid (aT V.heap.size w2 (.agg #[.slice a0 pd.cl.length c0,.slice a1 pd.nx.length c1,.slice a2 pd.mr.length c2]) pd):=hid ⟨_,_,_,rfl,o0,o1,o2⟩;have X2:=hid (X1.out.trans (hx.mono X1.out.size));clear o0 o1 o2 hx X1 CO;generalize pd.cl.length=n0 at*;generalize pd.nx.length=n1 at*;generalize pd.mr.length=n2 at*;rcases Pn.out with⟨gy,hq⟩ | ⟨gy,hq⟩
 ·have gy:pc=0:=gy
  subst gy;have HQ:=hid hq;clear hq;go_wp2_with fail
  refine ay ?_;intro V3 cD;have X3:Hid (Below w2.heap.size w2 V3):=by rw[cD];exact((Ext.refl w2).alloc _).below
  clear cD;refine(ui _ pd SM.out.1 V3 (OD.out.df.below X3.out)).mono ?_;rintro e w4 ⟨u,rfl,hr,hx⟩;have Oi:pd.right=true:=SM.out.2 trivial;have hfe:j9 pd=((bU pd).getD [],(bU pd).isSome,0):=by unfold j9;rw[if_pos Oi]
  rw[hfe]at hr ⊢;have hr:=az hr (show w.heap.size<=V3.heap.size by have:=X2.out.size;have:=X3.out.size;omega);have RR:=hid hr;have X4:=hid ((X2.out.trans (X3.out.mono X2.out.size)).trans (hx.mono (Nat.le_trans X2.out.size X3.out.size)));have hq:qe=((bU pd).getD [], !(bU pd).isSome,0):=HQ.out;subst hq;obtain⟨ua,uc,rfl⟩:=ownsRow_form RR.out;obtain⟨fb,hfb⟩:∃ x,x=(bU pd).isSome:=⟨_,rfl⟩;obtain⟨fl,tk⟩:∃ x,x=(bU pd).getD []:=⟨_,rfl⟩;replace RR:Hid (w4.ownsRow w.heap.size 5 1 (.slice ua fl.length uc) fl.length (fl.map cF)):=hid (by rw[tk];exact RR.out);obtain⟨nf,uE⟩:∃ n,n=fl.length:=⟨_,rfl⟩;rw[<-hfb, <-tk, <-uE];rw[<-uE]at RR;have HFB:Hid ((bU pd).isNone= !fb):=hid (by rw[hfb];cases bU pd<;>rfl);have RF:Hid (w4.ownsRow w.heap.size 5 1 (.slice ua nf uc) ((bU pd).getD []).length (((bU pd).getD []).map cF)):=hid (by rw[<-tk, <-uE];exact RR.out);clear hr hx hfe Oi tk hfb uE OD SM Pn HQ;cases fb
  ·go_wp2
   exact bodyPost_ret (v:=.tuple #[.slice ua nf uc,.bool true,.int .i64 0]) (by simp[results,Tryz.results40,go_sem]) rfl ⟨_,by first | rfl | (rw[show(bU pd).isNone=_ from HFB.out];rfl),by first | exact RF.out | exact RR.out,X4.out⟩
  ·go_wp2
   exact bodyPost_ret (v:=.tuple #[.slice ua nf uc,.bool false,.int .i64 0]) (by simp[results,Tryz.results40,go_sem]) rfl ⟨_,by first | rfl | (rw[show(bU pd).isNone=_ from HFB.out];rfl),by first | exact RF.out | exact RR.out,X4.out⟩
 ·have hq:qe=([],false,pc):=hq
  subst hq;have hb:((pc:Int)==0)=false:=by rw[beq_eq_false_iff_ne];exact gy
  have X3:Hid (∀ o,Below w.heap.size w (w2.alloc o)):=hid fun o=>X2.out.alloc X2.out.size o
  clear gy OD SM Pn;go_wp2;exact bodyPost_ret (v:=.tuple #[.slice none 0 0,.bool false,.int .i64 pc]) (by simp[results,Tryz.results40,go_sem]) rfl ⟨_,rfl,World.ownsRow_nil _ _ _ _,X3.out _⟩
end Go.Proofs.YtalombmiochpmaaGreatDoor
namespace Go.Proofs.YtalombmiochpmaaGreatDoor
open Go Go.RowKit Go.Shelf Go.Maps
def Tj (p q:DF) (few:Bool) (n0 n1 n2 m0 m1 m2:Nat) (W:World) (e:Ending) (w':World):Prop:=
 ∃ a0 c0 a1 c1 a2 c2 b0 d0 b1 d1 b2 d2,e=.returned (.tuple #[.agg #[.slice a0 n0 c0,.slice a1 n1 c1,.slice a2 n2 c2],.agg #[.slice b0 m0 d0,.slice b1 m1 d1,.slice b2 m2 d2],.bool few,.bool true])/\
  aT W.heap.size w' (.agg #[.slice a0 n0 c0,.slice a1 n1 c1,.slice a2 n2 c2]) p/\aT W.heap.size w' (.agg #[.slice b0 m0 d0,.slice b1 m1 d1,.slice b2 m2 d2]) q/\Below W.heap.size W w'
theorem Hb {p q d:DF} {op:Nat} {f code:Int} (sp:Sm p) (sq:Sm q) (he:bI p q op f=(d,code)) (W:World) (v v':Value) (h:bJ W v p) (h':bJ W v' q): Calls Tryz.prog 12 #[v,v',.int .u8 op,.int .i64 f] W (wT d.cl.length d.nx.length d.mr.length code d W):=(pC v v' p q sp sq op f W h h').mono fun e w' ⟨r,hr,hd,hx⟩=>by
 rw[he]at hr hd;obtain⟨a0,c0,a1,c1,a2,c2,rfl⟩:=hd.form;exact⟨a0,c0,a1,c1,a2,c2,hr,hd,hx⟩
theorem VQ {p:DF} (rt:Rt p) (sp:Sm p) (W:World) (v:Value) (h:bJ W v p): Calls Tryz.prog 14 #[v] W (wT p.cl.length p.nx.length p.mr.length 0 (dR p) W):=(Bj v p sp W h).mono fun e w' ⟨r,hr,hd,hx⟩=>by
 rw[if_pos ((aS p).2 rt)]at hr hd;obtain⟨a0,c0,a1,c1,a2,c2,e2⟩:=hd.form;have hl:(dR p).mr.length=p.mr.length:=List.length_map ..;rw[hl]at e2;exact⟨a0,c0,a1,c1,a2,c2,by rw[hr,e2];rfl,by rw[e2]at hd;exact hd,hx⟩
end Go.Proofs.YtalombmiochpmaaGreatDoor
