/- The law's letter and others. -/
import Derived.Test.YtalombmiochpmaaGreatDoorOR32
set_option maxRecDepth 100000
set_option maxHeartbeats 16000000
open Go.Lib (hid)
namespace Go.Proofs.YtalombmiochpmaaGreatDoor
section
open Go Go.RowKit Go.Shelf Go.Maps
theorem Fx (v:Value) (d:DF) (rt:Rt d) (w:World) (h:aT w v d): Calls Tryz.prog 81 #[v] w fun e w'=>e=.returned (.agg (dt d.cl))/\Below w.heap.size w w':=by
 obtain⟨v0,v1,v2,rfl,h0,h1,h2⟩:=h;obtain⟨a0,c0,rfl⟩:=h0.1.form;obtain⟨a1,c1,rfl⟩:=h1.form;obtain⟨a2,c2,rfl⟩:=h2.form;have H0:=hid h0.1;have CO:Hid (∀ W,dm W (.slice a0 d.cl.length c0) d.cl->Calls Tryz.prog 60 #[.slice a0 d.cl.length c0] W fun e w'=>∃ b,e=.returned (.pointer (some ⟨b,0,none⟩))/\cZ w' W.heap.size (.pointer (some ⟨b,0,none⟩)) d.cl/\Below W.heap.size W w'):=fun W h=>by
  have:=kr d.cl _ W h (by have:=rt.NJ;omega);rwa[rt.cl]at this
 have CT:Hid (∀ b base W,cZ W base (.pointer (some ⟨b,0,none⟩)) d.cl->Calls Tryz.prog 107 #[.pointer (some ⟨b,0,none⟩)] W fun e w'=>e=.returned (.agg (dt d.cl))/\Ext W w'):=fun b base W h=>NG _ base d.cl W h
 clear h0 h1 h2;have hsz:=kt;have hz:=nE;generalize d.cl.length=n0 at*;go_enter Tryz.func81,Tryz.ntmps81;go_wp2_with fail
 refine az ?_;intro V hV;have B2:Hid (ah V (w.heap.size+1) (dt []) 150):=by rw[hV];exact(ah.new (w.alloc _) _ _).at (by simp)
 have X1:Hid (Below w.heap.size w V):=by rw[hV];exact(((Ext.refl w).alloc _).alloc _).below
 clear hV;refine(CO.out _ (H0.out.below X1.out)).mono ?_;rintro e w2 ⟨b,rfl,ha,hx⟩;have B3:=hid (B2.out.below hx B2.out.lt);have X2:=hid (X1.out.trans (hx.mono X1.out.size));have A2:=hid ha;clear ha hx B2 X1;go_wp2_with fail
 refine(CT.out _ _ _ A2.out).mono ?_;rintro e w3 ⟨rfl,hx⟩;have B4:=hid (B3.out.ext hx);have X3:=hid (X2.out.trans (hx.below.mono X2.out.size));clear hx B3 X2;go_wp2_with (refine wpList_store_row rfl 150 (.tmp 2) (.tmp 6) rfl (w.heap.size+1) (dt d.cl) rfl rfl 150 (dt []) B4.out (by rw[bS];exact hsz) (by rw[bS,bS]) (nG _) ?_);refine bodyPost_ret (results_cell_row rfl _ _ (w.heap.size+1) 150 (dt d.cl) (0,0) _ rfl B4.out.setRow Tryz.underlying150 rfl (by rw[bS];exact kt)) rfl ⟨rfl,Below.VT X3.out (by omega) _⟩
def aU (d:DF) (s:Nat) (b:List Nat):Nat:=b.foldl (fun s c=>eJ d s (cls d.cl c)) s
theorem PF {d:DF} {s:Nat} {b:List Nat} {k c:Nat} (h:b[k]? =some c):aU d s (b.take (k+1))=eJ d (aU d s (b.take k)) (cls d.cl c):=by unfold aU;rw[List.take_add_one,h,List.foldl_append];rfl
theorem tX {d:DF} (rt:Rt d) {s:Nat} (hs:s<d.nx.length):∀ (b:List Nat),(∀ c∈b,c<256)->aU d s b<d.nx.length:=by
 intro b;induction b generalizing s with
 | nil=>intro _;exact hs
 | cons c r ih=>intro h;exact ih (rt.cK hs (rt.part.cU (h c (by simp)))) (fun x hx=>h x (by simp[hx]))
theorem LK (v bv:Value) (d:DF) (rt:Rt d) (sm:Sm d) (s:Nat) (hs:s<d.nx.length) (b:List Nat) (hb:∀ c∈b,c<256) (Dw:b.length<=1000000) (w:World) (h:aT w v d) (lV:aZ bu w bv b): Calls Tryz.prog 54 #[v,.int .i64 s,bv] w fun e w'=>e=.returned (.tuple #[.int .i64 (aU d s b),.int .i64 0])/\Below w.heap.size w w':=by
 have CR:Hid (∀ W,Below w.heap.size w W->Calls Tryz.prog 13 #[v] W fun e w'=>e=.returned (.bool true)/\Below W.heap.size W w'):=fun W hW=>by
  have:=dJ v d W (h.below hW) sm;rwa[(aC d).2 rt]at this
 have CT:Hid (∀ W,Below w.heap.size w W->Calls Tryz.prog 81 #[v] W fun e w'=>e=.returned (.agg (dt d.cl))/\Below W.heap.size W w'):=fun W hW=>Fx v d rt W (h.below hW)
 obtain⟨v0,v1,v2,rfl,h0,h1,h2⟩:=h;obtain⟨a0,c0,rfl⟩:=h0.1.form;obtain⟨a1,c1,rfl⟩:=h1.form;obtain⟨a2,c2,rfl⟩:=h2.form;obtain⟨ab,cb,rfl⟩:=lV.form;obtain⟨n1,gR⟩:∃ n,n=d.nx.length:=⟨_,rfl⟩;obtain⟨nb,uD⟩:∃ n,n=b.length:=⟨_,rfl⟩;have ku:=hid gR;have U4:=hid uD;have hs1:s<n1:=by omega
 have Wx:n1<=4000:=by rw[gR];exact rt.le
 rw[<-gR]at h1 CR CT ⊢;rw[<-uD]at lV Dw ⊢;have H1:=hid h1;have PG:=hid lV;have HB:=hid hb;have RT:=hid rt;have e1:decide ((s:Int)<0)=false:=decide_eq_false (by omega);have e2:decide ((n1:Int)<=s)=false:=decide_eq_false (by omega);have e3:decide (n1<=s)=false:=decide_eq_false (by omega);have hsz:=kt;have hz:=nE;clear h0 h1 h2 lV gR uD hb;go_enter Tryz.func54,Tryz.ntmps54;go_wp2_with fail
 refine az ?_;intro V hV;have B1:Hid (ah V w.heap.size #[.slice a0 d.cl.length c0,.slice a1 n1 c1,.slice a2 d.mr.length c2] 28):=by rw[hV];exact ah.new w _ _
 have X1:Hid (Below w.heap.size w V):=by rw[hV];exact((Ext.refl w).alloc _).below
 clear hV;refine(CR.out _ X1.out).mono ?_;rintro e w2 ⟨rfl,hx⟩;have B2:=hid (B1.out.below hx B1.out.lt);have X2:=hid (X1.out.trans (hx.mono X1.out.size));clear hx B1 X1;obtain⟨⟨k0,k1,k2⟩,_⟩:=B2.out.three;go_wp2_with fail
 refine(CT.out _ X2.out).mono ?_;rintro e w3 ⟨rfl,hx⟩;have B3:=hid (B2.out.below hx B2.out.lt);have X3:=hid (X2.out.trans (hx.mono X2.out.size));clear hx B2 X2 k0 k1 k2 e1 e2 e3 CR CT;have hst:=run_storeCells_new (P:=Tryz.prog) w3 150 (dt []) (dt d.cl) (by rw[bS];exact hsz) (by rw[bS,bS]) (nG _);have hs0:=bS d.cl;go_wp2;refine aw ?_;intro V2 hV2;have B4:Hid (ah V2 w.heap.size #[.slice a0 d.cl.length c0,.slice a1 n1 c1,.slice a2 d.mr.length c2] 28):=by rw[hV2];exact B3.out.alloc _
 have T4:Hid (ah V2 w3.heap.size (dt d.cl) 150):=by rw[hV2];exact ah.new _ _ _
 have X4:Hid (Below w.heap.size w V2):=by rw[hV2];exact X3.out.alloc X3.out.size _
 clear hV2 hst hs0 hz hsz B3 X3;go_loopw [29,1] (fun i sv wr=>∃ k:Nat,k<=nb/\i=.int .i64 k/\sv=.int .i64 (aU d s (b.take k))/\Below V2.heap.size V2 wr) (fun i _ _=>nb-(intOf i).toNat);case atStart=>exact⟨0,by omega,rfl,rfl,Below.refl _ _⟩
 case round=>
  obtain⟨k,hk,rfl,rfl,hx⟩:=hrel;obtain⟨wo,rfl⟩:∃ wo:World,wo=wr:=⟨_,rfl⟩;have HX:=hid hx;have B5:=hid (B4.out.below hx B4.out.lt);have T5:=hid (T4.out.below hx T4.out.lt);have X5:=hid (X4.out.trans (hx.mono X4.out.size));clear hx;by_cases hlt:k<nb
  ·obtain⟨c,hc⟩:∃ c,b[k]? =some c:=⟨_,List.getElem?_eq_getElem (by have:=U4.out;omega)⟩
   have jL:=HB.out c (List.mem_of_getElem? hc);have HT:=hid (PF (d:=d) (s:=s) hc);have fy:=tX RT.out (s:=s) (by rw[<-ku.out];exact hs1) (b.take k) (fun x hx=>HB.out x (List.mem_of_mem_take hx));obtain⟨g0,o0,rfl,hg0,x0⟩:=(PG.out.below X5.out).elem hc;replace x0:wo.cell? ⟨g0,o0+k,none⟩=some (.int .u8 c):=x0;generalize aU d s (b.take k)=sv at HT fy ⊢;obtain⟨l,hl⟩:∃ l,d.nx[sv]? =some l:=⟨_,List.getElem?_eq_getElem fy⟩;obtain⟨g1,o1,e1,k1,rfl,hg1,x1,y1⟩:=(H1.out.below X5.out).elem hl;obtain⟨q,hq⟩:∃ q,q=cls d.cl c:=⟨_,rfl⟩;have hql:q<d.cl.length:=by rw[hq];exact RT.out.part.cU jL
   have VX:l.length=d.cl.length:=by have:=RT.out.len sv fy;rwa[getD_some hl]at this
   obtain⟨r,hr⟩:∃ r,r=eJ d sv q:=⟨_,rfl⟩;have WA:l[q]? =some (r:Int):=by have:=RT.out.pN fy hql;rwa[getD_some hl, <-hr]at this
   obtain⟨g2,o2,rfl,hg2,x2⟩:=y1.elem WA;replace x2:wo.cell? ⟨g2,o2+q,none⟩=some (.int .i64 r):=x2;have x3:wo.cell? ⟨w3.heap.size,c,none⟩=some (.int .u8 q):=by rw[hq];exact(T5.out.cell c).trans (yl _ jL)
   have b1:=B5.out.cell 1;simp only[List.getElem?_toArray,List.getElem?_cons_zero,List.getElem?_cons_succ]at b1;have Gl:sv<n1:=by rw[ku.out];exact fy
   have hci:(c:Int)<256:=by omega
   have Yd:(sv:Int)<n1:=by omega
   obtain⟨j,hj⟩:∃ j,j=l.length:=⟨_,rfl⟩;have hqj:q<j:=by omega
   have hqi:(q:Int)<j:=by omega
   rw[<-hj]at x1;have gz:(k:Int)<nb:=by omega
   have HRQ:=hid hr;have HQ:=hid hq;clear hc hl y1 WA VX hql hq hr hj fy;go_wp2;refine aD false (fun _=>False) (by kernel_rfl) 11 [0,1,0,7,15,0,32,96,255,511,1023] (fun i=>false) (by kernel_rfl) (fun i=>aH.any _) ?_;intro C hC hne;have HC:=hid hC;have f0:=ak hC (p:=⟨w.heap.size,1,none⟩) (by have:=B5.out.lt;exact this) (fun h=>h) b1;have f1:=ak hC (p:=⟨g1,o1+sv,none⟩) hg1 (fun h=>h) x1;have f2:=ak hC (p:=⟨g2,o2+q,none⟩) hg2 (fun h=>h) x2;have f3:=ak hC (p:=⟨w3.heap.size,c,none⟩) (by have:=T5.out.lt;exact this) (fun h=>h) x3;clear hC b1 x1 x2 x3 x0
   repeat (refine ae (fun K hK=>?_);first | (refine aR rfl ?_;try go_simp;refine hK _ _ ?_;clear hK K) | (refine aO rfl rfl ?_;unfold ai;go_simp;refine hK _ _ ?_;clear hK K))
   refine bh (fun W hW hH=>?_);have hM:=(HC.out W).1 hW;have XX:=hid (HX.out.trans (hM.below.mono HX.out.size));clear hM hW hH HC HX f0 f1 f2 f3;go_wp2;go_roundw;case rel=>exact⟨k+1,by omega,by go_num,by rw[HT.out, <-HQ.out, <-HRQ.out],XX.out⟩
   case measure=>simp[intOf];omega
  ·obtain rfl:k=nb:=by omega
   have eH:b.take k=b:=by rw[U4.out];exact List.take_length
   rw[eH];clear eH;go_wp2
   go_ret2
   exact⟨rfl,X5.out⟩
theorem iY (v bv:Value) (d:DF) (rt:Rt d) (sm:Sm d) (b:List Nat) (hb:∀ c∈b,c<256) (Dw:b.length<=1000000) (w:World) (h:aT w v d) (lV:aZ bu w bv b): Calls Tryz.prog 28 #[v,bv] w fun e w'=>∃ u,e=.returned (.tuple #[u,.int .i64 0])/\w'.ownsRow w.heap.size 3 1 u (d.mr.getD (aU d 0 b) []).length ((d.mr.getD (aU d 0 b) []).map aS)/\Below w.heap.size w w':=by
 have CR:Hid (∀ W,Below w.heap.size w W->Calls Tryz.prog 54 #[v,.int .i64 0,bv] W fun e w'=>e=.returned (.tuple #[.int .i64 (aU d 0 b),.int .i64 0])/\Below W.heap.size W w'):=fun W hW=>LK v bv d rt sm 0 rt.pos b hb Dw W (h.below hW) (lV.below hW)
 obtain⟨v0,v1,v2,rfl,h0,h1,h2⟩:=h;obtain⟨a0,c0,rfl⟩:=h0.1.form;obtain⟨a1,c1,rfl⟩:=h1.form;obtain⟨a2,c2,rfl⟩:=h2.form;obtain⟨ab,cb,rfl⟩:=lV.form;have fy:=tX rt rt.pos b hb;rw[<-rt.mr]at fy;generalize aU d 0 b=sv at CR fy ⊢;obtain⟨m,hm⟩:∃ m,d.mr[sv]? =some m:=⟨_,List.getElem?_eq_getElem fy⟩;rw[getD_some hm];obtain⟨g1,o1,e1,k1,rfl,hg1,x1,y1⟩:=h2.elem hm;have lm:=sm.mks m (List.mem_of_getElem? hm);have Yd:(sv:Int)<(d.mr.length:Nat):=by omega
 obtain⟨n2,jB⟩:∃ n,n=d.mr.length:=⟨_,rfl⟩;rw[<-jB]at fy Yd CR ⊢;have Y1:=hid y1;obtain⟨j,hj⟩:∃ j,j=m.length:=⟨_,rfl⟩;rw[<-hj]at x1 Y1;have HJ:=hid hj;have LM:=hid lm;have X0:=hid x1;clear h0 h1 h2 hm y1 lV hb Dw rt sm jB hj lm x1;go_enter Tryz.func28,Tryz.ntmps28;go_wp2_with fail
 refine az ?_;intro V hV;have B1:Hid (ah V w.heap.size #[.slice a0 d.cl.length c0,.slice a1 d.nx.length c1,.slice (some ⟨g1,o1,none⟩) n2 c2] 28):=by rw[hV];exact ah.new w _ _
 have X1:Hid (Below w.heap.size w V):=by rw[hV];exact((Ext.refl w).alloc _).below
 clear hV;refine(CR.out _ X1.out).mono ?_;rintro e w2 ⟨rfl,hx⟩;have B2:=hid (B1.out.below hx B1.out.lt);have X2:=hid (X1.out.trans (hx.mono X1.out.size));clear hx B1 X1 CR;have b2:=B2.out.cell 2;simp only[List.getElem?_toArray,List.getElem?_cons_zero,List.getElem?_cons_succ]at b2;have x2:w2.cell? ⟨g1,o1+sv,none⟩=some (.slice e1 j k1):=(JQ X2.out).1 g1 (o1+sv) hg1▸X0.out;go_wp2_with fail
 refine(AR _ m _ (Y1.out.below X2.out) LM.out).mono ?_;rintro e w3 ⟨ur,rfl,ho,hx⟩;have O3:=hid (aA ho X2.out.size);have X3:=hid (X2.out.trans (hx.mono X2.out.size));clear ho hx b2 x2;go_wp2
 go_ret2
 exact⟨_,rfl,O3.out,X3.out⟩
end
section
open Go Go.RowKit
def ak8 (ps:List PT) (st:List (List (List Int))×List (List Nat)):DF:=⟨partsOf (cQ ps),st.2.map fun r=>r.map Int.ofNat,st.1.map (ej ps)⟩
end
section
open Go Go.RowKit Go.Shelf Go.Maps
structure Ps (ps:List PT):Prop where
 len:ps.length<=64
 ok:∀ x∈ps,Nt x.nf/\Qs x.nf/\0<=x.mark/\x.mark<=255
theorem Ps.all {ps:List PT} (h:Ps ps):ps.all PT.ok=true:=by rw[List.all_eq_true];intro x hx;obtain⟨h1,_,h3,h4⟩:=h.ok x hx;unfold PT.ok;rw[(fE _).2 h1,decide_eq_true h3,decide_eq_true h4];rfl
theorem Xu {w:World} {b:Nat} {v0 v1 v2 v3:Value} {x:PT} {t:TypeId} (h:ah w b #[v0,v1,v2,v3,.bool x.nf.emp,.bool x.cG,.int .i64 x.mark] t) (hn:mP w (.agg #[v0,v1,v2,v3,.bool x.nf.emp]) x.nf):lT w (.slice (some ⟨b,0,none⟩) 1 1) [x]:=by
 obtain⟨h0,h1,h2,h3,h4,h5,h6⟩:=h.seven;refine .inr ⟨b,0,1,rfl,h.lt,fun i y hy=>?_⟩;cases i with
 | zero=>cases hy;exact⟨v0,v1,v2,v3,hn,h0,h1,h2,h3,h4,h5,h6⟩
 | succ i=>simp at hy
theorem Xv {ps:List PT} (h:Ps ps) {f:Int} (h0:0<=f) (h1:f<=4000):(jO ps f).2=0\/(jO ps f).2=181:=by
 unfold jO;rw[if_neg (by have:=h.len;omega),if_neg (by rw[h.all];simp),if_neg (by omega)];split
 ·exact .inr rfl
 ·exact .inl rfl
theorem Uo {ps:List PT} {f:Int} {d:DF} (h:jO ps f=(d,0)):∃ st,f<=4000/\0<=f/\xd ps f.toNat=some st/\d=ak8 ps st:=by obtain⟨_,_,h0,h1,st,h2,h3⟩:=Pu (ps:=ps) (f:=f) (by rw[h]);rw[h]at h3;exact⟨st,h1,h0,h2,h3⟩
theorem Up {P:List PT} (h:Ps P) {f:Int} {d:DF} {code:Int} (he:jO P f=(d,code)) {n0 n1 n2:Nat} (h0:n0=d.cl.length) (h1:n1=d.nx.length) (h2:n2=d.mr.length) (W:World) (u:Value) (hu:lT W u P) (hT:∀ V,Below W.heap.size W V->gL V): Calls Tryz.prog 47 #[u,.int .i64 f] W (fW n0 n1 n2 code d W):=(PD u P f W hu (fun x hx=>(h.ok x hx).2.1) hT).mono fun e w' ⟨r,hr,hd,hx⟩=>by
 rw[he]at hr hd;subst h0 h1 h2;obtain⟨a0,c0,a1,c1,a2,c2,rfl⟩:=hd.form;exact⟨a0,c0,a1,c1,a2,c2,hr,hd,hx⟩
def T1 (l:List (Nat×Nat×Nat)) (cG:Bool):List PT:=xK [(l,cG,0)]
theorem Zc (l:List (Nat×Nat×Nat)) (cG:Bool):Ps (T1 l cG):=⟨by unfold T1;rw[IY];show min 4 1<=64;omega,LD _ fun s hs=>by
 obtain rfl:=List.mem_singleton.1 hs
 exact(by decide:(0:Nat)<256)⟩
theorem Uq {ps:List PT} {f:Int} (h:(jO ps f).2=181):(jO ps f).1=⟨[],[],[]⟩:=by
 unfold jO at h ⊢;split
 ·rfl
 ·split
  ·rfl
  ·split
   ·rfl
   ·split
    ·rfl
    ·rename_i h1 h2 h3 _ st hs
     rw[if_neg h1,if_neg h2,if_neg h3,hs]at h;cases h
theorem ez (l:List (Nat×Nat×Nat)) (cG:Bool):(∃ d,jO (T1 l cG) 40=(d,0)/\Rt d/\d.nx.length<=40)\/jO (T1 l cG) 40=(⟨[],[],[]⟩,181):=by
 rcases Xv (Zc l cG) (f:=40) (by decide) (by decide)with h | h
 ·refine .inl ⟨(jO (T1 l cG) 40).1,Prod.ext rfl h,Pt (Prod.ext rfl h),?_⟩
  obtain⟨st,_,_,h2,h3⟩:=Uo (ps:=T1 l cG) (f:=40) (d:=(jO (T1 l cG) 40).1) (Prod.ext rfl h);have I:=M7 h2;rw[h3];show(st.2.map _).length<=40;rw[List.length_map,I.len];exact Nat.min_le_left _ _
 ·exact .inr (Prod.ext (Uq h) h)
theorem eQ (v:Value) (l:List (Nat×Nat×Nat)) (cG:Bool) {d:DF} {code:Int} (he:jO (T1 l cG) 40=(d,code)) {m0 m1 m2:Nat} (h0:m0=d.cl.length) (h1:m1=d.nx.length) (h2:m2=d.mr.length) (w:World) (h:aL (· <w.heap.size) w v (dc l)) (hT:∀ W,Below w.heap.size w W->gL W): Calls Tryz.prog 23 #[v,.bool cG,.int .i64 40] w (fW m0 m1 m2 code d w):=by
 have CN:Hid (∀ W,Below w.heap.size w W->Calls Tryz.prog 46 #[v] W fun e w'=>∃ u,e=.returned (.tuple #[u,.int .i64 0])/\tM W.heap.size w' u (dc l).nf/\Below W.heap.size W w'):=hid fun W hW=>(Pm v (dc l) W ((h.qi hW).mono fun b hb=>Nat.lt_of_lt_of_le hb hW.size) (qm l).fine (by have:=(qm l).size;omega) (qm l).cO)
 have CO:Hid (∀ W u,Below w.heap.size w W->lT W u (T1 l cG)->Calls Tryz.prog 47 #[u,.int .i64 40] W (fW m0 m1 m2 code d W)):=hid fun W u hW hu=>Up (Zc l cG) he h0 h1 h2 W u hu fun V hV=>hT V (hW.trans (hV.mono hW.size))
 obtain⟨tp,tc,rfl⟩:=h.form;clear h hT he h0 h1 h2;generalize (dc l).kind=nk at*;generalize (dc l).set=ns at*;generalize (dc l).mn=ni at*;generalize (dc l).mx=nx at*;generalize (dc l).subs.length=nl at*;unfold au at*;go_enter Tryz.func23,Tryz.ntmps23;go_upto_region 1 with fail
 refine aw ?_;intro V0 hV;have BR:Hid (ah V0 w.heap.size #[.int .u8 nk,.int .u64 (wd ns 0).toNat,.int .u64 (wd ns 1).toNat,.int .u64 (wd ns 2).toNat,.int .u64 (wd ns 3).toNat,.int .i64 ni,.int .i64 nx,.slice tp nl tc] 62):=hid (by rw[hV];exact(ah.new w _ _).alloc _);have BZ:Hid (ah V0 (w.heap.size+1) #[.slice none 0 0,.slice none 0 0,.slice none 0 0] 28):=hid (by rw[hV];exact(ah.new (w.alloc _) _ _).at (by simp));have X0:Hid (Below w.heap.size w V0):=hid (by rw[hV];exact(((Ext.refl w).alloc _).alloc _).below);clear hV;have r0:=BR.out.cell 0;have r1:=BR.out.cell 1;have r2:=BR.out.cell 2;have r3:=BR.out.cell 3;have r4:=BR.out.cell 4;have r5:=BR.out.cell 5;have r6:=BR.out.cell 6;have r7:=BR.out.cell 7;simp only[List.getElem?_toArray,List.getElem?_cons_zero,List.getElem?_cons_succ]at r0 r1 r2 r3 r4 r5 r6 r7;go_wp2_with fail
 refine(CN.out V0 X0.out).mono ?_;rintro e w1 ⟨u,rfl,ho,hx⟩;obtain⟨a0,n0,c0,a1,n1,c1,a2,n2,c2,a3,n3,c3,rfl⟩:=ho.form;have HO:=hid ho;have X1:=hid (X0.out.trans (hx.mono X0.out.size));have XA:Hid (Below V0.heap.size V0 w1):=hid hx;clear ho hx CN r0 r1 r2 r3 r4 r5 r6 r7 X0 BR;go_upto_region 2 with fail
 refine aw ?_;intro V hV;have BN:Hid (ah V w1.heap.size #[.slice a0 n0 c0,.slice a1 n1 c1,.slice a2 n2 c2,.slice a3 n3 c3,.bool (dc l).nf.emp] 97):=hid (by rw[hV];exact ah.new w1 _ _);have XV:Hid (Below w1.heap.size w1 V):=hid (by rw[hV];exact((Ext.refl w1).alloc _).below);clear hV;have j8:=hid (HO.out.below XV.out);have X2:=hid (X1.out.trans (XV.out.mono X1.out.size));have f0:V.cell? ⟨w1.heap.size,0,none⟩=some (.slice a0 n0 c0):=BN.out.cell 0;have f1:V.cell? ⟨w1.heap.size,1,none⟩=some (.slice a1 n1 c1):=BN.out.cell 1;have f2:V.cell? ⟨w1.heap.size,2,none⟩=some (.slice a2 n2 c2):=BN.out.cell 2;have f3:V.cell? ⟨w1.heap.size,3,none⟩=some (.slice a3 n3 c3):=BN.out.cell 3;have f4:V.cell? ⟨w1.heap.size,4,none⟩=some (.bool (dc l).nf.emp):=BN.out.cell 4;have uE:Hid (V0.heap.size<=V.heap.size):=hid (XA.out.trans (XV.out.mono XA.out.size)).size;have Y1:=hid (XA.out.trans (XV.out.mono XA.out.size));clear XV BN HO X1 XA;go_wp2_with fail
 refine(CO.out _ _ (X2.out.trans (((Ext.refl V).alloc _).below.mono X2.out.size)) (Xu (x:=⟨(dc l).nf,cG,0⟩) (ah.new V _ _) (j8.out.nf.below ((Ext.refl V).alloc _).below))).mono ?_;rintro e w2 ⟨x0,y0,x1,y1,x2,y2,rfl,ho,hx⟩;have hx2:Below V.heap.size V w2:=((Ext.refl V).alloc _).below.trans (hx.mono (by simp));have X3:=hid (X2.out.trans (hx2.mono X2.out.size));have PH:=hid (BZ.out.below (Y1.out.trans (hx2.mono Y1.out.size)) BZ.out.lt);have HD:=hid ho;clear ho hx hx2 CO f0 f1 f2 f3 f4 j8 X2 Y1;obtain⟨z0,z1,z2⟩:=ay.dB PH.out;have z3:=PH.out.frozen 0;have z4:=PH.out.frozen 1;have z5:=PH.out.frozen 2;go_wp2;generalize hW:((w2.setCell ⟨w.heap.size+1,0,none⟩ (.slice x0 m0 y0)).setCell ⟨w.heap.size+1,1,none⟩ (.slice x1 m1 y1)).setCell ⟨w.heap.size+1,2,none⟩ (.slice x2 m2 y2)=W3;have BF:Hid (ah W3 (w.heap.size+1) #[.slice x0 m0 y0,.slice x1 m1 y1,.slice x2 m2 y2] 28):=hid (by rw[<-hW];exact((PH.out.set 0 _).set 1 _).set 2 _);have KF:aa (· ≠w.heap.size+1) w2 W3:=by
  rw[<-hW];exact(((aa.refl _ _).setCell (p:=⟨w.heap.size+1,0,none⟩) (fun h=>h rfl) _).setCell (p:=⟨w.heap.size+1,1,none⟩) (fun h=>h rfl) _).setCell (p:=⟨w.heap.size+1,2,none⟩) (fun h=>h rfl) _
 have HKF:=hid KF;clear hW z0 z1 z2 z3 z4 z5 KF;obtain⟨z0,z1,z2⟩:=ay.dB BF.out;have hVw:w.heap.size+1<V.heap.size:=Nat.lt_of_lt_of_le BZ.out.lt uE.out;refine bodyPost_ret (v:=.tuple #[.agg #[.slice x0 m0 y0,.slice x1 m1 y1,.slice x2 m2 y2],.int .i64 code]) (by simp[results,Tryz.results23,go_sem,z0,z1,z2]) rfl ⟨x0,y0,x1,y1,x2,y2,rfl,(HD.out.keeps HKF.out fun b hb _=>?_).base ?_,?_⟩
 ·have:V.heap.size+1<=b:=by simpa using hb
  show b≠w.heap.size+1;omega
 ·simp;omega
 ·exact X3.out.trans (HKF.out.mono fun x (hx:x<w.heap.size)=>by show x≠w.heap.size+1;omega:aa (· <w.heap.size) w2 W3).below
end
section
open Go Go.RowKit
def aG (d:DF) (b:List Nat):Bool:=acc d (aU d 0 b)
theorem dw (d:DF) (s:Nat) (b:List Nat) (c:Nat):aU d s (b++ [c])=eJ d (aU d s b) (cls d.cl c):=by unfold aU;rw[List.foldl_append];rfl
end
section
open Go Go.RowKit Go.Shelf Go.Maps
attribute [local go_sem] encS
theorem Xw {l:List Int} (h:jl l=true):∀ k,k<l.length->(k:Int)<=l.getD k 0/\l.getD k 0<=255:=by
 unfold jl at h;rw[List.all_eq_true]at h;intro k;induction k with
 | zero=>
  intro hk;have:=h 0 (by simpa using hk);unfold vT pM at this;simp at this;refine⟨?_,?_⟩<;>simp[List.getD_eq_getElem?_getD]at* <;>omega
 | succ k ih=>
  intro hk;have h1:=ih (by omega);have:=h (k+1) (by simpa using hk);unfold vT pM at this;rw[if_neg (by omega),Bool.and_eq_true,decide_eq_true_eq,decide_eq_true_eq,Nat.add_sub_cancel]at this
  push_cast
  omega
theorem Rt.sm {d:DF} (h:Rt d):Sm d:=by
 have hn:=h.le;have hk:=h.NJ;have idx:∀ (ll:List (List Int)) (l:List Int),l∈ll->∃ i,i<ll.length/\ll.getD i []=l:=fun ll l hl=>by
  obtain⟨i,hi⟩:=List.getElem?_of_mem hl;exact⟨i,(List.getElem?_eq_some_iff.1 hi).1,getD_some hi⟩
 refine⟨by omega,by omega,by have:=h.mr;omega,fun l hl=>?_,fun l hl=>?_⟩
 ·obtain⟨i,h1,h2⟩:=idx _ _ hl
  have:=h.len i h1;rw[h2]at this;omega
 ·obtain⟨i,h1,h2⟩:=idx _ _ hl
  have hr:=h.ris i (by have:=h.mr;omega);rw[h2]at hr;by_cases h0:l.length=0
  ·omega
  ·have:=Xw hr (l.length-1) (by omega)
   omega
theorem zI:Sm sN:=⟨by decide,by decide,by decide,fun _ h=>(by cases h),fun _ h=>(by cases h)⟩
theorem Ur (a b:DF) (op f:Int):Sm (aP a b op f).1/\((aP a b op f).2=0->(aP a b op f).1.right=true):=by
 unfold aP;split
 ·exact⟨zI,fun h=>by cases h⟩
 ·rename_i hr
  split
  ·exact⟨zI,fun h=>by cases h⟩
  ·split
   ·exact⟨zI,fun h=>by cases h⟩
   ·split
    ·exact⟨zI,fun h=>by cases h⟩
    ·have hab:a.right=true/\b.right=true:=by
      cases ha:a.right<;>cases hb:b.right<;>simp[ha,hb]at hr<;>simp
     split
     ·rename_i d hd
      have:=cL ((aC a).1 hab.1) ((aC b).1 hab.2) (fuel:=f.toNat) (by omega) (by omega) hd;exact⟨this.sm,fun _=>(aC d).2 this⟩
     ·exact⟨zI,fun h=>by cases h⟩
theorem zJ (v v':Value) (a b:DF) (sa:Sm a) (sb:Sm b) (op:Nat) (f:Int) (w:World) (h:aT w v a) (h':aT w v' b): Calls Tryz.prog 40 #[v,v',.int .u8 op,.int .i64 f] w fun e w'=>∃ u,e=.returned (.tuple #[u,.bool (aX a b op f).2.1,.int .i64 (aX a b op f).2.2])/\w'.ownsRow w.heap.size 5 1 u (aX a b op f).1.length ((aX a b op f).1.map bu)/\Below w.heap.size w w':=by
 have CO:Hid (∀ W,Below w.heap.size w W->Calls Tryz.prog 12 #[v,v',.int .u8 op,.int .i64 f] W fun e w'=>∃ u,e=.returned (.tuple #[u,.int .i64 (aP a b op f).2])/\ay W.heap.size w' u (aP a b op f).1/\Below W.heap.size W w'):=fun W hW=>kE v v' a b sa sb op f W (h.below hW) (h'.below hW)
 have hsm:=Ur a b op f;have Sa:((aP a b op f).2=0/\aX a b op f=((aJ (aP a b op f).1).getD [], !(aJ (aP a b op f).1).isSome,0))\/((aP a b op f).2≠0/\aX a b op f=([],false,(aP a b op f).2)):=by
  unfold aX;by_cases h0:(aP a b op f).2=0
  ·exact .inl ⟨h0,if_pos h0⟩
  ·exact .inr ⟨h0,if_neg h0⟩
 generalize aP a b op f=pe at*;generalize aX a b op f=qe at*;obtain⟨pd,pc⟩:=pe;obtain⟨v0,v1,v2,rfl,h0,h1,h2⟩:=h;obtain⟨u0,u1,u2,rfl,g0,g1,g2⟩:=h';have SM:=hid hsm;have Vb:=hid Sa;clear h0 h1 h2 g0 g1 g2 sa sb hsm Sa;replace CO:Hid (∀ W,Below w.heap.size w W->Calls Tryz.prog 12 #[.agg #[v0,v1,v2],.agg #[u0,u1,u2],.int .u8 op,.int .i64 f] W fun e w'=>∃ u,e=.returned (.tuple #[u,.int .i64 pc])/\ay W.heap.size w' u pd/\Below W.heap.size W w'):=CO;go_enter Tryz.func40,Tryz.ntmps40;go_wp2_with fail
 refine az ?_;intro V hV;have X1:Hid (Below w.heap.size w V):=by rw[hV];exact(((Ext.refl w).alloc _).alloc _).below
 clear hV;refine(CO.out V X1.out).mono ?_;rintro e w2 ⟨u,rfl,ho,hx⟩;obtain⟨x0,x1,x2,rfl,o0,o1,o2⟩:=ho;obtain⟨a0,c0,rfl⟩:=ownsRow_form o0;obtain⟨a1,c1,rfl⟩:=o1.form;obtain⟨a2,c2,rfl⟩:=o2.form;have OD:Hid (ay V.heap.size w2 (.agg #[.slice a0 pd.cl.length c0,.slice a1 pd.nx.length c1,.slice a2 pd.mr.length c2]) pd):=hid ⟨_,_,_,rfl,o0,o1,o2⟩;have X2:=hid (X1.out.trans (hx.mono X1.out.size));clear o0 o1 o2 hx X1 CO;generalize pd.cl.length=n0 at*;generalize pd.nx.length=n1 at*;generalize pd.mr.length=n2 at*;rcases Vb.out with⟨jH,hq⟩ | ⟨jH,hq⟩
 ·have jH:pc=0:=jH
  subst jH;have HQ:=hid hq;clear hq;go_wp2_with fail
  refine az ?_;intro V3 di;have X3:Hid (Below w2.heap.size w2 V3):=by rw[di];exact((Ext.refl w2).alloc _).below
  clear di;refine(ib _ pd SM.out.1 V3 (OD.out.df.below X3.out)).mono ?_;rintro e w4 ⟨u,rfl,hr,hx⟩;have Us:pd.right=true:=SM.out.2 trivial;have hfe:bH pd=((aJ pd).getD [],(aJ pd).isSome,0):=by unfold bH;rw[if_pos Us]
  rw[hfe]at hr ⊢;have hr:=aA hr (show w.heap.size<=V3.heap.size by have:=X2.out.size;have:=X3.out.size;omega);have RR:=hid hr;have X4:=hid ((X2.out.trans (X3.out.mono X2.out.size)).trans (hx.mono (Nat.le_trans X2.out.size X3.out.size)));have hq:qe=((aJ pd).getD [], !(aJ pd).isSome,0):=HQ.out;subst hq;obtain⟨ua,uc,rfl⟩:=ownsRow_form RR.out;obtain⟨fb,hfb⟩:∃ x,x=(aJ pd).isSome:=⟨_,rfl⟩;obtain⟨fl,xW⟩:∃ x,x=(aJ pd).getD []:=⟨_,rfl⟩;replace RR:Hid (w4.ownsRow w.heap.size 5 1 (.slice ua fl.length uc) fl.length (fl.map bu)):=hid (by rw[xW];exact RR.out);obtain⟨nf,xh⟩:∃ n,n=fl.length:=⟨_,rfl⟩;rw[<-hfb, <-xW, <-xh];rw[<-xh]at RR;have HFB:Hid ((aJ pd).isNone= !fb):=hid (by rw[hfb];cases aJ pd<;>rfl);have RF:Hid (w4.ownsRow w.heap.size 5 1 (.slice ua nf uc) ((aJ pd).getD []).length (((aJ pd).getD []).map bu)):=hid (by rw[<-xW, <-xh];exact RR.out);clear hr hx hfe Us xW hfb xh OD SM Vb HQ;cases fb
  ·go_wp2
   exact bodyPost_ret (v:=.tuple #[.slice ua nf uc,.bool true,.int .i64 0]) (by simp[results,Tryz.results40,go_sem]) rfl ⟨_,by first | rfl | (rw[show(aJ pd).isNone=_ from HFB.out];rfl),by first | exact RF.out | exact RR.out,X4.out⟩
  ·go_wp2
   exact bodyPost_ret (v:=.tuple #[.slice ua nf uc,.bool false,.int .i64 0]) (by simp[results,Tryz.results40,go_sem]) rfl ⟨_,by first | rfl | (rw[show(aJ pd).isNone=_ from HFB.out];rfl),by first | exact RF.out | exact RR.out,X4.out⟩
 ·have hq:qe=([],false,pc):=hq
  subst hq;have hb:((pc:Int)==0)=false:=by rw[beq_eq_false_iff_ne];exact jH
  have X3:Hid (∀ o,Below w.heap.size w (w2.alloc o)):=hid fun o=>X2.out.alloc X2.out.size o
  clear jH OD SM Vb;go_wp2;exact bodyPost_ret (v:=.tuple #[.slice none 0 0,.bool false,.int .i64 pc]) (by simp[results,Tryz.results40,go_sem]) rfl ⟨_,rfl,World.ownsRow_nil _ _ _ _,X3.out _⟩
end
section
open Go Go.RowKit Go.Shelf Go.Maps
def ZB (W:World) (b:Nat):Prop:=∃ u0 u1 u2,ah W b #[u0,u1,u2] 28
attribute [local go_sem] encS
theorem I6 (W:World) (e:TypeId) (s:ByteArray):Below W.heap.size W (Lib.bytesWorld W e s):=by refine⟨?_,?_,?_,by rw[Lib.bytesWorld_size];omega,fun k hk=>Lib.bytesWorld_at_old W e s k hk⟩<;>(unfold Lib.bytesWorld World.freeze;split<;>rfl)
theorem sF (s:ByteArray) (l:List Nat) (fy:s.data.toList.map (·.toNat)=l) (hn:l.length<=1000000) (w:World): Calls Tryz.prog 31 #[.string s] w fun e w'=>e=.returned (.agg (encS (oJ fun c=>l.contains c)))/\Below w.heap.size w w':=by
 obtain⟨u,hu⟩:∃ u,u=oJ fun c=>l.contains c:=⟨_,rfl⟩
 rw[<-hu];have HU:=hid hu;have hcv:∀ W:World,(convert 9 23 (.string s)).run Tryz.prog W=.ok (.slice (some ⟨W.heap.size,0,none⟩) s.size (grownCap W s.size 0 5)) (Lib.bytesWorld W 5 s):=fun W=>Lib.run_convert_string_bytes W 9 23 5 s Tryz.underlying9 Tryz.underlying23 Tryz.underlying5
 have hsz:s.size=l.length:=by rw[<-fy];simp
 have HCE:Hid (∀ (W:World) (i x:Nat),l[i]? =some x->(Lib.bytesWorld W 5 s).cell? ⟨W.heap.size,i,none⟩=some (.int .u8 x)):=hid fun W i x h=>by
  have hi:i<s.size:=by rw[hsz];exact(List.getElem?_eq_some_iff.1 h).1
  rw[Lib.bytesWorld_cell W 5 s i hi];rw[<-fy,List.getElem?_map]at h;cases hq:s.data.toList[i]? with
  | none=>rw[hq]at h;cases h
  | some b=>rw[hq]at h;cases h;rw[List.getD_eq_getElem?_getD,hq];rfl
 have HL:Hid (∀ c∈l,c<256):=hid fun c hc=>by
  rw[<-fy]at hc;obtain⟨b,_,rfl⟩:=List.mem_map.1 hc;exact b.toNat_lt
 rw[hsz]at hcv;have WG:Hid (∀ W:World,Below W.heap.size W (Lib.bytesWorld W 5 s)):=hid fun W=>I6 W _ s
 have HBS:Hid (∀ W:World,(Lib.bytesWorld W 5 s).heap.size=W.heap.size+1):=hid fun W=>Lib.bytesWorld_size W _ s
 clear hu fy hsz;go_enter Tryz.func31,Tryz.ntmps31;go_wp2;obtain⟨W2,hW2⟩:∃ W,W=(w.alloc (.cells #[.int .u64 0,.int .u64 0,.int .u64 0,.int .u64 0] 59)).alloc (.cells #[.int .u64 0,.int .u64 0,.int .u64 0,.int .u64 0] 59):=⟨_,rfl⟩;have hs2:W2.heap.size=w.heap.size+2:=by rw[hW2];simp
 have B2:Hid (ah W2 (w.heap.size+1) (encS 0) 59):=hid (by rw[hW2,fQ];exact(ah.new _ _ _).at (by simp));have R2:Hid (ah W2 w.heap.size #[.int .u64 0,.int .u64 0,.int .u64 0,.int .u64 0] 59):=hid (by rw[hW2];exact(ah.new _ _ _).alloc _);have X2:Hid (Below w.heap.size w W2):=hid (by rw[hW2];exact(((Ext.refl w).alloc _).alloc _).below);have HW2:=hid hW2;clear hW2;go_loopw [9] (fun i wr=>∃ (k:Nat) (s':BS),k<=l.length/\i=.int .i64 k/\(∀ c,c<256->s'.getLsbD c=(l.take k).contains c)/\ah wr (w.heap.size+1) (encS s') 59/\ah wr w.heap.size #[.int .u64 0,.int .u64 0,.int .u64 0,.int .u64 0] 59/\(∀ i x:Nat,l[i]? =some x->wr.cell? ⟨w.heap.size+1+1,i,none⟩=some (.int .u8 x))/\Below w.heap.size w wr) (fun i _=>l.length-(intOf i).toNat);case atStart=>
  rw[<-HW2.out];have hb:=WG.out W2;refine⟨0,0,by omega,rfl,fun c hc=>by simp,B2.out.below hb (by omega),R2.out.below hb (by omega),fun i x h=>?_,X2.out.trans (hb.mono X2.out.size)⟩;have:=HCE.out W2 i x h;rw[hs2]at this;exact this
 case round=>
  obtain⟨k,s',hk,rfl,hs,hB,hR,hce,hx⟩:=hrel;have HS:=hid hs;have HCR:=hid hce;clear hs hce;by_cases hlt:k<l.length
  ·obtain⟨c,jV⟩:∃ c,l[k]? =some c:=⟨l[k],List.getElem?_eq_getElem hlt⟩
   have jL:c<256:=HL.out c (List.mem_of_getElem? jV);have hcc:wr.cell? ⟨w.heap.size+1+1,k,none⟩=some (.int .u8 c):=HCR.out k c jV;have hw:(encS s')[c/64]? =some (.int .u64 (wd s' (c/64)).toNat):=gI s' (by omega);have hc1:wr.cell? ⟨w.heap.size+1,c/64,none⟩=some (.int .u64 (wd s' (c/64)).toNat):=(hB.cell _).trans hw;have hf:=hB.frozen (c/64);have eH:l.take (k+1)=l.take k++ [c]:=by rw[List.take_add_one,jV];rfl
   have HT:=hid eH;have HB:=hid hB;have HR:=hid hR;have HX:=hid hx;have HCl:=hid jV;have gz:(k:Int)<l.length:=by omega
   clear hB hR hx hw eH jV WG HBS hcv;go_wp2;go_roundw;case rel=>
    refine⟨k+1,rG s' c,by omega,by go_num,fun d hd=>?_,?_,?_,fun i x h=>?_,?_⟩
    ·rw[mB s' jL,HS.out d hd,HT.out,List.contains_eq_any_beq,List.contains_eq_any_beq,List.any_append]
     simp
    ·rw[<-xZ s' jL];exact HB.out.set _ _
    ·exact HR.out.other (by simp) _
    ·rw[cell_far _ _ _ _ (by simp)];exact HCR.out i x h
    ·exact HX.out.trans (((aa.refl (· <w.heap.size) _).setCell (p:=⟨w.heap.size+1,c/64,none⟩) (fun h=>by have h':w.heap.size+1<w.heap.size:=h;omega) _).below)
   case measure=>simp[intOf];omega
  ·have Kp:s'=u:=by rw[HU.out];exact BS.Mn fun c hc=>by rw[HS.out c hc,List.take_of_length_le (by omega)]
   subst Kp;obtain rfl:k=l.length:=by omega
   obtain⟨c0,c1,c2,c3⟩:=hB.wT;have r0:wr.cell? ⟨w.heap.size,0,none⟩=some (.int .u64 0):=hR.cell 0;have r1:wr.cell? ⟨w.heap.size,1,none⟩=some (.int .u64 0):=hR.cell 1;have r2:wr.cell? ⟨w.heap.size,2,none⟩=some (.int .u64 0):=hR.cell 2;have r3:wr.cell? ⟨w.heap.size,3,none⟩=some (.int .u64 0):=hR.cell 3;have rf:=hR.frozen;have HX:=hid hx;clear hB hR hx WG HBS hcv;go_wp2;refine bodyPost_ret (v:=.agg (encS s')) ?_ rfl ⟨rfl,?_⟩
   ·simp[results,Tryz.results31,go_sem,r0,r1,r2,r3]
   ·refine HX.out.trans (aa.below ((((aa.refl (· <w.heap.size) _).setCell ?_ _).setCell ?_ _).setCell ?_ _ |>.setCell ?_ _))<;>(intro h;simp at h)
def Nc (s:BS) (k:Nat):Array Value:= #[.int .u64 (if 0<k then wd (~~~s) 0 else wd s 0).toNat,.int .u64 (if 1<k then wd (~~~s) 1 else wd s 1).toNat,.int .u64 (if 2<k then wd (~~~s) 2 else wd s 2).toNat,.int .u64 (if 3<k then wd (~~~s) 3 else wd s 3).toNat]
theorem PM (s:BS) {k:Nat} (hk:k<4):(Nc s k)[k]? =some (.int .u64 (wd s k).toNat):=by
 match k,hk with
 | 0,_=>rfl
 | 1,_=>rfl
 | 2,_=>rfl
 | 3,_=>rfl
theorem PN (s:BS) {k:Nat} (hk:k<4):(Nc s k).setIfInBounds k (.int .u64 (bits .xor .u64 IntKind.u64.max (wd s k).toNat))=Nc s (k+1):=by
 rw[GH, <-J3 s hk];match k,hk with
 | 0,_=>rfl
 | 1,_=>rfl
 | 2,_=>rfl
 | 3,_=>rfl
theorem zK (s:ByteArray) (l:List Nat) (fy:s.data.toList.map (·.toNat)=l) (hn:l.length<=1000000) (w:World): Calls Tryz.prog 30 #[.string s] w fun e w'=>e=.returned (.agg (encS (~~~(oJ fun c=>l.contains c))))/\Below w.heap.size w w':=by
 have CL:Hid (∀ W,Calls Tryz.prog 31 #[.string s] W fun e w'=>e=.returned (.agg (encS (oJ fun c=>l.contains c)))/\Below W.heap.size W w'):=hid fun W=>sF s l fy hn W
 have hsg:IntKind.u64.signed=false:=rfl;obtain⟨u,hu⟩:∃ u,u=oJ fun c=>l.contains c:=⟨_,rfl⟩
 rw[<-hu]at CL ⊢;obtain⟨t,ht⟩:∃ t,t= ~~~u:=⟨_,rfl⟩;rw[<-ht];have HT:=hid ht;clear hu fy hn ht;go_enter Tryz.func30,Tryz.ntmps30;go_wp2_with fail
 refine az ?_;intro V hV;have R0:Hid (ah V w.heap.size #[.int .u64 0,.int .u64 0,.int .u64 0,.int .u64 0] 59):=hid (by rw[hV];exact ah.new _ _ _);have X0:Hid (Below w.heap.size w V):=hid (by rw[hV];exact((Ext.refl w).alloc _).below);clear hV;refine(CL.out V).mono ?_;rintro e w1 ⟨rfl,hx⟩;have R1:=hid (R0.out.below hx R0.out.lt);have X1:=hid (X0.out.trans (hx.mono X0.out.size));have atk:w.heap.size<w1.heap.size:=R1.out.lt;clear hx R0 X0 CL;go_wp2;go_loopw [7] (fun i wr=>∃ k:Nat,k<=4/\i=.int .i64 k/\ah wr w1.heap.size (Nc u k) 59/\ah wr w.heap.size #[.int .u64 0,.int .u64 0,.int .u64 0,.int .u64 0] 59/\Below w.heap.size w wr) (fun i _=>4-(intOf i).toNat);case atStart=>
  exact⟨0,by omega,rfl,ah.new _ _ _,R1.out.alloc _,X1.out.alloc X1.out.size _⟩
 case round=>
  obtain⟨k,hk,rfl,hB,hR,hx⟩:=hrel;obtain⟨wo,rfl⟩:∃ wo:World,wo=wr:=⟨_,rfl⟩;by_cases hlt:k<4
  ·have hc1:wo.cell? ⟨w1.heap.size,k,none⟩=some (.int .u64 (wd u k).toNat):=(hB.cell _).trans (PM u hlt)
   have hf:=hB.frozen k;have HB:=hid hB;have HR:=hid hR;have HX:=hid hx;have gz:(k:Int)<4:=by omega
   clear hB hR hx;go_wp2;go_roundw;case rel=>
    refine⟨k+1,by omega,by go_num,?_,?_,?_⟩
    ·rw[<-PN u hlt];exact HB.out.set _ _
    ·exact HR.out.other (by simp;omega) _
    ·exact HX.out.trans (((aa.refl (· <w.heap.size) _).setCell (p:=⟨w1.heap.size,k,none⟩) (fun h=>by have h':w1.heap.size<w.heap.size:=h;omega) _).below)
   case measure=>simp[intOf];omega
  ·obtain rfl:k=4:=by omega
   have hBB:ah wo w1.heap.size (encS (~~~u)) 59:=hB;obtain⟨c0,c1,c2,c3⟩:=hBB.wT;have r0:wo.cell? ⟨w.heap.size,0,none⟩=some (.int .u64 0):=hR.cell 0;have r1:wo.cell? ⟨w.heap.size,1,none⟩=some (.int .u64 0):=hR.cell 1;have r2:wo.cell? ⟨w.heap.size,2,none⟩=some (.int .u64 0):=hR.cell 2;have r3:wo.cell? ⟨w.heap.size,3,none⟩=some (.int .u64 0):=hR.cell 3;have rf:=hR.frozen;have HX:=hid hx;rw[<-HT.out]at c0 c1 c2 c3;clear hB hR hx hBB;go_wp2;refine bodyPost_ret (v:=.agg (encS t)) ?_ rfl ⟨rfl,?_⟩
   ·simp[results,Tryz.results30,go_sem,r0,r1,r2,r3]
   ·refine HX.out.trans (aa.below ((((aa.refl (· <w.heap.size) _).setCell ?_ _).setCell ?_ _).setCell ?_ _ |>.setCell ?_ _))<;>(intro h;simp at h)
end
end Go.Proofs.YtalombmiochpmaaGreatDoor
