/- The law's Made of small rules. -/
import Derived.Test.YtpcmhjbehdgdbaaGreatDoorOI14
set_option maxRecDepth 100000
set_option maxHeartbeats 16000000
open Go.Lib (hid)
namespace Go.Proofs.YtpcmhjbehdgdbaaGreatDoor
section
open Go Go.RowKit Go.Shelf Go.Maps
theorem Jr {p q d:DF} {op:Nat} {f code:Int} (sp:Sm p) (sq:Sm q) (he:bM p q op f=(d,code)) (W:World) (v v':Value) (h:iJ W v p) (h':iJ W v' q): ag 27 #[v,v',.int .u8 op,.int .i64 f] W (wR d.cl.length d.nx.length d.mr.length code d W):=(Ov v v' p q sp sq op f W h h').mono fun e w' ⟨r,hr,hd,hx⟩=>by
 rw[he]at hr hd;obtain⟨a0,c0,a1,c1,a2,c2,rfl⟩:=hd.form;exact⟨a0,c0,a1,c1,a2,c2,hr,hd,hx⟩
end
section
open Go Go.RowKit Go.Shelf
theorem L9 (W:World) (a:Option Addr) (c:Nat):(convert 55 9 (.slice a 0 c)).run Tryz.prog W=.ok (.string ⟨#[]⟩) W:=by
 rw[run_convert_bytes_string W 55 9 5 a 0 c Tryz.underlying55 Tryz.underlying5 Tryz.underlying9];cases a with
 | none=>rfl
 | some a=>
  rw[run_bytesToString W a 0 c [] (by rfl)];rfl
theorem QN {W:World} {a:Option Addr} {n c:Nat} {s:List Nat} (hs:∀ x∈s,x<256) (hn:n=s.length) (h:s=[]\/∃ b off,a=some ⟨b,off,none⟩/\∀ (i x:Nat),s[i]? =some x->W.cell? ⟨b,off+i,none⟩=some (.int .u8 x)):(convert 55 9 (.slice a n c)).run Tryz.prog W=.ok (.string ⟨(s.map UInt8.ofNat).toArray⟩) W:=by
 subst hn;rcases h with rfl | ⟨b,off,rfl,hc⟩
 ·exact L9 W a c
 ·have h8:=Lib.run_convert_whole (P:=Tryz.prog) W 55 5 9 Tryz.underlying55 Tryz.underlying5 Tryz.underlying9 b off ⟨(s.map UInt8.ofNat).toArray⟩ (fun i hi=>by
   have hi':i<s.length:=by simpa[ByteArray.size]using hi
   rw[hc i _ (aC hi')];have h3:=hs _ (List.getElem_mem hi');have e:((⟨(s.map UInt8.ofNat).toArray⟩:ByteArray)[i]'hi)=UInt8.ofNat s[i]:=by
    show((s.map UInt8.ofNat).toArray)[i]'_=_;simp
   rw[e,UInt8.toNat_ofNat'];simp only[Nat.reducePow]
   rw[Nat.mod_eq_of_lt h3]) c
  have e9:(⟨(s.map UInt8.ofNat).toArray⟩:ByteArray).size=s.length:=by simp[ByteArray.size]
  rw[e9]at h8;exact h8
end
section
open Go Go.RowKit Go.Shelf Go.Maps
theorem RL.Rt.good {r:RL} (h:r.Rt false):r.tr.fine/\r.tr.size<=120/\r.tr.bZ<=400/\r.tr.gg<=9:=by
 rcases h with⟨_,h⟩ | ⟨h,_⟩
 ·exact h
 ·cases h
def oA (w:World) (fv:Value) (l:List RL):Prop:=∃ (g:Nat) (lb:Array Value) (R:Nat->Prop) (xs:List (Value×RL)),fv=.func (.func g) #[] lb/\(∀ args w,(callFunc g args).run Tryz.prog w=.ok (.enter g args) w)/\
 Seq true Tryz.prog g lb (fun x:Value×RL=> #[x.1]) R xs w/\(∀ k,R k->k<w.heap.size)/\xs.map (·.2)=l/\∀ x∈xs,cF (· <w.heap.size) w x.1 x.2
theorem cF.eK {w w':World} {v:Value} {r:RL} (h:cF (· <w.heap.size) w v r) (hk:aa w w'):cF (· <w'.heap.size) w' v r:=(h.keeps (ae.ai hk fun _ h=>h) fun _ hb=>hb).mono fun _ hb=>aw hb hk.size
theorem oA.below {w w':World} {fv:Value} {l:List RL} (h:oA w fv l) (hk:aa w w'):oA w' fv l:=by obtain⟨g,lb,R,xs,h1,h2,h3,h4,h5,h6⟩:=h;exact⟨g,lb,R,xs,h1,h2,h3.at (ae.ai hk fun _ h=>h),fun k pT=>aw (h4 k pT) hk.size,h5,fun x hx=>(h6 x hx).eK hk⟩
theorem jc {fv:Value} {l:List RL} {w:World} (h:oA w fv l) (ok:∀ r∈l,r.Rt false) (hn:l.length<=64) (f:Int) {d:DF} {code:Int} (he:di (l.map RL.pt) f=(d,code)) {m0 m1 m2:Nat} (h0:m0=d.cl.length) (h1:m1=d.nx.length) (h2:m2=d.mr.length) (hT:∀ W,aa w W->mB W): ag 24 #[fv,.int .i64 f] w (wR m0 m1 m2 code d w):=by
 obtain⟨g,lb,R,xs,rfl,k2,k3,k4,rfl,k6⟩:=h
 exact yh xs w k3 k2 k4 k6 (fun x hx=>by
  obtain⟨a,b,c,_⟩:=(ok x.2 (List.mem_map.2 ⟨x,hx,rfl⟩)).good
  exact⟨a,b,c⟩) (by rw[bp]at hn;exact hn) f (by rw[List.map_map]at he;exact he) h0 h1 h2 hT
def uk:Option (Option (List Nat))->Value
 | none=>.agg #[.bool false,.bool false,.string ⟨#[]⟩]
 | some none=>.agg #[.bool true,.bool true,.string ⟨#[]⟩]
 | some (some s)=>.agg #[.bool true,.bool false,.string ⟨(s.map UInt8.ofNat).toArray⟩]
theorem Ma {d:DF} (h:Rt d):∃ s sm,mZ d=(s,sm,0)/\(∀ c∈s,c<256)/\uk (some (dA d))=.agg #[.bool true,.bool (!sm),.string ⟨(s.map UInt8.ofNat).toArray⟩]:=by
 unfold mZ;rw[(aP d).2 h,if_pos rfl];cases e:dA d with
 | none=>exact⟨[],false,rfl,(fun c hc=>by cases hc),rfl⟩
 | some s=>exact⟨s,true,rfl,(TC h e).1.tU,rfl⟩
theorem QO {a b d:DF} {op f:Int} (h:bM a b op f=(d,0)):Rt d:=by
 obtain⟨n,hn⟩:∃ n:Nat,f=n:=⟨f.toNat,by
  unfold bM at h;split at h
  ·cases (Prod.ext_iff.1 h).2
  ·split at h
   ·cases (Prod.ext_iff.1 h).2
   ·split at h
    ·cases (Prod.ext_iff.1 h).2
    ·omega⟩
 obtain⟨ra,rb,o1,o4,n1,n4,hd⟩:=Ey hn h;exact vq ((aP a).1 ra) ((aP b).1 rb) n1 n4 hd
theorem T8 {w:World} {base n:Nat} {a:Option Addr} {c:Nat} {e:TypeId} {s:List Nat} (h:w.ownsRow base e 1 (.slice a n c) s.length (s.map eN)):s=[]\/∃ b off,a=some ⟨b,off,none⟩/\∀ (i x:Nat),s[i]? =some x->w.cell? ⟨b,off+i,none⟩=some (.int .u8 x):=by
 rcases h.2 with⟨_,e2⟩ | ⟨g,cap,cur,hv,_⟩
 ·exact .inl (List.eq_nil_of_length_eq_zero e2)
 ·cases hv
  refine .inr ⟨g,0,rfl,fun i x hx=>?_⟩;have:=h.cells (g:=g) rfl i (eN x) (by rw[bH,hx];rfl);rw[Addr.add_mid]at this;exact this
theorem QP {d:DF} (rt:Rt d) {s:List Nat} {sm:Bool} (he:mZ d=(s,sm,0)) (v:Value) (W:World) (h:iJ W v d): ag 61 #[v] W fun e w'=>∃ a c,e=.returned (.tuple #[.slice a s.length c,.bool sm,.int .i64 0])/\(s=[]\/∃ b off,a=some ⟨b,off,none⟩/\∀ (i x:Nat),s[i]? =some x->w'.cell? ⟨b,off+i,none⟩=some (.int .u8 x))/\aa W w':=(Gx v d rt.sm8 W h).mono fun e w' ⟨u,h1,h2,h3⟩=>by
 rw[he]at h1 h2;obtain⟨a,c,rfl⟩:=ownsRow_form h2;exact⟨a,c,h1,T8 h2,h3⟩
theorem Hw (fa fb:Value) (la lb:List RL) (op:Nat) (f:Int) (w:World) (ha:oA w fa la) (hb:oA w fb lb) (oa:∀ r∈la,r.Rt false) (ob:∀ r∈lb,r.Rt false) (na:la.length<=64) (nb:lb.length<=64) (hT:∀ W,aa w W->mB W): ag 41 #[fa,fb,.int .u8 op,.int .i64 f] w fun e w'=>e=.returned (uk (kr (la.map RL.pt) (lb.map RL.pt) op f))/\aa w w':=by
 obtain⟨dx,cx,ex⟩:∃ d c,di (la.map RL.pt) f=(d,c):=⟨_,_,rfl⟩;obtain⟨dy,cy,ey⟩:∃ d c,di (lb.map RL.pt) f=(d,c):=⟨_,_,rfl⟩;obtain⟨dz,cz,ez⟩:∃ d c,bM dx dy op f=(d,c):=⟨_,_,rfl⟩;have sx:Sm dx:=by have:=A9 (la.map RL.pt) f;rw[ex]at this;exact this
 have sy:Sm dy:=by have:=A9 (lb.map RL.pt) f;rw[ey]at this;exact this
 obtain⟨r,hr⟩:=ah (kr (la.map RL.pt) (lb.map RL.pt) op f);have HR:Hid (r=if cx=0/\cy=0/\cz=0 then some (dA dz)else none):=hid (by rw[hr];unfold kr;rw[ex,ey];show(if cx=0/\cy=0/\(bM dx dy op f).2=0 then some (dA (bM dx dy op f).1)else none)=_;rw[ez]);rw[<-hr];obtain⟨x0,hx0⟩:=ah dx.cl.length;obtain⟨x1,hx1⟩:=ah dx.nx.length;obtain⟨x2,hx2⟩:=ah dx.mr.length;obtain⟨y0,hy0⟩:=ah dy.cl.length;obtain⟨y1,ya⟩:=ah dy.nx.length;obtain⟨y2,Qh⟩:=ah dy.mr.length;have CA:Hid (∀ W,aa w W->ag 24 #[fa,.int .i64 f] W (wR x0 x1 x2 cx dx W)):=hid fun W hW=>jc (ha.below hW) oa na f ex hx0 hx1 hx2 fun V hV=>hT V (hW.trans (hV.mono hW.size))
 have CB:Hid (∀ W,aa w W->ag 24 #[fb,.int .i64 f] W (wR y0 y1 y2 cy dy W)):=hid fun W hW=>jc (hb.below hW) ob nb f ey hy0 ya Qh fun V hV=>hT V (hW.trans (hV.mono hW.size))
 obtain⟨z0,hz0⟩:=ah dz.cl.length;obtain⟨z1,hz1⟩:=ah dz.nx.length;obtain⟨z2,hz2⟩:=ah dz.mr.length;have CP:Hid (∀ W v v',iJ W v dx->iJ W v' dy->ag 27 #[v,v',.int .u8 op,.int .i64 f] W (wR z0 z1 z2 cz dz W)):=hid fun W v v' h h'=>by
  have:=Jr sx sy ez W v v' h h';rw[<-hz0, <-hz1, <-hz2]at this;exact this
 have EZ:=hid ez;clear ha hb oa ob na nb hT ex ey ez sx sy hr hx0 hx1 hx2 hy0 ya Qh hz0 hz1 hz2;go_enter Tryz.func41,Tryz.ntmps41;go_upto_region 1 with fail
 refine ax ?_;intro V hV;have R0:Hid (aq V w.heap.size #[.bool false,.bool false,.string ⟨#[]⟩] 27):=hid (by rw[hV];exact aq.new w _ _);have X0:Hid (aa w V):=hid (by rw[hV];exact((Ext.refl w).alloc _).below);clear hV;go_wp2_with fail
 refine(CA V X0).mono ?_;rintro e w1 ⟨a0,c0,a1,c1,a2,c2,rfl,ho,hx⟩;have OA:=hid ho;have R1:=hid (R0.below hx R0.lt);have X1:=hid (X0.trans (hx.mono X0.size));clear ho hx CA R0 X0;go_upto_region 2 with fail
 refine ax ?_;intro V2 hV;obtain⟨ba,Gd⟩:=ah w1.heap.size;have BA:Hid (aq V2 ba #[.slice a0 x0 c0,.slice a1 x1 c1,.slice a2 x2 c2] 73):=hid (by rw[hV,Gd];exact aq.new w1 _ _);have hx:aa w1 V2:=by rw[hV];exact((Ext.refl w1).alloc _).below
 rw[<-Gd];have OA:=hid (OA.below hx);have R2:=hid (R1.below hx R1.lt);have X2:=hid (X1.trans (hx.mono X1.size));clear hV hx R1 X1 Gd;go_wp2_with fail
 refine(CB V2 X2).mono ?_;rintro e w3 ⟨b0,d0,b1,d1,b2,d2,rfl,ho,hx⟩;have OB:=hid ho;have R3:=hid (R2.below hx R2.lt);have X3:=hid (X2.trans (hx.mono X2.size));have BA:=hid (BA.below hx BA.lt);have OA:=hid (OA.below hx);clear ho hx CB R2 X2;go_upto_region 3 with fail
 refine ax ?_;intro V4 hV;obtain⟨bb,Vf⟩:=ah w3.heap.size;have BB:Hid (aq V4 bb #[.slice b0 y0 d0,.slice b1 y1 d1,.slice b2 y2 d2] 73):=hid (by rw[hV,Vf];exact aq.new w3 _ _);have hx:aa w3 V4:=by rw[hV];exact((Ext.refl w3).alloc _).below
 rw[<-Vf];have OB:=hid (OB.below hx);have OA:=hid (OA.below hx);have BA:=hid (BA.below hx BA.lt);have R4:=hid (R3.below hx R3.lt);have X4:=hid (X3.trans (hx.mono X3.size));clear hV hx R3 X3 Vf;have r0:V4.cell? ⟨w.heap.size,0,none⟩=some (.bool false):=R4.cell 0;have r1:V4.cell? ⟨w.heap.size,1,none⟩=some (.bool false):=R4.cell 1;have r2:V4.cell? ⟨w.heap.size,2,none⟩=some (.string ⟨#[]⟩):=R4.cell 2;have f0:=R4.frozen 0;have f1:=R4.frozen 1;have f2:=R4.frozen 2;by_cases uw:cx=0
 ·by_cases Yi:cy=0
  ·subst uw Yi
   obtain⟨p0,p1,p2⟩:=dM.XK BA;obtain⟨q0,q1,q2⟩:=dM.XK BB;clear r0 r1 r2 f0 f1 f2;go_wp2_with fail
   refine(CP V4 _ _ OA.df OB.df).mono ?_;rintro e w5 ⟨g0,k0,g1,k1,g2,k2,rfl,ho,hx⟩;have OC:=hid ho;have R5:=hid (R4.below hx R4.lt);have X5:=hid (X4.trans (hx.mono X4.size));clear ho hx CP R4 X4 p0 p1 p2 q0 q1 q2 OA OB BA BB;go_upto_region 6 with fail
   refine ax ?_;intro V6 hV;obtain⟨bc,SU⟩:=ah w5.heap.size;have BC:Hid (aq V6 bc #[.slice g0 z0 k0,.slice g1 z1 k1,.slice g2 z2 k2] 73):=hid (by rw[hV,SU];exact aq.new w5 _ _);have hx:aa w5 V6:=by rw[hV];exact((Ext.refl w5).alloc _).below
   rw[<-SU];have OC:=hid (OC.below hx);have R6:=hid (R5.below hx R5.lt);have X6:=hid (X5.trans (hx.mono X5.size));clear hV hx R5 X5 SU;by_cases Mu:cz=0
   ·subst Mu
    have RZ:=QO EZ;obtain⟨s,sm,es,acf,ev⟩:=Ma RZ;have CF:Hid (∀ W v,iJ W v dz->ag 61 #[v] W fun e w'=>∃ a c,e=.returned (.tuple #[.slice a s.length c,.bool sm,.int .i64 0])/\(s=[]\/∃ b off,a=some ⟨b,off,none⟩/\∀ (i x:Nat),s[i]? =some x->w'.cell? ⟨b,off+i,none⟩=some (.int .u8 x))/\aa W w'):=hid fun W v h=>QP RZ es v W h
    have gN:Hid (uk r=.agg #[.bool true,.bool (!sm),.string ⟨(s.map UInt8.ofNat).toArray⟩]):=hid (by rw[HR.out,if_pos (by simp)];exact ev);have HS:=hid acf;clear RZ es ev EZ HR acf;obtain⟨n,hn⟩:=ah s.length;rw[<-hn]at CF;have HN:=hid hn;clear hn;obtain⟨p0,p1,p2⟩:=dM.XK BC;go_wp2_with fail
    refine(CF V6 _ OC.df).mono ?_;rintro e w7 ⟨a,c,rfl,hs,hx⟩;have R7:=hid (R6.below hx R6.lt);have X7:=hid (X6.trans (hx.mono X6.size));have hcv:=QN (W:=w7) (c:=c) HS HN hs;clear hx hs CF R6 X6 p0 p1 p2 OC BC HS HN;have r0:w7.cell? ⟨w.heap.size,0,none⟩=some (.bool false):=R7.cell 0;have r1:w7.cell? ⟨w.heap.size,1,none⟩=some (.bool false):=R7.cell 1;have r2:w7.cell? ⟨w.heap.size,2,none⟩=some (.string ⟨#[]⟩):=R7.cell 2;have f0:=R7.frozen 0;have f1:=R7.frozen 1;have f2:=R7.frozen 2;obtain⟨str,Qc⟩:=ah (⟨(s.map UInt8.ofNat).toArray⟩:ByteArray);rw[<-Qc]at hcv gN;clear Qc;go_wp2;refine aT ?_;intro W8 hW;have R8:Hid (aq W8 w.heap.size #[.bool true,.bool (!sm),.string str] 27):=hid (by rw[hW];exact((R7.set 0 _).set 1 _).set 2 _);have X8:aa w W8:=by rw[hW];exact((X7.setCell (by simp) _).setCell (by simp) _).setCell (by simp) _
    clear hW r0 r1 r2 f0 f1 f2;have r0:W8.cell? ⟨w.heap.size,0,none⟩=some (.bool true):=R8.cell 0;have r1:W8.cell? ⟨w.heap.size,1,none⟩=some (.bool (!sm)):=R8.cell 1;have r2:W8.cell? ⟨w.heap.size,2,none⟩=some (.string str):=R8.cell 2;rw[gN.out];exact bodyPost_ret (v:=.agg #[.bool true,.bool (!sm),.string str]) (by simp[results,Tryz.results41,go_sem,r0,r1,r2]) rfl ⟨rfl,X8⟩
   ·have tz:(cz != 0)=true:=by simp[Mu]
    have gN:Hid (r=none):=hid (by rw[HR.out,if_neg (fun h=>Mu h.2.2)]);have r0:V6.cell? ⟨w.heap.size,0,none⟩=some (.bool false):=R6.cell 0;have r1:V6.cell? ⟨w.heap.size,1,none⟩=some (.bool false):=R6.cell 1;have r2:V6.cell? ⟨w.heap.size,2,none⟩=some (.string ⟨#[]⟩):=R6.cell 2;have f0:=R6.frozen 0;have f1:=R6.frozen 1;have f2:=R6.frozen 2;go_wp2;refine aT ?_;intro W8 hW;have R8:Hid (aq W8 w.heap.size #[.bool false,.bool false,.string ⟨#[]⟩] 27):=hid (by rw[hW];exact((R6.set 0 _).set 1 _).set 2 _);have X8:aa w W8:=by rw[hW];exact((X6.setCell (by simp) _).setCell (by simp) _).setCell (by simp) _
    clear hW r0 r1 r2 f0 f1 f2;have r0:W8.cell? ⟨w.heap.size,0,none⟩=some (.bool false):=R8.cell 0;have r1:W8.cell? ⟨w.heap.size,1,none⟩=some (.bool false):=R8.cell 1;have r2:W8.cell? ⟨w.heap.size,2,none⟩=some (.string ⟨#[]⟩):=R8.cell 2;rw[gN.out];exact bodyPost_ret (v:=.agg #[.bool false,.bool false,.string ⟨#[]⟩]) (by simp[results,Tryz.results41,go_sem,r0,r1,r2]) rfl ⟨rfl,X8⟩
  ·have ty:(cy != 0)=true:=by simp[Yi]
   subst uw;have gN:Hid (r=none):=hid (by rw[HR.out,if_neg (fun h=>Yi h.2.1)]);go_wp2;refine aT ?_;intro W8 hW;have R8:Hid (aq W8 w.heap.size #[.bool false,.bool false,.string ⟨#[]⟩] 27):=hid (by rw[hW];exact((R4.set 0 _).set 1 _).set 2 _);have X8:aa w W8:=by rw[hW];exact((X4.setCell (by simp) _).setCell (by simp) _).setCell (by simp) _
   clear hW r0 r1 r2 f0 f1 f2;have r0:W8.cell? ⟨w.heap.size,0,none⟩=some (.bool false):=R8.cell 0;have r1:W8.cell? ⟨w.heap.size,1,none⟩=some (.bool false):=R8.cell 1;have r2:W8.cell? ⟨w.heap.size,2,none⟩=some (.string ⟨#[]⟩):=R8.cell 2;rw[gN.out];exact bodyPost_ret (v:=.agg #[.bool false,.bool false,.string ⟨#[]⟩]) (by simp[results,Tryz.results41,go_sem,r0,r1,r2]) rfl ⟨rfl,X8⟩
 ·have tx:(cx != 0)=true:=by simp[uw]
  have gN:Hid (r=none):=hid (by rw[HR.out,if_neg (fun h=>uw h.1)]);go_wp2;refine aT ?_;intro W8 hW;have R8:Hid (aq W8 w.heap.size #[.bool false,.bool false,.string ⟨#[]⟩] 27):=hid (by rw[hW];exact((R4.set 0 _).set 1 _).set 2 _);have X8:aa w W8:=by rw[hW];exact((X4.setCell (by simp) _).setCell (by simp) _).setCell (by simp) _
  clear hW r0 r1 r2 f0 f1 f2;have r0:W8.cell? ⟨w.heap.size,0,none⟩=some (.bool false):=R8.cell 0;have r1:W8.cell? ⟨w.heap.size,1,none⟩=some (.bool false):=R8.cell 1;have r2:W8.cell? ⟨w.heap.size,2,none⟩=some (.string ⟨#[]⟩):=R8.cell 2;rw[gN.out];exact bodyPost_ret (v:=.agg #[.bool false,.bool false,.string ⟨#[]⟩]) (by simp[results,Tryz.results41,go_sem,r0,r1,r2]) rfl ⟨rfl,X8⟩
theorem bN.up {w w':World} {v:Value} {l:List RL} (h:bN (· <w.heap.size) w v l) (hk:aa w w'):bN (· <w'.heap.size) w' v l:=(h.keeps (ae.ai hk fun _ h=>h) fun _ hb=>hb).mono fun _ hb=>aw hb hk.size
theorem bN.cap {F:Nat->Prop} {w:World} {p:Option Addr} {n cap:Nat} {l:List RL} (h:bN F w (.slice p n cap) l):n<=cap/\n=l.length:=by
 obtain⟨p0,Yg,e,hc,_⟩:=h;injection e with e1 e2 e3
 omega
theorem bN.one {F:Nat->Prop} {w:World} {p:Option Addr} {n cap:Nat} {l:List RL} (h:bN F w (.slice p n cap) l) {j:Nat} {r:RL} (hj:l[j]? =some r): ∃ b off,p=some ⟨b,off,none⟩/\bN F w (.slice (some ⟨b,off+j*10,none⟩) 1 (cap-j)) [r]:=by
 obtain⟨hc,hn⟩:=h.cap;obtain⟨p0,Yg,e,hc0,h⟩:=h;obtain⟨b,off,p',c',ep,hF,hb,hcs,hx⟩:=h j r hj;injection e with e1 e2 e3
 subst e1;have Mp:=(List.getElem?_eq_some_iff.1 hj).1;refine⟨b,off,ep,_,_,rfl,by show 1<=cap-j;omega,fun i r' hi=>?_⟩;cases i with
 | zero=>
  cases hi
  refine⟨b,off+j*10,p',c',rfl,hF,hb,fun k u hk=>?_,hx⟩;rw[Nat.zero_mul,Nat.add_zero];exact hcs k u hk
 | succ i=>simp at hi
theorem Mb:∀ args w,(callFunc 45 args).run Tryz.prog w=.ok (.enter 45 args) w:=enters_of Tryz.func45 (by kernel_rfl) rfl
theorem EL:∀ args w,(callFunc 46 args).run Tryz.prog w=.ok (.enter 46 args) w:=enters_of Tryz.func46 (by kernel_rfl) rfl
theorem zC {w:World} {p:Option Addr} {n cap:Nat} {l:List RL} (h:bN (· <w.heap.size) w (.slice p n cap) l) (hn:l.length<=1000000): oA (w.alloc (.cells #[.slice p n cap] 24 (0,0))) (.func (.func 45) #[] #[.pointer (some ⟨w.heap.size,0,none⟩)]) l:=by have hb:aa w (w.alloc (.cells #[.slice p n cap] 24 (0,0))):=((Ext.refl w).alloc _).below;obtain⟨xs,h1,h2,h3⟩:=Ht l p n cap w.heap.size w.heap.size _ hb.size h.cap.2 (by rw[h.cap.2];exact hn) (aq.new w _ _) (h.keeps (ae.ai hb fun _ h=>h) fun _ h=>h);exact⟨_,_,_,xs,rfl,Mb,h3,fun k hk=>by rcases hk with hk | hk<;>simp<;>omega,h1,fun x hx=>(h2 x hx).mono fun b hb'=>aw hb' hb.size⟩
theorem tN {w:World} {p:Option Addr} {n cap:Nat} {l:List RL} (h:bN (· <w.heap.size) w (.slice p n cap) l) (hn:l.length<=1000000) {j:Nat} {rj:RL} (hj:l[j]? =some rj): oA ((w.alloc (.cells #[.slice p n cap] 24 (0,0))).alloc (.cells #[.int .i64 j] 3 (0,0))) (.func (.func 46) #[] #[.pointer (some ⟨w.heap.size,0,none⟩),.pointer (some ⟨w.heap.size+1,0,none⟩)]) (kt l rj j):=by have hb:aa w ((w.alloc (.cells #[.slice p n cap] 24 (0,0))).alloc (.cells #[.int .i64 j] 3 (0,0))):=(((Ext.refl w).alloc _).alloc _).below;obtain⟨xs,h1,h2,h3⟩:=Bj l p n cap j rj w.heap.size w.heap.size (w.heap.size+1) _ hb.size h.cap.2 (by rw[h.cap.2];exact hn) hj ((aq.new w _ _).alloc _) ((aq.new _ _ _).at (by simp)) (h.keeps (ae.ai hb fun _ h=>h) fun _ h=>h);exact⟨_,_,_,xs,rfl,EL,h3,fun k hk=>by rcases hk with hk | hk | hk<;>simp<;>omega,h1,fun x hx=>(h2 x hx).mono fun b hb'=>aw hb' hb.size⟩
theorem ri {l:List RL} {r:RL} {j:Nat} :(∀ q∈kt l r j,q∈l)/\(kt l r j).length<=l.length:=by unfold kt;refine⟨fun q hq=>List.mem_of_mem_take (List.mem_filter.1 hq).1,Nat.le_trans (List.length_filter_le _ _) ?_⟩;rw[List.length_take];omega
theorem zD (r:Option (Option (List Nat))):∃ k c s,uk r=.agg #[.bool k,.bool c,.string s]:=by
 rcases r with _ | _ | s
 ·exact⟨_,_,_,rfl⟩
 ·exact⟨_,_,_,rfl⟩
 ·exact⟨_,_,_,rfl⟩
theorem aq.dR {w:World} {b:Nat} {x0 x1 x2:Value} {t:TypeId} (h:aq w b #[x0,x1,x2] t):w.cell? ⟨b,0,none⟩=some x0/\w.cell? ⟨b,1,none⟩=some x1/\w.cell? ⟨b,2,none⟩=some x2:=⟨h.cell 0,h.cell 1,h.cell 2⟩
theorem aq.Vg {w:World} {b:Nat} {x0 x1 x2:Value} {t:TypeId} (h:aq w b #[x0,x1,x2] t):w.frozen? ⟨b,0,none⟩=false/\w.frozen? ⟨b,1,none⟩=false/\w.frozen? ⟨b,2,none⟩=false:=⟨h.frozen 0,h.frozen 1,h.frozen 2⟩
theorem EM (p:Option Addr) (n cap:Nat) (l:List RL) (j:Nat) (rj:RL) (hj:l[j]? =some rj) (f:Int) (w:World) (h:bN (· <w.heap.size) w (.slice p n cap) l) (hn:l.length<=64) (ok:∀ r∈l,r.Rt false) (hT:∀ W,aa w W->mB W): ag 23 #[.slice p n cap,.int .i64 j,.int .i64 f] w fun e w'=>e=.returned (uk (cP l rj j f))/\aa w w':=by
 obtain⟨hc,gW⟩:=h.cap;obtain⟨b,off,rfl,h1⟩:=h.one hj;have UI:j<n:=by rw[gW];exact(List.getElem?_eq_some_iff.1 hj).1
 have pD:n<=64:=by omega
 obtain⟨r,hr⟩:=ah (cP l rj j f);rw[<-hr];obtain⟨k,c,s,er⟩:=zD r;have HC:Hid (∀ W fa fb,aa w W->oA W fa [rj]->oA W fb (kt l rj j)->ag 41 #[fa,fb,.int .u8 3,.int .i64 f] W fun e w'=>e=.returned (.agg #[.bool k,.bool c,.string s])/\aa W w'):=hid fun W fa fb hW ha hb=>by
  have:=Hw fa fb [rj] (kt l rj j) 3 f W ha hb (fun q hq=>by obtain rfl:=List.mem_singleton.1 hq;exact ok q (aA hj)) (fun q hq=>ok q (ri.1 q hq)) (by simp) (Nat.le_trans ri.2 hn) fun V hV=>hT V (hW.trans (hV.mono hW.size))
  rw[show kr ([rj].map RL.pt) ((kt l rj j).map RL.pt) ((3:Nat):Int) f=r from hr.symm,er]at this;exact this
 rw[er];have H:=hid h;have H1:=hid h1;have HJ:=hid hj;have HN:=hid hn;clear h h1 hj hn hr er ok hT gW;have Sx:¬ ((j:Int)<0):=by omega
 have Si:¬ ((cap:Int)<(j:Int)+1):=by omega
 have fC:¬ ((j:Int)+1<(j:Int)):=by omega
 have hjw:IntKind.i64.wrap ((j:Int)+1)=(j:Int)+1:=IntWalk.i64_in _ (by omega);have hj3:((j:Int)+1-(j:Int)).toNat=1:=by omega
 go_enter Tryz.func23,Tryz.ntmps23
 go_upto_region 1 with fail
 refine ax ?_;intro V hV;have R0:Hid (aq V w.heap.size #[.bool false,.bool false,.string ⟨#[]⟩] 27):=hid (by rw[hV];exact aq.new w _ _);have X0:Hid (aa w V):=hid (by rw[hV];exact((Ext.refl w).alloc _).below);clear hV;go_wp2_with fail
 refine(tL _ _ _ _).mono ?_;rintro e w1 ⟨rfl,GN⟩;have I1:Hid (oA w1 (.func (.func 45) #[] #[.pointer (some ⟨V.heap.size,0,none⟩)]) [rj]):=hid (by rw[GN];exact zC (H1.up X0) (by simp));have hx:aa V w1:=by rw[GN];exact((Ext.refl V).alloc _).below
 have R1:=hid (R0.below hx R0.lt);have X1:=hid (X0.trans (hx.mono X0.size));clear hx GN R0 X0 H1;go_wp2_with fail
 refine(oT _ _ _ _ _).mono ?_;rintro e w2 ⟨rfl,hw2⟩;have hx:aa w1 w2:=by rw[hw2];exact(((Ext.refl w1).alloc _).alloc _).below
 have I2:Hid (oA w2 (.func (.func 46) #[] #[.pointer (some ⟨w1.heap.size,0,none⟩),.pointer (some ⟨w1.heap.size+1,0,none⟩)]) (kt l rj j)):=hid (by rw[hw2];exact tN (H.up X1) (by have:=HN.out;omega) HJ);have I1:=hid (I1.below hx);have R2:=hid (R1.below hx R1.lt);have X2:=hid (X1.trans (hx.mono X1.size));clear hx hw2 R1 X1 H;go_wp2_with fail
 refine(HC w2 _ _ X2 I1 I2).mono ?_;rintro e w3 ⟨rfl,hx⟩;have R3:=hid (R2.below hx R2.lt);have X3:=hid (X2.trans (hx.mono X2.size));clear hx HC R2 X2 I1 I2;obtain⟨r0,r1,r2⟩:=R3.dR;obtain⟨f0,f1,f2⟩:=R3.Vg;go_wp2;refine aT ?_;intro W8 hW;have R8:Hid (aq W8 w.heap.size #[.bool k,.bool c,.string s] 27):=hid (by rw[hW];exact((R3.set 0 _).set 1 _).set 2 _);have X8:aa w W8:=by rw[hW];exact((X3.setCell (by simp) _).setCell (by simp) _).setCell (by simp) _
 clear hW r0 r1 r2 f0 f1 f2;obtain⟨r0,r1,r2⟩:=R8.dR;exact bodyPost_ret (v:=.agg #[.bool k,.bool c,.string s]) (by simp[results,Tryz.results23,go_sem,r0,r1,r2]) rfl ⟨rfl,X8⟩
def Vh (l:List RL) (f:RL->Bool):Int:=if 64<l.length then 5 else if l.any f then 200 else 0
theorem QQ {l:List RL} (h:l.length<=64):Vh l (fun _=>false)=0:=by unfold Vh;rw[if_neg (by omega),if_neg (by simp)]
theorem xe {v:Value} {l:List RL} {w:World} (h:bN (· <w.heap.size) w v l) (hn:l.length<=64) (ok:∀ r∈l,r.Rt false):ag 21 #[v] w fun e w'=>e=.returned (.int .i64 0)/\aa w w':=by have:=yf v l (fun _=>false) w w.heap.size (aD _) h (by omega) ok;rw[show(if 64<l.length then(5:Int)else if l.any (fun _=>false)then 200 else 0)=0 from QQ hn]at this;exact this
theorem Mc {f:Int} (h0:0<=f) (h1:f<=4000) (w:World):ag 22 #[.int .i64 f] w fun e w'=>e=.returned (.bool true)/\aa w w':=by have:=Hu f w;rw[show(decide (0<=f)&&decide (f<=4000))=true by simp[h0,h1]]at this;exact this
theorem EO (p:Option Addr) (n cap:Nat) (l:List RL) (j:Nat) (rj:RL) (hj:l[j]? =some rj) (fu:Int) (Km:0<=fu) (Fp:fu<=4000) (w:World) (h:bN (· <w.heap.size) w (.slice p n cap) l) (hn:l.length<=64) (ok:∀ r∈l,r.Rt false) (hT:∀ W,aa w W->mB W): ag 7 #[.slice p n cap,.int .i64 j,.int .i64 fu] w fun e w'=>e=.returned (.tuple #[uk (cP l rj j fu),.int .i64 0])/\aa w w':=by
 have CR:Hid (∀ W,aa w W->ag 21 #[.slice p n cap] W fun e w'=>e=.returned (.int .i64 0)/\aa W w'):=hid fun W hW=>xe (h.up hW) hn ok
 have CF:Hid (∀ W,ag 22 #[.int .i64 fu] W fun e w'=>e=.returned (.bool true)/\aa W w'):=hid fun W=>Mc Km Fp W
 obtain⟨r,hr⟩:=ah (cP l rj j fu);rw[<-hr];obtain⟨k,c,s,er⟩:=zD r;have CC:Hid (∀ W,aa w W->ag 23 #[.slice p n cap,.int .i64 j,.int .i64 fu] W fun e w'=>e=.returned (.agg #[.bool k,.bool c,.string s])/\aa W w'):=hid fun W hW=>by
  have:=EM p n cap l j rj hj fu W (h.up hW) hn ok fun V hV=>hT V (hW.trans (hV.mono hW.size))
  rw[<-hr,er]at this;exact this
 have Sx:¬ ((j:Int)<0):=by omega
 have Si:¬ ((n:Int)<=(j:Int)):=by rw[h.cap.2];have:=(List.getElem?_eq_some_iff.1 hj).1;omega
 rw[er];clear h hn ok hT hr er hj Km Fp;go_enter Tryz.func7,Tryz.ntmps7;go_upto_region 1 with fail
 refine ax ?_;intro V hV;have R0:Hid (aq V w.heap.size #[.bool false,.bool false,.string ⟨#[]⟩] 27):=hid (by rw[hV];exact aq.new w _ _);have X0:Hid (aa w V):=hid (by rw[hV];exact((Ext.refl w).alloc _).below);clear hV;go_wp2_with fail
 refine(CR V X0).mono ?_;rintro e w1 ⟨rfl,hx⟩;have R1:=hid (R0.below hx R0.lt);have X1:=hid (X0.trans (hx.mono X0.size));clear hx R0 X0 CR;go_wp2_with fail
 refine(CF w1).mono ?_;rintro e w2 ⟨rfl,hx⟩;have R2:=hid (R1.below hx R1.lt);have X2:=hid (X1.trans (hx.mono X1.size));clear hx R1 X1 CF;go_wp2_with fail
 refine(CC w2 X2).mono ?_;rintro e w3 ⟨rfl,hx⟩;have R3:=hid (R2.below hx R2.lt);have X3:=hid (X2.trans (hx.mono X2.size));clear hx R2 X2 CC;obtain⟨r0,r1,r2⟩:=R3.dR;obtain⟨f0,f1,f2⟩:=R3.Vg;go_wp2;refine aT ?_;intro W8 hW;have R8:Hid (aq W8 w.heap.size #[.bool k,.bool c,.string s] 27):=hid (by rw[hW];exact((R3.set 0 _).set 1 _).set 2 _);have X8:aa w W8:=by rw[hW];exact((X3.setCell (by simp) _).setCell (by simp) _).setCell (by simp) _
 clear hW r0 r1 r2 f0 f1 f2;obtain⟨r0,r1,r2⟩:=R8.dR;exact bodyPost_ret (v:=.tuple #[.agg #[.bool k,.bool c,.string s],.int .i64 0]) (by simp[results,Tryz.results7,go_sem,r0,r1,r2]) rfl ⟨rfl,X8⟩
def T9 (k:Bool) (m:Nat) (w:World) (e:Ending) (w':World):Prop:=∃ (q:Nat) (kn:Bool),e=.returned (.tuple #[.int .i64 q,.bool kn,.int .i64 0])/\kn=k/\(kn=true->q=m)/\aa w w'
theorem ER (p:Option Addr) (n cap:Nat) (l:List RL) (j:Nat) (rj:RL) (hj:l[j]? =some rj) (w:World) (h:bN (· <w.heap.size) w (.slice p n cap) l) (hn:l.length<=64) (ok:∀ r∈l,r.Rt false) (hT:∀ W,aa w W->mB W): ag 8 #[.slice p n cap,.int .i64 j] w (T9 (cP l rj j 4000).isSome (cV l rj j) w):=by
 have CR:Hid (∀ W,aa w W->ag 21 #[.slice p n cap] W fun e w'=>e=.returned (.int .i64 0)/\aa W w'):=hid fun W hW=>xe (h.up hW) hn ok
 obtain⟨hc,gW⟩:=h.cap;obtain⟨b,off,rfl,h1⟩:=h.one hj;have UI:j<n:=by rw[gW];exact(List.getElem?_eq_some_iff.1 hj).1
 have pD:n<=64:=by omega
 obtain⟨dx,cx,ex⟩:∃ d c,di ([rj].map RL.pt) 4000=(d,c):=⟨_,_,rfl⟩;obtain⟨dy,cy,ey⟩:∃ d c,di ((kt l rj j).map RL.pt) 4000=(d,c):=⟨_,_,rfl⟩;obtain⟨dz,cz,ez⟩:∃ d c,bM dx dy 3 4000=(d,c):=⟨_,_,rfl⟩;have sx:Sm dx:=by have:=A9 ([rj].map RL.pt) 4000;rw[ex]at this;exact this
 have sy:Sm dy:=by have:=A9 ((kt l rj j).map RL.pt) 4000;rw[ey]at this;exact this
 obtain⟨kn,yQ⟩:=ah ((cP l rj j 4000).isSome)
 have HK:Hid (kn=decide (cx=0/\cy=0/\cz=0)):=hid (by
  rw[yQ];unfold cP kr;rw[show [rj.pt]=[rj].map RL.pt from rfl,ex,ey];show(if cx=0/\cy=0/\(bM dx dy 3 4000).2=0 then some (dA (bM dx dy 3 4000).1)else none).isSome=_;rw[ez];by_cases h9:cx=0/\cy=0/\cz=0
  ·rw[if_pos h9,decide_eq_true h9];rfl
  ·rw[if_neg h9,decide_eq_false h9];rfl)
 obtain⟨lq,Uq⟩:=ah (cV l rj j)
 have HL:Hid (lq=max (max dx.nx.length dy.nx.length) dz.nx.length):=hid (by
  rw[Uq];unfold cV fZ;rw[show [rj.pt]=[rj].map RL.pt from rfl,ex,ey];show max (max dx.nx.length dy.nx.length) (bM dx dy 3 4000).1.nx.length=_
  rw[ez])
 rw[<-yQ, <-Uq];obtain⟨x0,hx0⟩:=ah dx.cl.length;obtain⟨x1,hx1⟩:=ah dx.nx.length;obtain⟨x2,hx2⟩:=ah dx.mr.length;obtain⟨y0,hy0⟩:=ah dy.cl.length;obtain⟨y1,ya⟩:=ah dy.nx.length;obtain⟨y2,Qh⟩:=ah dy.mr.length;have CA:Hid (∀ W fa,aa w W->oA W fa [rj]->ag 24 #[fa,.int .i64 4000] W (wR x0 x1 x2 cx dx W)):=hid fun W fa hW ha=>jc ha (fun q hq=>by obtain rfl:=List.mem_singleton.1 hq;exact ok q (aA hj)) (by simp) 4000 ex hx0 hx1 hx2 fun V hV=>hT V (hW.trans (hV.mono hW.size))
 have CB:Hid (∀ W fb,aa w W->oA W fb (kt l rj j)->ag 24 #[fb,.int .i64 4000] W (wR y0 y1 y2 cy dy W)):=hid fun W fb hW hb=>jc hb (fun q hq=>ok q (ri.1 q hq)) (Nat.le_trans ri.2 hn) 4000 ey hy0 ya Qh fun V hV=>hT V (hW.trans (hV.mono hW.size))
 obtain⟨z0,hz0⟩:=ah dz.cl.length;obtain⟨z1,hz1⟩:=ah dz.nx.length;obtain⟨z2,hz2⟩:=ah dz.mr.length;have CP:Hid (∀ W v v',iJ W v dx->iJ W v' dy->ag 27 #[v,v',.int .u8 3,.int .i64 4000] W (wR z0 z1 z2 cz dz W)):=hid fun W v v' h h'=>by
  have:=Jr (op:=3) sx sy ez W v v' h h';rw[<-hz0, <-hz1, <-hz2]at this;exact this
 rw[<-hx1, <-ya, <-hz1]at HL;have H:=hid h;have H1:=hid h1;have HJ:=hid hj;have HN:=hid hn;clear h h1 hj hn ok hT gW ex ey ez sx sy yQ Uq hx0 hx1 hx2 hy0 ya Qh hz0 hz1 hz2;have Sx:¬ ((j:Int)<0):=by omega
 have aoa:¬ ((n:Int)<=(j:Int)):=by omega
 have Si:¬ ((cap:Int)<(j:Int)+1):=by omega
 have fC:¬ ((j:Int)+1<(j:Int)):=by omega
 have hjw:IntKind.i64.wrap ((j:Int)+1)=(j:Int)+1:=IntWalk.i64_in _ (by omega);have hj3:((j:Int)+1-(j:Int)).toNat=1:=by omega
 have X0:Hid (aa w w):=hid (Below.refl _ _);go_enter Tryz.func8,Tryz.ntmps8;go_wp2_with fail
 refine(CR w X0).mono ?_;rintro e V ⟨rfl,hx⟩;have X0:=hid (X0.trans (hx.mono X0.size));clear hx CR;go_wp2_with fail
 refine(tL _ _ _ _).mono ?_;rintro e w1 ⟨rfl,GN⟩;have I1:Hid (oA w1 (.func (.func 45) #[] #[.pointer (some ⟨V.heap.size,0,none⟩)]) [rj]):=hid (by rw[GN];exact zC (H1.up X0) (by simp));have hx:aa V w1:=by rw[GN];exact((Ext.refl V).alloc _).below
 have X1:=hid (X0.trans (hx.mono X0.size));clear hx GN X0 H1;go_wp2_with fail
 refine(CA w1 _ X1 I1).mono ?_;rintro e w2 ⟨a0,c0,a1,c1,a2,c2,rfl,ho,hx⟩;have OA:=hid ho;have X2:=hid (X1.trans (hx.mono X1.size));clear ho hx CA X1 I1;go_upto_region 7 with fail
 refine ax ?_;intro V3 hV;obtain⟨ba,Gd⟩:=ah w2.heap.size;have BA:Hid (aq V3 ba #[.slice a0 x0 c0,.slice a1 x1 c1,.slice a2 x2 c2] 73):=hid (by rw[hV,Gd];exact aq.new w2 _ _);have hx:aa w2 V3:=by rw[hV];exact((Ext.refl w2).alloc _).below
 rw[<-Gd];have OA:=hid (OA.below hx);have X3:=hid (X2.trans (hx.mono X2.size));clear hV hx X2 Gd;go_wp2_with fail
 refine(oT _ _ _ _ _).mono ?_;rintro e w4 ⟨rfl,hw2⟩;have hx:aa V3 w4:=by rw[hw2];exact(((Ext.refl V3).alloc _).alloc _).below
 have I2:Hid (oA w4 (.func (.func 46) #[] #[.pointer (some ⟨V3.heap.size,0,none⟩),.pointer (some ⟨V3.heap.size+1,0,none⟩)]) (kt l rj j)):=hid (by rw[hw2];exact tN (H.up X3) (by have:=HN.out;omega) HJ);have X4:=hid (X3.trans (hx.mono X3.size));have OA:=hid (OA.below hx);have BA:=hid (BA.below hx BA.lt);clear hx hw2 X3 H;go_wp2_with fail
 refine(CB w4 _ X4 I2).mono ?_;rintro e w5 ⟨b0,d0,b1,d1,b2,d2,rfl,ho,hx⟩;have OB:=hid ho;have X5:=hid (X4.trans (hx.mono X4.size));have OA:=hid (OA.below hx);have BA:=hid (BA.below hx BA.lt);clear ho hx CB X4 I2;go_upto_region 8 with fail
 refine ax ?_;intro V6 hV;obtain⟨bb,Vf⟩:=ah w5.heap.size;have BB:Hid (aq V6 bb #[.slice b0 y0 d0,.slice b1 y1 d1,.slice b2 y2 d2] 73):=hid (by rw[hV,Vf];exact aq.new w5 _ _);have hx:aa w5 V6:=by rw[hV];exact((Ext.refl w5).alloc _).below
 rw[<-Vf];have OA:=hid (OA.below hx);have BA:=hid (BA.below hx BA.lt);have OB:=hid (OB.below hx);have X6:=hid (X5.trans (hx.mono X5.size));clear hV hx X5 Vf;by_cases uw:cx=0
 ·by_cases Yi:cy=0
  ·subst uw Yi
   obtain⟨p0,p1,p2⟩:=dM.XK BA;obtain⟨q0,q1,q2⟩:=dM.XK BB;go_wp2_with fail
   refine(CP V6 _ _ OA.df OB.df).mono ?_;rintro e w7 ⟨g0,k0,g1,k1,g2,k2,rfl,ho,hx⟩;have X7:=hid (X6.trans (hx.mono X6.size));have BA:=hid (BA.below hx BA.lt);have BB:=hid (BB.below hx BB.lt);clear ho hx CP X6 p0 p1 p2 q0 q1 q2 OA OB;go_upto_region 11 with fail
   refine ax ?_;intro V8 hV;obtain⟨bc,SU⟩:=ah w7.heap.size;have BC:Hid (aq V8 bc #[.slice g0 z0 k0,.slice g1 z1 k1,.slice g2 z2 k2] 73):=hid (by rw[hV,SU];exact aq.new w7 _ _);have hx:aa w7 V8:=by rw[hV];exact((Ext.refl w7).alloc _).below
   rw[<-SU];have BA:=hid (BA.below hx BA.lt);have BB:=hid (BB.below hx BB.lt);have X8:=hid (X7.trans (hx.mono X7.size));clear hV hx X7 SU;by_cases Mu:cz=0
   ·subst Mu
    have Yj:Hid (kn=true):=hid (by rw[HK.out];simp);have p1:V8.cell? ⟨ba,1,none⟩=some (.slice a1 x1 c1):=BA.cell 1;have q1:V8.cell? ⟨bb,1,none⟩=some (.slice b1 y1 d1):=BB.cell 1;have s1:V8.cell? ⟨bc,1,none⟩=some (.slice g1 z1 k1):=BC.cell 1;go_wp2;all_goals exact bodyPost_ret (v:=.tuple #[.int .i64 (lq:Int),.bool true,.int .i64 0]) (by simp[results,Tryz.results8,go_sem];have:=HL.out;omega) rfl ⟨_,true,rfl,Yj.symm,fun _=>rfl,X8⟩
   ·have tz:(cz != 0)=true:=by simp[Mu]
    have Yj:Hid (kn=false):=hid (by rw[HK.out];exact decide_eq_false (fun h=>Mu h.2.2));go_wp2;exact bodyPost_ret (v:=.tuple #[.int .i64 ((0:Nat):Int),.bool false,.int .i64 0]) (by simp[results,Tryz.results8,go_sem]) rfl ⟨_,false,rfl,Yj.symm,(fun h=>by cases h),X8⟩
  ·have ty:(cy != 0)=true:=by simp[Yi]
   subst uw;have Yj:Hid (kn=false):=hid (by rw[HK.out];exact decide_eq_false (fun h=>Yi h.2.1));go_wp2;exact bodyPost_ret (v:=.tuple #[.int .i64 ((0:Nat):Int),.bool false,.int .i64 0]) (by simp[results,Tryz.results8,go_sem]) rfl ⟨_,false,rfl,Yj.symm,(fun h=>by cases h),X6⟩
 ·have tx:(cx != 0)=true:=by simp[uw]
  have Yj:Hid (kn=false):=hid (by rw[HK.out];exact decide_eq_false (fun h=>uw h.1));go_wp2;exact bodyPost_ret (v:=.tuple #[.int .i64 ((0:Nat):Int),.bool false,.int .i64 0]) (by simp[results,Tryz.results8,go_sem]) rfl ⟨_,false,rfl,Yj.symm,(fun h=>by cases h),X6⟩
theorem Md (t:RX):∀ m,pR t m<=t.size:=by
 induction t using RX.ind with
 | h k s a b l ih=>
  intro m;have key:∀ l':List RX,(∀ t∈l',t∈l)->∀ s,jM l' m s<=s+RX.sizes l':=by
   intro l';induction l' with
   | nil=>intro _ s;rw[RX.sizes,jM];exact aD _
   | cons t l' Lb=>
    intro hs s;have h1:=ih t (hs t (bL ..)) (m-s);have h2:=Lb (fun x hx=>hs x (cd _ hx)) (s+pR t (m-s));rw[RX.sizes,jM];by_cases hm:m<s
    ·rw[if_pos hm];omega
    ·rw[if_neg hm];omega
  rw[RX.size,pR];have:=key l (fun _ h=>h) 1;omega
theorem Me {α:Type} {l:List α} {k:Nat} {x:α} (h:l[k]? =some x):l.drop k=x::l.drop (k+1):=by obtain⟨hk,rfl⟩:=List.getElem?_eq_some_iff.1 h;exact List.drop_eq_getElem_cons hk
theorem Mf (t:RX):∀ (m:Nat),m<=10000->t.size<=10000->∀ (v:Value) (w:World) (n0:Nat),n0<=w.heap.size->aH (· <n0) w v t-> ag 20 #[v,.int .i64 m] w fun e w'=>e=.returned (.int .i64 (pR t m))/\aa w w':=by
 induction t using RX.ind with
 | h k s a b l ih=>
  intro m hm hsz v w n0 h0 h;obtain⟨p,c,e⟩:=h.form;have e':v=.agg (aj k s a b (.slice p l.length c)):=e;subst e';clear e;obtain⟨r,hr⟩:=ah (pR (RX.nd k s a b l) m);have hs1:1+RX.sizes l<=10000:=by rw[RX.size]at hsz;omega
  have hr1:jM l m 1=r:=by rw[hr,pR]
  rw[<-hr];have HIH:=hid ih;obtain⟨n,hn⟩:=ah l.length;rw[<-hn]at h ⊢;have HR:=hid h;have HN:=hid hn;have hn9:n<=10000:=by
   have:∀ l:List RX,l.length<=RX.sizes l:=fun l=>by
    induction l with
    | nil=>exact Nat.zero_le _
    | cons x l ih=>
     rw[RX.sizes,List.length_cons];have h9:1<=x.size:=(by cases x;rw[RX.size];omega);omega
   have:=this l;omega
  have Sg:=hid hr1;have HS1:=hid hs1;clear h ih hr hr1 hs1 hsz hn;unfold aj;go_enter Tryz.func20,Tryz.ntmps20;go_upto_region 2 with fail
  refine ax ?_;intro V hV;have B1:Hid (aq V w.heap.size #[.int .u8 k,.int .u64 (wd s 0).toNat,.int .u64 (wd s 1).toNat,.int .u64 (wd s 2).toNat,.int .u64 (wd s 3).toNat,.int .i64 a,.int .i64 b,.slice p n c] 40):=by rw[hV];exact hid (aq.new w _ _)
  have HX:Hid (aa w V):=by rw[hV];exact hid ((Ext.refl w).alloc _).below
  clear hV;have e7:V.cell? ⟨w.heap.size,7,none⟩=some (.slice p n c):=B1.cell 7;go_wp2;clear e7;go_loopw [5,11] (fun sv iv W=>∃ k q:Nat,k<=n/\sv=.int .i64 q/\iv=.int .i64 k/\q+RX.sizes (l.drop k)<=10000/\jM (l.drop k) m q=r/\aa w W) (fun _ iv _=>n-(intOf iv).toNat);case atStart=>exact⟨0,1,by omega,rfl,rfl,by rw[List.drop_zero];exact HS1,by rw[List.drop_zero];exact Sg,HX⟩
  case round=>
   obtain⟨i,q,hk,rfl,rfl,hq,hf,hx⟩:=hrel;obtain⟨wo,rfl⟩:=ah (wr:World);have Ln:=hid hx;have HF:=hid hf;have HQ:=hid hq;clear hx hf hq;by_cases hlt:i<n
   ·have eT:(i:Int)<n:=by omega
    obtain⟨t,dT⟩:∃ t,l[i]? =some t:=⟨_,aC (by have:=HN.out;omega)⟩;have hd:=Me dT;have Ae:Hid (jM (t::l.drop (i+1)) m q=r):=hid (by rw[<-hd];exact HF);have HQ2:Hid (q+(t.size+RX.sizes (l.drop (i+1)))<=10000):=hid (by have:=HQ.out;rw[hd,RX.sizes]at this;omega);obtain⟨bb,off,p',c',rfl,hb,hbw2,jW,⟨e0,e1,e2,e3,e4,e5,e6,e7⟩,hrt⟩:=((HR.eK (Below.mono Ln h0)).elem dT);have MK:=hid hrt;have HT:=hid (aA dT);have PH:q<=10000:=by have:=HQ2.out;omega
    clear hd hrt dT hb jW HF HQ;by_cases hmq:m<q
    ·have Zy:(m:Int)<q:=by omega
     go_wp2;go_ret;refine⟨?_,?_⟩
     ·have:=Ae.out
      rw[jM,if_pos hmq]at this;rw[this];rfl
     ·exact Ln.alloc Ln.size _
    ·have Zy:¬ ((m:Int)<q):=by omega
     have hw:IntKind.i64.wrap ((m:Int)-(q:Int))=((m-q:Nat):Int):=by rw[show(m:Int)-q=((m-q:Nat):Int) by omega];exact IntWalk.i64_in _ (by omega)
     go_upto_region 6 with fail
     refine ax ?_;intro V2 hV;obtain⟨nb,rz⟩:=ah wo.heap.size;have BX:Hid (aq V2 nb (aj t.kind t.set t.mn t.mx (.slice p' t.subs.length c')) 40):=hid (by rw[hV,rz];exact aq.new wo _ _);have XV:aa wo V2:=by rw[hV];exact((Ext.refl wo).alloc _).below
     rw[<-rz];clear hV e0 e1 e2 e3 e4 e5 e6 e7 rz;have X2:=hid (Ln.trans (XV.mono Ln.size));have acg:=hid (MK.eK (XV.mono (Nat.le_trans h0 Ln.size)));have hh0:n0<=V2.heap.size:=Nat.le_trans h0 X2.size;have CF:=hid (HIH.out t HT (m-q) (by omega) (by have:=HQ2.out;omega) _ V2 n0 hh0 acg);unfold aj at BX CF;obtain⟨f0,f1,f2,f3,f4,f5,f6,f7⟩:=(show _/\_/\_/\_/\_/\_/\_/\_ from⟨BX.cell 0,BX.cell 1,BX.cell 2,BX.cell 3,BX.cell 4,BX.cell 5,BX.cell 6,BX.cell 7⟩);simp only[List.getElem?_toArray,List.getElem?_cons_zero,List.getElem?_cons_succ]at f0 f1 f2 f3 f4 f5 f6 f7;clear XV MK acg;have hfs:=Md t (m-q);obtain⟨fr,oC⟩:=ah (pR t (m-q));rw[<-oC]at CF hfs;have hfq:q+fr<=10000:=by have:=HQ2.out;omega
     have hw2:IntKind.i64.wrap ((q:Int)+(fr:Int))=((q+fr:Nat):Int):=by rw[show(q:Int)+fr=((q+fr:Nat):Int) by omega];exact IntWalk.i64_in _ (by omega)
     have HFR:=hid oC;have Ve:=hid hfs;clear oC hfs;go_wp2_with fail
     refine CF.mono ?_;rintro e w3 ⟨rfl,hx⟩;have X3:=hid (X2.trans (hx.mono X2.size));clear hx CF f0 f1 f2 f3 f4 f5 f6 f7 BX X2;go_wp2;go_roundw;case rel=>
      refine⟨i+1,q+fr,by omega,rfl,by go_num,?_,?_,X3⟩
      ·have:=HQ2.out;have:=Ve.out;omega
      ·have:=Ae.out
       rw[jM,if_neg hmq, <-HFR.out]at this;exact this
     case measure=>simp[intOf];omega
   ·obtain rfl:i=n:=by omega
    have eT:¬ ((i:Int)<i):=by omega
    have HE:Hid (q=r):=hid (by
     have:=HF.out;rw[List.drop_of_length_le (by rw[<-HN.out];exact aD _),jM]at this
     exact this)
    go_wp2;go_ret;exact⟨by rw[HE.out];rfl,Ln⟩
theorem Tryz.QR:(Tryz.prog.info? 42).map (fun i=>(i.zero,i.size,i.bytes))=some (some (.agg #[.bool false,.bool false,.int .u8 0,.int .u64 0,.int .u64 0,.int .u64 0,.int .u64 0,.int .i64 0,.int .i64 0,.slice none 0 0]),10,88):=by kernel_rfl
def ET (F:Nat->Prop) (w:World) (r:RL) (f:Nat->Option Value):Prop:=∃ p c,(∀ (j:Nat) (u:Value),(mE r.bg r.en r.tr.kind r.tr.set r.tr.mn r.tr.mx (.slice p r.tr.subs.length c))[j]? =some u->f j=some u)/\aH F w (.agg (aj r.tr.kind r.tr.set r.tr.mn r.tr.mx (.slice p r.tr.subs.length c))) r.tr
theorem ET.keeps {F R:Nat->Prop} {w w':World} {r:RL} {f:Nat->Option Value} (h:ET F w r f) (hk:ae R w w') (hR:∀ b,F b->R b):ET F w' r f:=by obtain⟨p,c,h1,h2⟩:=h;exact⟨p,c,h1,h2.keeps hk hR⟩
theorem ET.mono {F F':Nat->Prop} {w:World} {r:RL} {f g:Nat->Option Value} (h:ET F w r f) (hF:∀ b,F b->F' b) (hf:∀ j,j<10->∀ u,f j=some u->g j=some u):ET F' w r g:=by obtain⟨p,c,h1,h2⟩:=h;exact⟨p,c,fun j u hj=>hf j (by have:=(Array.getElem?_eq_some_iff.1 hj).1;exact this) u (h1 j u hj),h2.mono hF⟩
def dH (base:Nat) (w:World) (v:Value) (l:List RL):Prop:=∃ (F:Nat->Prop) (cs:List Value),w.ownsRow base 42 10 v l.length cs/\(∀ x,F x->x<w.heap.size/\v.ownBlock≠some x)/\∀ (i:Nat) (r:RL),l[i]? =some r->ET F w r fun j=>cs[i*10+j]?
theorem dH.nil (base:Nat) (w:World):dH base w (.slice none 0 0) []:=⟨fun _=>False,[],World.ownsRow_nil _ _ _ _,fun _ h=>h.elim,fun i r h=>by simp at h⟩
theorem dH.form {base:Nat} {w:World} {v:Value} {l:List RL} (h:dH base w v l):∃ a c,v=.slice a l.length c:=by obtain⟨F,cs,h1,_⟩:=h;exact ownsRow_form h1
theorem dH.below {base:Nat} {w w':World} {v:Value} {l:List RL} (h:dH base w v l) (hk:aa w w'):dH base w' v l:=by obtain⟨F,cs,h1,h2,h3⟩:=h;exact⟨F,cs,ay h1 hk,fun x hx=>⟨aw (h2 x hx).1 hk.size,(h2 x hx).2⟩,fun i r hr=>(h3 i r hr).keeps (ae.ai hk fun _ h=>h:ae (· <w.heap.size) w w') fun x hx=>(h2 x hx).1⟩
theorem dH.xu {base:Nat} {w:World} {v:Value} {l:List RL} (h:dH base w v l):bN (· <w.heap.size) w v l:=by
 obtain⟨F,cs,h1,h2,h3⟩:=h;have hlt:=h1.lt;rcases h1.2 with⟨rfl,e2⟩ | ⟨g,cap,cur,rfl,e2,e3,e4,e5,_⟩
 ·have hl:l=[]:=List.eq_nil_of_length_eq_zero e2
  subst hl;exact⟨none,0,rfl,aD _,fun i r hr=>by simp at hr⟩
 ·refine⟨_,cap,rfl,e4,fun i r hr=>?_⟩
  obtain⟨p,c,h4,h5⟩:=h3 i r hr;refine⟨g,0,p,c,rfl,(hlt g rfl).2,(hlt g rfl).2,fun j u hj=>?_,h5.mono fun x hx=>(h2 x hx).1⟩;have:=h1.cells (g:=g) rfl _ _ (h4 j u hj);rw[Addr.add_mid]at this;rw[show 0+i*10+j=i*10+j by omega];simpa using this
theorem QS {xs:List Value} {k i j:Nat} (hl:xs.length=k*10) (c:List Value) (hj:j<10) (hi:i<k):(xs++c)[i*10+j]? =xs[i*10+j]? :=bJ (by omega)
theorem EU {xs:List Value} {k j:Nat} (hl:xs.length=k*10) (c:List Value):(xs++c)[k*10+j]? =c[j]? :=by rw[cZ (by omega),hl,Nat.add_sub_cancel_left]
theorem dH.more {F G:Nat->Prop} {base:Nat} {w w':World} {v v':Value} {l:List RL} {cs:List Value} {r:RL} {p:Option Addr} {c:Nat} (h1:w.ownsRow base 42 10 v l.length cs) (h2:∀ x,F x->x<w.heap.size/\v.ownBlock≠some x) (h3:∀ (i:Nat) (r:RL),l[i]? =some r->ET F w r fun j=>cs[i*10+j]?) (hn:aH G w (.agg (aj r.tr.kind r.tr.set r.tr.mn r.tr.mx (.slice p r.tr.subs.length c))) r.tr) (h4:∀ x,G x->x<w.heap.size/\v.ownBlock≠some x) (hg:w.grownBy w' v.ownBlock) (ho:w'.ownsRow base 42 10 v' (l.length+1) (cs++(mE r.bg r.en r.tr.kind r.tr.set r.tr.mn r.tr.mx (.slice p r.tr.subs.length c)).toList)) (hat:v'.ownBlock=v.ownBlock\/v'.ownBlock=some w.heap.size):dH base w' v' (l++ [r]):=by
 have Cc:ae (fun y=>y<w.heap.size/\v.ownBlock≠some y) w w':=ae.bA hg fun y hy=>⟨hy.1,fun e=>hy.2 e.symm⟩
 have hl:=h1.1;have h6:∀ x,F x\/G x->x<w.heap.size/\v.ownBlock≠some x:=fun x hx=>by
  rcases hx with hx | hx
  ·exact h2 x hx
  ·exact h4 x hx
 refine⟨fun x=>F x\/G x,_,by rw[aQ];exact ho,fun x hx=>⟨aw (h6 x hx).1 Cc.size,fun e=>?_⟩,fun i y hy=>?_⟩
 ·rcases hat with h | h
  ·exact(h6 x hx).2 (by rw[<-h];exact e)
  ·rw[h]at e
   have:=(h6 x hx).1;injection e with e
   omega
 by_cases e:i<l.length
 ·rw[bJ e]at hy
  exact((h3 i y hy).keeps Cc h2).mono (fun _ h=>.inl h) fun j hj u hu=>(QS hl _ hj e).trans hu
 ·have hl2:=(List.getElem?_eq_some_iff.1 hy).1
  rw[aQ,List.length_singleton]at hl2;obtain rfl:i=l.length:=by omega
  rw[cZ (aD _),Nat.sub_self]at hy;cases hy;refine⟨p,c,fun j u hj=>?_,(hn.keeps Cc h4).mono fun _ h=>.inr h⟩;refine(EU hl _).trans ?_;simpa using hj
def Mg (y:List (Nat×Nat×Nat)×Nat):RL:=⟨y.2%4==3,y.2%5==4,fI y.1⟩
def mkK (l:List (List (Nat×Nat×Nat)×Nat)):List RL:=(l.filter fun y=>decide ((fI y.1).size<=30)).map Mg
theorem QT (l:List (List (Nat×Nat×Nat)×Nat)) (s:List (Nat×Nat×Nat)×Nat):mkK (l++ [s])=mkK l++if(fI s.1).size<=30 then [Mg s]else []:=by
 unfold mkK;rw[List.filter_append,List.map_append];congr 1;rw[List.filter_cons,List.filter_nil];by_cases h:(fI s.1).size<=30
 ·rw[if_pos (decide_eq_true h),if_pos h];rfl
 ·rw[if_neg (by simpa using h),if_neg h];rfl
theorem Ua (l:List (List (Nat×Nat×Nat)×Nat)):(mkK l).length<=l.length:=by unfold mkK;rw[bp];exact List.length_filter_le _ _
theorem EW (b off c:Nat) (l:List (List (Nat×Nat×Nat)×Nat)) (w:World) (hb:b<w.heap.size) (hc:l.length<=c) (iG:l.length<=1000000000000000) (hS:∀ (i:Nat) (s:List (Nat×Nat×Nat)×Nat),l[i]? =some s->s.1.length<=1000000000000000/\s.2<256/\∃ u,iC w u s.1/\w.cell? ⟨b,off+i*2,none⟩=some u/\w.cell? ⟨b,off+i*2+1,none⟩=some (.int .u8 s.2)): ag 6 #[.slice (some ⟨b,off,none⟩) l.length c] w fun e w'=>∃ u,e=.returned u/\dH w.heap.size w' u (ui l)/\aa w w':=by
 obtain⟨iP,YS,Kg,Kh,Oq⟩:=info_parts Tryz.QR;have HS:=hid hS;obtain⟨n,hn⟩:=ah l.length;obtain⟨N,hN⟩:=ah (min n 5);have lS:min (n:Int) 5=(N:Int):=by omega
 have En:N<=n:=by omega
 have hN4:N<=5:=by omega
 rw[<-hn]at hc iG ⊢;have Eo:N<=c:=by omega
 have nY:=hid hn;have HN:=hid hN
 have YU:Hid (ui l=mkK (l.take N)):=hid (by
  have e:l.take N=l.take 5:=by
   rw[hN,hn];rcases Nat.le_total l.length 5 with h | h
   ·rw[Nat.min_eq_left h,List.take_length,List.take_of_length_le h]
   ·rw[Nat.min_eq_right h]
  rw[e];rfl)
 clear hS hn hN;go_enter Tryz.func6,Tryz.ntmps6;go_wp2;go_loopw [3,13] (fun pv iv wr=>∃ k:Nat,k<=N/\iv=.int .i64 k/\dH w.heap.size wr pv (mkK (l.take k))/\aa w wr) (fun _ iv _=>N-(intOf iv).toNat);case atStart=>exact⟨0,by omega,rfl,dH.nil _ _,Below.refl _ _⟩
 case round=>
  obtain⟨k,hk,rfl,hI,hx⟩:=hrel;obtain⟨wo,rfl⟩:=ah (wr:World);have HI:=hid hI;have HX:=hid hx;clear hI hx;by_cases hlt:k<N
  ·have eT:(k:Int)<N:=by omega
   obtain⟨s,hsk⟩:∃ s,l[k]? =some s:=⟨_,aC (by have:=nY.out;omega)⟩;obtain⟨hs9,hs8,u,hu,c0,c1⟩:=HS.out k _ hsk;have wc:∀ (o:Nat) (u:Value),w.cell? ⟨b,o,none⟩=some u->wo.cell? ⟨b,o,none⟩=some u:=fun o u h=>((ae.ai HX fun _ h=>h:ae (· <w.heap.size) w wo).cell (p:=⟨b,o,none⟩) hb).trans h
   replace c0:=wc _ _ c0;replace c1:=wc _ _ c1;obtain⟨ua,uc,rfl⟩:=hu.form;obtain⟨m,hm⟩:=ah ((mkK (l.take k)).length);obtain⟨pa,pc,Ce,HI2⟩:∃ pa pc,_=Value.slice pa m pc/\Hid (dH w.heap.size wo (.slice pa m pc) (mkK (l.take k))):=by obtain⟨pa,pc,e⟩:=HI.form;rw[<-hm]at e;exact⟨pa,pc,e,hid (e▸HI.out)⟩
   subst Ce
   have BR:Hid (∀ x,(Value.slice pa m pc).ownBlock=some x->x<wo.heap.size):=hid (by
    obtain⟨F,cs,h1,_⟩:=HI2.out;rw[<-hm]at h1
    exact fun x e=>(h1.lt x e).2)
   have HM:=hid hm;have HU:=hid hu;have hmN:m<=5:=by have:=Ua (l.take k);rw[List.length_take]at this;omega
   have jg:Hid (mkK (l.take (k+1))=mkK (l.take k)++if(fI s.1).size<=30 then [Mg s]else []):=hid (by rw[List.take_add_one,hsk];exact QT _ _);obtain⟨ss,fl⟩:=s;dsimp only at hs9 hs8 HU c0 c1 jg;clear HI hm hu hsk wc;go_upto_region 5 with fail
   refine ax ?_;intro V hV;have BX:Hid (aq V wo.heap.size #[.slice ua ss.length uc,.int .u8 fl] 64):=hid (by rw[hV];exact aq.new wo _ _);have XV:Hid (aa wo V):=hid (by rw[hV];exact((Ext.refl wo).alloc _).below);clear hV c0 c1;have d0:V.cell? ⟨wo.heap.size,0,none⟩=some (.slice ua ss.length uc):=BX.cell 0;have HWV:Hid (aa w V):=hid (HX.trans (XV.mono HX.size));go_wp2_with fail
   refine(Et _ ss hs9 V (HU.below HWV)).mono ?_;rintro e w1 ⟨t,rfl,ht,hx1⟩;have B1:=hid (BX.below hx1 BX.lt);have X1:Hid (aa w w1):=hid (HWV.trans (hx1.mono HWV.size));have P1:=hid ((HI2.below XV).below hx1);have XW:Hid (aa wo w1):=hid (XV.trans (hx1.mono XV.size));obtain⟨tp,tc,rfl⟩:=ht.form;have uH:wo.heap.size<=V.heap.size:=XV.size;have HT:Hid (aH (fun x=>wo.heap.size<=x/\x<w1.heap.size) w1 _ (fI ss)):=hid (ht.mono fun x hx=>⟨Nat.le_trans uH hx.1,hx.2⟩);clear ht hx1 BX XV HWV HI2 d0;obtain⟨T,hT⟩:=ah (fI ss);have Mt:T.size<=10000:=by have:=(vS ss).size;rw[hT];omega
   rw[<-hT]at jg HT ⊢;have Zg:Hid (Mg (ss,fl)=⟨fl%4==3,fl%5==4,T⟩):=hid (by rw[hT];rfl);clear hT;obtain⟨tk,dT⟩:=ah T.kind;obtain⟨nl,gW⟩:=ah T.subs.length;obtain⟨st,hst⟩:=ah T.set;obtain⟨tn,jP⟩:=ah T.mn;obtain⟨tx,lO⟩:=ah T.mx;rw[<-dT, <-gW, <-hst, <-jP, <-lO]at HT ⊢;have HEQ:=hid (And.intro dT (And.intro gW (And.intro hst (And.intro jP lO))));clear dT gW hst jP lO;unfold aj;go_upto_region 6 with fail
   refine ax ?_;intro V2 hV2;obtain⟨nb,rz⟩:=ah w1.heap.size;have BN:Hid (aq V2 nb #[.int .u8 tk,.int .u64 (wd st 0).toNat,.int .u64 (wd st 1).toNat,.int .u64 (wd st 2).toNat,.int .u64 (wd st 3).toNat,.int .i64 tn,.int .i64 tx,.slice tp nl tc] 40):=hid (by rw[hV2,rz];exact aq.new w1 _ _);have Yk:Hid (aa w1 V2):=hid (by rw[hV2];exact((Ext.refl w1).alloc _).below);rw[<-rz];clear hV2 rz;have B3:=hid (B1.below Yk B1.lt);have P3:=hid (P1.below Yk);have X3:=hid (X1.trans (Yk.mono X1.size));have HT3:Hid (aH (fun x=>wo.heap.size<=x/\x<V2.heap.size) V2 (.agg (aj tk st tn tx (.slice tp nl tc))) T):=hid ((HT.keeps (ae.ai Yk fun _ h=>h:ae (· <w1.heap.size) w1 V2) fun x hx=>hx.2).mono fun x hx=>⟨hx.1,aw hx.2 Yk.size⟩);have CF:Hid (ag 20 #[.agg (aj tk st tn tx (.slice tp nl tc)),.int .i64 ((30:Nat):Int)] V2 fun e w'=>e=.returned (.int .i64 (pR T 30))/\aa V2 w'):=hid (Mf T 30 (by decide) Mt _ V2 V2.heap.size (aD _) (HT3.mono fun x hx=>hx.2));have XW3:=hid (XW.trans (Yk.mono XW.size));clear B1 P1 X1 HT Yk XW;unfold aj at CF;obtain⟨fr,oC⟩:=ah (pR T 30);rw[<-oC]at CF;have QU:fr<=30↔T.size<=30:=by rw[oC];exact Yf T 30
   clear oC;go_wp2_with (refine aJ rfl 40 (.tmp 6) rfl nb rfl #[.int .u8 tk,.int .u64 (wd st 0).toNat,.int .u64 (wd st 1).toNat,.int .u64 (wd st 2).toNat,.int .u64 (wd st 3).toNat,.int .i64 tn,.int .i64 tx,.slice tp nl tc] _ BN.range Tryz.underlying40 rfl (cO _ _ _ _ _) ?_);refine CF.mono ?_;rintro e w4 ⟨rfl,hx4⟩;have B4:=hid (B3.below hx4 B3.lt);have P4:=hid (P3.below hx4);have X4:=hid (X3.trans (hx4.mono X3.size));have N4:=hid (BN.below hx4 BN.lt);have XW4:=hid (XW3.trans (hx4.mono XW3.size));have HT4:Hid (aH (fun x=>wo.heap.size<=x/\x<w4.heap.size) w4 (.agg (aj tk st tn tx (.slice tp nl tc))) T):=hid ((HT3.keeps (ae.ai hx4 fun _ h=>h:ae (· <V2.heap.size) V2 w4) fun x hx=>hx.2).mono fun x hx=>⟨hx.1,aw hx.2 hx4.size⟩);clear hx4 CF B3 P3 X3 BN XW3 HT3;by_cases hq:fr<=30
   ·have YY:(fr:Int)<=30:=by omega
    have Yl:Hid (mkK (l.take (k+1))=mkK (l.take k)++ [Mg (ss,fl)]):=hid (by rw[jg.out,if_pos (QU.1 hq)]);clear jg QU;obtain⟨bg,hbg⟩:=ah ((fl%4==3));obtain⟨en,hen⟩:=ah ((fl%5==4));have q1:((fl:Int)%4==3)=bg:=by rw[hbg,Bool.eq_iff_iff];simp;omega
    have q2:((fl:Int)%5==4)=en:=by rw[hen,Bool.eq_iff_iff];simp;omega
    rw[<-hbg, <-hen]at Zg;clear hbg hen;have d1:w4.cell? ⟨wo.heap.size,1,none⟩=some (.int .u8 fl):=B4.cell 1;go_wp2_with (first | (refine aJ rfl 40 (.tmp 6) rfl nb rfl #[.int .u8 tk,.int .u64 (wd st 0).toNat,.int .u64 (wd st 1).toNat,.int .u64 (wd st 2).toNat,.int .u64 (wd st 3).toNat,.int .i64 tn,.int .i64 tx,.slice tp nl tc] _ N4.range Tryz.underlying40 rfl (cO _ _ _ _ _) ?_) | (at_builtin;refine lR rfl ?_));refine hid ?_;refine gP ?_;intro W5 UX;have R5:Hid (aq W5 w4.heap.size #[.bool bg,.bool en,.int .u8 tk,.int .u64 (wd st 0).toNat,.int .u64 (wd st 1).toNat,.int .u64 (wd st 2).toNat,.int .u64 (wd st 3).toNat,.int .i64 tn,.int .i64 tx,.slice tp nl tc] 42):=by rw[UX];exact hid (aq.new _ _ _)
    have E5:Hid (aa w4 W5):=by rw[UX];exact hid ((Ext.refl _).alloc _).below
    clear UX d1 q1 q2;have X5:Hid (aa w W5):=hid (X4.trans (E5.mono X4.size));have P5:=hid (P4.below E5);have ag8:w.heap.size<=W5.heap.size:=X5.size;have HT5:Hid (aH (fun x=>wo.heap.size<=x/\x<W5.heap.size) W5 (.agg (aj tk st tn tx (.slice tp nl tc))) T):=hid ((HT4.keeps (ae.ai E5 fun _ h=>h:ae (· <w4.heap.size) w4 W5) fun x hx=>hx.2).mono fun x hx=>⟨hx.1,aw hx.2 E5.size⟩);clear P4 E5 HT4 N4 B4 X4 XW4;obtain⟨F,cs,g1,g2,g3⟩:=P5.out;rw[<-HM.out]at g1;have G1:=hid g1;have G2:=hid g2;have G3:=hid g3;clear g1 g2 g3 P5
    refine wpList_append_own_at _ rfl (.tmp 23) (.tmp 34) 24 rfl w.heap.size 42 iP (.agg #[.bool false,.bool false,.int .u8 0,.int .u64 0,.int .u64 0,.int .u64 0,.int .u64 0,.int .i64 0,.int .i64 0,.slice none 0 0]) 10 88 Tryz.underlying24 YS Kg Kh Oq rfl (by decide) _ _ _ rfl G1 ⟨w4.heap.size,0,none⟩ 1 1 (mE bg en tk st tn tx (.slice tp nl tc)).toList rfl rfl (bQ R5) (by
     intro u hu;unfold mE at hu;simp only[List.mem_cons,List.not_mem_nil,or_false]at hu
     rcases hu with rfl | rfl | rfl | rfl | rfl | rfl | rfl | rfl | rfl | rfl<;>rfl) (by unfold maxLen;omega) (by omega) ag8 ?_
    intro v' w6 hown' hgrow hh hat;obtain⟨T4,T5,rfl⟩:=ownsRow_form hown'
    have P6:Hid (dH w.heap.size w6 (.slice T4 (m+1) T5) (mkK (l.take k)++ [Mg (ss,fl)])):=hid (by
     rw[Zg.out];obtain⟨k1,k2,k3,k4,k5⟩:=HEQ.out;have h9:=HT5.out;subst k1 k2 k3 k4 k5;refine dH.more (r:=⟨bg,en,T⟩) (by rw[<-HM.out];exact G1) G2 G3 h9 (fun x hx=>⟨hx.2,fun e=>?_⟩) hgrow (by rw[<-HM.out];exact hown') hat
     have:=BR.out x e;omega)
    have X6:Hid (aa w w6):=hid (X5.trans ((Below.refl _ _).grown hgrow X5.size (fun c e=>(G1.lt c e).1)));clear hown' hgrow hh hat;go_wp2;go_roundw;case rel=>
     refine⟨k+1,by omega,by go_num,?_,X6⟩;rw[Yl.out];exact P6
    case measure=>simp[intOf];omega
   ·have YY:¬ (fr:Int)<=30:=by omega
    have Yl:Hid (mkK (l.take (k+1))=mkK (l.take k)):=hid (by rw[jg.out,if_neg (fun h=>hq (QU.2 h)),List.append_nil]);go_wp2;go_roundw;case rel=>
     refine⟨k+1,by omega,by go_num,?_,X4⟩;rw[Yl.out];exact P4
    case measure=>simp[intOf];omega
  ·obtain rfl:k=N:=by omega
   have yQ:¬ ((k:Int)<k):=by omega
   have uF:Hid (dH w.heap.size wo _ (ui l)):=hid (by rw[YU.out];exact HI);clear HI;obtain⟨pa,pc,rfl⟩:=uF.form;go_wp2;exact bodyPost_ret (v:=.slice pa (ui l).length pc) (by simp[results,Tryz.results6,go_sem]) rfl ⟨_,rfl,uF,HX⟩
theorem Hy (p:Option Addr) (c:Nat) (w:World): ag 6 #[.slice p 0 c] w fun e w'=>∃ u,e=.returned u/\dH w.heap.size w' u (ui [])/\aa w w':=by
 go_enter Tryz.func6,Tryz.ntmps6
 have lS:min (0:Int) 5=0:=by decide
 go_wp2;go_loopw [3,13] (fun pv iv wr=>pv=.slice none 0 0/\iv=.int .i64 0/\wr=w) (fun _ _ _=>0);case atStart=>exact⟨rfl,rfl,rfl⟩
 case round=>
  obtain⟨rfl,rfl,rfl⟩:=hrel;go_wp2;refine bodyPost_ret (results_tmp rfl _ _ _) rfl ⟨_,rfl,dH.nil _ _,Below.refl _ _⟩
theorem Hz (v:Value) (l:List (List (Nat×Nat×Nat)×Nat)) (iG:l.length<=1000000000000000) (w:World) (h:zA w v l): ag 6 #[v] w fun e w'=>∃ u,e=.returned u/\dH w.heap.size w' u (ui l)/\aa w w':=by
 rcases h with⟨p,c,rfl,rfl⟩ | ⟨b,off,c,rfl,hb,hc,_,h⟩
 ·exact Hy p c w
 ·exact EW b off c l w hb hc iG h
end
end Go.Proofs.YtpcmhjbehdgdbaaGreatDoor
