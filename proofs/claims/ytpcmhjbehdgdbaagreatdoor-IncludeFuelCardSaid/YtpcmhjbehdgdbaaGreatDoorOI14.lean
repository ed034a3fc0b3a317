/- include.automaton: the part of a rule, and the automaton of the rules that an iterator yields. -/
import Derived.Test.YtpcmhjbehdgdbaaGreatDoorOI13
set_option maxRecDepth 100000
set_option maxHeartbeats 16000000
open Go.Lib (hid)
namespace Go.Proofs.YtpcmhjbehdgdbaaGreatDoor
section
open Go Go.RowKit Go.Shelf Go.Maps
attribute [local go_sem] Oper.semAt_some eU cJ
theorem Bg (v:Value) (t:RX) (hs:t.size<=10000) (w:World) (h:aH (· <w.heap.size) w v t): ag 60 #[v] w fun e w'=>e=.returned (.int .i64 (nC t.pre))/\aa w w':=by
 have CL:Hid (∀ W,aa w W->ag 86 #[v] W fun e w'=>e=.returned (.bool true)/\aa W w'):=hid fun W hW=>kX v t hs W ((h.eK hW).mono fun b hb=>aw hb hW.size)
 obtain⟨xs,hmap,ik,hseq⟩:=kW w.heap.size t (by omega) v w h (aD _);obtain⟨p,c,rfl⟩:=h.form;have hlen:xs.length<=10000:=by
  have e:xs.length=t.pre.length:=by rw[<-hmap,bp]
  rw[e,AQ];exact hs
 have wC:=hid fun W B=>hseq W B _ rfl
 have ue:=hid ik;rw[<-hmap];clear hseq ik hmap h hs;refine bG Tryz.func60 rfl ?_;simp only[Tryz.ntmps60,List.size_toArray,List.length_cons,List.length_nil,Nat.reduceAdd,Nat.reduceSub,Array.replicate_succ,Array.replicate_zero,List.push_toArray,List.append_toArray,List.nil_append,List.cons_append,aj]at CL ⊢;go_wp2_with fail
 refine aK ?_;intro V hV;have B1:Hid (aq V w.heap.size (aj t.kind t.set t.mn t.mx (.slice p t.subs.length c)) 40):=by rw[hV];exact hid (aq.new _ _ _)
 have X1:Hid (aa w V):=by rw[hV];exact hid ((Ext.refl _).alloc _).below
 clear hV;refine(CL V X1).mono ?_;rintro e w1 ⟨rfl,hx⟩;have B2:=hid (B1.below hx B1.lt);have X2:=hid (X1.trans (hx.mono X1.size));have Lr:w.heap.size<w1.heap.size:=B2.lt;clear hx B1 X1 CL;obtain⟨b0,b1,b2,b3,b4,b5,b6,b7⟩:=(show _/\_/\_/\_/\_/\_/\_/\_ from⟨(B2.alloc (.cells #[.int .i64 0] 3 (0,0))).cell 0,(B2.alloc (.cells #[.int .i64 0] 3 (0,0))).cell 1,(B2.alloc (.cells #[.int .i64 0] 3 (0,0))).cell 2,(B2.alloc (.cells #[.int .i64 0] 3 (0,0))).cell 3,(B2.alloc (.cells #[.int .i64 0] 3 (0,0))).cell 4,(B2.alloc (.cells #[.int .i64 0] 3 (0,0))).cell 5,(B2.alloc (.cells #[.int .i64 0] 3 (0,0))).cell 6,(B2.alloc (.cells #[.int .i64 0] 3 (0,0))).cell 7⟩);simp only[aj,List.getElem?_toArray,List.getElem?_cons_zero,List.getElem?_cons_succ]at b0 b1 b2 b3 b4 b5 b6 b7;go_wp2_with (go_at_call 87;refine(iu _ _).mono ?_;rintro e w9 ⟨rfl,rfl⟩);refine ax ?_;intro W0 hW0;have h1:aq W0 w1.heap.size #[.int .i64 ((nC (([]:List (Value×RX)).map Prod.snd):Nat))] 3:=by rw[hW0];exact(aq.new _ _ _).alloc _
 have h3:aq W0 (w1.heap.size+1) (aj t.kind t.set t.mn t.mx (.slice p t.subs.length c)) 40:=by rw[hW0];exact(aq.new _ _ _).at (by simp)
 have hx:aa w W0:=by rw[hW0];exact X2.trans (((Ext.refl w1).alloc _).alloc _ |>.below.mono X2.size)
 have hsz:W0.heap.size=w1.heap.size+1+1:=by rw[hW0];simp
 clear hW0 b0 b1 b2 b3 b4 b5 b6 b7;have MP:∀ k,(k<w.heap.size\/k=w1.heap.size+1)->k<W0.heap.size:=fun k hk=>by rcases hk with hk | hk<;>omega
 refine kB (w:=W0) (d:=true) (wC W0 _ (ae.ai hx fun _ h=>h) h3) (by rfl) jn (by intro _;rfl) MP
  (fun ys _ W=>aq W w1.heap.size #[.int .i64 ((nC (ys.map Prod.snd):Nat))] 3/\aa w W)
  (fun _ _ _ _=>False)
  (fun ys T T' W W' ⟨h1,h3⟩ hT Iy hs hn hk=>⟨h1.gT hT hk (by omega),dc h3 hT hk (aD _) (by omega)⟩)
  (fun c ys T T' W W' h=>h.elim)
  ⟨h1,hx⟩
  (fun z T W=>∃ b9:Nat,z.2.2= {tmps:= #[.agg (aj t.kind t.set t.mn t.mx (.slice p t.subs.length c)),.pointer (some ⟨w.heap.size,0,none⟩),.int .i64 0,.pointer (some ⟨w1.heap.size,0,none⟩),.pointer (some ⟨b9,0,none⟩),.agg (aj t.kind t.set t.mn t.mx (.slice p t.subs.length c)),.bool true,.bool false,.agg (aj t.kind t.set t.mn t.mx (.slice p t.subs.length c)),.func (.func 115) #[] #[.pointer (some ⟨w1.heap.size+1,0,none⟩)],z.2.1.1,undef,undef,undef,undef,undef,undef],defers:=[]} /\W0.heap.size<=b9/\b9<W.heap.size/\¬T b9/\(∃ c,z.2.1.1=.agg c/\aq W b9 c 40)/\aq W w1.heap.size #[.int .i64 ((nC (z.1.map Prod.snd):Nat))] 3/\aa w W)
  ?hIa ?assign ?body ?done ?stop
 case hIa=>
  rintro⟨pre,x,a1⟩ T T' W W' ⟨b9,e1,e2,e3,e4,⟨c,e5,e6⟩,e7,e8⟩ h1 h2 h3 h4 h5;have hs:=h5.size;refine⟨b9,e1,e2,by omega,fun h=>?_,⟨c,e5,e6.keeps h5.keeps ⟨e3,e4⟩⟩,e7.gT h1 h5 (by omega),dc e8 h1 h5 (aD _) (by omega)⟩;rcases h4 b9 h with h | h
  ·exact e4 h
  ·omega
 case assign=>
  rintro lr pre ⟨xv,xt⟩ T W hp hT hk ⟨i1,i2⟩;have hx:=ue.out (xv,xt) (hp.subset (by simp));obtain⟨p9,c9,e9⟩:=hx.form;dsimp only at e9;subst e9;have I1:=hid i1;have I2:=hid i2;have HT:=hid hT;have HK:=hid hk;clear i1 i2 hT hx hp hk h3 h1;dsimp only[aj,xX]
  gi_wp2
  have xo:W0.heap.size<=W.heap.size:=HK.size;refine⟨((ae.refl _ _).alloc (fun j hj=>?_) _),W.heap.size,rfl,xo,by simp,fun h=>by have:=(HT.out _ h).2;omega,⟨_,rfl,aq.new _ _ _⟩,I1.alloc _,I2.alloc I2.size _⟩;rcases hj with hj | hj
  ·have:=MP j hj;omega
  ·exact(HT j hj).2
 case body=>
  rintro lr pre ⟨xv,xt⟩ T a1 W hp hT hk rE lh ⟨b9,e1,e2,e3,e4,⟨c9,e5,e6⟩,e7,e8⟩;have Jh:=hp.subset (show(xv,xt)∈pre++ [(xv,xt)] by simp);have hx:=ue.out (xv,xt) Jh;obtain⟨p9,cp9,e9⟩:=hx.form;have hle:pre.length+1<=10000:=by
   have hle:=hp.length_le;rw[aQ]at hle;simp only[List.length_cons,List.length_nil]at hle;omega
  dsimp only at e1 e5 e9;rw[e5]at e9;injection e9 with e9
  subst e1 e5 e9;dsimp only at e7;obtain⟨g,hg⟩:=ah (nC (pre.map Prod.snd));have VU:g+1<=10000:=by
   have:=TW (pre.map Prod.snd);rw[bp]at this;omega
  have HG:Hid (nC ((pre++ [(Value.agg (aj xt.kind xt.set xt.mn xt.mx (.slice p9 xt.subs.length cp9)),xt)]).map Prod.snd)=g+if xt.kind=6 then 1 else 0):=hid (by rw[List.map_append,List.map_cons,List.map_nil,zB,hg]);rw[<-hg]at e7;have ew:IntKind.i64.wrap ((g:Int)+1)=(g:Int)+1:=IntWalk.i64_in _ (by omega);have E7:=hid e7;have E8:=hid e8;have HT:=hid hT;have jV:=hid hsz;have c1:W.cell? ⟨w1.heap.size,0,none⟩=some (.int .i64 g):=e7.cell 0;have f1:=e7.frozen 0;have b0:W.cell? ⟨b9,0,none⟩=some (.int .u8 xt.kind):=e6.cell 0;obtain⟨q,hq⟩:=ah (((xt.kind:Int)==6));have tq:((xt.kind:Int)==6)=q:=hq.symm;have HQ:=hid hq;clear e7 e6 e8 hx hp lh rE hT h3 h1 Jh hk hg hq hsz hle hlen;cases q with
  | false=>
   have h6:¬xt.kind=6:=fun e=>by have:=HQ.out;rw[e]at this;simp at this
   gi_wp2
   refine⟨ae.refl _ _,?_,E8⟩;rw[HG.out,if_neg h6];exact E7
  | true=>
   have h6:xt.kind=6:=by have:=HQ.symm;simp at this;omega
   gi_wp2
   refine⟨((ae.refl _ _).setCell (fun h=>?_) _),?_,E8.setCell (by simp;omega) _⟩
   ·have h2:=jV.out
    rcases h with(h | h) | h
    ·dsimp only at h;omega
    ·dsimp only at h;omega
    ·have h1:=(HT.out _ h).1;dsimp only at h1;omega
   ·rw[HG.out,if_pos h6]
    exact E7.set 0 _
 case done=>
  rintro D T W hD rJ hT ⟨h1,hx⟩ jN;have c1:W.cell? ⟨w1.heap.size,0,none⟩=some (.int .i64 ((nC (xs.map Prod.snd):Nat))):=h1.cell 0;have HX:=hid hx;have HS:=hid hsz;have HD:=hid hD;have oD:=hid jN;clear h1 hx rJ hsz hT jN hD;dsimp only;go_wp2;refine cB rfl oD (results_tmp rfl _ _ _) ⟨rfl,((ae.ai HX fun _ h=>h).putObj (by have h1:=HD.out;have h2:=HS.out;omega) _).below⟩
 case stop=>rintro D c pre T W _ _ _ _ h _;exact h.elim
end
section
open Go Go.RowKit Go.Shelf Go.Maps
def mE (b e:Bool) (k:Nat) (s:BS) (mn mx:Int) (a:Value):Array Value:= #[.bool b,.bool e,.int .u8 k,.int .u64 (wd s 0).toNat,.int .u64 (wd s 1).toNat,.int .u64 (wd s 2).toNat,.int .u64 (wd s 3).toNat,.int .i64 mn,.int .i64 mx,a]
def cF (F:Nat->Prop) (w:World) (v:Value) (r:RL):Prop:=∃ p c,v=.agg (mE r.bg r.en r.tr.kind r.tr.set r.tr.mn r.tr.mx (.slice p r.tr.subs.length c))/\
 aH F w (.agg (aj r.tr.kind r.tr.set r.tr.mn r.tr.mx (.slice p r.tr.subs.length c))) r.tr
theorem cF.keeps {F R:Nat->Prop} {w w':World} (hk:ae R w w') (hR:∀ b,F b->R b) {v:Value} {r:RL} (h:cF F w v r):cF F w' v r:=by obtain⟨p,c,e,h⟩:=h;exact⟨p,c,e,h.keeps hk hR⟩
theorem cF.mono {F F':Nat->Prop} {w:World} (hF:∀ b,F b->F' b) {v:Value} {r:RL} (h:cF F w v r):cF F' w v r:=by obtain⟨p,c,e,h⟩:=h;exact⟨p,c,e,h.mono hF⟩
theorem EF (v:Value) (r:RL) (w:World) (h:cF (· <w.heap.size) w v r) (hf:r.tr.fine) (hs:r.tr.size<=120) (hp:r.tr.bZ<=400) (hg:r.tr.gg<=9): ag 40 #[v] w fun e w'=>e=.returned (.int .i64 0)/\aa w w':=by
 obtain⟨p,c,rfl,h⟩:=h;obtain⟨b,en,t⟩:=r;dsimp only at h hf hs hp hg ⊢;obtain⟨v,hv⟩:=ah (Value.agg (aj t.kind t.set t.mn t.mx (.slice p t.subs.length c)));rw[<-hv]at h;have CC:Hid (∀ W,aa w W->ag 57 #[v] W fun e w'=>e=.returned (.bool true)/\aa W w'):=hid fun W hW=>tG v t hf (by omega) W ((h.eK hW).mono fun b hb=>aw hb hW.size)
 have CS:Hid (∀ W,aa w W->ag 58 #[v] W fun e w'=>e=.returned (.int .i64 t.size)/\aa W w'):=hid fun W hW=>wD v t (by omega) W ((h.eK hW).mono fun b hb=>aw hb hW.size)
 have CP:Hid (∀ W,aa w W->ag 59 #[v] W fun e w'=>e=.returned (.int .i64 t.bZ)/\aa W w'):=hid fun W hW=>mh v t (by omega) W ((h.eK hW).mono fun b hb=>aw hb hW.size)
 have CG:Hid (∀ W,aa w W->ag 60 #[v] W fun e w'=>e=.returned (.int .i64 t.gg)/\aa W w'):=hid fun W hW=>by
  have:=Bg v t (by omega) W ((h.eK hW).mono fun b hb=>aw hb hW.size);rw[QH]at this;exact this
 rw[hv]at CC CS CP CG;obtain⟨k,hk⟩:=ah t.kind;obtain⟨sz,hsz⟩:=ah t.size;obtain⟨ps,JG⟩:=ah t.bZ;obtain⟨gs,hgs⟩:=ah t.gg;obtain⟨nl,gW⟩:=ah t.subs.length;obtain⟨st,hst⟩:=ah t.set;obtain⟨tn,jP⟩:=ah t.mn;obtain⟨tx,lO⟩:=ah t.mx;rw[<-hk, <-gW, <-hst, <-jP, <-lO]at CC CS CP CG ⊢;rw[<-hsz]at CS hs;rw[<-JG]at CP hp;rw[<-hgs]at CG hg;clear h hv hf hk hsz JG hgs gW hst jP lO v t;unfold aj at CC CS CP CG;unfold mE;have hs9:¬ ((120:Int)<sz):=by omega
 have hp9:¬ ((400:Int)<ps):=by omega
 have VU:¬ ((9:Int)<gs):=by omega
 go_enter Tryz.func40,Tryz.ntmps40
 go_upto_region 1 with fail
 refine ax ?_;intro V hV;have B1:Hid (aq V w.heap.size #[.bool b,.bool en,.int .u8 k,.int .u64 (wd st 0).toNat,.int .u64 (wd st 1).toNat,.int .u64 (wd st 2).toNat,.int .u64 (wd st 3).toNat,.int .i64 tn,.int .i64 tx,.slice p nl c] 42):=by rw[hV];exact hid (aq.new w _ _)
 have HX:Hid (aa w V):=by rw[hV];exact hid ((Ext.refl w).alloc _).below
 clear hV;have e0:V.cell? ⟨w.heap.size,0,none⟩=some (.bool b):=B1.cell 0;have e1:V.cell? ⟨w.heap.size,1,none⟩=some (.bool en):=B1.cell 1;have e2:V.cell? ⟨w.heap.size,2,none⟩=some (.int .u8 k):=B1.cell 2;have e3:V.cell? ⟨w.heap.size,3,none⟩=some (.int .u64 (wd st 0).toNat):=B1.cell 3;have e4:V.cell? ⟨w.heap.size,4,none⟩=some (.int .u64 (wd st 1).toNat):=B1.cell 4;have e5:V.cell? ⟨w.heap.size,5,none⟩=some (.int .u64 (wd st 2).toNat):=B1.cell 5;have e6:V.cell? ⟨w.heap.size,6,none⟩=some (.int .u64 (wd st 3).toNat):=B1.cell 6;have e7:V.cell? ⟨w.heap.size,7,none⟩=some (.int .i64 tn):=B1.cell 7;have e8:V.cell? ⟨w.heap.size,8,none⟩=some (.int .i64 tx):=B1.cell 8;have e9:V.cell? ⟨w.heap.size,9,none⟩=some (.slice p nl c):=B1.cell 9;go_wp2_with fail
 refine(CC V HX).mono ?_;rintro e V1 ⟨rfl,hx⟩;have B1:=hid (B1.below hx B1.lt);have HX:=hid (HX.trans (hx.mono HX.size));clear hx e0 e1 e2 e3 e4 e5 e6 e7 e8 e9 CC;have e0:V1.cell? ⟨w.heap.size,0,none⟩=some (.bool b):=B1.cell 0;have e1:V1.cell? ⟨w.heap.size,1,none⟩=some (.bool en):=B1.cell 1;have e2:V1.cell? ⟨w.heap.size,2,none⟩=some (.int .u8 k):=B1.cell 2;have e3:V1.cell? ⟨w.heap.size,3,none⟩=some (.int .u64 (wd st 0).toNat):=B1.cell 3;have e4:V1.cell? ⟨w.heap.size,4,none⟩=some (.int .u64 (wd st 1).toNat):=B1.cell 4;have e5:V1.cell? ⟨w.heap.size,5,none⟩=some (.int .u64 (wd st 2).toNat):=B1.cell 5;have e6:V1.cell? ⟨w.heap.size,6,none⟩=some (.int .u64 (wd st 3).toNat):=B1.cell 6;have e7:V1.cell? ⟨w.heap.size,7,none⟩=some (.int .i64 tn):=B1.cell 7;have e8:V1.cell? ⟨w.heap.size,8,none⟩=some (.int .i64 tx):=B1.cell 8;have e9:V1.cell? ⟨w.heap.size,9,none⟩=some (.slice p nl c):=B1.cell 9;go_wp2_with fail
 refine(CS V1 HX).mono ?_;rintro e V2 ⟨rfl,hx⟩;have B1:=hid (B1.below hx B1.lt);have HX:=hid (HX.trans (hx.mono HX.size));clear hx e0 e1 e2 e3 e4 e5 e6 e7 e8 e9 CS;have e0:V2.cell? ⟨w.heap.size,0,none⟩=some (.bool b):=B1.cell 0;have e1:V2.cell? ⟨w.heap.size,1,none⟩=some (.bool en):=B1.cell 1;have e2:V2.cell? ⟨w.heap.size,2,none⟩=some (.int .u8 k):=B1.cell 2;have e3:V2.cell? ⟨w.heap.size,3,none⟩=some (.int .u64 (wd st 0).toNat):=B1.cell 3;have e4:V2.cell? ⟨w.heap.size,4,none⟩=some (.int .u64 (wd st 1).toNat):=B1.cell 4;have e5:V2.cell? ⟨w.heap.size,5,none⟩=some (.int .u64 (wd st 2).toNat):=B1.cell 5;have e6:V2.cell? ⟨w.heap.size,6,none⟩=some (.int .u64 (wd st 3).toNat):=B1.cell 6;have e7:V2.cell? ⟨w.heap.size,7,none⟩=some (.int .i64 tn):=B1.cell 7;have e8:V2.cell? ⟨w.heap.size,8,none⟩=some (.int .i64 tx):=B1.cell 8;have e9:V2.cell? ⟨w.heap.size,9,none⟩=some (.slice p nl c):=B1.cell 9;go_wp2_with fail
 refine(CP V2 HX).mono ?_;rintro e V3 ⟨rfl,hx⟩;have B1:=hid (B1.below hx B1.lt);have HX:=hid (HX.trans (hx.mono HX.size));clear hx e0 e1 e2 e3 e4 e5 e6 e7 e8 e9 CP;have e0:V3.cell? ⟨w.heap.size,0,none⟩=some (.bool b):=B1.cell 0;have e1:V3.cell? ⟨w.heap.size,1,none⟩=some (.bool en):=B1.cell 1;have e2:V3.cell? ⟨w.heap.size,2,none⟩=some (.int .u8 k):=B1.cell 2;have e3:V3.cell? ⟨w.heap.size,3,none⟩=some (.int .u64 (wd st 0).toNat):=B1.cell 3;have e4:V3.cell? ⟨w.heap.size,4,none⟩=some (.int .u64 (wd st 1).toNat):=B1.cell 4;have e5:V3.cell? ⟨w.heap.size,5,none⟩=some (.int .u64 (wd st 2).toNat):=B1.cell 5;have e6:V3.cell? ⟨w.heap.size,6,none⟩=some (.int .u64 (wd st 3).toNat):=B1.cell 6;have e7:V3.cell? ⟨w.heap.size,7,none⟩=some (.int .i64 tn):=B1.cell 7;have e8:V3.cell? ⟨w.heap.size,8,none⟩=some (.int .i64 tx):=B1.cell 8;have e9:V3.cell? ⟨w.heap.size,9,none⟩=some (.slice p nl c):=B1.cell 9;go_wp2_with fail
 refine(CG V3 HX).mono ?_;rintro e V4 ⟨rfl,hx⟩;have B1:=hid (B1.below hx B1.lt);have HX:=hid (HX.trans (hx.mono HX.size));clear hx e0 e1 e2 e3 e4 e5 e6 e7 e8 e9 CG;go_wp2_with fail
 exact bodyPost_ret (results_tmp rfl _ _ _) rfl ⟨rfl,HX⟩
def bN (F:Nat->Prop) (w:World) (v:Value) (l:List RL):Prop:=∃ p cap,v=.slice p l.length cap/\l.length<=cap/\∀ (i:Nat) (r:RL),l[i]? =some r->∃ b off p' c',p=some ⟨b,off,none⟩/\F b/\b<w.heap.size/\
 (∀ (j:Nat) (u:Value),(mE r.bg r.en r.tr.kind r.tr.set r.tr.mn r.tr.mx (.slice p' r.tr.subs.length c'))[j]? =some u->w.cell? ⟨b,off+i*10+j,none⟩=some u)/\
 aH F w (.agg (aj r.tr.kind r.tr.set r.tr.mn r.tr.mx (.slice p' r.tr.subs.length c'))) r.tr
theorem bN.keeps {F R:Nat->Prop} {w w':World} (hk:ae R w w') (hR:∀ b,F b->R b) {v:Value} {l:List RL} (h:bN F w v l):bN F w' v l:=by obtain⟨p,cap,e,hc,h⟩:=h;refine⟨p,cap,e,hc,fun i r hi=>?_⟩;obtain⟨b,off,p',c',ep,hF,hb,hcs,hx⟩:=h i r hi;exact⟨b,off,p',c',ep,hF,aw hb hk.size,fun j u hj=>(hk.cell (p:=⟨b,off+i*10+j,none⟩) (hR b hF)).trans (hcs j u hj),hx.keeps hk hR⟩
theorem bN.mono {F F':Nat->Prop} {w:World} (hF:∀ b,F b->F' b) {v:Value} {l:List RL} (h:bN F w v l):bN F' w v l:=by obtain⟨p,cap,e,hc,h⟩:=h;refine⟨p,cap,e,hc,fun i r hi=>?_⟩;obtain⟨b,off,p',c',ep,h1,hb,hcs,hx⟩:=h i r hi;exact⟨b,off,p',c',ep,hF b h1,hb,hcs,hx.mono hF⟩
theorem bN.eK {n:Nat} {w w':World} {v:Value} {l:List RL} (h:bN (· <n) w v l) (hk:Below n w w'):bN (· <n) w' v l:=h.keeps (ae.ai hk fun _ h=>h) fun _ h=>h
theorem bN.elem {F:Nat->Prop} {w:World} {p:Option Addr} {n cap:Nat} {l:List RL} (h:bN F w (.slice p n cap) l) {i:Nat} {r:RL} (hi:l[i]? =some r): ∃ b off p' c',p=some ⟨b,off,none⟩/\F b/\b<w.heap.size/\ (w.cell? ⟨b,off+i*10,none⟩=some (.bool r.bg)/\w.cell? ⟨b,off+i*10+1,none⟩=some (.bool r.en)/\w.cell? ⟨b,off+i*10+2,none⟩=some (.int .u8 r.tr.kind)/\w.cell? ⟨b,off+i*10+3,none⟩=some (.int .u64 (wd r.tr.set 0).toNat)/\w.cell? ⟨b,off+i*10+4,none⟩=some (.int .u64 (wd r.tr.set 1).toNat)/\w.cell? ⟨b,off+i*10+5,none⟩=some (.int .u64 (wd r.tr.set 2).toNat)/\w.cell? ⟨b,off+i*10+6,none⟩=some (.int .u64 (wd r.tr.set 3).toNat)/\w.cell? ⟨b,off+i*10+7,none⟩=some (.int .i64 r.tr.mn)/\w.cell? ⟨b,off+i*10+8,none⟩=some (.int .i64 r.tr.mx)/\w.cell? ⟨b,off+i*10+9,none⟩=some (.slice p' r.tr.subs.length c'))/\ cF F w (.agg (mE r.bg r.en r.tr.kind r.tr.set r.tr.mn r.tr.mx (.slice p' r.tr.subs.length c'))) r:=by
 obtain⟨p0,Yg,e,hc,h⟩:=h;obtain⟨b,off,p',c',ep,hF,hb,hcs,hx⟩:=h i r hi;injection e with e1 e2 e3
 subst e1;exact⟨b,off,p',c',ep,hF,hb,⟨hcs 0 _ rfl,hcs 1 _ rfl,hcs 2 _ rfl,hcs 3 _ rfl,hcs 4 _ rfl,hcs 5 _ rfl,hcs 6 _ rfl,hcs 7 _ rfl,hcs 8 _ rfl,hcs 9 _ rfl⟩,p',c',rfl,hx⟩
def RL.Rt (r:RL) (x:Bool):Prop:=(x=false/\r.tr.fine/\r.tr.size<=120/\r.tr.bZ<=400/\r.tr.gg<=9)\/(x=true/\∃ k,(k=0\/k=2\/k=3)/\r.tr=.nd k 0 0 0 [])
theorem nE (g:Nat) (lb:Array Value) (f:RL->Bool) (v:Value) (l:List RL) (w:World) (n0:Nat) (h0:n0<=w.heap.size) (h:bN (· <n0) w v l) (hn:l.length<=1000000) (eg:∀ args w,(callFunc g args).run Tryz.prog w=.ok (.enter g args) w) (hf:∀ r∈l,∀ u W,aa w W->cF (· <n0) W u r->ag g (#[u]++lb) W fun e w'=>e=.returned (.bool (f r))/\aa W w'): ag 29 #[v,.func (.func g) #[] lb] w fun e w'=>e=.returned (.int .i64 (dW f l))/\aa w w':=by
 obtain⟨a,cap,rfl,jW,h9⟩:=id h;obtain⟨n,ot⟩:=ah l.length;rw[<-ot]at h hn ⊢;have H:=hid h;have HN:=hid ot;have HF:=hid hf;obtain⟨r,hr⟩:=ah (dW f l);rw[<-hr];have HR:=hid hr;clear h ot hf hr h9 jW;go_enter Tryz.func29,Tryz.ntmps29;go_wp2;go_loopw [8] (fun i wr=>∃ k:Nat,k<=n/\i=.int .i64 k/\(∀ s∈l.take k,f s=false)/\aa w wr) (fun i _=>n-(intOf i).toNat);case atStart=>exact⟨0,by omega,rfl,fun s hs=>by simp at hs,Below.refl _ _⟩
 case round=>
  obtain⟨k,hk,rfl,ha,hx⟩:=hrel;obtain⟨wo,rfl⟩:=ah (wr:World);have HX:=hid hx;have HA:=hid ha;clear hx ha;by_cases hlt:k<n
  ·obtain⟨s,hs⟩:∃ s,l[k]? =some s:=⟨_,aC (by have:=HN.out;omega)⟩
   obtain⟨b,off,p',c',ep,Tt,hb,⟨q0,q1,q2,q3,q4,q5,q6,q7,q8,q9⟩,Io⟩:=(H.eK (HX.mono h0)).elem hs;subst ep;have Mv:=hid (HF.out s (aA hs) _ wo HX Io);unfold mE at Mv;have HS:=hid hs;have eT:(k:Int)<n:=by omega
   obtain⟨b1,hb1⟩:=ah (f s);rw[<-hb1]at Mv;have pV:=hid hb1;clear hb1 hs Io;cases b1 with
   | true=>
    have gN:=hid (HR.trans (j4 HS pV.symm HA));go_wp2_with fail
    refine Mv.mono ?_;rintro e w2 ⟨rfl,hx⟩;have eW:=hid (HX.trans (hx.mono HX.size));clear hx;go_wp2;go_ret;exact⟨by rw[gN.out];rfl,eW⟩
   | false=>
    go_wp2_with fail
    refine Mv.mono ?_;rintro e w2 ⟨rfl,hx⟩;have eW:=hid (HX.trans (hx.mono HX.size));clear hx;go_wp2;go_roundw;case rel=>exact⟨k+1,by omega,by go_num,nM HS pV.symm HA,eW⟩
    case measure=>simp[intOf];omega
  ·obtain rfl:k=n:=by omega
   have gN:=hid (HR.trans (j5 fun y hy=>HA y (by rw[HN.out,List.take_length];exact hy)));have eT:¬ ((k:Int)<k):=by omega
   go_wp2;go_ret;exact⟨by rw[gN.out];rfl,HX⟩
theorem qZ (g:Nat) (lb:Array Value) (f:RL->Bool) (v:Value) (l:List RL) (w:World) (n0:Nat) (h0:n0<=w.heap.size) (h:bN (· <n0) w v l) (hn:l.length<=1000000) (eg:∀ args w,(callFunc g args).run Tryz.prog w=.ok (.enter g args) w) (hf:∀ r∈l,∀ u W,aa w W->cF (· <n0) W u r->ag g (#[u]++lb) W fun e w'=>e=.returned (.bool (f r))/\aa W w'): ag 38 #[v,.func (.func g) #[] lb] w fun e w'=>e=.returned (.bool (l.any f))/\aa w w':=by have HI:=hid (nE g lb f v l w n0 h0 h hn eg hf);rw[<-lD];obtain⟨a,cap,rfl,_⟩:=h;clear hf eg;generalize dW f l=z at HI ⊢;generalize l.length=m at HI hn ⊢;go_enter Tryz.func38,Tryz.ntmps38;go_wp2_with (go_at_call 29;refine HI.mono ?_;rintro e w2 ⟨rfl,hx⟩;have HX:=hid hx;clear hx);go_ret;exact⟨rfl,HX⟩
theorem EG (n0:Nat) (v:Value) (k:Nat) (hk:k=0\/k=2\/k=3) (w:World) (h:aH (· <n0) w v (.nd k 0 0 0 [])): ag 88 #[v] w fun e w'=>e=.returned (.bool false)/\aa w w':=by
 obtain⟨p,c,rfl⟩:=h.form;have heq:=lN 0;rw[show((0:BS)==0)=true from rfl]at heq;simp only[RX.kind,RX.set,RX.mn,RX.mx,RX.subs,List.length_nil]at h ⊢;obtain⟨s,hs⟩:=ah (0:BS);rw[<-hs]at heq ⊢;clear h hs;unfold aj;rcases hk with rfl | rfl | rfl
 ·go_enter Tryz.func88,Tryz.ntmps88
  go_wp2;go_ret;exact⟨rfl,((Ext.refl _).alloc _).below⟩
 ·go_enter Tryz.func88,Tryz.ntmps88
  go_wp2;go_ret;exact⟨rfl,((Ext.refl _).alloc _).below⟩
 ·go_enter Tryz.func88,Tryz.ntmps88
  go_wp2;go_ret;exact⟨rfl,((Ext.refl _).alloc _).below⟩
attribute [local go_sem] Oper.semAt_some eU cJ
theorem EH (v:Value) (k:Nat) (hk:k=0\/k=2\/k=3) (w:World) (h:aH (· <w.heap.size) w v (.nd k 0 0 0 [])): ag 57 #[v] w fun e w'=>e=.returned (.bool false)/\aa w w':=by
 obtain⟨t,ht⟩:=ah (.nd k 0 0 0 []:RX);rw[<-ht]at h;have hs:t.size<=10000:=by rw[ht,RX.size,RX.sizes];omega
 have bF:t.pre=[t]:=by rw[ht];rfl
 have CL:Hid (∀ W,aa w W->ag 86 #[v] W fun e w'=>e=.returned (.bool true)/\aa W w'):=hid fun W hW=>kX v t hs W ((h.eK hW).mono fun b hb=>aw hb hW.size)
 obtain⟨xs,hmap,ik,hseq⟩:=kW w.heap.size t (by omega) v w h (aD _);obtain⟨p,c,rfl⟩:=h.form;have CR:Hid (∀ x∈xs,∀ W,ae (· <w.heap.size) w W->ag 88 #[x.1] W fun e w'=>e=.returned (.bool false)/\aa W w'):=hid fun x hx W hW=>by
  have hp:x.2∈t.pre:=by rw[<-hmap];exact List.mem_map_of_mem hx
  rw[bF,List.mem_singleton]at hp;have h9:=(ik x hx).kept hW;rw[hp,ht]at h9;exact EG w.heap.size x.1 k hk W h9
 have HNE:=hid (show xs≠[] from fun e=>by rw[e,bF]at hmap;cases hmap);have wC:=hid fun W B=>hseq W B _ rfl
 have ue:=hid ik;clear hseq ik hmap h hs bF ht hk;refine bG Tryz.func57 rfl ?_;simp only[Tryz.ntmps57,List.size_toArray,List.length_cons,List.length_nil,Nat.reduceAdd,Nat.reduceSub,Array.replicate_succ,Array.replicate_zero,List.push_toArray,List.append_toArray,List.nil_append,List.cons_append,aj]at CL ⊢;go_wp2_with fail
 refine aK ?_;intro V hV;have B1:Hid (aq V w.heap.size (aj t.kind t.set t.mn t.mx (.slice p t.subs.length c)) 40):=by rw[hV];exact hid ((aq.new _ _ _).alloc _)
 have R1:Hid (aq V (w.heap.size+1) #[.bool false] 4):=by rw[hV];exact hid ((aq.new (w.alloc _) _ _).at (by simp))
 have X1:Hid (aa w V):=by rw[hV];exact hid (((Ext.refl _).alloc _).alloc _).below
 clear hV;refine(CL V X1).mono ?_;rintro e w1 ⟨rfl,hx⟩;have B2:=hid (B1.below hx B1.lt);have R2:=hid (R1.below hx R1.lt);have X2:=hid (X1.trans (hx.mono X1.size));have Lr:w.heap.size+1<w1.heap.size:=R2.lt;clear hx B1 X1 R1 CL;obtain⟨b0,b1,b2,b3,b4,b5,b6,b7⟩:=(show _/\_/\_/\_/\_/\_/\_/\_ from⟨B2.cell 0,B2.cell 1,B2.cell 2,B2.cell 3,B2.cell 4,B2.cell 5,B2.cell 6,B2.cell 7⟩);simp only[aj,List.getElem?_toArray,List.getElem?_cons_zero,List.getElem?_cons_succ]at b0 b1 b2 b3 b4 b5 b6 b7;go_wp2_with (go_at_call 87;refine(iu _ _).mono ?_;rintro e w9 ⟨rfl,rfl⟩);refine ax ?_;intro W0 hW0;have h1:aq W0 (w.heap.size+1) #[.bool false] 4:=by rw[hW0];exact R2.alloc _
 have h3:aq W0 w1.heap.size (aj t.kind t.set t.mn t.mx (.slice p t.subs.length c)) 40:=by rw[hW0];exact aq.new _ _ _
 have hx:aa w W0:=by rw[hW0];exact X2.trans (((Ext.refl w1).alloc _).below.mono X2.size)
 have hsz:W0.heap.size=w1.heap.size+1:=by rw[hW0];simp
 clear hW0 b0 b1 b2 b3 b4 b5 b6 b7;have MP:∀ k,(k<w.heap.size\/k=w1.heap.size)->k<W0.heap.size:=fun k hk=>by rcases hk with hk | hk<;>omega
 refine kB (w:=W0) (d:=true) (wC W0 _ (ae.ai hx fun _ h=>h) h3) (by rfl) jn (by intro _;rfl) MP
  (fun ys _ W=>ys=[]/\aq W (w.heap.size+1) #[.bool false] 4/\aa w W)
  (fun c _ _ W=>c=.ret/\aq W (w.heap.size+1) #[.bool false] 4/\aa w W)
  (fun ys T T' W W' ⟨h0,h1,h3⟩ hT Iy hs hn hk=>⟨h0,h1.gT hT hk (by omega),dc h3 hT hk (aD _) (by omega)⟩)
  (fun c ys T T' W W' ⟨h0,h1,h3⟩ hT Iy hs hn hk=>⟨h0,h1.gT hT hk (by omega),dc h3 hT hk (aD _) (by omega)⟩)
  ⟨rfl,h1,hx⟩
  (fun z T W=>∃ b9:Nat,z.2.2= {tmps:= #[.agg (aj t.kind t.set t.mn t.mx (.slice p t.subs.length c)),.pointer (some ⟨w.heap.size,0,none⟩),.pointer (some ⟨w.heap.size+1,0,none⟩),.pointer (some ⟨b9,0,none⟩),.agg (aj t.kind t.set t.mn t.mx (.slice p t.subs.length c)),.bool true,.bool false,.agg (aj t.kind t.set t.mn t.mx (.slice p t.subs.length c)),.func (.func 115) #[] #[.pointer (some ⟨w1.heap.size,0,none⟩)],z.2.1.1,undef,undef,undef],defers:=[]} /\W0.heap.size<=b9/\b9<W.heap.size/\¬T b9/\(∃ c,z.2.1.1=.agg c/\aq W b9 c 40)/\z.1=[]/\aq W (w.heap.size+1) #[.bool false] 4/\aa w W)
  ?hIa ?assign ?body ?done ?stop
 case hIa=>
  rintro⟨pre,x,a1⟩ T T' W W' ⟨b9,e1,e2,e3,e4,⟨c,e5,e6⟩,e70,e7,e8⟩ h1 h2 h3 h4 h5;have hs:=h5.size;refine⟨b9,e1,e2,by omega,fun h=>?_,⟨c,e5,e6.keeps h5.keeps ⟨e3,e4⟩⟩,e70,e7.gT h1 h5 (by omega),dc e8 h1 h5 (aD _) (by omega)⟩;rcases h4 b9 h with h | h
  ·exact e4 h
  ·omega
 case assign=>
  rintro lr pre ⟨xv,xt⟩ T W hp hT hk ⟨i0,i1,i2⟩;have hx:=ue.out (xv,xt) (hp.subset (by simp));obtain⟨p9,c9,e9⟩:=hx.form;dsimp only at e9;subst e9;have I1:=hid i1;have I2:=hid i2;have HT:=hid hT;have HK:=hid hk;clear i1 i2 hT hx hp hk h3 h1;dsimp only[aj,xX]
  gi_wp2
  have xo:W0.heap.size<=W.heap.size:=HK.size;refine⟨((ae.refl _ _).alloc (fun j hj=>?_) _),W.heap.size,rfl,xo,by simp,fun h=>by have:=(HT.out _ h).2;omega,⟨_,rfl,aq.new _ _ _⟩,i0,I1.alloc _,I2.alloc I2.size _⟩;rcases hj with hj | hj
  ·have:=MP j hj;omega
  ·exact(HT j hj).2
 case body=>
  rintro lr pre ⟨xv,xt⟩ T a1 W hp hT hk rE lh ⟨b9,e1,e2,e3,e4,⟨c9,e5,e6⟩,e70,e7,e8⟩;have Jh:=hp.subset (show(xv,xt)∈pre++ [(xv,xt)] by simp);have hx:=ue.out (xv,xt) Jh;obtain⟨p9,cp9,e9⟩:=hx.form;dsimp only at e1 e5 e9;rw[e5]at e9;injection e9 with e9
  subst e1 e5 e9;have C1:=hid (CR.out _ Jh W (ae.ai e8 fun _ h=>h));have E7:=hid e7;have E8:=hid e8;have HT:=hid hT;obtain⟨b0,b1,b2,b3,b4,b5,b6,b7⟩:=(show _/\_/\_/\_/\_/\_/\_/\_ from⟨e6.cell 0,e6.cell 1,e6.cell 2,e6.cell 3,e6.cell 4,e6.cell 5,e6.cell 6,e6.cell 7⟩);simp only[aj,List.getElem?_toArray,List.getElem?_cons_zero,List.getElem?_cons_succ]at b0 b1 b2 b3 b4 b5 b6 b7;dsimp only[aj]at C1;clear e7 e6 e8 hx hp lh rE hT h3 h1 Jh hk
  gi_wp2_with (gi_at_call 88;refine(CallsIn.inRound lr (callsIn_wide.2 C1)).mono ?_;rintro e w2 ⟨rfl,hx⟩;have eW:=hid hx;clear hx;have f1:=(E7.below eW E7.lt).frozen 0;have q1:w2.cell? ⟨w.heap.size+1,0,none⟩=some (.bool false):=(E7.below eW E7.lt).cell 0)
  have hs2:=E8.size;refine⟨(ae.ai eW fun j hj=>?_).setCell (fun h=>?_) _,rfl,(E7.below eW E7.lt).set 0 _,(E8.trans (eW.mono hs2)).setCell (by simp) _⟩
  ·exact(HT j hj).2
  ·have h1:=(HT.out _ h).1;dsimp only at h1;omega
 case done=>rintro D T W _ _ _ ⟨h0,_⟩ _;exact absurd h0 HNE
 case stop=>
  rintro D c pre T W hD rJ hT bF ⟨rfl,i1,hx⟩ jN;have HX:=hid hx;have I1:=hid i1;have c1:W.cell? ⟨w.heap.size+1,0,none⟩=some (.bool false):=i1.cell 0;have HD:=hid hD;have oD:=hid jN;clear hx rJ hT jN hD i1 bF;dsimp only;go_wp2;have hne:w.heap.size+1≠D:=by have:=HD.out;omega
  have m0:(W.putObj D (.deferred none)).cell? ⟨w.heap.size+1,0,none⟩=some (.bool false):=(sJ oD rfl rfl _).trans c1;refine cB rfl oD (v:=.bool false) (by simp[results,Tryz.results57,go_sem,m0]) ⟨rfl,?_⟩;exact((ae.ai HX fun _ h=>h).putObj (by have h1:=HD.out;omega) _).below
end
section
open Go Go.RowKit Go.Shelf Go.Maps
theorem EI (v:Value) (r:RL) (w:World) (h:cF (· <w.heap.size) w v r) (k0:Nat) (BH:k0=0\/k0=2\/k0=3) (ht:r.tr=.nd k0 0 0 0 []): ag 40 #[v] w fun e w'=>e=.returned (.int .i64 80)/\aa w w':=by
 obtain⟨p,c,rfl,h⟩:=h;obtain⟨b,en,t⟩:=r;dsimp only at h ht ⊢
 have CC:Hid (∀ W,aa w W->ag 57 #[Value.agg (aj t.kind t.set t.mn t.mx (.slice p t.subs.length c))] W fun e w'=>e=.returned (.bool false)/\aa W w'):=hid fun W hW=>EH _ k0 BH W (by
  have h9:=(h.eK hW).mono fun b hb=>aw hb hW.size
  generalize (Value.agg (aj t.kind t.set t.mn t.mx (.slice p t.subs.length c)))=v at h9 ⊢;rw[ht]at h9
  exact h9)
 obtain⟨k,hk⟩:=ah t.kind;obtain⟨nl,gW⟩:=ah t.subs.length;obtain⟨st,hst⟩:=ah t.set;obtain⟨tn,jP⟩:=ah t.mn;obtain⟨tx,lO⟩:=ah t.mx;rw[<-hk, <-gW, <-hst, <-jP, <-lO]at CC ⊢;clear hk gW hst jP lO;clear h ht t BH;unfold aj at CC;unfold mE;go_enter Tryz.func40,Tryz.ntmps40;go_upto_region 1 with fail
 refine ax ?_;intro V hV;have B1:Hid (aq V w.heap.size #[.bool b,.bool en,.int .u8 k,.int .u64 (wd st 0).toNat,.int .u64 (wd st 1).toNat,.int .u64 (wd st 2).toNat,.int .u64 (wd st 3).toNat,.int .i64 tn,.int .i64 tx,.slice p nl c] 42):=by rw[hV];exact hid (aq.new w _ _)
 have HX:Hid (aa w V):=by rw[hV];exact hid ((Ext.refl w).alloc _).below
 clear hV;have e0:V.cell? ⟨w.heap.size,0,none⟩=some (.bool b):=B1.cell 0;have e1:V.cell? ⟨w.heap.size,1,none⟩=some (.bool en):=B1.cell 1;have e2:V.cell? ⟨w.heap.size,2,none⟩=some (.int .u8 k):=B1.cell 2;have e3:V.cell? ⟨w.heap.size,3,none⟩=some (.int .u64 (wd st 0).toNat):=B1.cell 3;have e4:V.cell? ⟨w.heap.size,4,none⟩=some (.int .u64 (wd st 1).toNat):=B1.cell 4;have e5:V.cell? ⟨w.heap.size,5,none⟩=some (.int .u64 (wd st 2).toNat):=B1.cell 5;have e6:V.cell? ⟨w.heap.size,6,none⟩=some (.int .u64 (wd st 3).toNat):=B1.cell 6;have e7:V.cell? ⟨w.heap.size,7,none⟩=some (.int .i64 tn):=B1.cell 7;have e8:V.cell? ⟨w.heap.size,8,none⟩=some (.int .i64 tx):=B1.cell 8;have e9:V.cell? ⟨w.heap.size,9,none⟩=some (.slice p nl c):=B1.cell 9;go_wp2_with fail
 refine(CC V HX).mono ?_;rintro e V1 ⟨rfl,hx⟩;have HX:=hid (HX.trans (hx.mono HX.size));clear hx e0 e1 e2 e3 e4 e5 e6 e7 e8 e9 CC B1;go_wp2_with fail
 exact bodyPost_ret (results_tmp rfl _ _ _) rfl ⟨rfl,HX⟩
theorem TX:∀ args w,(callFunc 39 args).run Tryz.prog w=.ok (.enter 39 args) w:=enters_of Tryz.func39 (by kernel_rfl) rfl
theorem xd (v:Value) (r:RL) (x:Bool) (w:World) (n0:Nat) (h0:n0<=w.heap.size) (h:cF (· <n0) w v r) (hx:r.Rt x): ag 39 #[v] w fun e w'=>e=.returned (.bool x)/\aa w w':=by
 obtain⟨z,hz,hzx⟩:∃ z:Int,(∀ W,aa w W->ag 40 #[v] W fun e w'=>e=.returned (.int .i64 z)/\aa W w')/\(z != 0)=x:=by
  have hW:∀ W,aa w W->cF (· <W.heap.size) W v r:=fun W hW=>(h.keeps (ae.ai hW fun _ h=>h) fun b (hb:b<n0)=>(aw hb h0:b<w.heap.size)).mono fun b (hb:b<n0)=>(aw hb (Nat.le_trans h0 hW.size):b<W.heap.size)
  rcases hx with⟨rfl,h1,h2,h3,h4⟩ | ⟨rfl,k,hk,ht⟩
  ·exact⟨0,fun W h9=>EF v r W (hW W h9) h1 h2 h3 h4,rfl⟩
  ·exact⟨80,fun W h9=>EI v r W (hW W h9) k hk ht,rfl⟩
 obtain⟨p,c,rfl,hrx⟩:=h;obtain⟨b,en,t⟩:=r;dsimp only at hz ⊢;have CC:=hid hz;clear hz;obtain⟨k,hk⟩:=ah t.kind;obtain⟨nl,gW⟩:=ah t.subs.length;obtain⟨st,hst⟩:=ah t.set;obtain⟨tn,jP⟩:=ah t.mn;obtain⟨tx,lO⟩:=ah t.mx;rw[<-hk, <-gW, <-hst, <-jP, <-lO]at CC ⊢;clear hk gW hst jP lO;clear hx hrx t;unfold mE at CC ⊢;have HZ:=hid hzx;clear hzx;go_enter Tryz.func39,Tryz.ntmps39;go_upto_region 1 with fail
 refine ax ?_;intro V hV;have B1:Hid (aq V w.heap.size #[.bool b,.bool en,.int .u8 k,.int .u64 (wd st 0).toNat,.int .u64 (wd st 1).toNat,.int .u64 (wd st 2).toNat,.int .u64 (wd st 3).toNat,.int .i64 tn,.int .i64 tx,.slice p nl c] 42):=by rw[hV];exact hid (aq.new w _ _)
 have HX:Hid (aa w V):=by rw[hV];exact hid ((Ext.refl w).alloc _).below
 clear hV;have e0:V.cell? ⟨w.heap.size,0,none⟩=some (.bool b):=B1.cell 0;have e1:V.cell? ⟨w.heap.size,1,none⟩=some (.bool en):=B1.cell 1;have e2:V.cell? ⟨w.heap.size,2,none⟩=some (.int .u8 k):=B1.cell 2;have e3:V.cell? ⟨w.heap.size,3,none⟩=some (.int .u64 (wd st 0).toNat):=B1.cell 3;have e4:V.cell? ⟨w.heap.size,4,none⟩=some (.int .u64 (wd st 1).toNat):=B1.cell 4;have e5:V.cell? ⟨w.heap.size,5,none⟩=some (.int .u64 (wd st 2).toNat):=B1.cell 5;have e6:V.cell? ⟨w.heap.size,6,none⟩=some (.int .u64 (wd st 3).toNat):=B1.cell 6;have e7:V.cell? ⟨w.heap.size,7,none⟩=some (.int .i64 tn):=B1.cell 7;have e8:V.cell? ⟨w.heap.size,8,none⟩=some (.int .i64 tx):=B1.cell 8;have e9:V.cell? ⟨w.heap.size,9,none⟩=some (.slice p nl c):=B1.cell 9;go_wp2_with fail
 refine(CC V HX).mono ?_;rintro e V1 ⟨rfl,hx⟩;have HX:=hid (HX.trans (hx.mono HX.size));clear hx e0 e1 e2 e3 e4 e5 e6 e7 e8 e9 CC B1;go_wp2_with fail
 exact bodyPost_ret (results_tmp rfl _ _ _) rfl ⟨by rw[<-HZ.out];rfl,HX⟩
theorem yf (v:Value) (l:List RL) (f:RL->Bool) (w:World) (n0:Nat) (h0:n0<=w.heap.size) (h:bN (· <n0) w v l) (hn:l.length<=1000000) (hf:∀ r∈l,r.Rt (f r)): ag 21 #[v] w fun e w'=>e=.returned (.int .i64 (if 64<l.length then 5 else if l.any f then 200 else 0))/\aa w w':=by
 have CC:=hid (qZ 39 #[] f v l w n0 h0 h hn TX fun r hr u W hW hu=>xd u r (f r) W n0 (Nat.le_trans h0 hW.size) hu (hf r hr));obtain⟨p,cap,rfl,_⟩:=h;obtain⟨n,hn⟩:=ah l.length;obtain⟨x,hx⟩:=ah (l.any f);rw[<-hn, <-hx]at CC ⊢;clear hn hx hf;by_cases h9:64<n
 ·have hi:(64:Int)<n:=by omega
  rw[if_pos h9];clear h9 CC;go_enter Tryz.func21,Tryz.ntmps21;go_wp2_with fail
  exact bodyPost_ret (results_tmp rfl _ _ _) rfl ⟨rfl,Below.refl _ _⟩
 ·have hi:¬ (64:Int)<n:=by omega
  rw[if_neg h9];clear h9;go_enter Tryz.func21,Tryz.ntmps21;go_wp2_with fail
  refine CC.mono ?_;rintro e w1 ⟨rfl,hb⟩;have HB:=hid hb;clear hb CC;cases x
  ·go_wp2_with fail
   exact bodyPost_ret (results_tmp rfl _ _ _) rfl ⟨rfl,HB⟩
  ·go_wp2_with fail
   exact bodyPost_ret (results_tmp rfl _ _ _) rfl ⟨rfl,HB⟩
def Jp (w:World) (b o:Nat) (r:RL) (a:Value):Prop:=
 w.cell? ⟨b,o,none⟩=some (.bool r.bg)/\w.cell? ⟨b,o+1,none⟩=some (.bool r.en)/\w.cell? ⟨b,o+2,none⟩=some (.int .u8 r.tr.kind)/\w.cell? ⟨b,o+3,none⟩=some (.int .u64 (wd r.tr.set 0).toNat)/\w.cell? ⟨b,o+4,none⟩=some (.int .u64 (wd r.tr.set 1).toNat)/\w.cell? ⟨b,o+5,none⟩=some (.int .u64 (wd r.tr.set 2).toNat)/\w.cell? ⟨b,o+6,none⟩=some (.int .u64 (wd r.tr.set 3).toNat)/\w.cell? ⟨b,o+7,none⟩=some (.int .i64 r.tr.mn)/\w.cell? ⟨b,o+8,none⟩=some (.int .i64 r.tr.mx)/\w.cell? ⟨b,o+9,none⟩=some a
theorem bN.vals {F:Nat->Prop} {w:World} {p:Option Addr} {n cap:Nat} {l:List RL} (h:bN F w (.slice p n cap) l): ∃ xs:List (Value×RL),xs.map (·.2)=l/\(∀ x∈xs,cF F w x.1 x.2)/\∀ (i:Nat) (x:Value×RL),xs[i]? =some x->∃ b off p' c',p=some ⟨b,off,none⟩/\F b/\b<w.heap.size/\x.1=.agg (mE x.2.bg x.2.en x.2.tr.kind x.2.tr.set x.2.tr.mn x.2.tr.mx (.slice p' x.2.tr.subs.length c'))/\Jp w b (off+i*10) x.2 (.slice p' x.2.tr.subs.length c'):=by
 have h1:∀ i,∃ v:Value,∀ r,l[i]? =some r->cF F w v r/\∃ b off p' c',p=some ⟨b,off,none⟩/\F b/\b<w.heap.size/\v=.agg (mE r.bg r.en r.tr.kind r.tr.set r.tr.mn r.tr.mx (.slice p' r.tr.subs.length c'))/\Jp w b (off+i*10) r (.slice p' r.tr.subs.length c'):=fun i=>by
  cases hi:l[i]? with
  | none=>exact⟨undef,fun r e=>by cases e⟩
  | some r=>
   obtain⟨b,off,p',c',ep,hF,hb,hc,hr⟩:=h.elem hi;exact⟨_,fun r' e=>by cases e;exact⟨hr,b,off,p',c',ep,hF,hb,rfl,hc⟩⟩
 have⟨f,hf⟩:=Classical.axiomOfChoice h1;refine⟨l.zipIdx.map fun x=>(f x.2,x.1),?_,?_,?_⟩
 ·rw[List.map_map]
  exact List.zipIdx_map_fst 0 l
 ·intro x hx
  obtain⟨i,hi⟩:=List.mem_iff_getElem?.1 hx;rw[bH,List.getElem?_zipIdx]at hi;cases hl:l[i]? with
  | none=>rw[hl]at hi;cases hi
  | some r=>rw[hl]at hi;cases hi;have:=(hf i r hl).1;simpa using this
 ·intro i x hi
  rw[bH,List.getElem?_zipIdx]at hi;cases hl:l[i]? with
  | none=>rw[hl]at hi;cases hi
  | some r=>rw[hl]at hi;cases hi;have:=(hf i r hl).2;simpa using this
theorem Ht (l:List RL) (p:Option Addr) (n cap:Nat) (n0 B:Nat) (w:World) (h0:n0<=w.heap.size) (hn:n=l.length) (pW:n<=1000000) (hB:aq w B #[.slice p n cap] 24) (h:bN (· <n0) w (.slice p n cap) l): ∃ xs:List (Value×RL),xs.map (·.2)=l/\(∀ x∈xs,cF (· <n0) w x.1 x.2)/\Seq true Tryz.prog 45 #[.pointer (some ⟨B,0,none⟩)] (fun x=> #[x.1]) (fun k=>k<n0\/k=B) xs w:=by
 obtain⟨xs,hmap,ik,hcs⟩:=h.vals;refine⟨xs,hmap,ik,?_⟩;intro ly J Jx W hK hJ NC hY hs0;have Ag:n=xs.length:=by rw[hn, <-hmap,bp]
 have c0:W.cell? ⟨B,0,none⟩=some (.slice p n cap):=(hB.keeps hK hB.lt).cell 0;have HY:=hid hY;have HJ:=hid hJ;have HN:=hid Ag;have HK:Hid (ae (· <w.heap.size) w W):=hid hK;have HCS:=hid hcs;have HB:=hid hB.lt;clear hY NC hK hJ hcs ik hmap h hn hB Ag;refine callsIn_wide (n:=0).1 ?_;refine callsIn_of_wp Tryz.func45 rfl trivial ?_ rfl;simp only[Tryz.ntmps45,List.size_toArray,List.length_cons,List.length_nil,Nat.reduceAdd,Nat.reduceSub,Array.replicate_succ,Array.replicate_zero,List.push_toArray,List.append_toArray,List.nil_append,List.cons_append]
 gi_wp2
 gi_loopw [7] (fun i wr=>∃ (k:Nat) (T:Nat->Prop),k<=n/\i=.int .i64 k/\J (xs.take k) T wr/\(∀ k,T k->W.heap.size<=k/\k<wr.heap.size)/\ae (fun k=>k<n0\/k=B) W wr)
  (fun i _=>n-(intOf i).toNat)
 case atStart=>
  exact⟨0,fun _=>False,by omega,rfl,hs0,fun _ h=>h.elim,ae.refl _ _⟩
 case round=>
  clear c0 hs0;obtain⟨wo,rfl⟩:=ah (wr:World);obtain⟨k,T,hk,rfl,hj,hT,hR⟩:=hrel;have Sh:=hid hj;have HT:=hid hT;have HR:=hid hR;clear hj hT hR;by_cases hlt:k<n
  ·obtain⟨⟨xv,r⟩,hx⟩:∃ x,xs[k]? =some x:=⟨_,aC (by have:=HN.out;omega)⟩
   obtain⟨b,off,p',c',ep,Tt,hb,exv,q⟩:=HCS.out k _ hx;dsimp only at exv q Tt;subst ep;have hcell:∀ j,wo.cell? ⟨b,j,none⟩=w.cell? ⟨b,j,none⟩:=fun j=>(HR.cell (p:=⟨b,j,none⟩) (.inl Tt)).trans (HK.cell (p:=⟨b,j,none⟩) hb)
   obtain⟨q0,q1,q2,q3,q4,q5,q6,q7,q8,q9⟩:=q;replace q0:=(hcell _).trans q0;replace q1:=(hcell _).trans q1;replace q2:=(hcell _).trans q2;replace q3:=(hcell _).trans q3;replace q4:=(hcell _).trans q4;replace q5:=(hcell _).trans q5;replace q6:=(hcell _).trans q6;replace q7:=(hcell _).trans q7;replace q8:=(hcell _).trans q8;replace q9:=(hcell _).trans q9;replace hb:b<wo.heap.size:=by have h1:=HR.size;have h2:=HK.size;omega
   have dT:xs.take (k+1)=xs.take k++ [(xv,r)]:=by rw[List.take_add_one,hx];rfl
   have yw:=hid (show xs.take k++ [(xv,r)]<+:xs by rw[<-dT];exact List.take_prefix _ _);have jg:=hid dT;clear hcell hx dT;subst exv;unfold mE at yw jg;have eT:(k:Int)<n:=by omega
   gi_upto_region 3 with fail
   refine oW ?_;intro V hV;have XV:Hid (Ext wo V):=by rw[hV];exact hid ((Ext.refl _).alloc _)
   have BV:Hid (aq V wo.heap.size #[.bool r.bg,.bool r.en,.int .u8 r.tr.kind,.int .u64 (wd r.tr.set 0).toNat,.int .u64 (wd r.tr.set 1).toNat,.int .u64 (wd r.tr.set 2).toNat,.int .u64 (wd r.tr.set 3).toNat,.int .i64 r.tr.mn,.int .i64 r.tr.mx,.slice p' r.tr.subs.length c'] 42):=by rw[hV];exact hid (aq.new _ _ _)
   clear hV q0 q1 q2 q3 q4 q5 q6 q7 q8 q9 hb
   have ZC:ae (fun k=>k<n0\/k=B) W V:=HR.tr (XV.mono fun j hj=>by
    have h1:=HR.size;have h2:=HK.size;have h3:=HB.out
    rcases hj with hj | hj<;>omega)
   have ZE:∀ k,T k->W.heap.size<=k/\k<V.heap.size:=fun j hj=>⟨(HT j hj).1,aw (HT j hj).2 XV.size⟩
   obtain⟨fn,tm,ym,bd,hy,sN⟩:=HY.out (xs.take k) _ T V yw ZE ZC (HJ.ext Sh HT XV);have BQ:=hid sN;have Ad:=hid ZC;have Fx:=hid ZE;clear sN ZC ZE;have e0:=BV.cell 0;have e1:=BV.cell 1;have e2:=BV.cell 2;have e3:=BV.cell 3;have e4:=BV.cell 4;have e5:=BV.cell 5;have e6:=BV.cell 6;have e7:=BV.cell 7;have e8:=BV.cell 8;have e9:=BV.cell 9;simp only[List.getElem?_toArray,List.getElem?_cons_zero,List.getElem?_cons_succ]at e0 e1 e2 e3 e4 e5 e6 e7 e8 e9;dsimp only at hy
   gi_wp2
   refine⟨rfl,BQ.mono ?_⟩;rintro e W2 (⟨rfl,fC,hk2⟩ | ⟨rfl,fC,hk2⟩)
   ·have mD:=hid fC
    have jO:=hid hk2;clear fC hk2 hy e0 e1 e2 e3 e4 e5 e6 e7 e8 e9
    gi_wp2
    go_roundw
    case rel=>
     refine⟨k+1,T,by omega,by go_num,?_,fun j hj=>⟨(Fx j hj).1,aw (Fx j hj).2 jO.size⟩,Ad.tr (jO.mono fun j hj=>.inl hj)⟩;rw[jg.out];exact mD
    case measure=>simp[intOf];omega
   ·have mD:=hid fC
    have jO:=hid hk2;clear fC hk2 hy e0 e1 e2 e3 e4 e5 e6 e7 e8 e9
    gi_wp2
    refine bodyPost_ret (results_none rfl _ _ _) rfl ?_;exact⟨⟨_,rfl⟩,T,fun j hj=>⟨(Fx j hj).1,aw (Fx j hj).2 jO.size⟩,.inr ⟨_,yw,mD⟩⟩
  ·obtain rfl:k=n:=by omega
   have eT:¬ ((k:Int)<k):=by omega
   gi_wp2
   refine bodyPost_end (results_none rfl _ _ _) rfl ?_;refine⟨⟨_,rfl⟩,T,HT,.inl ?_⟩;have:=Sh.out;rwa[HN.out,List.take_length]at this
theorem Bh {α:Type} (g:α->Bool) (l:List α) (k:Nat):(l.take k).filter g<+:l.filter g:=List.IsPrefix.filter g (List.take_prefix k l)
theorem Bi {α:Type} (g:α->Bool) {l:List α} {k:Nat} {x:α} (h:l[k]? =some x):(l.take (k+1)).filter g=(l.take k).filter g++if g x then [x]else []:=by rw[List.take_add_one,h,List.filter_append];show _++List.filter g [x]=_;rw[List.filter_cons,List.filter_nil]
theorem EJ {α β:Type} (f:α->β) (g:β->Bool) (l:List α):(l.filter fun x=>g (f x)).map f=(l.map f).filter g:=by rw[List.filter_map];rfl
theorem Bj (l:List RL) (p:Option Addr) (n cap:Nat) (j:Nat) (rj:RL) (n0 B B2:Nat) (w:World) (h0:n0<=w.heap.size) (hn:n=l.length) (pW:n<=1000000) (hj:l[j]? =some rj) (hB:aq w B #[.slice p n cap] 24) (IK:aq w B2 #[.int .i64 j] 3) (h:bN (· <n0) w (.slice p n cap) l): ∃ xs:List (Value×RL),xs.map (·.2)=kt l rj j/\(∀ x∈xs,cF (· <n0) w x.1 x.2)/\Seq true Tryz.prog 46 #[.pointer (some ⟨B,0,none⟩),.pointer (some ⟨B2,0,none⟩)] (fun x=> #[x.1]) (fun k=>k<n0\/k=B\/k=B2) xs w:=by
 obtain⟨ys,hmap,ik,hcs⟩:=h.vals;obtain⟨ej,uN⟩:=ah rj.en;obtain⟨g,hg⟩:=ah (fun x=>ej || !x.2.en:Value×RL->Bool);refine⟨(ys.take j).filter g,?_,fun x hx=>ik x (List.mem_of_mem_take (List.mem_filter.1 hx).1),?_⟩
 ·rw[hg]
  refine(EJ (fun x:Value×RL=>x.2) (fun q:RL=>ej || !q.en) (ys.take j)).trans ?_;rw[List.map_take,hmap,uN];rfl
 have UI:j<n:=by rw[hn];exact(List.getElem?_eq_some_iff.1 hj).1
 have jW:n<=cap:=by obtain⟨p0,Yg,e,hc,_⟩:=h;injection e with e1 e2 e3;omega
 obtain⟨vj,hvj⟩:∃ v,ys[j]? =some (v,rj):=by
  have h1:(ys.map (·.2))[j]? =some rj:=by rw[hmap];exact hj
  rw[bH]at h1;cases hy:ys[j]? with
  | none=>rw[hy]at h1;cases h1
  | some y=>rw[hy]at h1;cases h1;exact⟨y.1,rfl⟩
 obtain⟨bj,TY,pj,cj,epj,acb,hbj,_,_,qen,_⟩:=hcs j _ hvj;subst epj;dsimp only at qen;rw[<-uN]at qen;intro ly J Jx W hK hJ NC hY hs0;have Ag:n=ys.length:=by rw[hn, <-hmap,bp]
 obtain⟨xs,hxs⟩:=ah (ys.take j);have Zl:j=xs.length:=by rw[hxs,List.length_take];omega
 have uw:=fun (i:Nat) (x:Value×RL) (hi:xs[i]? =some x)=>hcs i x (by rw[hxs,List.getElem?_take]at hi;split at hi;exact hi;cases hi)
 rw[<-hxs]at hY ⊢;have c0:W.cell? ⟨B,0,none⟩=some (.slice (some ⟨bj,TY,none⟩) n cap):=(hB.keeps hK hB.lt).cell 0;have c1:W.cell? ⟨B2,0,none⟩=some (.int .i64 j):=(IK.keeps hK IK.lt).cell 0;have HY:=hid hY;have HJ:=hid hJ;have HN:=hid Zl;have HK:Hid (ae (· <w.heap.size) w W):=hid hK;have HCS:=hid uw;have HB:=hid hB.lt;have fJ:=hid IK.lt;have C0:=hid c0;have C1:=hid c1;have HBJ:=hid acb;have acd:=hid hbj;have QEN:=hid qen;have HG:=hid hg;clear hY NC hK hJ hcs uw ik hmap h hn hB Ag Zl hxs IK hj hvj acb hbj qen hg uN;refine callsIn_wide (n:=0).1 ?_;refine callsIn_of_wp Tryz.func46 rfl trivial ?_ rfl;simp only[Tryz.ntmps46,List.size_toArray,List.length_cons,List.length_nil,Nat.reduceAdd,Nat.reduceSub,Array.replicate_succ,Array.replicate_zero,List.push_toArray,List.append_toArray,List.nil_append,List.cons_append];have Sx:¬ ((j:Int)<0):=by omega
 have Si:¬ ((cap:Int)<j):=by omega
 gi_wp2
 gi_loopw [10] (fun i wr=>∃ (k:Nat) (T:Nat->Prop),k<=j/\i=.int .i64 k/\J ((xs.take k).filter g) T wr/\(∀ k,T k->W.heap.size<=k/\k<wr.heap.size)/\ae (fun k=>k<n0\/k=B\/k=B2) W wr)
  (fun i _=>j-(intOf i).toNat)
 case atStart=>
  exact⟨0,fun _=>False,by omega,rfl,hs0,fun _ h=>h.elim,ae.refl _ _⟩
 case round=>
  clear c0 c1 hs0;obtain⟨wo,rfl⟩:=ah (wr:World);obtain⟨k,T,hk,rfl,hj,hT,hR⟩:=hrel;have Sh:=hid hj;have HT:=hid hT;have HR:=hid hR;clear hj hT hR;by_cases hlt:k<j
  ·obtain⟨⟨xv,r⟩,hx⟩:∃ x,xs[k]? =some x:=⟨_,aC (by have:=HN.out;omega)⟩
   obtain⟨b,off,p',c',ep,Tt,hb,exv,q⟩:=HCS.out k _ hx;injection ep with ep
   injection ep with ep1 ep2
   subst ep1 ep2;dsimp only at exv q;have hcell:∀ i,wo.cell? ⟨bj,i,none⟩=w.cell? ⟨bj,i,none⟩:=fun i=>(HR.cell (p:=⟨bj,i,none⟩) (.inl HBJ)).trans (HK.cell (p:=⟨bj,i,none⟩) acd)
   have Ve:=hid (Bi g hx);have Zm:=hid (Bh g xs (k+1));obtain⟨q0,q1,q2,q3,q4,q5,q6,q7,q8,q9⟩:=q;replace q0:=(hcell _).trans q0;replace q1:=(hcell _).trans q1;replace q2:=(hcell _).trans q2;replace q3:=(hcell _).trans q3;replace q4:=(hcell _).trans q4;replace q5:=(hcell _).trans q5;replace q6:=(hcell _).trans q6;replace q7:=(hcell _).trans q7;replace q8:=(hcell _).trans q8;replace q9:=(hcell _).trans q9;have s0:=(hcell _).trans QEN;have hb:bj<wo.heap.size:=by have h1:=HR.size;have h2:=HK.size;have h3:=acd.out;omega
   clear hcell hx Tt;subst exv;unfold mE at Ve;have eT:(k:Int)<j:=by omega
   gi_upto_region 3 with fail
   refine oW ?_;intro V hV;have XV:Hid (Ext wo V):=by rw[hV];exact hid ((Ext.refl _).alloc _)
   have BV:Hid (aq V wo.heap.size #[.bool r.bg,.bool r.en,.int .u8 r.tr.kind,.int .u64 (wd r.tr.set 0).toNat,.int .u64 (wd r.tr.set 1).toNat,.int .u64 (wd r.tr.set 2).toNat,.int .u64 (wd r.tr.set 3).toNat,.int .i64 r.tr.mn,.int .i64 r.tr.mx,.slice p' r.tr.subs.length c'] 42):=by rw[hV];exact hid (aq.new _ _ _)
   clear hV q0 q1 q2 q3 q4 q5 q6 q7 q8 q9
   have ZC:ae (fun k=>k<n0\/k=B\/k=B2) W V:=HR.tr (XV.mono fun i hi=>by
    have h1:=HR.size;have h2:=HK.size;have h3:=HB.out;have h4:=fJ.out
    rcases hi with hi | hi | hi<;>omega)
   have ZE:∀ k,T k->W.heap.size<=k/\k<V.heap.size:=fun i hi=>⟨(HT i hi).1,aw (HT i hi).2 XV.size⟩
   have HJV:=hid (HJ.ext Sh HT XV);have Ad:=hid ZC;have Fx:=hid ZE;have d0:V.cell? ⟨B,0,none⟩=some (.slice (some ⟨bj,TY,none⟩) n cap):=(Ad.cell (p:=⟨B,0,none⟩) (.inr (.inl rfl))).trans C0;have d1:V.cell? ⟨B2,0,none⟩=some (.int .i64 j):=(Ad.cell (p:=⟨B2,0,none⟩) (.inr (.inr rfl))).trans C1;have d2:V.cell? ⟨bj,TY+j*10+1,none⟩=some (.bool ej):=(XV.cell (p:=⟨bj,TY+j*10+1,none⟩) hb).trans s0;clear ZC ZE s0 hb;have e0:=BV.cell 0;have e1:=BV.cell 1;have e2:=BV.cell 2;have e3:=BV.cell 3;have e4:=BV.cell 4;have e5:=BV.cell 5;have e6:=BV.cell 6;have e7:=BV.cell 7;have e8:=BV.cell 8;have e9:=BV.cell 9;simp only[List.getElem?_toArray,List.getElem?_cons_zero,List.getElem?_cons_succ]at e0 e1 e2 e3 e4 e5 e6 e7 e8 e9;have afq:(j:Int)<n:=by omega
   obtain⟨rb,re,rt⟩:=r;dsimp only at e0 e1 e2 e3 e4 e5 e6 e7 e8 e9 Ve;have Jq:Hid (∀ x,ej=x->∀ y,re=y->(g (Value.agg #[.bool rb,.bool re,.int .u8 rt.kind,.int .u64 (wd rt.set 0).toNat,.int .u64 (wd rt.set 1).toNat,.int .u64 (wd rt.set 2).toNat,.int .u64 (wd rt.set 3).toNat,.int .i64 rt.mn,.int .i64 rt.mx,.slice p' rt.subs.length c'],⟨rb,re,rt⟩)=(x || !y))):=hid fun x hx y hy=>by rw[HG.out,hx,hy]
   by_cases QJ:(ej || !re)=true
   ·have jg:Hid ((xs.take (k+1)).filter g=(xs.take k).filter g++ [(Value.agg #[.bool rb,.bool re,.int .u8 rt.kind,.int .u64 (wd rt.set 0).toNat,.int .u64 (wd rt.set 1).toNat,.int .u64 (wd rt.set 2).toNat,.int .u64 (wd rt.set 3).toNat,.int .i64 rt.mn,.int .i64 rt.mx,.slice p' rt.subs.length c'],⟨rb,re,rt⟩)]):=hid (by rw[Ve.out,Jq.out _ rfl _ rfl,if_pos QJ])
    have yw:=hid (show(xs.take k).filter g++ [_]<+:xs.filter g by rw[<-jg.out];exact Zm);clear Ve Jq Zm BV C0 C1 QEN;cases ej with
    | true=>
     obtain⟨fn,tm,ym,bd,hy,sN⟩:=HY.out ((xs.take k).filter g) _ T V yw Fx Ad HJV;have BQ:=hid sN;clear sN;dsimp only at hy
     gi_wp2
     refine⟨rfl,BQ.mono ?_⟩;rintro e W2 (⟨rfl,fC,hk2⟩ | ⟨rfl,fC,hk2⟩)
     ·have mD:=hid fC
      have jO:=hid hk2;clear fC hk2 hy e0 e1 e2 e3 e4 e5 e6 e7 e8 e9 d0 d1 d2
      gi_wp2
      go_roundw
      case rel=>
       refine⟨k+1,T,by omega,by go_num,?_,fun i hi=>⟨(Fx i hi).1,aw (Fx i hi).2 jO.size⟩,Ad.tr (jO.mono fun i hi=>.inl hi)⟩;rw[jg.out];exact mD
      case measure=>simp[intOf];omega
     ·have mD:=hid fC
      have jO:=hid hk2;clear fC hk2 hy e0 e1 e2 e3 e4 e5 e6 e7 e8 e9 d0 d1 d2
      gi_wp2
      refine bodyPost_ret (results_none rfl _ _ _) rfl ?_;exact⟨⟨_,rfl⟩,T,fun i hi=>⟨(Fx i hi).1,aw (Fx i hi).2 jO.size⟩,.inr ⟨_,yw,mD⟩⟩
    | false=>
     cases re with
     | true=>cases QJ
     | false=>
      obtain⟨fn,tm,ym,bd,hy,sN⟩:=HY.out ((xs.take k).filter g) _ T V yw Fx Ad HJV;have BQ:=hid sN;clear sN;dsimp only at hy
      gi_wp2
      refine⟨rfl,BQ.mono ?_⟩;rintro e W2 (⟨rfl,fC,hk2⟩ | ⟨rfl,fC,hk2⟩)
      ·have mD:=hid fC
       have jO:=hid hk2;clear fC hk2 hy e0 e1 e2 e3 e4 e5 e6 e7 e8 e9 d0 d1 d2
       gi_wp2
       go_roundw
       case rel=>
        refine⟨k+1,T,by omega,by go_num,?_,fun i hi=>⟨(Fx i hi).1,aw (Fx i hi).2 jO.size⟩,Ad.tr (jO.mono fun i hi=>.inl hi)⟩;rw[jg.out];exact mD
       case measure=>simp[intOf];omega
      ·have mD:=hid fC
       have jO:=hid hk2;clear fC hk2 hy e0 e1 e2 e3 e4 e5 e6 e7 e8 e9 d0 d1 d2
       gi_wp2
       refine bodyPost_ret (results_none rfl _ _ _) rfl ?_;exact⟨⟨_,rfl⟩,T,fun i hi=>⟨(Fx i hi).1,aw (Fx i hi).2 jO.size⟩,.inr ⟨_,yw,mD⟩⟩
   ·have jg:Hid ((xs.take (k+1)).filter g=(xs.take k).filter g):=hid (by rw[Ve.out,Jq.out _ rfl _ rfl,if_neg QJ,List.append_nil])
    clear Ve Jq Zm BV C0 C1 QEN;cases ej with
    | true=>exact absurd rfl QJ
    | false=>
     cases re with
     | false=>exact absurd rfl QJ
     | true=>
      gi_wp2
      refine⟨fun f h=>(by cases h),?_⟩
      gi_wp2
      go_roundw
      case rel=>
       refine⟨k+1,T,by omega,by go_num,?_,Fx,Ad⟩;rw[jg.out];exact HJV
      case measure=>simp[intOf];omega
  ·obtain rfl:k=j:=by omega
   have eT:¬ ((k:Int)<k):=by omega
   gi_wp2
   refine bodyPost_end (results_none rfl _ _ _) rfl ?_;refine⟨⟨_,rfl⟩,T,HT,.inl ?_⟩;have:=Sh.out;rwa[HN.out,List.take_length]at this
theorem oT (p:Option Addr) (n cap:Nat) (j:Int) (w:World):ag 26 #[.slice p n cap,.int .i64 j] w fun e w'=>e=.returned (.func (.func 46) #[] #[.pointer (some ⟨w.heap.size,0,none⟩),.pointer (some ⟨w.heap.size+1,0,none⟩)])/\w'=(w.alloc (.cells #[.slice p n cap] 24 (0,0))).alloc (.cells #[.int .i64 j] 3 (0,0)):=by
 go_enter Tryz.func26,Tryz.ntmps26
 go_wp2;go_ret;exact⟨by simp,rfl⟩
theorem tL (p:Option Addr) (n cap:Nat) (w:World):ag 25 #[.slice p n cap] w fun e w'=>e=.returned (.func (.func 45) #[] #[.pointer (some ⟨w.heap.size,0,none⟩)])/\w'=w.alloc (.cells #[.slice p n cap] 24 (0,0)):=by
 go_enter Tryz.func25,Tryz.ntmps25
 go_wp2;go_ret;exact⟨rfl,rfl⟩
theorem Hu (f:Int) (w:World):ag 22 #[.int .i64 f] w fun e w'=>e=.returned (.bool (decide (0<=f)&&decide (f<=4000)))/\aa w w':=by
 by_cases h0:0<=f
 ·by_cases h1:f<=4000
  ·go_enter Tryz.func22,Tryz.ntmps22
   go_wp2;go_ret;exact⟨by simp[h0,h1],Below.refl _ _⟩
  ·go_enter Tryz.func22,Tryz.ntmps22
   go_wp2;go_ret;exact⟨by simp[h1],Below.refl _ _⟩
 ·go_enter Tryz.func22,Tryz.ntmps22
  go_wp2;go_ret;exact⟨by simp;omega,Below.refl _ _⟩
theorem fM.keeps {base:Nat} {w w':World} {v:Value} {a:NF} (h:fM base w v a) {R:Nat->Prop} (hk:ae R w w') (hr:∀ k,base<=k->k<w.heap.size->R k):fM base w' v a:=by obtain⟨v0,v1,v2,v3,e,h0,h1,h2,h3⟩:=h;exact⟨v0,v1,v2,v3,e,au h0 hk fun k e=>hr k (h0.lt k e).1 (h0.lt k e).2,h1.keeps hk hr,au h2 hk fun k e=>hr k (h2.lt k e).1 (h2.lt k e).2,au h3 hk fun k e=>hr k (h3.lt k e).1 (h3.lt k e).2⟩
def T3 (F:Nat->Prop) (base:Nat) (w:World) (v:Value) (a:NF):Prop:=∀ w',ae F w w'->fM base w' v a
theorem T3.keeps {F R:Nat->Prop} {base:Nat} {w w':World} {v:Value} {a:NF} (h:T3 F base w v a) (hk:ae R w w') (hr:∀ k,F k->R k):T3 F base w' v a:=fun w2 h2=>h w2 ((hk.mono hr).tr h2)
theorem T3.mono {F G:Nat->Prop} {base:Nat} {w:World} {v:Value} {a:NF} (h:T3 F base w v a) (hr:∀ k,F k->G k):T3 G base w v a:=fun w2 h2=>h w2 (h2.mono hr)
def nG (T:Nat->Prop) (base:Nat) (w:World) (v:Value) (ps:List PT):Prop:=∃ (F:Nat->Prop) (cs:List Value),w.ownsRow base 101 7 v ps.length cs/\(∀ k,v.ownBlock=some k->¬T k)/\
 (∀ k,F k->base<=k/\k<w.heap.size/\¬T k/\v.ownBlock≠some k)/\∀ (i:Nat) (x:PT),ps[i]? =some x->La (T3 F base) w x fun j=>cs[i*7+j]?
theorem nG.nil (T:Nat->Prop) (base:Nat) (w:World):nG T base w (.slice none 0 0) []:=⟨fun _=>False,[],World.ownsRow_nil _ _ _ _,fun _ h=>(by cases h),fun _ h=>h.elim,fun i x h=>by simp at h⟩
theorem nG.form {T:Nat->Prop} {base:Nat} {w:World} {v:Value} {ps:List PT} (h:nG T base w v ps):∃ a c,v=.slice a ps.length c:=by obtain⟨F,cs,h1,_⟩:=h;exact ownsRow_form h1
theorem nG.pts {T:Nat->Prop} {base:Nat} {w:World} {v:Value} {ps:List PT} (h:nG T base w v ps):jG w v ps:=by obtain⟨F,cs,h1,_,_,h4⟩:=h;exact DR h1 fun i x hx=>(h4 i x hx).mono (fun v hv=>(hv w (ae.refl _ _)).nf) fun _ _ _ hu=>hu
theorem nG.keeps {T T' R:Nat->Prop} {base:Nat} {w w':World} {v:Value} {ps:List PT} (h:nG T base w v ps) (hk:ae R w w') (hr:∀ k,base<=k->k<w.heap.size->¬T k->R k) (hT:∀ k,T' k->T k\/w.heap.size<=k):nG T' base w' v ps:=by
 obtain⟨F,cs,h1,h2,h3,h4⟩:=h;refine⟨F,cs,au h1 hk fun k e=>hr k (h1.lt k e).1 (h1.lt k e).2 (h2 k e),fun k e ht=>?_,fun k hF=>⟨(h3 k hF).1,aw (h3 k hF).2.1 hk.size,fun ht=>?_,(h3 k hF).2.2.2⟩,fun i x hx=>(h4 i x hx).mono (fun v hv=>hv.keeps hk fun k hF=>hr k (h3 k hF).1 (h3 k hF).2.1 (h3 k hF).2.2.1) fun _ _ _ hu=>hu⟩
 ·rcases hT k ht with h | h
  ·exact h2 k e h
  ·have:=(h1.lt k e).2;omega
 ·rcases hT k ht with h | h
  ·exact(h3 k hF).2.2.1 h
  ·have:=(h3 k hF).2.1;omega
theorem nG.more {T F G:Nat->Prop} {base:Nat} {w w':World} {v v' v0 v1 v2 v3:Value} {ps:List PT} {cs:List Value} {x:PT} (h1:w.ownsRow base 101 7 v ps.length cs) (h2:∀ k,v.ownBlock=some k->¬T k) (h3:∀ k,F k->base<=k/\k<w.heap.size/\¬T k/\v.ownBlock≠some k) (h4:∀ (i:Nat) (x:PT),ps[i]? =some x->La (T3 F base) w x fun j=>cs[i*7+j]?) (hn:T3 G base w (.agg #[v0,v1,v2,v3,.bool x.nf.emp]) x.nf) (h5:∀ k,G k->base<=k/\k<w.heap.size/\¬T k/\v.ownBlock≠some k) (hT:∀ k,T k->k<w.heap.size) (hg:w.grownBy w' v.ownBlock) (ho:w'.ownsRow base 101 7 v' (ps.length+1) (cs++Qt v0 v1 v2 v3 x)) (hat:∀ k,v'.ownBlock=some k->v.ownBlock=some k\/w.heap.size<=k):nG T base w' v' (ps++ [x]):=by
 have Cc:ae (fun y=>y<w.heap.size/\v.ownBlock≠some y) w w':=ae.bA hg fun y hy=>⟨hy.1,fun e=>hy.2 e.symm⟩
 have hl:=h1.1;have h6:∀ k,F k\/G k->base<=k/\k<w.heap.size/\¬T k/\v.ownBlock≠some k:=fun k hk=>by
  rcases hk with hk | hk
  ·exact h3 k hk
  ·exact h5 k hk
 refine⟨fun k=>F k\/G k,cs++Qt v0 v1 v2 v3 x,by rw[aQ];exact ho,fun k e ht=>?_,fun k hk=>⟨(h6 k hk).1,aw (h6 k hk).2.1 Cc.size,(h6 k hk).2.2.1,fun e=>?_⟩,fun i y hy=>?_⟩
 ·rcases hat k e with h | h
  ·exact h2 k h ht
  ·have:=hT k ht;omega
 ·rcases hat k e with h | h
  ·exact(h6 k hk).2.2.2 h
  ·have:=(h6 k hk).2.1;omega
 by_cases e:i<ps.length
 ·rw[bJ e]at hy
  exact(h4 i y hy).mono (fun _ hv=>(hv.mono fun _ h=>.inl h).keeps Cc fun k hk=>⟨(h6 k hk).2.1,(h6 k hk).2.2.2⟩) fun j hj u hu=>(TF hl _ hj e).trans hu
 ·have hl2:=(List.getElem?_eq_some_iff.1 hy).1
  rw[aQ,List.length_singleton]at hl2;obtain rfl:i=ps.length:=by omega
  rw[cZ (aD _),Nat.sub_self]at hy;cases hy;refine⟨v0,v1,v2,v3,(hn.mono fun _ h=>.inr h).keeps Cc fun k hk=>⟨(h6 k hk).2.1,(h6 k hk).2.2.2⟩,?_,?_,?_,?_,?_,?_,?_⟩<;>exact Hi hl _
end
end Go.Proofs.YtpcmhjbehdgdbaaGreatDoor
namespace Go.Proofs.YtpcmhjbehdgdbaaGreatDoor.RegZ
open Go Go.RowKit
section
variable {P:Program} {ops:Array Oper} {Q:Exit→Act→World→Prop} {eff:Nat→Bool} {l0:Nat}
theorem yg (Im:kZ ops=true):zH P (Calls P) gz ops eff (wpOpIn (Fence.wide.inRound l0) 0 P ops Q) where
 flt:=fun i o K a w v ho _ hw hf hK=>by
  unfold wpOpIn;simp only[ho,hw,if_true];refine⟨fun f _=>trivial,?_⟩;rw[Oper.semAt_eq _ _ _ (lg Im ho)];unfold aB at hf;rcases hf with hf | ⟨hf,rfl⟩<;>rw[hf]<;>exact hK
 eff:=fun i o K a w ho _ hw he=>by
  unfold wpOpIn;simp only[ho,hw,if_true];refine⟨fun f _=>trivial,?_⟩;rw[Oper.semAt_eq _ _ _ (lg Im ho)];generalize (execOp a.eval o).run P w=r at he;cases r with
  | halt x w=>exact he.elim
  | ok x w=>
   cases x<;>simp only[jo]at he<;>simp only[Oper.uponIn]
   case value v=>exact he
   case skip=>exact he
   case enter f args=>exact⟨fun h=>(by cases h),(callsIn_wide (n:=0)).2 (Calls.mono he fun e w' ⟨v,hv,hK⟩=>by subst hv;exact hK)⟩
   case round=>exact he.elim
 un:=fun i o K a w ho hw hK=>by
  unfold wpOpIn;simp only[ho,hw,Bool.false_eq_true,if_false];exact⟨fun f _=>trivial,hK⟩
 mono:=fun i K K' a w h hS=>wpOpIn_mono h hS
 Nf:=fun post post' r h he=>by
  cases r with
  | halt x w=>exact he.elim
  | ok x w=>
   cases x<;>simp only[jo]at he ⊢
   case value v=>exact h _ _ he
   case skip=>exact h _ _ he
   case enter f args=>exact Calls.mono he fun e w' ⟨v,hv,hK⟩=>⟨v,hv,h _ _ hK⟩
   case round=>exact he
theorem rh {F:Fence} {n:Nat} {md:Region.Mode} :∀ (fuel:Nat) (listed:Array Bool) (a:Act) (w:World),Nd (wpOpIn F n P ops Q) md ops (fun a w=>Q .normal a w) fuel listed a w->wpAnyIn F n P md ops Q fuel listed a w
 | 0,_,_,_,h=>h
 | fuel+1,_,_,_,h=>⟨h.1,fun i hi=>wpOpIn_mono (fun a w h=>rh fuel _ a w h) (h.2 i hi)⟩
theorem tM {F:Fence} {n:Nat} :∀ (l:List Nat) (a:Act) (w:World),wpOpsIn F n P ops Q l a w->sK (wpOpIn F n P ops Q) (fun a w=>Q .normal a w) l a w
 | [],_,_,h=>h
 | i::l,a,w,h=>by
  rw[wpOpsIn_cons]at h;exact wpOpIn_mono (fun a w h=>tM l a w h) h
end
theorem sG {P:Program} {id l0:Nat} {Q:Exit->Act->World->Prop} {a:Act} {w:World} {l:List Oper} (M:World->World->Prop) (hd:M w w.drew) (Np:∀ A B C,M A B->M B C->M A C) (hm:P.follows .mixedOrders=true) (Im:kZ l.toArray=true) (m:Nat) (cr:List Nat) (eff:Nat->Bool) (hB:ki .any l.toArray cr m=true) (on:Nat->Option Tmp) (hz:∀ j,l.toArray.size<=j->on j=none) (hO:RegG.Cq l.toArray cr on=true) (EP:Nat->RegG.aR M) (D:Nat->World->Prop) (ZV:∀ j,j<m->D j w.drew) (al:List Nat) (JL:Nat->Bool) (hA:Nl l.toArray eff al m=true) (hf:∀ j,JL j=al.contains j) (ZN:(∃ j,JL j=true)->∀ A B,M A B->A.heap.size<=B.heap.size) (Fin:List Oper->Act->World->Prop) (hF:∀ r a W,Nn l.toArray al a->Fin r a W->wpListIn (Fence.wide.inRound l0) 0 P l.toArray Q r a W) (h:∀ C:World->Prop,(∀ W,C W↔M w W)->Nonempty {W//C W} ->eJ (gU P (Calls P) gz l.toArray eff (fun i=>cr.getD i 0) on EP C D JL Fin m l 0 [] a)):(Code.region id l.toArray true).wpIn (Fence.wide.inRound l0) 0 P Q a w:=by
 have ok:=yq hB;have h0:M w w.drew:=hd;have hT:=lj m l 0 [] a (h (M w) (fun _=>Iff.rfl) ⟨⟨_,h0⟩⟩).out;have uq:m<=l.length:=by have:=ok.le;simpa using this
 have hbr:∀ u:Nat->Value,(∀ j,(EP j).P (u j))->∃ val,(∀ i,i<m->zI P (Calls P) gz l.toArray eff (fun i=>cr.getD i 0) on EP (M w) D JL a u val i)/\
   ∀ W,M w W->(∀ j,j<m->wantedAt l.toArray a val j->eff j=true->(EP j).H (RegG.eV (on j) (gh l.toArray a val j)) (val j) W)->j3 JL m val->sK (wpOpIn (Fence.wide.inRound l0) 0 P l.toArray Q) (fun a w=>Q .normal a w) (List.range' m (l.toArray.size-m)) (gh l.toArray a val m) W:=fun u hu=>by
  obtain⟨val,h1,h2⟩:=branch (ops:=l.toArray) (m:=m) (a:=a) hu (l.take m) 0 (fun _=>undef) [] (by rw[List.length_take];omega) (fun j hj=>by rw[List.length_take]at hj;simp[List.getElem?_take];omega) (fun x hx=>by cases hx) (fun i hi=>by omega) hT;refine⟨val,h1,fun W hW hN hap=>tM _ _ _ ?_⟩;have:=wpOpsIn_eq_wpListIn (F:=Fence.wide.inRound l0) (n:=0) (P:=P) (ops:=l.toArray) (Q:=Q) (l.drop m) m (fun j=>by simp[List.getElem?_drop]);rw[List.length_drop]at this;simp only[List.size_toArray];rw[this];refine hF _ _ _ (fun i j s t u v hi hj oY hs ht h3 h4 h5 h6=>?_) (h2 W hW hN);have oC:=ok.gh a val m;rw[oC.size]at h3 h4;have VC:=(kC hA i hi).1;have fC:=(kC hA j hj).1;rw[oC.new i s VC hs h3]at h5;rw[oC.new j t fC ht h4]at h6;cases h5;cases h6;exact hap i j VC fC (by rw[hf];exact hi) (by rw[hf];exact hj) oY
 have hno:∀ j,(Array.replicate l.toArray.size false).getD j false=false:=fun j=>by
  rcases Nat.lt_or_ge j l.length with h | h
  ·simp[h]
  ·simp[Nat.not_lt.2 h]
 refine wpIn_region_any hm (rh _ _ _ _ ?_)
 refine Cs (eff:=eff) (on:=on) (EP:=EP) (C:=M w) (D:=D) (al:=JL) (fun i o ho ha=>by
  obtain⟨_,h1,o',Mo,hg⟩:=kC hA i (by rw[<-hf];exact ha);rw[ho]at Mo;cases Mo
  exact⟨h1,fun y=>by unfold Region.wanted;rw[hg]⟩) ZN ok (yg Im) (RegG.Cr hz hO) (fun W W' h h'=>Np _ _ _ h h') (a0:=a) hbr _ _ _ _ (by simp) (by simp) h0 (fun i j hi=>by rw[hno]at hi;cases hi) (fun i _=>hno i) (fun i _ hi=>ZV i hi) ?_
 obtain⟨val,h1,h2⟩:=hbr (fun j=>(EP j).mo) (fun j=>(EP j).pw);exact⟨_,val,fun j=>(EP j).pw,h1,h2,fun j hj=>by(rw[hno]at hj;cases hj),FK.start a _ (fun j hj=>by(rw[hno]at hj;cases hj)),⟨fun j hj=>by(rw[hno]at hj;cases hj),fun j _ hj=>by(rw[hno]at hj;cases hj)⟩⟩
end Go.Proofs.YtpcmhjbehdgdbaaGreatDoor.RegZ
namespace Go.Proofs.YtpcmhjbehdgdbaaGreatDoor
section
open Go Go.RowKit
theorem sH {P:Program} {id l0:Nat} {Q:Exit->Act->World->Prop} {a:Act} {w:World} {l:List Oper} (M:World->World->Prop) (hd:M w w.drew) (Np:∀ A B C,M A B->M B C->M A C) (hm:P.follows .mixedOrders=true) (Im:kZ l.toArray=true) (m:Nat) (cr:List Nat) (eff:Nat->Bool) (hB:ki .any l.toArray cr m=true) (EP:Nat->aR M) (h:∀ C:World->Prop,(∀ W,C W↔M w W)->Nonempty {W//C W} ->eJ (gU P (Calls P) gz l.toArray eff (fun i=>cr.getD i 0) EP C (fun r a W=>wpListIn (Fence.wide.inRound l0) 0 P l.toArray Q r a W) m l 0 [] a)):(Code.region id l.toArray true).wpIn (Fence.wide.inRound l0) 0 P Q a w:=
 RegZ.sG M hd Np hm Im m cr eff hB (fun _=>none) (fun _ _=>rfl) (List.all_eq_true.2 fun _ _=>List.all_eq_true.2 fun _ _=>rfl) (fun i=>RegQ.up (EP i)) (fun _ _=>True) (fun _ _=>trivial) [] (fun _=>false) rfl (fun _=>rfl) (fun h=>by obtain⟨_,h⟩:=h;cases h) _ (fun _ _ _ _ h=>h) fun C hC hne=>⟨(h C hC hne).out⟩
theorem uj {P:Program} {id l0:Nat} {Q:Exit->Act->World->Prop} {a:Act} {w:World} {l:List Oper} (d:Bool) (T:Nat->Prop) (hm:P.follows .mixedOrders=true) (Im:kZ l.toArray=true) (m:Nat) (cr:List Nat) (eff:Nat->Bool) (hB:ki .any l.toArray cr m=true) (EP:Nat->aR (Move d T)) (h:∀ C:World->Prop,(∀ W,C W↔Move d T w W)->Nonempty {W//C W} ->eJ (gU P (Calls P) gz l.toArray eff (fun i=>cr.getD i 0) EP C (fun r a W=>wpListIn (Fence.wide.inRound l0) 0 P l.toArray Q r a W) m l 0 [] a)):(Code.region id l.toArray true).wpIn (Fence.wide.inRound l0) 0 P Q a w:=
 sH (Move d T) (Move.ext (Ext.refl w).drew) (fun _ _ _ h k=>h.trans k) hm Im m cr eff hB EP h
end
section
open Go Go.RowKit Go.Shelf Go.Maps
attribute [local go_sem] Oper.semAt_some eU cJ
theorem aq.Yh {w:World} {b:Nat} {x0 x1 x2 x3 x4 x5 x6:Value} {t:TypeId} (h:aq w b #[x0,x1,x2,x3,x4,x5,x6] t):w.cell? ⟨b,0,none⟩=some x0/\w.cell? ⟨b,1,none⟩=some x1/\w.cell? ⟨b,2,none⟩=some x2/\w.cell? ⟨b,3,none⟩=some x3/\w.cell? ⟨b,4,none⟩=some x4/\w.cell? ⟨b,5,none⟩=some x5/\w.cell? ⟨b,6,none⟩=some x6:=⟨h.cell 0,h.cell 1,h.cell 2,h.cell 3,h.cell 4,h.cell 5,h.cell 6⟩
theorem Hv (v:Value) (r:RL) (tf:r.tr.fine) (ts:r.tr.size<=120) (tp:r.tr.bZ<=400) (w:World) (h:cF (· <w.heap.size) w v r): ag 42 #[v] w fun e w'=>∃ v0 v1 v2 v3,e=.returned (.agg #[v0,v1,v2,v3,.bool r.tr.nf.emp,.bool r.bg,.int .i64 0])/\fM w.heap.size w' (.agg #[v0,v1,v2,v3,.bool r.tr.nf.emp]) r.tr.nf/\aa w w':=by
 obtain⟨p,c,rfl,h⟩:=h;obtain⟨b,en,t⟩:=r;dsimp only at h tf ts tp ⊢;have CN:Hid (∀ W,aa w W->ag 43 #[Value.agg (aj t.kind t.set t.mn t.mx (.slice p t.subs.length c))] W fun e w'=>∃ u,e=.returned (.tuple #[u,.int .i64 0])/\fM W.heap.size w' u t.nf/\aa W w'):=hid fun W hW=>zq _ t W ((h.eK hW).mono fun b hb=>aw hb hW.size) tf ts tp
 obtain⟨nf,ox⟩:=ah t.nf;obtain⟨k,hk⟩:=ah t.kind;obtain⟨nl,gW⟩:=ah t.subs.length;obtain⟨st,hst⟩:=ah t.set;obtain⟨tn,jP⟩:=ah t.mn;obtain⟨tx,lO⟩:=ah t.mx;rw[<-hk, <-gW, <-hst, <-jP, <-lO, <-ox]at CN;rw[<-hk, <-gW, <-hst, <-jP, <-lO, <-ox];clear h ox hk gW hst jP lO tf ts tp t;unfold aj at CN;unfold mE;go_enter Tryz.func42,Tryz.ntmps42;go_upto_region 1 with fail
 refine ax ?_;intro V hV;have B1:Hid (aq V w.heap.size #[.bool b,.bool en,.int .u8 k,.int .u64 (wd st 0).toNat,.int .u64 (wd st 1).toNat,.int .u64 (wd st 2).toNat,.int .u64 (wd st 3).toNat,.int .i64 tn,.int .i64 tx,.slice p nl c] 42):=by rw[hV];exact hid ((aq.new w _ _).alloc _)
 have B2:Hid (aq V (w.heap.size+1) #[.slice none 0 0,.slice none 0 0,.slice none 0 0,.slice none 0 0,.bool false,.bool false,.int .i64 0] 101):=by rw[hV];exact hid ((aq.new (w.alloc _) _ _).at (by simp))
 have HX:Hid (aa w V):=by rw[hV];exact hid (((Ext.refl w).alloc _).alloc _).below
 clear hV;have uH:w.heap.size+1<V.heap.size:=B2.lt;have e2:V.cell? ⟨w.heap.size,2,none⟩=some (.int .u8 k):=B1.cell 2;have e3:V.cell? ⟨w.heap.size,3,none⟩=some (.int .u64 (wd st 0).toNat):=B1.cell 3;have e4:V.cell? ⟨w.heap.size,4,none⟩=some (.int .u64 (wd st 1).toNat):=B1.cell 4;have e5:V.cell? ⟨w.heap.size,5,none⟩=some (.int .u64 (wd st 2).toNat):=B1.cell 5;have e6:V.cell? ⟨w.heap.size,6,none⟩=some (.int .u64 (wd st 3).toNat):=B1.cell 6;have e7:V.cell? ⟨w.heap.size,7,none⟩=some (.int .i64 tn):=B1.cell 7;have e8:V.cell? ⟨w.heap.size,8,none⟩=some (.int .i64 tx):=B1.cell 8;have e9:V.cell? ⟨w.heap.size,9,none⟩=some (.slice p nl c):=B1.cell 9;go_wp2_with fail
 refine(CN V HX).mono ?_;rintro e w1 ⟨u,rfl,ho,hx⟩;obtain⟨a0,n0,c0,a1,n1,c1,a2,n2,c2,a3,n3,c3,rfl⟩:=ho.form;have HO:=hid (ho.base (base':=w.heap.size) HX.size);have X1:=hid (HX.trans (hx.mono HX.size));have B1:=hid (B1.below hx B1.lt);have B2:=hid (B2.below hx B2.lt);have HOV:=hid (ho.base (base':=V.heap.size) (aD _));clear ho hx CN e2 e3 e4 e5 e6 e7 e8 e9 HX;go_upto_region 2 with fail
 refine ax ?_;intro V2 hV;have BN:Hid (aq V2 w1.heap.size #[.slice a0 n0 c0,.slice a1 n1 c1,.slice a2 n2 c2,.slice a3 n3 c3,.bool nf.emp] 99):=hid (by rw[hV];exact aq.new w1 _ _);have XV:aa w1 V2:=by rw[hV];exact((Ext.refl w1).alloc _).below
 clear hV;have B1:=hid (B1.below XV B1.lt);have B2:=hid (B2.below XV B2.lt);have HO:=hid (HOV.below XV);have X2:=hid (X1.trans (XV.mono X1.size));clear XV X1 HOV;have f0:V2.cell? ⟨w1.heap.size,0,none⟩=some (.slice a0 n0 c0):=BN.cell 0;have f1:V2.cell? ⟨w1.heap.size,1,none⟩=some (.slice a1 n1 c1):=BN.cell 1;have f2:V2.cell? ⟨w1.heap.size,2,none⟩=some (.slice a2 n2 c2):=BN.cell 2;have f3:V2.cell? ⟨w1.heap.size,3,none⟩=some (.slice a3 n3 c3):=BN.cell 3;have f4:V2.cell? ⟨w1.heap.size,4,none⟩=some (.bool nf.emp):=BN.cell 4;have e0:V2.cell? ⟨w.heap.size,0,none⟩=some (.bool b):=B1.cell 0;go_wp2_with (refine wpList_store_row rfl 101 (.tmp 2) (.tmp 14) rfl (w.heap.size+1) #[.slice a0 n0 c0,.slice a1 n1 c1,.slice a2 n2 c2,.slice a3 n3 c3,.bool nf.emp,.bool b,.int .i64 0] rfl rfl 101 _ B2 (by kernel_rfl) rfl (by simp[Value.oneCell']) ?_;refine Hid.out ?_);refine hid ?_;obtain⟨V3,cD⟩:=ah (V2.setRow (w.heap.size+1) #[.slice a0 n0 c0,.slice a1 n1 c1,.slice a2 n2 c2,.slice a3 n3 c3,.bool nf.emp,.bool b,.int .i64 0]);rw[<-cD];have R9:Hid (aq V3 (w.heap.size+1) #[.slice a0 n0 c0,.slice a1 n1 c1,.slice a2 n2 c2,.slice a3 n3 c3,.bool nf.emp,.bool b,.int .i64 0] 101):=by rw[cD];exact hid B2.setRow
 have KR:ae (· ≠w.heap.size+1) V2 V3:=by rw[cD];exact bn _ _ _
 have X9:aa w V3:=X2.trans ((KR.mono fun x (hx:x<w.heap.size)=>by show x≠_;omega:ae (· <w.heap.size) V2 V3).below);have O9:=(HO.keeps KR fun x h1 h2=>by show x≠_;omega).base (base':=w.heap.size) (by omega);clear cD KR;go_wp2;obtain⟨m0,m1,m2,m3,m4,m5,m6⟩:=R9.Yh;exact bodyPost_ret (v:=.agg #[.slice a0 n0 c0,.slice a1 n1 c1,.slice a2 n2 c2,.slice a3 n3 c3,.bool nf.emp,.bool b,.int .i64 0]) (by simp[results,Tryz.results42,go_sem,m0,m1,m2,m3,m4,m5,m6]) rfl ⟨_,_,_,_,rfl,O9,X9⟩
def aR.QK (base:Nat) (nf:NF) (bg:Bool):aR (Move false (fun _=>False)) where
 P:=fun v=>∃ v0 v1 v2 v3,v=.agg #[v0,v1,v2,v3,.bool nf.emp,.bool bg,.int .i64 0]
 H:=fun v W=>∀ v0 v1 v2 v3,v=.agg #[v0,v1,v2,v3,.bool nf.emp,.bool bg,.int .i64 0]->fM base W (.agg #[v0,v1,v2,v3,.bool nf.emp]) nf
 mo:=.agg #[undef,undef,undef,undef,.bool nf.emp,.bool bg,.int .i64 0]
 pw:=⟨_,_,_,_,rfl⟩
 st:=fun _ _ _ hm _ h v0 v1 v2 v3 e=>(h v0 v1 v2 v3 e).below hm.below
def aR.QL (base:Nat) (nf:NF) (bg:Bool):aR (Move false (fun _=>False)) where
 P:=fun v=>∃ b,v=.slice (some ⟨b,0,none⟩) 1 1
 H:=fun v W=>∀ b,v=.slice (some ⟨b,0,none⟩) 1 1->∃ v0 v1 v2 v3,aq W b #[v0,v1,v2,v3,.bool nf.emp,.bool bg,.int .i64 0] 101/\fM base W (.agg #[v0,v1,v2,v3,.bool nf.emp]) nf
 mo:=.slice (some ⟨0,0,none⟩) 1 1
 pw:=⟨_,rfl⟩
 st:=fun _ _ _ hm _ h b e=>by
  obtain⟨v0,v1,v2,v3,h1,h2⟩:=h b e;exact⟨v0,v1,v2,v3,h1.below hm.below h1.lt,h2.below hm.below⟩
theorem QM (b e:Bool) (k:Nat) (s:BS) (mn mx:Int) (p:Option Addr) (n c:Nat):(Tryz.prog.info? 42).map (·.size)=some (mE b e k s mn mx (.slice p n c)).size:=by unfold mE;kernel_rfl
theorem yh {g:Nat} {lb:Array Value} {R:Nat->Prop} (xs:List (Value×RL)) (w:World) (hseq:Seq true Tryz.prog g lb (fun x:Value×RL=> #[x.1]) R xs w) (eg:∀ args w,(callFunc g args).run Tryz.prog w=.ok (.enter g args) w) (hR:∀ k,R k->k<w.heap.size) (ik:∀ x∈xs,cF (· <w.heap.size) w x.1 x.2) (ry:∀ x∈xs,x.2.tr.fine/\x.2.tr.size<=120/\x.2.tr.bZ<=400) (hn:xs.length<=64) (f:Int) {d:DF} {code:Int} (he:di (xs.map fun x=>x.2.pt) f=(d,code)) {m0 m1 m2:Nat} (h0:m0=d.cl.length) (h1:m1=d.nx.length) (h2:m2=d.mr.length) (hT:∀ W,aa w W->mB W): ag 24 #[.func (.func g) #[] lb,.int .i64 f] w (wR m0 m1 m2 code d w):=by
 obtain⟨iP,YS,Kg,Kh,Oq⟩:=info_parts Tryz.XH
 have PS:Ps (xs.map fun x=>x.2.pt):=⟨by rw[bp];exact hn,fun y hy=>by
  obtain⟨x,hx,rfl⟩:=List.mem_map.1 hy;obtain⟨tf,ts,tp⟩:=ry x hx
  have hn:Nt x.2.tr.nf:=DY (by
   unfold RX.clean;rw[Bool.and_eq_true,List.all_eq_true]
   exact⟨decide_eq_true (by omega),tf⟩) tp
  exact⟨hn,hn.smn,Int.le_refl _,by show(0:Int)<=255;decide⟩⟩
 have CO:Hid (∀ W u,aa w W->jG W u (xs.map fun x=>x.2.pt)->ag 44 #[u,.int .i64 f] W (wR m0 m1 m2 code d W)):=hid fun W u hW hu=>QE PS he h0 h1 h2 W u hu fun V hV=>hT V (hW.trans (hV.mono hW.size))
 have wC:=hid hseq;have ue:=hid ik;have ag2:=hid ry;clear hseq ik ry he h0 h1 h2 hT PS;refine bG Tryz.func24 rfl ?_;simp only[Tryz.ntmps24,List.size_toArray,List.length_cons,List.length_nil,Nat.reduceAdd,Nat.reduceSub,Array.replicate_succ,Array.replicate_zero,List.push_toArray,List.append_toArray,List.nil_append,List.cons_append];go_wp2;refine ax ?_;intro W0 hW0;have b0:aq W0 w.heap.size #[.slice none 0 0,.slice none 0 0,.slice none 0 0] 73:=by rw[hW0];exact((aq.new _ _ _).alloc _).alloc _
 have b1:aq W0 (w.heap.size+1) #[.func (.func 42) #[] #[]] 104:=by rw[hW0];exact((aq.new _ _ _).at (by simp)).alloc _
 have b2:aq W0 (w.heap.size+1+1) #[.slice none 0 0] 105:=by rw[hW0];exact(aq.new _ _ _).at (by simp)
 have hx:aa w W0:=by rw[hW0];exact((((Ext.refl w).alloc _).alloc _).alloc _).below
 have hsz:W0.heap.size=w.heap.size+1+1+1:=by rw[hW0];simp
 clear hW0;have MP:∀ k,R k->k<W0.heap.size:=fun k hk=>by have:=hR k hk;omega
 have HRW:=hid hR;have jV:=hid hsz;have Mq:=hid hx;refine kB (w:=W0) (d:=true) (wC.at (ae.ai hx fun _ h=>h)) (by rfl) eg (by intro _;rfl) MP
  (fun ys T W=>(∃ v,aq W (w.heap.size+1+1) #[v] 105/\nG T (w.heap.size+1+1+1) W v (ys.map fun x=>x.2.pt))/\aq W (w.heap.size+1) #[.func (.func 42) #[] #[]] 104/\aq W w.heap.size #[.slice none 0 0,.slice none 0 0,.slice none 0 0] 73/\aa w W)
  (fun _ _ _ _=>False)
  ?hI
  (fun c ys T T' W W' h=>h.elim)
  ⟨⟨_,b2,nG.nil _ _ _⟩,b1,b0,hx⟩
  (fun z T W=>∃ b9:Nat,z.2.2= {tmps:= #[.func (.func g) #[] lb,.int .i64 f,undef,undef,.pointer (some ⟨w.heap.size,0,none⟩),.int .i64 0,.pointer (some ⟨w.heap.size+1,0,none⟩),.pointer (some ⟨w.heap.size+1+1,0,none⟩),.pointer (some ⟨b9,0,none⟩),.func (.func g) #[] lb,z.2.1.1,undef,undef,undef,undef,undef,undef,undef,undef,undef,undef,undef],defers:=[]} /\W0.heap.size<=b9/\b9<W.heap.size/\¬T b9/\(∃ c,z.2.1.1=.agg c/\aq W b9 c 42)/\(∃ v,aq W (w.heap.size+1+1) #[v] 105/\nG T (w.heap.size+1+1+1) W v (z.1.map fun x=>x.2.pt))/\aq W (w.heap.size+1) #[.func (.func 42) #[] #[]] 104/\aq W w.heap.size #[.slice none 0 0,.slice none 0 0,.slice none 0 0] 73/\aa w W)
  ?hIa ?assign ?body ?done ?stop
 case hI=>
  rintro ys T T' W W' ⟨⟨v,i1,i2⟩,i3,i4,i5⟩ h1 h2 h3 h4 h5;have hs:=h5.size;exact⟨⟨v,i1.gT h1 h5 (by omega),i2.keeps h5.keeps (fun k _ a b=>⟨a,b⟩) h4⟩,i3.gT h1 h5 (by omega),i4.gT h1 h5 (by omega),dc i5 h1 h5 (aD _) (by omega)⟩
 case hIa=>
  rintro⟨pre,x,a1⟩ T T' W W' ⟨b9,e1,e2,e3,e4,⟨c,e5,e6⟩,⟨v,i1,i2⟩,i3,i4,i5⟩ h1 h2 h3 h4 h5;have hs:=h5.size;refine⟨b9,e1,e2,by omega,fun h=>?_,⟨c,e5,e6.keeps h5.keeps ⟨e3,e4⟩⟩,⟨v,i1.gT h1 h5 (by omega),i2.keeps h5.keeps (fun k _ a b=>⟨a,b⟩) h4⟩,i3.gT h1 h5 (by omega),i4.gT h1 h5 (by omega),dc i5 h1 h5 (aD _) (by omega)⟩;rcases h4 b9 h with h | h
  ·exact e4 h
  ·omega
 case assign=>
  rintro lr pre ⟨xv,xr⟩ T W hp hT hk ⟨⟨v,i1,i2⟩,i3,i4,i5⟩;have hx:=ue.out (xv,xr) (hp.subset (by simp));obtain⟨p9,c9,e9,_⟩:=hx;dsimp only at e9;subst e9;have I1:=hid i1;have I2:=hid i2;have I3:=hid i3;have I4:=hid i4;have I5:=hid i5;have HT:=hid hT;have HK:=hid hk;clear i1 i2 i3 i4 i5 hT hp hk b0 b1 b2 hx;dsimp only[mE]
  gi_wp2
  have xo:W0.heap.size<=W.heap.size:=HK.size;refine⟨((ae.refl _ _).alloc (fun j hj=>?_) _),by have:=jV.out;omega,fun h=>by have:=(HT.out _ h).2;omega,aq.new _ _ _,⟨_,I1.alloc _,I2.keeps ((Ext.refl W).alloc _).keeps (fun k _ hk _=>hk) (fun k hk=>.inl hk)⟩,I3.alloc _,I4.alloc _,I5.alloc I5.size _⟩;rcases hj with hj | hj
  ·exact aw (MP j hj) xo
  ·exact(HT j hj).2
 case body=>
  rintro lr pre ⟨xv,xr⟩ T a1 W hp hT hk rE lh ⟨b9,e1,e2,e3,e4,⟨c9,e5,e6⟩,⟨v,i1,i2⟩,i3,i4,i5⟩;have Jh:=hp.subset (show(xv,xr)∈pre++ [(xv,xr)] by simp);have hx:=ue.out (xv,xr) Jh;obtain⟨tf,ts,tp⟩:=ag2.out (xv,xr) Jh;have hlen:pre.length+1<=64:=by
   have hle:=hp.length_le;rw[aQ]at hle;simp only[List.length_cons,List.length_nil]at hle;omega
  dsimp only at e1 e5 tf ts tp hx i2;subst e5;have hx:cF (· <w.heap.size) w (.agg c9) xr:=hx;have hxW:cF (· <W.heap.size) W (.agg c9) xr:=(cF.keeps (ae.ai i5 fun _ h=>h) (fun b (hb:b<w.heap.size)=>hb) hx).mono fun b (hb:b<w.heap.size)=>(aw hb i5.size:b<W.heap.size)
  have CP:Hid (∀ V,aa W V->ag 42 #[.agg c9] V fun e w'=>∃ v0 v1 v2 v3,e=.returned (.agg #[v0,v1,v2,v3,.bool xr.tr.nf.emp,.bool xr.bg,.int .i64 0])/\fM V.heap.size w' (.agg #[v0,v1,v2,v3,.bool xr.tr.nf.emp]) xr.tr.nf/\aa V w'):=hid fun V hV=>Hv _ xr tf ts tp V ((cF.keeps (ae.ai hV fun _ h=>h) (fun b (hb:b<W.heap.size)=>hb) hxW).mono fun b (hb:b<W.heap.size)=>(aw hb hV.size:b<V.heap.size))
  obtain⟨px,cx,ex,_⟩:=hx;injection ex with ex
  have hz9:(Tryz.prog.info? 42).map (·.size)=some c9.size:=by rw[ex];exact QM _ _ _ _ _ _ _ _ _
  clear ex;have HRG:=hid (show xr.pt=⟨xr.tr.nf,xr.bg,0⟩ from rfl);obtain⟨nf,ox⟩:=ah xr.tr.nf;obtain⟨bg,hbg⟩:=ah xr.bg;rw[<-ox, <-hbg]at CP HRG;obtain⟨pa,pc,Ce⟩:=i2.form;obtain⟨m,hm⟩:=ah ((pre.map fun x:Value×RL=>x.2.pt).length);rw[<-hm]at Ce;subst e1 Ce;have afE:m+1<=64:=by rw[hm,bp];exact hlen
  have I1:=hid i1;have I2:=hid i2;have I3:=hid i3;have I4:=hid i4;have I5:=hid i5;have E6:=hid e6;have HT:=hid hT;have HK:=hid hk
  have HRB:Hid (∀ k,(Value.slice pa m pc).ownBlock=some k->k<W.heap.size):=hid (by
   obtain⟨F,cs,h1,_⟩:=i2;rw[<-hm]at h1
   exact fun k e=>(h1.lt k e).2)
  have HM:=hid hm;have hb2:w.heap.size+1+1<W.heap.size:=i1.lt;have hb1:w.heap.size+1<W.heap.size:=i3.lt;have c2:W.cell? ⟨w.heap.size+1+1,0,none⟩=some (.slice pa m pc):=i1.cell 0;have c1:W.cell? ⟨w.heap.size+1,0,none⟩=some (.func (.func 42) #[] #[]):=i3.cell 0;clear i1 i2 i3 i4 i5 e6 hT hk hp lh rE Jh hxW tf ts tp hm ox hbg b0 b1 b2 hx hlen
  gi_upto_region 5 with fail
  refine uj false (fun _=>False) (by kernel_rfl) (by kernel_rfl) 5 [0,0,0,6,14,31,63] (fun i=>i==3 || i==4) (by kernel_rfl) (fun i=>if i=3 then aR.QK W.heap.size nf bg else if i=4 then aR.QL W.heap.size nf bg else aR.any _) ?_;intro C hC hne;have HC:=hid hC;have o2:=aF hC (p:=⟨w.heap.size+1+1,0,none⟩) hb2 (fun h=>h) c2;have o1:=aF hC (p:=⟨w.heap.size+1,0,none⟩) hb1 (fun h=>h) c1;clear hC c1 c2;refine ak (fun K hK=>?_);refine bV rfl rfl ?_;unfold aB;go_simp;refine hK _ _ ?_;clear hK K;refine ak (fun K hK=>?_);refine bV rfl rfl ?_;unfold aB;go_simp;refine hK _ _ ?_;clear hK K;refine ak (fun K hK=>?_);refine gJ rfl rfl (.agg (c9)) (fun W hW hN=>have hM:=(HC.out W).1 hW;aO 42 (.tmp 8) rfl (b9) 0 rfl (c9) _ (aI E6.range hM.keeps ⟨e3,fun h=>h⟩) Tryz.underlying42 rfl (hz9)) ?_;go_simp;refine hK _ _ ?_;clear hK K;refine ak (fun K hK=>?_);refine bS rfl rfl (aR.QK W.heap.size nf bg) rfl (fun W hW hN=>?_) (fun v hv=>?_)
  ·have hM:=(HC.out W).1 hW
   clear hW;go_simp;refine bu ((CP _ hM.below).mono ?_);rintro e w2 ⟨v0,v1,v2,v3,rfl,ho,hx⟩;exact⟨_,rfl,Move.ai hx,⟨_,_,_,_,rfl⟩,fun _ _ _ _ e=>by cases e;exact ho.base hM.size⟩
  obtain⟨v0,v1,v2,v3,rfl⟩:=hv;go_simp;refine hK _ _ ?_;clear hK K;refine ak (fun K hK=>?_);refine bS rfl rfl (aR.QL W.heap.size nf bg) rfl (fun W5 hW hN=>?_) (fun v hv=>?_)
  ·have ho:=hN.at 0 rfl (by kernel_rfl) v0 v1 v2 v3 rfl
   clear hW hK K hN;exact sY 105 101 _ rfl Tryz.underlying105 YS Kg Kh (by decide) (by decide) #[v0,v1,v2,v3,.bool nf.emp,.bool bg,.int .i64 0] rfl rfl ⟨Move.ai ((Ext.refl _).alloc _).below,⟨_,rfl⟩,fun b hb=>by cases hb;exact⟨_,_,_,_,aq.new _ _ _,ho.below ((Ext.refl _).alloc _).below⟩⟩
  obtain⟨bl,rfl⟩:=hv;go_simp;refine hK _ _ ?_;clear hK K;refine cg (fun W4 hW hH=>?_);have hM:=(HC.out W4).1 hW;have E4:Hid (aa W W4):=hid hM.below;obtain⟨w0,w1,w2,w3,hB4,hO4⟩:=hH _ (aA (show _=some _ from rfl:_[0]? =some _)) bl rfl;obtain⟨y0,n0,k0,y1,n1,k1,y2,n2,k2,y3,n3,k3,ey⟩:=hO4.form;simp only[Value.agg.injEq,Array.mk.injEq,List.cons.injEq,and_true]at ey;obtain⟨rfl,rfl,rfl,rfl⟩:=ey;have B4:=hid hB4;have O4:=hid hO4;clear hM hW hH HC o1 o2 hB4 hO4;have an6:W.heap.size<=W4.heap.size:=E4.size;have J1:=hid (I1.below E4 I1.lt);have P4:=hid (I2.keeps (ae.ai E4 fun _ h=>h:ae (· <W.heap.size) W W4) (fun k _ hk _=>hk) (fun k hk=>.inl hk) (T':=T));have J3:=hid (I3.below E4 I3.lt);have J4:=hid (I4.below E4 I4.lt);have J5:=hid (I5.trans (E4.mono I5.size));obtain⟨G,cs,g1,g2,g3,g4⟩:=P4.out;rw[<-HM.out]at g1;have G1:=hid g1;have G2:=hid g2;have G3:=hid g3;have G4:=hid g4;clear g1 g2 g3 g4 P4;have hs3:w.heap.size+1+1+1<=W4.heap.size:=by omega
  gi_wp2_with (gi_at_builtin;refine wpListIn_append_own_at _ rfl (.tmp 11) (.tmp 15) 105 rfl (w.heap.size+1+1+1) 101 iP (.agg #[.slice none 0 0,.slice none 0 0,.slice none 0 0,.slice none 0 0,.bool false,.bool false,.int .i64 0]) 7 120 Tryz.underlying105 YS Kg Kh Oq rfl (by decide) _ _ _ rfl G1 ⟨bl,0,none⟩ 1 1 [.slice y0 n0 k0,.slice y1 n1 k1,.slice y2 n2 k2,.slice y3 n3 k3,.bool nf.emp,.bool bg,.int .i64 0] rfl rfl (bQ B4) (by
   intro u hu;simp only[List.mem_cons,List.not_mem_nil,or_false]at hu
   rcases hu with rfl | rfl | rfl | rfl | rfl | rfl | rfl<;>rfl) (by unfold maxLen;omega) (by omega) hs3 ?_;intro v' w5 hown' hgrow hh hat;obtain⟨T4,T5,rfl⟩:=ownsRow_form hown';have K2:=hid (J1.grown hgrow (fun e=>by have:=(G1.lt _ e.symm).1;omega));have c2:=K2.cell 0;have f2:=K2.frozen 0;have TR:=hid hown';have Ry:=hid hgrow;have zN:=hid hat;clear hown' hgrow hh hat)
  have Xj:∀ k,T k->w.heap.size+1+1+1<=k/\k<W.heap.size:=fun k hk=>by have:=HT.out k hk;have:=jV.out;omega
  have P5:nG T (w.heap.size+1+1+1) w5 (.slice T4 (m+1) T5) ((pre.map fun x:Value×RL=>x.2.pt)++ [⟨nf,bg,0⟩]):=nG.more (G:=fun k=>W.heap.size<=k/\k<W4.heap.size) (by rw[<-HM.out];exact G1) G2 G3 G4 (fun w' hk=>(O4.keeps hk fun k a b=>⟨a,b⟩).base (by omega)) (fun k hk=>⟨by omega,hk.2,fun ht=>by have:=(Xj k ht).2;omega,fun e=>by have:=HRB.out k e;omega⟩) (fun k hk=>by have:=(Xj k hk).2;omega) Ry (by rw[<-HM.out];exact TR) (fun k e=>by
   rcases zN.out with h | h
   ·exact .inl (h▸e)
   ·rw[h]at e
    injection e with e
    exact .inr (by omega))
  have kg:ae (· ≠w.heap.size+1+1) w5 (w5.setCell ⟨w.heap.size+1+1,0,none⟩ (.slice T4 (m+1) T5)):=(ae.refl _ _).setCell (p:=⟨w.heap.size+1+1,0,none⟩) (fun h=>h rfl) _;have hne:∀ x,x<w.heap.size+1+1+1->some x≠(Value.slice pa m pc).ownBlock:=fun x hx e=>by have:=(G1.lt x e.symm).1;omega
  have k1:ae (fun k=>R k\/T k) W4 w5:=ae.bA Ry fun k hk=>⟨by
   rcases hk with h | h
   ·have:=HRW.out k h;omega
   ·have:=(Xj k h).2;omega,fun e=>by
   rcases hk with h | h
   ·exact hne k (by have:=HRW.out k h;omega) e
   ·exact G2 k e.symm h⟩
  have k0:ae (fun k=>R k\/T k) W W4:=(ae.ai E4 fun _ h=>h:ae (· <W.heap.size) W W4).mono fun k hk=>by
   rcases hk with h | h
   ·have:=HRW.out k h;show k<_;omega
   ·exact(Xj k h).2
  refine⟨(k0.tr k1).tr (kg.mono fun k hk=>?_),⟨_,K2.set 0 _,?_⟩,(J3.grown Ry (hne _ (by omega))).keeps kg (by omega),(J4.grown Ry (hne _ (by omega))).keeps kg (by omega),?_⟩
  ·rcases hk with h | h
   ·have:=HRW.out k h;show k≠_;omega
   ·have:=(Xj k h).1;show k≠_;omega
  ·rw[List.map_append]
   show nG T _ _ _ (_++ [xr.pt]);rw[HRG.out];exact P5.keeps kg (fun k a _ _=>by show k≠_;omega) (fun k hk=>.inl hk)
  ·exact((J5.trans ((Below.refl _ _).grown Ry J5.size (fun c e=>by have:=(G1.lt c e).1;omega)))).trans (kg.mono fun x (hx:x<w.heap.size)=>by show x≠_;omega:ae (· <w.heap.size) w5 _).below
 case done=>
  rintro D T W hD rJ hT ⟨⟨v,i1,i2⟩,i3,i4,i5⟩ jN;obtain⟨pa,pc,Ce⟩:=i2.form;subst Ce;obtain⟨m,hm⟩:=ah ((xs.map fun x:Value×RL=>x.2.pt).length);have HP:=hid i2.pts;rw[<-hm]at i1 HP;have c2:W.cell? ⟨w.heap.size+1+1,0,none⟩=some (.slice pa m pc):=i1.cell 0;have R0:=hid i4;have X0:=hid i5;have HD:=hid hD;have oD:=hid jN;clear i1 i2 i3 i4 i5 rJ hT jN hD hm b0 b1 b2 hx;dsimp only;go_wp2_with fail
  refine(CO W _ X0 HP).mono ?_;rintro e w2 ⟨a0,c0,a1,c1,a2,c2',rfl,ho,hx⟩;have HO:=hid ho;have R1:=hid (R0.below hx R0.lt);have X1:=hid (X0.trans (hx.mono X0.size));have hDW:D<W.heap.size:=(Array.getElem?_eq_some_iff.1 oD).1;have oD:Hid (w2.heap[D]? =some (.deferred (some []))):=hid ((hx.block D hDW).trans oD);have xo:W.heap.size<=w2.heap.size:=hx.size;have hRW:w.heap.size<W.heap.size:=R0.lt;clear ho hx CO R0 X0 HP c2;obtain⟨z0,z1,z2⟩:=dM.XK R1;have z3:=R1.frozen 0;have z4:=R1.frozen 1;have z5:=R1.frozen 2;go_wp2;generalize hW:((w2.setCell ⟨w.heap.size,0,none⟩ (.slice a0 m0 c0)).setCell ⟨w.heap.size,1,none⟩ (.slice a1 m1 c1)).setCell ⟨w.heap.size,2,none⟩ (.slice a2 m2 c2')=W3;have BF:aq W3 w.heap.size #[.slice a0 m0 c0,.slice a1 m1 c1,.slice a2 m2 c2'] 73:=by rw[<-hW];exact((R1.set 0 _).set 1 _).set 2 _
  have KF:ae (· ≠w.heap.size) w2 W3:=by rw[<-hW];exact(((ae.refl _ _).setCell (p:=⟨w.heap.size,0,none⟩) (fun h=>h rfl) _).setCell (p:=⟨w.heap.size,1,none⟩) (fun h=>h rfl) _).setCell (p:=⟨w.heap.size,2,none⟩) (fun h=>h rfl) _
  clear hW z0 z1 z2 z3 z4 z5;have hDw:w.heap.size+1+1+1<=D:=by have:=HD.out;have:=jV.out;omega
  have hD3:W3.heap[D]? =some (.deferred (some [])):=(KF.keep D (by show D≠_;omega)).trans oD;have KP:ae (fun x=>x≠w.heap.size/\x≠D) w2 (W3.putObj D (.deferred none)):=(KF.mono fun x hx=>hx.1).putObj (fun h=>h.2 rfl) _;obtain⟨z0,z1,z2⟩:=dM.XK (BF.put (l:=D) (by omega) (.deferred none));refine cB (v:=.tuple #[.agg #[.slice a0 m0 c0,.slice a1 m1 c1,.slice a2 m2 c2'],.int .i64 code]) rfl hD3 (by simp[results,Tryz.results24,go_sem,z0,z1,z2]) ⟨a0,c0,a1,c1,a2,c2',rfl,(HO.keeps KP fun b hb _=>?_).base (by omega),?_⟩
  ·show b≠_/\b≠_;omega
  ·exact X1.trans (KP.mono fun x (hx:x<w.heap.size)=>by show x≠_/\x≠_;omega:ae (· <w.heap.size) w2 _).below
 case stop=>rintro D c pre T W _ _ _ _ h _;exact h.elim
end
end Go.Proofs.YtpcmhjbehdgdbaaGreatDoor
