/- Plain facts on (*maker).make: the states by the least bytes, and one row of the table more. -/
import Derived.Test.YtbiboekhakbnpaaGreatDoorOF31
set_option maxRecDepth 100000
set_option maxHeartbeats 16000000
open Go.Lib (hid)
namespace Go.Proofs.YtbiboekhakbnpaaGreatDoor
open Go Go.RowKit Go.Shelf Go.Maps
attribute [local go_sem] encS
def od (lo:Nat) (v:Value) (n:Nat) (xs ns0:List Value):jB.App:=⟨70,4,v,n,xs,1,lo,fun ns _=>ns=ns0,fun _ _ _ _ h=>h⟩
def oh (lo:Nat) (v:Value) (n:Nat) (us:List Value):jB.App:=⟨37,1,v,n,us,1,lo,fun ns _=>ns=[.slice none 0 0],fun _ _ _ _ h=>h⟩
def zf (k:Nat):List (List Int):=(List.range k).map fun i=>if i+1<k then [(i:Int)+1]else []
theorem jR (k:Nat):(zf k).length=k:=by simp[zf]
theorem Cy {k i:Nat} (h:i<k):(zf k)[i]? =some (if i+1<k then [(i:Int)+1]else []):=by unfold zf;rw[List.getElem?_map,List.getElem?_range h];rfl
theorem kz {w:World} {o:Obj} {b:Nat} (e:w.heap.size=b):(w.alloc o).heap[b]? =some o:=e▸World.alloc_heap_new w o
theorem zg (W:World) (k:Nat) (s:ByteArray) (p:Nat):aa (· ≠k) W (W.iterAt k s p) where
 os:=rfl
 tape:=rfl
 output:=rfl
 size:=by rw[Lib.iterAt_size];exact Nat.le_refl _
 keep:=fun i hi=>Lib.iterAt_other W k i s p hi
theorem uD (s:ByteArray) (l:List Nat) (dI:s.data.toList.map (·.toNat)=l) (jY:∀ c∈l,c<128) (h1:1<=l.length) (hn:l.length<=1000) (w:World): Calls Tryz.prog 36 #[.string s] w fun e w'=>∃ u,e=.returned u/\dM w.heap.size w' u (dt l)/\Below w.heap.size w w':=by
 obtain⟨iS,Ur,Fj,Fk,Ja⟩:=info_parts Tryz.Az;obtain⟨iL,wW,kQ,kR,kS⟩:=info_parts Tryz.oZ;obtain⟨n,gM⟩:∃ n,n=l.length:=⟨_,rfl⟩;have hsz:s.size=n:=by rw[gM, <-dI];simp
 rw[<-gM]at h1 hn;have HBY:Hid (∀ (k:Nat) (hk:k<s.size),∃ c,l[k]? =some c/\(s[k]'hk).toNat=c/\c<128):=hid fun k hk=>by
  have sK:k<s.data.toList.length:=by simpa using hk
  have e:l[k]? =some (s.data.toList[k]).toNat:=by rw[<-dI,List.getElem?_map,List.getElem?_eq_getElem sK];rfl
  exact⟨_,e,by rw[Array.getElem_toList];rfl,jY _ (List.mem_of_getElem? e)⟩
 have CO:Hid (∀ (k c:Nat),k<s.size->l[k]? =some c->∀ W,Calls Tryz.prog 37 #[.string (s.extract k (k+1))] W fun e w'=>e=.returned (.agg (encS (fh [c])))/\Below W.heap.size W w'):=hid fun k c hk hc W=>by
  refine xi (s.extract k (k+1)) [c] ?_ (by simp) W;have sK:k<s.data.size:=hk;rw[<-dI,List.getElem?_map,Array.getElem?_toList,Array.getElem?_eq_getElem sK]at hc;have hc':(s.data[k]).toNat=c:=by simpa using hc
  apply List.ext_getElem?;intro j;have e2:(s.extract k (k+1)).data=s.data.extract k (k+1):=ByteArray.data_extract;rw[e2,List.getElem?_map,Array.getElem?_toList,Array.getElem?_extract];have:min (k+1) s.data.size=k+1:=by omega
  rw[this];cases j with
  | zero=>rw[if_pos (by omega),Nat.add_zero,Array.getElem?_eq_getElem sK];simp[hc']
  | succ j=>rw[if_neg (by omega)];rfl
 have lU:=hid gM;have hw0:IntKind.i64.wrap ((n:Int)-1)=(n:Int)-1:=IntWalk.i64_in _ (by omega);clear dI jY gM;have hsz':((s.size:Nat):Int)=n:=by omega
 go_enter Tryz.func36,Tryz.ntmps36
 go_wp2;refine au ?_;intro V hV;have R0:Hid (ak V w.heap.size #[.slice none 0 0,.slice none 0 0,.slice none 0 0,.slice none 0 0,.bool false] 44):=hid (by rw[hV];exact((((ak.new w _ _).alloc _).alloc _).alloc _).alloc _);have A1:Hid (ak V (w.heap.size+1) #[.int .i64 0] 3):=hid (by rw[hV];exact((((ak.new (w.alloc _) _ _).at (by simp)).alloc _).alloc _).alloc _);have A2:Hid (ak V (w.heap.size+2) #[.int .i64 ((n:Int)-1)] 3):=hid (by rw[hV];exact(((ak.new ((w.alloc _).alloc _) _ _).at (by simp)).alloc _).alloc _);have B3:Hid (ak V (w.heap.size+3) #[.slice none 0 0,.slice none 0 0,.slice (some ⟨w.heap.size+1,0,none⟩) 1 1,.slice (some ⟨w.heap.size+2,0,none⟩) 1 1,.bool false] 44):=hid (by rw[hV];exact((ak.new (((w.alloc _).alloc _).alloc _) _ _).at (by simp)).alloc _);have IT:Hid (V.heap[w.heap.size+4]? =some (.stringIter s 0)):=hid (by rw[hV];exact kz (by simp));have XV:Hid (Below w.heap.size w V):=hid (by rw[hV];exact(((((Ext.refl w).alloc _).alloc _).alloc _).alloc _ |>.alloc _).below);have Zy:V.heap.size=w.heap.size+5:=by rw[hV];simp[World.iter]
 clear hV;go_loopw [4] (fun _ wr=>∃ (k:Nat) (u0 u1:Value),k<=n/\wr.heap[w.heap.size+4]? =some (.stringIter s k)/\ak wr (w.heap.size+3) #[u0,u1,.slice (some ⟨w.heap.size+1,0,none⟩) 1 1,.slice (some ⟨w.heap.size+2,0,none⟩) 1 1,.bool false] 44/\wr.ownsRow (w.heap.size+5) 70 4 u0 k (aD ((l.take k).map fun c=>fh [c]))/\aC (w.heap.size+5) wr u1 (zf k)/\aa (fun x=>x<w.heap.size+3) V wr/\w.heap.size+5<=wr.heap.size) (fun _ wr=>n-wr.iterPos (w.heap.size+4));case atStart=>exact⟨0,_,_,Nat.zero_le _,IT.out,B3.out,World.ownsRow_nil _ _ _ _,aC.nil _ _,aa.refl _ _,by omega⟩
 case round=>
  obtain⟨k,u0,u1,hk,hit,hb,h0,WK,hx,LU⟩:=hrel;obtain⟨wo,rfl⟩:∃ wo:World,wo=wr:=⟨_,rfl⟩;have aeo:wo.iterPos (w.heap.size+4)=k:=iterPos_of hit;by_cases hlt:k<n
  ·have zM:k<s.size:=by omega
   obtain⟨c,hlc,hc,hc1⟩:=HBY.out k zM;have G5:∀ ty,(Instr.next (.pointer (some ⟨w.heap.size+4,0,none⟩)) true ty).run Tryz.prog wo=_:=fun ty=>Lib.run_next_ascii_at wo (w.heap.size+4) s k ty hit zM (by omega)
   have CC:=hid (CO.out k c zM hlc);have Sh:IntKind.i64.wrap ((k:Int)+1)=(k:Int)+1:=IntWalk.i64_in _ (by omega);have ed:(k:Int)<n:=by omega
   have ak5:(k:Int)+1<=n:=by omega
   have ak6:(k:Int)<=(k:Int)+1:=by omega
   have ak7:(0:Int)<=k:=by omega
   go_wp2;clear G5;refine au ?_;intro jS hV1;have Zz:aa (· ≠w.heap.size+4) wo jS:=by rw[hV1];exact zg _ _ _ _
   have hIT:jS.heap[w.heap.size+4]? =some (.stringIter s (k+1)):=by rw[hV1];exact Lib.iterAt_heap _ _ _ _ _ hit
   have hs1:jS.heap.size=wo.heap.size:=by rw[hV1];exact Lib.iterAt_size _ _ _ _
   have HIT:=hid hIT;have HB:=hid (hb.keeps Zz (by omega));have h0:=ae h0 Zz fun x e=>by have:=(h0.lt x e).1;show x≠_;omega
   have WK:=WK.keeps Zz fun x g1 _=>by show x≠_;omega
   have HX:=hid (hx.tr (Zz.mono fun x (hx:x<w.heap.size+3)=>by show x≠_;omega));clear hV1 Zz hIT hit hb hx;obtain⟨us,u1',OL,u3'⟩:=WK;have Mb:us.length=k:=by rw[u1',jR]
   rw[Mb]at OL;obtain⟨na,nc,rfl⟩:=ownsRow_form h0;obtain⟨ma,mc,rfl⟩:=ownsRow_form OL;obtain⟨xs,WL⟩:∃ x,x=aD ((l.take k).map fun c=>fh [c]):=⟨_,rfl⟩;rw[<-WL]at h0;have U0:=hid h0;have U2:=hid OL;have U3:=hid u3';have QG:=hid WL;have Ki:=hid Mb;have HLC:=hid hlc;have L1:Hid (∀ x,(Value.slice na k nc).ownBlock=some x->x<jS.heap.size/\w.heap.size+5<=x):=hid fun x e=>⟨(h0.lt x e).2,(h0.lt x e).1⟩
   have L2:Hid (∀ x,(Value.slice ma k mc).ownBlock=some x->x<jS.heap.size/\w.heap.size+5<=x):=hid fun x e=>⟨(OL.lt x e).2,(OL.lt x e).1⟩
   have Vf:Hid (kU (.slice na k nc) (.slice ma k mc)):=hid (ownBlock_ne (by decide) h0 OL);clear h0 u1' OL u3' WL Mb hlc hc;have vq:w.heap.size+5<=jS.heap.size:=by omega
   obtain⟨PL,zh⟩:∃ PL:List jB.App,PL=[(od jS.heap.size (.slice na k nc) k xs (encS (fh [c])).toList),(oh jS.heap.size (.slice ma k mc) k us)]:=⟨_,rfl⟩;have qE:PL[0]? =some (od jS.heap.size (.slice na k nc) k xs (encS (fh [c])).toList):=by rw[zh];rfl
   have rF:PL[1]? =some (oh jS.heap.size (.slice ma k mc) k us):=by rw[zh];rfl
   have hall:∀ q∈PL,q=(od jS.heap.size (.slice na k nc) k xs (encS (fh [c])).toList)\/q=(oh jS.heap.size (.slice ma k mc) k us):=fun q hq=>by rw[zh]at hq;simpa using hq
   have Jq:Hid (jB.jG jS PL):=hid ⟨fun q hq=>by rcases hall q hq with rfl | rfl<;>exact Nat.le_refl _,fun q hq x e=>by
    rcases hall q hq with rfl | rfl
    ·have:=L1.out x e;omega
    ·have:=L2.out x e;omega,fun i j q q' hi hj pU=>by
    have hl:PL.length=2:=by rw[zh];rfl
    have h1:=(List.getElem?_eq_some_iff.1 hi).1;have h2:=(List.getElem?_eq_some_iff.1 hj).1;rcases(show i=0\/i=1 by omega)with rfl | rfl<;>rcases(show j=0\/j=1 by omega)with rfl | rfl<;>(first | (exact absurd rfl pU) | skip)<;>(first | rw[qE]at hi | rw[rF]at hi)<;>(first | rw[qE]at hj | rw[rF]at hj)<;>cases hi<;>cases hj
    ·exact Vf.out
    ·exact Vf.out.symm⟩
   have Pc:∀ x,(x<w.heap.size+5\/jS.heap.size<=x)->¬ ∃ q∈PL,q.v.ownBlock=some x:=fun x hx ⟨q,hq,e⟩=>by
    rcases hall q hq with rfl | rfl
    ·have:=L1.out x e;omega
    ·have:=L2.out x e;omega
   have zi:=hid hall;have FI:=hid Pc;clear zh hall Pc;refine RegG.aU (jB.bw (w.heap.size+5) jS PL) (jB.bw.drew) (fun _ _ _ h k=>h.trans k) (by kernel_rfl) 15 [0,1,0,0,0,16,60,124,252,511,0,1024,0,8191,4095,32767,65535,131071] (fun i=>i==7 || i==8 || i==9 || i==12 || i==13) (by kernel_rfl) (fun j=>none) (fun j hj=>(by first | rfl | (have iz:18<=j:=hj;first | exact if_neg (by omega) | (split<;>first | omega | rfl)))) (by kernel_rfl) (fun i=>if i=7 then RegG.aO.vo _ (.agg (encS (fh [c])))else if i=8 then jB.jd.tq (w.heap.size+5) jS PL 1 (encS (fh [c])) 70 else if i=9 then jB.jd.app (w.heap.size+5) jS PL (od jS.heap.size (.slice na k nc) k xs (encS (fh [c])).toList) (List.mem_of_getElem? qE)else if i=12 then jB.jd.tq (w.heap.size+5) jS PL 1 #[.slice none 0 0] 37 else if i=13 then jB.jd.app (w.heap.size+5) jS PL (oh jS.heap.size (.slice ma k mc) k us) (List.mem_of_getElem? rF)else RegG.aO.any _) ?_;intro C hC hne;have HC:=hid hC;have il:∀ {x:Nat},x<jS.heap.size->(¬ ∃ q∈PL,q.v.ownBlock=some x)->∀ W: {W//C W},W.1.heap[x]? =jS.heap[x]? :=fun {x} h1 h2 W=>((hC W.1).1 W.2).keeps.keep x ⟨h1,h2⟩
   have o1:∀ W: {W//C W},W.1.cell? ⟨w.heap.size+3,0,none⟩=some (.slice na k nc):=fun W=>(HB.out.same (il HB.out.lt (FI.out _ (by omega)) W)).cell 0
   have o2:∀ W: {W//C W},W.1.cell? ⟨w.heap.size+3,1,none⟩=some (.slice ma k mc):=fun W=>(HB.out.same (il HB.out.lt (FI.out _ (by omega)) W)).cell 1
   clear hC il
   repeat (refine RegG.ai (fun K hK=>?_);first | (refine RegG.br rfl ?_;try go_simp;refine hK _ _ ?_;clear hK K) | (refine RegG.aZ rfl rfl ?_;unfold ar;go_simp;refine hK _ _ ?_;clear hK K))
   refine RegG.ai (fun K hK=>?_);refine RegG.bA rfl rfl (RegG.aO.vo _ (.agg (encS (fh [c])))) rfl (fun W hW hN=>?_) (fun v hv=>?_)
   ·have hM:=(HC.out W).1 hW
    clear hW;go_simp;refine aT ((CC.out W).mono ?_);rintro e w2 ⟨rfl,hx⟩;exact⟨_,rfl,.below hx,rfl,trivial⟩
   replace hv:v=_:=hv;subst hv;go_simp;refine hK _ _ ?_;clear hK K
   repeat (refine RegG.ai (fun K hK=>?_);first | (refine RegG.br rfl ?_;try go_simp;refine hK _ _ ?_;clear hK K) | (refine RegG.aZ rfl rfl ?_;unfold ar;go_simp;refine hK _ _ ?_;clear hK K))
   refine RegG.ai (fun K hK=>?_);refine RegG.bA rfl rfl (jB.jd.tq (w.heap.size+5) jS PL 1 (encS (fh [c])) 70) rfl (fun W hW hN=>?_) (fun v hv=>?_)
   ·have hM:=(HC.out W).1 hW
    clear hW hN hK K;exact rh 28 70 _ rfl Tryz.underlying28 Ur Fj Fk (by decide) (by decide) (encS (fh [c])) rfl rfl ⟨.below ((Ext.refl _).alloc _).below,⟨_,rfl⟩,fun b hb=>by cases hb;exact⟨ak.new _ _ _,Jq.out.fresh hM.size⟩⟩
   obtain⟨x8,rfl⟩:=hv;go_simp;refine hK _ _ ?_;clear hK K
   repeat (refine RegG.ai (fun K hK=>?_);first | (refine RegG.br rfl ?_;try go_simp;refine hK _ _ ?_;clear hK K) | (refine RegG.aZ rfl rfl ?_;unfold ar;go_simp;refine hK _ _ ?_;clear hK K))
   refine RegG.ai (fun K hK=>?_);refine RegG.bA rfl rfl (jB.jd.app (w.heap.size+5) jS PL (od jS.heap.size (.slice na k nc) k xs (encS (fh [c])).toList) (List.mem_of_getElem? qE)) rfl (fun W hW hN=>?_) (fun v hv=>?_)
   ·have hM:=(HC.out W).1 hW
    have mm:=hN.at 0 rfl (by kernel_rfl) x8 rfl;clear hW hK K;exact jB.dB (w0:=jS) (PL:=PL) (p:=(od jS.heap.size (.slice na k nc) k xs (encS (fh [c])).toList)) (.tmp 17) (.tmp 24) 28 rfl iS (.agg #[.int .u64 0,.int .u64 0,.int .u64 0,.int .u64 0]) 32 Tryz.underlying28 Ur Fj Fk Ja rfl (show(0:Nat)<4 from by decide) Jq.out qE rfl (hM.old _ (List.mem_of_getElem? qE) U0.out) ⟨x8,0,none⟩ 1 rfl (encS (fh [c])).toList rfl rfl (bZ mm.1) (by intro u hu;simp[encS]at hu;rcases hu with rfl | rfl | rfl | rfl<;>rfl) (by show k+1<=maxLen;unfold maxLen;omega) (by show(k+1)*32<=_;omega) (Nat.le_trans (by omega) hM.size) (show(0:Nat)<1 from by decide) hM.size (fun v W2 g1 g2 g3 _=>⟨g1,g2,g3⟩)
   obtain⟨DN,DO,hv2⟩:=hv;replace hv2:v=.slice DN (k+1) DO:=hv2;subst hv2;go_simp;refine hK _ _ ?_;clear hK K
   repeat (refine RegG.ai (fun K hK=>?_);first | (refine RegG.br rfl ?_;try go_simp;refine hK _ _ ?_;clear hK K) | (refine RegG.aZ rfl rfl ?_;unfold ar;go_simp;refine hK _ _ ?_;clear hK K))
   refine RegG.ai (fun K hK=>?_);refine RegG.bA rfl rfl (jB.jd.tq (w.heap.size+5) jS PL 1 #[.slice none 0 0] 37) rfl (fun W hW hN=>?_) (fun v hv=>?_)
   ·have hM:=(HC.out W).1 hW
    clear hW hK K
    (go_simp;exact⟨.below ((Ext.refl _).alloc _).below,⟨_,rfl⟩,fun b hb=>by cases hb;exact⟨ak.new _ _ _,Jq.out.fresh hM.size⟩⟩)
   obtain⟨x12,rfl⟩:=hv;go_simp;refine hK _ _ ?_;clear hK K
   repeat (refine RegG.ai (fun K hK=>?_);first | (refine RegG.br rfl ?_;try go_simp;refine hK _ _ ?_;clear hK K) | (refine RegG.aZ rfl rfl ?_;unfold ar;go_simp;refine hK _ _ ?_;clear hK K))
   refine RegG.ai (fun K hK=>?_);refine RegG.bA rfl rfl (jB.jd.app (w.heap.size+5) jS PL (oh jS.heap.size (.slice ma k mc) k us) (List.mem_of_getElem? rF)) rfl (fun W hW hN=>?_) (fun v hv=>?_)
   ·have hM:=(HC.out W).1 hW
    have mm:=hN.at 0 rfl (by kernel_rfl) x12 rfl;clear hW hK K;exact jB.dB (w0:=jS) (PL:=PL) (p:=(oh jS.heap.size (.slice ma k mc) k us)) (.tmp 27) (.tmp 28) 29 rfl iL (.slice none 0 0) 24 Tryz.underlying29 wW kQ kR kS rfl (show(0:Nat)<1 from by decide) Jq.out rF rfl (hM.old _ (List.mem_of_getElem? rF) U2.out) ⟨x12,0,none⟩ 1 rfl [.slice none 0 0] rfl rfl (bZ mm.1) (by intro u hu;simp at hu;rw[hu];rfl) (by show k+1<=maxLen;unfold maxLen;omega) (by show(k+1)*24<=_;omega) (Nat.le_trans (by omega) hM.size) (show(0:Nat)<1 from by decide) hM.size (fun v W2 g1 g2 g3 _=>⟨g1,g2,g3⟩)
   obtain⟨FJ,FK,hv2⟩:=hv;replace hv2:v=.slice FJ (k+1) FK:=hv2;subst hv2;go_simp;refine hK _ _ ?_;clear hK K
   repeat (refine RegG.ai (fun K hK=>?_);first | (refine RegG.br rfl ?_;try go_simp;refine hK _ _ ?_;clear hK K) | (refine RegG.aZ rfl rfl ?_;unfold ar;go_simp;refine hK _ _ ?_;clear hK K))
   refine RegG.aY (fun W7 hW hH=>?_);have hM:=(HC.out W7).1 hW;have Q1:Hid (jB.After (w.heap.size+5) jS (oh jS.heap.size (.slice ma k mc) k us) W7 (.slice FJ (k+1) FK)):=hid (hH _ (List.mem_of_getElem? (show _=some _ from rfl:_[0]? =some _)));have Q0:Hid (jB.After (w.heap.size+5) jS (od jS.heap.size (.slice na k nc) k xs (encS (fh [c])).toList) W7 (.slice DN (k+1) DO)):=hid (hH _ (List.mem_of_getElem? (show _=some _ from rfl:_[2]? =some _)));have K7:Hid (aa (fun x=>x<jS.heap.size/\¬ ∃ q∈PL,q.v.ownBlock=some x) jS W7):=hid hM.keeps
   have KR:Hid (∀ (bs m:Nat) (u:Value) (ys:List Value),jS.ownsRow bs 3 1 u m ys->W7.ownsRow bs 3 1 u m ys):=hid (by
    intro bs m u ys ho;refine ae ho K7.out fun x hx=>⟨(ho.lt x hx).2,?_⟩
    rintro⟨q,hq,P0⟩;rcases zi.out q hq with rfl | rfl
    ·rcases ownBlock_ne (by decide) ho U0.out with h5 | h5
     ·rw[h5]at hx;cases hx
     ·exact h5 (hx.trans P0.symm)
    ·rcases ownBlock_ne (by decide) ho U2.out with h5 | h5
     ·rw[h5]at hx;cases hx
     ·exact h5 (hx.trans P0.symm))
   have B7:=hid (HB.out.keeps K7.out ⟨HB.out.lt,FI.out _ (.inl (by omega))⟩);have IT7:Hid (W7.heap[w.heap.size+4]? =some (.stringIter s (k+1))):=hid ((K7.out.keep _ ⟨by omega,FI.out _ (.inl (by omega))⟩).trans HIT.out);have X7:Hid (aa (fun x=>x<w.heap.size+3) V W7):=hid (HX.out.tr (K7.out.mono fun x (hx:x<w.heap.size+3)=>⟨by omega,FI.out x (by omega)⟩))
   have O7:Hid (W7.ownsRow (w.heap.size+5) 70 4 (.slice DN (k+1) DO) (k+1) (aD ((l.take (k+1)).map fun c=>fh [c]))):=hid (by
    obtain⟨⟨ns,h5,h6⟩,_⟩:=Q0.out;replace h6:ns=(encS (fh [c])).toList:=h6;subst h6;rw[List.take_add_one,HLC.out,Option.toList_some,List.map_append,ft, <-QG.out];replace h5:W7.ownsRow (w.heap.size+5) 70 4 (.slice DN (k+1) DO) (k+1) (xs++(encS (fh [c])).toList):=h5;have e:aD ([c].map fun c=>fh [c])=(encS (fh [c])).toList:=by simp[aD]
    rw[e]
    exact h5)
   have P7:Hid (W7.ownsRow (w.heap.size+5) 37 1 (.slice FJ (k+1) FK) (k+1) (us++ [.slice none 0 0])):=hid (by
    obtain⟨⟨ns,h5,h6⟩,_⟩:=Q1.out;replace h6:ns=[.slice none 0 0]:=h6;subst h6
    exact h5)
   have P8:Hid (∀ (i:Nat) (u:Value) (l:List Int),us[i]? =some u->(zf k)[i]? =some l->W7.ownsRow (w.heap.size+5) 3 1 u l.length (l.map aF)):=hid fun i u l hu hl=>KR.out _ _ _ _ (U3.out i u l hu hl)
   have hs7:jS.heap.size<=W7.heap.size:=K7.out.size;clear hM hW hH HC o1 o2 qE rF Jq zi FI K7 KR HB HIT HX Q0 Q1 L1 L2 U0 U2 U3 QG Vf hne;obtain⟨k0,k1,k2,k3,k4⟩:=B7.out.five;have z0:=B7.out.frozen 0;have z1:=B7.out.frozen 1;have kg:aa (· ≠w.heap.size+3) W7 ((W7.setCell ⟨w.heap.size+3,0,none⟩ (.slice DN (k+1) DO)).setCell ⟨w.heap.size+3,1,none⟩ (.slice FJ (k+1) FK)):=
    ((aa.refl _ _).setCell (p:=⟨w.heap.size+3,0,none⟩) (fun h=>h rfl) _).setCell (p:=⟨w.heap.size+3,1,none⟩) (fun h=>h rfl) _
   obtain⟨W8,QD⟩:∃ W8,W8=((W7.setCell ⟨w.heap.size+3,0,none⟩ (.slice DN (k+1) DO)).setCell ⟨w.heap.size+3,1,none⟩ (.slice FJ (k+1) FK)):=⟨_,rfl⟩;rw[<-QD]at kg;have B8:Hid (ak W8 (w.heap.size+3) #[.slice DN (k+1) DO,.slice FJ (k+1) FK,.slice (some ⟨w.heap.size+1,0,none⟩) 1 1,.slice (some ⟨w.heap.size+2,0,none⟩) 1 1,.bool false] 44):=hid (by rw[QD];exact(B7.out.set 0 _).set 1 _);have IT8:Hid (W8.heap[w.heap.size+4]? =some (.stringIter s (k+1))):=hid ((kg.keep _ (by show w.heap.size+4≠_;omega)).trans IT7.out);have X8:Hid (aa (fun x=>x<w.heap.size+3) V W8):=hid (X7.out.tr (kg.mono fun x (hx:x<w.heap.size+3)=>by show x≠_;omega));have O8:=hid (ae O7.out kg fun x e=>by have:=(O7.out.lt x e).1;show x≠_;omega);have R8:=hid (ae P7.out kg fun x e=>by have:=(P7.out.lt x e).1;show x≠_;omega);have S8:Hid (∀ (i:Nat) (u:Value) (l:List Int),us[i]? =some u->(zf k)[i]? =some l->W8.ownsRow (w.heap.size+5) 3 1 u l.length (l.map aF)):=hid fun i u l hu hl=>by
    have h5:=P8.out i u l hu hl;exact ae h5 kg fun x e=>by have:=(h5.lt x e).1;show x≠_;omega
   have hs8:W7.heap.size<=W8.heap.size:=kg.size;clear kg O7 P7 P8 X7 IT7 B7
   go_upto_if 33 with fail
   rw[<-QD];clear QD k0 k1 k2 k3 k4 z0 z1;by_cases Ab:k=0
   ·subst Ab
    have sU:¬ ((0:Int)<((0:Nat):Int)):=by decide
    go_wp2;go_roundw;case rel=>
     refine⟨1,_,_,by omega,IT8.out,B8.out,O8.out,?_,X8.out,by omega⟩;refine⟨us++ [.slice none 0 0],by rw[List.length_append,Ki.out,jR];rfl,by rw[List.length_append,Ki.out];exact R8.out,fun i u l hu hl=>?_⟩;have hi:=(List.getElem?_eq_some_iff.1 hl).1;rw[jR]at hi;obtain rfl:i=0:=by omega
     rw[List.getElem?_append_right (by rw[Ki.out];omega),Ki.out]at hu;cases hu;cases hl;exact World.ownsRow_nil _ _ _ _
    case measure=>
     rw[iterPos_of IT8.out];omega
   ·have sU:(0:Int)<k:=by omega
    have hk2:IntKind.i64.wrap ((k:Int)-1)=((k-1:Nat):Int):=by rw[IntWalk.i64_in _ (by omega)];omega
    have hk3:((k-1:Nat):Int)<((k:Int)+1):=by omega
    have hk4:k-1<k+1:=by omega
    obtain⟨g,uo,e1,hg1,hg2,hgu,gc,gf⟩:=eH R8.out hk4;have e2:FJ=some ⟨g,0,none⟩:=e1;subst e2;have m1:W8.cell? ⟨w.heap.size+3,1,none⟩=some (.slice (some ⟨g,0,none⟩) (k+1) FK):=B8.out.cell 1;go_wp2;go_roundw;case rel=>
     have kg:aa (· ≠g) W8 (W8.setCell ⟨g,k-1,none⟩ (.slice (some ⟨W8.heap.size,0,none⟩) 1 1)):=(aa.refl _ _).setCell (p:=⟨g,k-1,none⟩) (fun h=>h rfl) _;have ksz:(W8.setCell ⟨g,k-1,none⟩ (.slice (some ⟨W8.heap.size,0,none⟩) 1 1)).heap.size=W8.heap.size:=by simp
     have rw8:=(R8.out.stored (k-1) (.slice (some ⟨W8.heap.size,0,none⟩) 1 1)).1.alloc (.cells #[.int .i64 k] 3)
     have far:∀ {e:TypeId} {size m:Nat} {u:Value} {ys:List Value},W8.ownsRow (w.heap.size+5) e size u m ys->e≠37->((W8.setCell ⟨g,k-1,none⟩ (.slice (some ⟨W8.heap.size,0,none⟩) 1 1)).alloc (.cells #[.int .i64 k] 3)).ownsRow (w.heap.size+5) e size u m ys:=fun h he=>(ae h kg fun x hx e2=>by
      rcases ownBlock_ne he h R8.out with h5 | h5
      ·rw[h5]at hx;cases hx
      ·exact h5 (hx.trans (by rw[e2];rfl))).alloc _
     have xk:aa (fun x=>x<w.heap.size+3) W8 ((W8.setCell ⟨g,k-1,none⟩ (.slice (some ⟨W8.heap.size,0,none⟩) 1 1)).alloc (.cells #[.int .i64 k] 3)):=(kg.mono fun x (hx:x<w.heap.size+3)=>by show x≠g;omega).alloc (fun y hy=>by have:y<w.heap.size+3:=hy;omega) _;refine⟨k+1,_,_,by omega,(heap_alloc_old _ _ (by rw[ksz];omega)).trans ((kg.keep _ (by show w.heap.size+4≠g;omega)).trans IT8.out),(B8.out.keeps kg (by omega)).alloc _,far O8.out (by decide),?_,X8.out.tr xk,by simp;omega⟩;have hlen:((us++ [Value.slice none 0 0]).set (k-1) (.slice (some ⟨W8.heap.size,0,none⟩) 1 1)).length=k+1:=by rw[List.length_set,List.length_append,Ki.out];rfl
     refine⟨(us++ [Value.slice none 0 0]).set (k-1) (.slice (some ⟨W8.heap.size,0,none⟩) 1 1),by rw[hlen,jR],by rw[hlen];exact rw8,fun i u l hu hl=>?_⟩;have hi:=(List.getElem?_eq_some_iff.1 hl).1;rw[jR]at hi;rw[Cy hi]at hl;by_cases ei:i=k-1
     ·subst ei
      rw[List.getElem?_set_self (by rw[List.length_append,Ki.out];simp;omega)]at hu;cases hu;rw[if_pos (by omega)]at hl;cases hl;refine⟨rfl,.inr ⟨W8.heap.size,1, #[.int .i64 k],rfl,by omega,kz ksz,Nat.le_refl _,by unfold maxLen;omega,rfl,?_⟩⟩
      ·have:((k-1:Nat):Int)+1=k:=by omega
       simp only[List.map_cons,List.map_nil,aF];rw[<-this];simp
     ·rw[List.getElem?_set_ne (fun h=>ei h.symm)]at hu
      by_cases ek:i<k
      ·rw[List.getElem?_append_left (by rw[Ki.out];exact ek)]at hu
       rw[if_pos (by omega)]at hl;cases hl;refine far (S8.out i u _ hu ?_) (by decide);rw[Cy ek,if_pos (by omega)]
      ·obtain rfl:i=k:=by omega
       rw[List.getElem?_append_right (by rw[Ki.out];omega),Ki.out,Nat.sub_self]at hu;cases hu;rw[if_neg (by omega)]at hl;cases hl;exact World.ownsRow_nil _ _ _ _
    case measure=>
     have kg:aa (· ≠g) W8 (W8.setCell ⟨g,k-1,none⟩ (.slice (some ⟨W8.heap.size,0,none⟩) 1 1)):=(aa.refl _ _).setCell (p:=⟨g,k-1,none⟩) (fun h=>h rfl) _;rw[aeo,iterPos_of ((heap_alloc_old _ _ (by simp;omega)).trans ((kg.keep _ (by show w.heap.size+4≠g;omega)).trans IT8.out))];omega
  ·obtain rfl:k=n:=by omega
   have zM:¬k<s.size:=by omega
   have G5:∀ ty,(Instr.next (.pointer (some ⟨w.heap.size+4,0,none⟩)) true ty).run Tryz.prog wo=_:=fun ty=>Lib.run_next_end_at wo (w.heap.size+4) s k ty hit zM
   obtain⟨ua,uc,rfl⟩:=ownsRow_form h0;obtain⟨fa,fc,rfl⟩:=WK.form;rw[jR]at*;have R9:=hid (R0.out.keeps hx (by show w.heap.size<_;omega));have C1:=hid (A1.out.keeps hx (by show w.heap.size+1<_;omega));have C2:=hid (A2.out.keeps hx (by show w.heap.size+2<_;omega));have HB:=hid hb;have H0:=hid h0;have H1:=hid WK;have HX:=hid (XV.out.trans (hx.mono fun x (h:x<w.heap.size)=>by show x<_;omega:aa (· <w.heap.size) V wo).below);have dw:(l.take k).map (fun c=>fh [c])=(dt l).az:=by rw[lU.out,List.take_length];rfl
   rw[dw]at H0;have HFK:Hid (zf k=(dt l).bJ):=hid (by unfold zf dt;rw[lU.out]);obtain⟨k0,k1,k2,k3,k4⟩:=HB.out.five;obtain⟨y0,y1,y2,y3,y4⟩:=R9.out.five;have z0:=R9.out.frozen 0;have z1:=R9.out.frozen 1;have z2:=R9.out.frozen 2;have z3:=R9.out.frozen 3;have z4:=R9.out.frozen 4;clear h0 WK hb hx hit;go_wp2;refine bC ?_;intro W9 gg;have E9:Hid (ak W9 w.heap.size #[.slice ua k uc,.slice fa k fc,.slice (some ⟨w.heap.size+1,0,none⟩) 1 1,.slice (some ⟨w.heap.size+2,0,none⟩) 1 1,.bool false] 44/\aa (· ≠w.heap.size) wo W9):=by
    rw[gg];exact hid ⟨R9.out.T9,nM _ _ _ _ _ _ _⟩
   clear gg z0 z1 z2 z3 z4 y0 y1 y2 y3 y4 k0 k1 k2 k3 k4;obtain⟨m0,m1,m2,m3,m4⟩:=E9.out.1.five;refine bodyPost_ret (v:=.agg #[.slice ua k uc,.slice fa k fc,.slice (some ⟨w.heap.size+1,0,none⟩) 1 1,.slice (some ⟨w.heap.size+2,0,none⟩) 1 1,.bool false]) (by simp[results,Tryz.results36,go_sem,m0,m1,m2,m3,m4]) rfl ⟨_,rfl,⟨_,_,_,_,rfl,?_,?_,?_,?_⟩,HX.out.trans (E9.out.2.mono fun x (hx:x<w.heap.size)=>by show x≠w.heap.size;omega:aa (· <w.heap.size) wo W9).below⟩
   ·have h5:=ax (ae H0.out E9.out.2 fun x e=>by have:=(H0.out.lt x e).1;show x≠_;omega) (show w.heap.size<=w.heap.size+5 by omega)
    have e:(dt l).az.length=k:=by rw[lU.out];simp[dt]
    rw[e];exact h5
   ·rw[<-HFK.out]
    exact(H1.out.keeps E9.out.2 fun x g1 _=>by show x≠_;omega).base (by omega)
   ·have D1:=C1.out.keeps E9.out.2 (by omega)
    exact⟨rfl,.inr ⟨w.heap.size+1,1, #[.int .i64 0],rfl,by omega,D1,Nat.le_refl _,by unfold maxLen;omega,rfl,rfl⟩⟩
   ·have D2:=C2.out.keeps E9.out.2 (by omega)
    refine⟨rfl,.inr ⟨w.heap.size+2,1, #[.int .i64 ((k:Int)-1)],rfl,by omega,D2,Nat.le_refl _,by unfold maxLen;omega,rfl,?_⟩⟩;rw[lU.out];rfl
end Go.Proofs.YtbiboekhakbnpaaGreatDoor
namespace Go.Proofs.YtbiboekhakbnpaaGreatDoor
open Go Go.RowKit Go.Shelf Go.Maps
def cE (ps:List PT) (ls:List Nat) (row:List (List Int)) (k:Nat):List (List Int):=bU ps row (ls.getD k 0)
def uE (ps:List PT) (ls:List Nat) (f:Nat):Option (List (List (List Int))×List (List Nat)):=
 if f=0 then none else cQ f (cE ps ls) ls.length (gh ps) f
theorem QH {f:Nat} {rows:List (List (List Int))} {row:List Nat} {q:List (List Int)} (h:q∈rows):gY f (rows,row) q=some (rows,row++ [Ue rows q]):=Lt (st:=(rows,row)) h
theorem Nv {f:Nat} {rows:List (List (List Int))} {row:List Nat} {q:List (List Int)} (h:q∉rows) (hf:rows.length<f):gY f (rows,row) q=some (rows++ [q],row++ [rows.length]):=Ls (st:=(rows,row)) h (Nat.ne_of_lt hf)
theorem Jr {f:Nat} {rows:List (List (List Int))} {row:List Nat} {q:List (List Int)} (h:q∉rows) (hf:rows.length=f):gY f (rows,row) q=none:=Io (st:=(rows,row)) h hf
theorem Ha {ps:List PT} {ls:List Nat} {f n:Nat} (hf:1<=f) {st:List (List (List Int))×List (List Nat)} (h:cQ f (cE ps ls) ls.length (gh ps) n=some st):TQ f ls.length (nk ps) (gh ps) n st:=
 mq hf (py ps) (fun _ _ hr _=>jH hr _) n h
theorem QI {ps:List PT} {ls:List Nat} {f n:Nat} (hf:1<=f) {st:List (List (List Int))×List (List Nat)} (h:cQ f (cE ps ls) ls.length (gh ps) n=some st) (hn:st.1.length=n):uE ps ls f=some st:=by unfold uE;rw[if_neg (by omega)];exact tA h (by omega) f (by have:=(Ha hf h).le;omega)
theorem Nw {ps:List PT} {ls:List Nat} {f n:Nat} {rows:List (List (List Int))} {vO:List (List Nat)} (h:cQ f (cE ps ls) ls.length (gh ps) n=some (rows,vO)) {p:List (List Int)} (hp:rows[n]? =some p): cQ f (cE ps ls) ls.length (gh ps) (n+1)=(bY f (cE ps ls p) rows ls.length).map fun r=>(r.1,vO++ [r.2]):=by rw[cQ,h];show cV f (cE ps ls) ls.length n (rows,vO)=_;unfold cV;simp only[hp]
theorem QJ {ps:List PT} {ls:List Nat} {f n k:Nat} (hf:1<=f) {rows:List (List (List Int))} {vO:List (List Nat)} (h:cQ f (cE ps ls) ls.length (gh ps) n=some (rows,vO)) {p:List (List Int)} (hp:rows[n]? =some p) {Nx:List (List (List Int))} {row':List Nat} (hr:bY f (cE ps ls p) rows k=some (Nx,row')) (hk:k<ls.length) (hq:cE ps ls p k∉Nx) (zN:f<=Nx.length):uE ps ls f=none:=by
 have I:=Ha hf h;have R:=oY (P:=fun _=>True) I.nodup I.le (fun _ _=>trivial) k (fun _ _=>trivial) hr;have h1:bY f (cE ps ls p) rows (k+1)=none:=by rw[bY,hr];exact Jr hq (Nat.le_antisymm R.le zN)
 have h2:=Ez h1 ls.length (by omega);have h3:=Nw h hp;rw[h2]at h3;have hn:n<rows.length:=(List.getElem?_eq_some_iff.1 hp).1;have hle:rows.length<=f:=I.le;unfold uE;rw[if_neg (by omega)];exact qi h3 f (by omega)
theorem uF {wm wg:World} {mb base L:Nat} {cs:Array Value} {nv:Value} {ns:List Value} (hb:ak wm mb cs 95) (hn:wm.ownsRow base 37 1 nv L ns) (K:aa (fun x=>x<wm.heap.size/\x≠mb/\nv.ownBlock≠some x) wm wg) {b n:Nat} {e:TypeId} {v:Value} {xs:List Value} (h:wm.ownsRow b e 1 v n xs) (h1:95≠e) (h3:e≠37\/∀ x,v.ownBlock=some x->nv.ownBlock≠some x):wg.ownsRow b e 1 v n xs:=
 ae h K fun x hx=>⟨(h.lt x hx).2,bI hb h h1 x hx,fun e2=>by
  rcases h3 with h3 | h3
  ·rcases ownBlock_ne h3 h hn with h5 | h5
   ·rw[h5]at hx;cases hx
   ·exact h5 (by rw[hx,e2])
  ·exact h3 x hx e2⟩
theorem kU.not {u v:Value} (h:kU u v):∀ x,u.ownBlock=some x->v.ownBlock≠some x:=fun x e e2=>by
 rcases h with h | h
 ·rw[h]at e;cases e
 ·exact h (by rw[e,e2])
theorem kU.not' {u v:Value} (h:kU u v):∀ x,v.ownBlock=some x->u.ownBlock≠some x:=fun x e e2=>h.not x e2 e
theorem Mk.next {F:Nat->Prop} {wm wg:World} {base mb ob f L:Nat} {pv cv:Value} {ps:List PT} {rows:List (List (List Int))} {nx:List (List Int)} {sv nv kv WM xv:Value} {us ns ks:List Value} {l:List Int} (M:Mk F wm base mb ob f pv cv ps rows nx sv nv kv us ns ks) (hL:L=nx.length) (K:aa (fun x=>x<wm.heap.size/\x≠mb/\nv.ownBlock≠some x) wm wg) (hblk:ak wg mb #[pv,.int .i64 f,sv,.map (some ob),cv,WM,kv] 95) (Pd:fM F wg base 37 WM (L+1) (ns++ [xv])) (hx:fM F wg base 3 xv l.length (l.map aF)) (zP:WM.ownBlock=nv.ownBlock\/∀ x,WM.ownBlock=some x->wm.heap.size<=x):Mk F wg base mb ob f pv cv ps rows (nx++ [l]) sv WM kv us (ns++ [xv]) ks where
 blk:=hblk
 map:=M.map.keeps K ⟨M.map.lt,(fun e=>by have h2:wm.heap[mb]? =_:=M.blk;have h3:wm.heap[ob]? =_:=M.map;rw[e,h2]at h3;cases h3),fun e=>qD M.rS.1 M.map (fun c fz e=>by cases e) ob e rfl⟩
 fm:=M.fm
 fo:=M.fo
 bm:=M.bm
 bo:=M.bo
 st:=⟨uF M.blk M.rS.1 K M.st.1 (by decide) (.inl (by decide)),M.st.2⟩
 OQ:=fun i u q hu hq=>by
  obtain⟨⟨vs,h1,h2⟩,h3,h4⟩:=M.OQ i u q hu hq;exact⟨⟨vs,⟨uF M.blk M.rS.1 K h1.1 (by decide) (.inr h3.not),h1.2⟩,fun i u l hu hl=>⟨uF M.blk M.rS.1 K (h2 i u l hu hl).1 (by decide) (.inl (by decide)),(h2 i u l hu hl).2⟩⟩,h3.step zP fun b e=>(h1.1.lt b e).2,h4⟩
 rS:=by rw[List.length_append, <-hL];exact Pd
 J1:=fun i u l' hu hl=>by
  have Yu:ns.length=L:=by have:=M.rS.1.1;omega
  by_cases hi:i<L
  ·rw[List.getElem?_append_left (by omega)]at hu
   rw[List.getElem?_append_left (by omega)]at hl;exact⟨uF M.blk M.rS.1 K (M.J1 i u l' hu hl).1 (by decide) (.inl (by decide)),(M.J1 i u l' hu hl).2⟩
  ·have fU:=(List.getElem?_eq_some_iff.1 hu).1
   simp at fU;obtain rfl:i=L:=by omega
   rw[List.getElem?_append_right (by omega),Yu,Nat.sub_self]at hu;rw[List.getElem?_append_right (by omega), <-hL,Nat.sub_self]at hl;cases hu;cases hl;exact hx
 rD:=⟨uF M.blk M.rS.1 K M.rD.1 (by decide) (.inr M.far.not'),M.rD.2⟩
 J2:=fun i u l hu hl=>⟨uF M.blk M.rS.1 K (M.J2 i u l hu hl).1 (by decide) (.inl (by decide)),(M.J2 i u l hu hl).2⟩
 far:=by
  rcases zP with h | h
  ·rcases M.far with h5 | h5
   ·exact .inl (h.trans h5)
   ·exact .inr (by rw[h];exact h5)
  ·cases e:WM.ownBlock with
   | none=>exact .inl e
   | some x=>exact .inr fun e2=>by have:=h x e;have:=(M.rD.1.lt x (by rw[<-e2,e])).2;omega
end Go.Proofs.YtbiboekhakbnpaaGreatDoor
