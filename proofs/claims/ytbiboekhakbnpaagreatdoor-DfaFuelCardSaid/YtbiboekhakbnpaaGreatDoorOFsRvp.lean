/- The law DfaFuel. Printed by wip/gen/o18.py. -/
import Derived.Test.YtbiboekhakbnpaaGreatDoorOF37
set_option maxRecDepth 100000
set_option maxHeartbeats 16000000
open Go.Lib (hid)
namespace Go.Proofs.YtbiboekhakbnpaaGreatDoor
open Go Go.RowKit Go.Shelf Go.Maps
def zJ (xs:List Value) (k:Nat) (u0 u1 u2 u3 u4 u5 u6:Value):List Value:=((((((xs.set (k*7) u0).set (k*7+1) u1).set (k*7+2) u2).set (k*7+3) u3).set (k*7+4) u4).set (k*7+5) u5).set (k*7+6) u6
theorem Oq (xs:List Value) (k:Nat) (u0 u1 u2 u3 u4 u5 u6:Value):(zJ xs k u0 u1 u2 u3 u4 u5 u6).length=xs.length:=by simp[zJ]
theorem ow {xs:List Value} {k i j:Nat} {u0 u1 u2 u3 u4 u5 u6:Value} (h:i≠k) (hj:j<7):(zJ xs k u0 u1 u2 u3 u4 u5 u6)[i*7+j]? =xs[i*7+j]? :=by
 have hn:i*7+j<k*7\/k*7+6<i*7+j:=by omega
 unfold zJ;rw[List.getElem?_set_ne (by omega),List.getElem?_set_ne (by omega),List.getElem?_set_ne (by omega),List.getElem?_set_ne (by omega),List.getElem?_set_ne (by omega),List.getElem?_set_ne (by omega),List.getElem?_set_ne (by omega)]
theorem xV {xs:List Value} {k n:Nat} (hl:xs.length=n*7) (hk:k<n) (u0 u1 u2 u3 u4 u5 u6:Value) {j:Nat} {u:Value} (h:[u0,u1,u2,u3,u4,u5,u6][j]? =some u):(zJ xs k u0 u1 u2 u3 u4 u5 u6)[k*7+j]? =some u:=by
 have hj:=(List.getElem?_eq_some_iff.1 h).1;have h7:j<7:=by simpa using hj
 have hm:j=0\/j=1\/j=2\/j=3\/j=4\/j=5\/j=6:=by omega
 unfold zJ;rcases hm with rfl | rfl | rfl | rfl | rfl | rfl | rfl<;>cases h<;>(try simp only[Nat.add_zero])<;>(repeat (first | rw[List.getElem?_set_self (by simp[hl];omega)] | rw[List.getElem?_set_ne (by omega)]))
theorem pT {w:World} {base g n cap:Nat} {xs:List Value} (h:w.ownsRow base 46 7 (.slice (some ⟨g,0,none⟩) n cap) n xs) (k:Nat) (u0 u1 u2 u3 u4 u5 u6:Value): (((((((w.setCell ⟨g,k*7,none⟩ u0).setCell ⟨g,k*7+1,none⟩ u1).setCell ⟨g,k*7+2,none⟩ u2).setCell ⟨g,k*7+3,none⟩ u3).setCell ⟨g,k*7+4,none⟩ u4).setCell ⟨g,k*7+5,none⟩ u5).setCell ⟨g,k*7+6,none⟩ u6).ownsRow base 46 7 (.slice (some ⟨g,0,none⟩) n cap) n (zJ xs k u0 u1 u2 u3 u4 u5 u6):=
 (((((((h.stored (k*7) u0).1.stored (k*7+1) u1).1.stored (k*7+2) u2).1.stored (k*7+3) u3).1.stored (k*7+4) u4).1.stored (k*7+5) u5).1.stored (k*7+6) u6).1
theorem uZ (w:World) (g k:Nat) (u0 u1 u2 u3 u4 u5 u6:Value):aa (· ≠g) w (((((((w.setCell ⟨g,k*7,none⟩ u0).setCell ⟨g,k*7+1,none⟩ u1).setCell ⟨g,k*7+2,none⟩ u2).setCell ⟨g,k*7+3,none⟩ u3).setCell ⟨g,k*7+4,none⟩ u4).setCell ⟨g,k*7+5,none⟩ u5).setCell ⟨g,k*7+6,none⟩ u6):=
 (((((((aa.refl _ _).setCell (fun e=>e rfl) _).setCell (fun e=>e rfl) _).setCell (fun e=>e rfl) _).setCell (fun e=>e rfl) _).setCell (fun e=>e rfl) _).setCell (fun e=>e rfl) _).setCell (fun e=>e rfl) _
def jV (n k i:Nat):Nat:=if i<k\/n-k<=i then n-1-i else i
def JM (g base n cap:Nat) (ys:List Value) (A B:World):Prop:=aa (fun x=>x<A.heap.size/\x≠g) A B/\(A.ownsRow base 46 7 (.slice (some ⟨g,0,none⟩) n cap) n ys->B.ownsRow base 46 7 (.slice (some ⟨g,0,none⟩) n cap) n ys)
theorem JM.trans {g base n cap:Nat} {ys:List Value} {A B C:World} (h1:JM g base n cap ys A B) (h2:JM g base n cap ys B C):JM g base n cap ys A C:=⟨h1.1.trans h2.1 fun _ hx=>⟨Nat.lt_of_lt_of_le hx.1 h1.1.size,hx.2⟩,fun h=>h2.2 (h1.2 h)⟩
theorem JM.drew {g base n cap:Nat} {ys:List Value} {A:World} :JM g base n cap ys A A.drew:=⟨(aa.refl _ _).drew,fun a=>a⟩
theorem JM.refl {g base n cap:Nat} {ys:List Value} {A:World} :JM g base n cap ys A A:=⟨aa.refl _ _,fun a=>a⟩
def Tb (g base n cap:Nat) (ys:List Value):aO (JM g base n cap ys):=⟨fun u=>u=undef,fun _ W=>W.ownsRow base 46 7 (.slice (some ⟨g,0,none⟩) n cap) n ys,undef,rfl,fun _ _ _ hm _ h=>hm.2 h⟩
theorem vd {P:Program} {o:Oper} {a:Act} {v:Value} {W:World} {post:Value->World->Prop} (hv:v≠undef) (h:ar P o a v W) (hp:post v W):iu (Calls P) eL post ((execOp a.eval o).run P W):=by
 rcases h with h | ⟨_,h⟩
 ·rw[h];exact hp
 ·exact absurd h hv
theorem RF {w:World} {base g n cap k:Nat} {xs:List Value} (h:w.ownsRow base 46 7 (.slice (some ⟨g,0,none⟩) n cap) n xs) {u0 u1 u2 u3 u4 u5 u6:Value} (hc:∀ j u,[u0,u1,u2,u3,u4,u5,u6][j]? =some u->xs[k*7+j]? =some u):w.rangeAt g (k*7) [u0,u1,u2,u3,u4,u5,u6]:=fun j u hj=>by
 have:=h.cells (g:=g) rfl _ _ (hc j u hj);rw[Addr.add_mid]at this;simpa using this
theorem zK (base:Nat) (v:Value) (P:List PT) (hP:P.length<=1000) (w:World) (h:bP base w v P): Calls Tryz.prog 15 #[v] w fun e w'=>e=.returned (.tuple #[])/\bP base w' v P.reverse/\aa (fun x=>x<w.heap.size/\v.ownBlock≠some x) w w':=by
 obtain⟨cs,h1,h2⟩:=h;obtain⟨n,hn⟩:∃ n,n=P.length:=⟨_,rfl⟩;rw[<-hn]at h1 hP;have Wu:=hid h2;have HN:=hid hn;have hlen:=h1.1;have HL:=hid hlen;have eE:=hid h1;rcases h1.2 with⟨rfl,e0⟩ | ⟨g,cap,cur,rfl,e2,e3,e4,e5,_⟩
 ·have hP0:P=[]:=List.eq_nil_of_length_eq_zero (by omega)
  subst hP0;clear h1 h2 hlen;go_enter Tryz.func15,Tryz.ntmps15;go_wp2;go_loopw [2,3] (fun i j wr=>i=.int .i64 0/\j=.int .i64 (-1)/\wr=w) (fun _ _ _=>0);case atStart=>exact⟨rfl,rfl,rfl⟩
  case round=>
   obtain⟨rfl,rfl,hwr⟩:=hrel;replace hwr:=hwr.symm;subst hwr;go_wp2;refine bodyPost_end (results_none rfl _ _ _) rfl ?_;exact⟨rfl,bP.nil _ _,aa.refl _ _⟩
 ·have Sh:IntKind.i64.wrap ((n:Int)-1)=(n:Int)-1:=IntWalk.i64_in _ (by omega)
  clear h1 h2 hlen hn e3 e5;go_enter Tryz.func15,Tryz.ntmps15;go_wp2;go_loopw [2,3] (fun i j wr=>∃ (k:Nat) (xs:List Value),2*k<=n+1/\i=.int .i64 k/\j=.int .i64 ((n:Int)-1-k)/\wr.ownsRow base 46 7 (.slice (some ⟨g,0,none⟩) n cap) n xs/\(∀ i m,i<n->m<7->xs[i*7+m]? =cs[jV n k i*7+m]?)/\aa (fun x=>x<w.heap.size/\x≠g) w wr) (fun i _ _=>n+1-(intOf i).toNat);case atStart=>exact⟨0,cs,by omega,rfl,by simp,eE.out,fun i m hi _=>by rw[show jV n 0 i=i from if_neg (by omega)],aa.refl _ _⟩
  case round=>
   obtain⟨k,xs,hk,rfl,rfl,hrow,WL,Ma⟩:=hrel;obtain⟨wo,rfl⟩:∃ wo:World,wo=wr:=⟨_,rfl⟩;have HR:=hid hrow;have QG:=hid WL;have HK:=hid Ma;clear hrow WL Ma;by_cases hlt:2*k+1<n
   ·obtain⟨q,hq⟩:∃ q,q=n-1-k:=⟨_,rfl⟩
    have WE:(n:Int)-1-k=(q:Int):=by omega
    have ed:(k:Int)<(q:Int):=by omega
    have vQ:k<n:=by omega
    have Yc:q<n:=by omega
    have ami:(k:Int)<(n:Int):=by omega
    have amj:(q:Int)<(n:Int):=by omega
    rw[WE]
    -- the two parts
    obtain⟨x,hx⟩:∃ x,P[k]? =some x:=⟨_,List.getElem?_eq_getElem (by have:=HN.out;omega)⟩;obtain⟨y,hy⟩:∃ y,P[q]? =some y:=⟨_,List.getElem?_eq_getElem (by have:=HN.out;omega)⟩;obtain⟨x0,x1,x2,x3,ox,p0,p1,p2,p3,p4,p5,p6⟩:=Wu.out k x hx;obtain⟨y0,y1,y2,y3,oy,r0,r1,r2,r3,r4,r5,r6⟩:=Wu.out q y hy;have ek:jV n k k=k:=if_neg (by omega);have eq:jV n k q=q:=if_neg (by omega);have XJ:∀ j u,[x0,x1,x2,x3,.bool x.nf.emp,.bool x.A0,.int .i64 x.mark][j]? =some u->xs[k*7+j]? =some u:=fun j u hj=>by
     have hj7:j<7:=by simpa using(List.getElem?_eq_some_iff.1 hj).1
     rw[QG.out k j vQ hj7,ek];have hm:j=0\/j=1\/j=2\/j=3\/j=4\/j=5\/j=6:=by omega
     rcases hm with rfl | rfl | rfl | rfl | rfl | rfl | rfl<;>cases hj<;>assumption
    have hyc:∀ j u,[y0,y1,y2,y3,.bool y.nf.emp,.bool y.A0,.int .i64 y.mark][j]? =some u->xs[q*7+j]? =some u:=fun j u hj=>by
     have hj7:j<7:=by simpa using(List.getElem?_eq_some_iff.1 hj).1
     rw[QG.out q j Yc hj7,eq];have hm:j=0\/j=1\/j=2\/j=3\/j=4\/j=5\/j=6:=by omega
     rcases hm with rfl | rfl | rfl | rfl | rfl | rfl | rfl<;>cases hj<;>assumption
    obtain⟨J6,J7,J8,J9,Ka,Kb,Kc,Kd,Ke,Kf,Kg,Kh,hxe⟩:=ox.form;injection hxe with hxe
    obtain⟨QX,QY,QZ,Q8,Q9,Ra,Rb,Rc,Re,Rf,Rg,Rh,hye⟩:=oy.form;injection hye with hye
    obtain⟨rfl,rfl,rfl,rfl⟩:x0=.slice J6 J7 J8/\x1=.slice J9 Ka Kb/\x2=.slice Kc Kd Ke/\x3=.slice Kf Kg Kh:=by simpa using hxe
    obtain⟨rfl,rfl,rfl,rfl⟩:y0=.slice QX QY QZ/\y1=.slice Q8 Q9 Ra/\y2=.slice Rb Rc Re/\y3=.slice Rf Rg Rh:=by simpa using hye
    obtain⟨xe,aaK⟩:∃ b,b=x.nf.emp:=⟨_,rfl⟩;obtain⟨xb,aaL⟩:∃ b,b=x.A0:=⟨_,rfl⟩;obtain⟨xm,aaM⟩:∃ b,b=x.mark:=⟨_,rfl⟩;obtain⟨ye,aaN⟩:∃ b,b=y.nf.emp:=⟨_,rfl⟩;obtain⟨yb,aaO⟩:∃ b,b=y.A0:=⟨_,rfl⟩;obtain⟨ym,aaP⟩:∃ b,b=y.mark:=⟨_,rfl⟩;rw[<-aaK, <-aaL, <-aaM]at XJ;rw[<-aaN, <-aaO, <-aaP]at hyc;have HXC:=hid XJ;have HYC:=hid hyc;have HQ:=hid hq;clear XJ hyc p0 p1 p2 p3 p4 p5 p6 r0 r1 r2 r3 r4 r5 r6 hx hy ox oy ek eq hxe hye aaK aaL aaM aaN aaO aaP hq WE;obtain⟨ys,Gx⟩:∃ ys,ys=zJ xs k (.slice QX QY QZ) (.slice Q8 Q9 Ra) (.slice Rb Rc Re) (.slice Rf Rg Rh) (.bool ye) (.bool yb) (.int .i64 ym):=⟨_,rfl⟩;have HYS:=hid Gx;clear Gx;have sr:xs.length=n*7:=HR.out.1;go_wp2_with fail
    refine RegQ.aU (JM g base n cap ys) JM.drew (fun _ _ _ h k=>h.trans k) (by kernel_rfl) 14 [0,0,0,0,0,0,48,112,0,0,768,1792,4083,8179,16383,32767] (fun i=>i==7 || i==11 || i==13) (by kernel_rfl) (fun i=>if i=7 then aO.vo _ (.agg #[.slice QX QY QZ,.slice Q8 Q9 Ra,.slice Rb Rc Re,.slice Rf Rg Rh,.bool ye,.bool yb,.int .i64 ym])else if i=11 then aO.vo _ (.agg #[.slice J6 J7 J8,.slice J9 Ka Kb,.slice Kc Kd Ke,.slice Kf Kg Kh,.bool xe,.bool xb,.int .i64 xm])else if i=13 then Tb g base n cap ys else aO.any _) (fun j W=>(j=7\/j=11\/j=13)->W.ownsRow base 46 7 (.slice (some ⟨g,0,none⟩) n cap) n xs) (fun _ _ _=>HR.out) ?_;intro C hC hne;have HC:=hid hC;clear hC
    repeat (refine RegQ.ai (fun K hK=>?_);first | (refine RegQ.br rfl ?_;try go_simp;refine hK _ _ ?_;clear hK K) | (refine RegQ.aZ rfl rfl ?_;unfold ar;go_simp;refine hK _ _ ?_;clear hK K))
    refine RegQ.ai (fun K hK=>?_);refine RegQ.bA rfl rfl (aO.vo _ (.agg #[.slice QX QY QZ,.slice Q8 Q9 Ra,.slice Rb Rc Re,.slice Rf Rg Rh,.bool ye,.bool yb,.int .i64 ym])) rfl (fun W hW hD hN=>?_) (fun v hv=>?_)
    ·have xG:=hD (.inl rfl)
     clear hW hN hK K hD;exact vd (fun e=>by cases e) (ee 46 (.tmp 20) rfl g (q*7) rfl _ _ (RF xG HYC.out) Tryz.underlying46 rfl (by kernel_rfl)) ⟨⟨JM.refl,fun _ _ _ h=>h⟩,rfl,trivial⟩
    replace hv:v=_:=hv;subst hv;go_simp;refine hK _ _ ?_;clear hK K
    repeat (refine RegQ.ai (fun K hK=>?_);first | (refine RegQ.br rfl ?_;try go_simp;refine hK _ _ ?_;clear hK K) | (refine RegQ.aZ rfl rfl ?_;unfold ar;go_simp;refine hK _ _ ?_;clear hK K))
    refine RegQ.ai (fun K hK=>?_);refine RegQ.bA rfl rfl (aO.vo _ (.agg #[.slice J6 J7 J8,.slice J9 Ka Kb,.slice Kc Kd Ke,.slice Kf Kg Kh,.bool xe,.bool xb,.int .i64 xm])) rfl (fun W hW hD hN=>?_) (fun v hv=>?_)
    ·have xG:=hD (.inr (.inl rfl))
     clear hW hN hK K hD;exact vd (fun e=>by cases e) (ee 46 (.tmp 24) rfl g (k*7) rfl _ _ (RF xG HXC.out) Tryz.underlying46 rfl (by kernel_rfl)) ⟨⟨JM.refl,fun _ _ _ h=>h⟩,rfl,trivial⟩
    replace hv:v=_:=hv;subst hv;go_simp;refine hK _ _ ?_;clear hK K
    repeat (refine RegQ.ai (fun K hK=>?_);first | (refine RegQ.br rfl ?_;try go_simp;refine hK _ _ ?_;clear hK K) | (refine RegQ.aZ rfl rfl ?_;unfold ar;go_simp;refine hK _ _ ?_;clear hK K))
    refine RegQ.ai (fun K hK=>?_);refine RegQ.bA rfl rfl (Tb g base n cap ys) rfl (fun W hW hD hN=>?_) (fun v hv=>?_)
    ·have xG:=hD (.inr (.inr rfl))
     have HD7:=hid xG;have rg:=RF xG HXC.out;have c0:=rg 0 _ rfl;have c1:=rg 1 _ rfl;have c2:=rg 2 _ rfl;have c3:=rg 3 _ rfl;have c4:=rg 4 _ rfl;have c5:=rg 5 _ rfl;have c6:=rg 6 _ rfl;simp only[Nat.add_zero]at c0;have z0:W.frozen? ⟨g,k*7,none⟩=false:=xG.frozenAt _;have z1:W.frozen? ⟨g,k*7+1,none⟩=false:=xG.frozenAt _;have z2:W.frozen? ⟨g,k*7+2,none⟩=false:=xG.frozenAt _;have z3:W.frozen? ⟨g,k*7+3,none⟩=false:=xG.frozenAt _;have z4:W.frozen? ⟨g,k*7+4,none⟩=false:=xG.frozenAt _;have z5:W.frozen? ⟨g,k*7+5,none⟩=false:=xG.frozenAt _;have z6:W.frozen? ⟨g,k*7+6,none⟩=false:=xG.frozenAt _;clear hW hN hK K hD xG rg;go_simp;have hO:World.ownsRow _ base 46 7 (.slice (some ⟨g,0,none⟩) n cap) n ys:=HYS.out▸pT HD7.out k (.slice QX QY QZ) (.slice Q8 Q9 Ra) (.slice Rb Rc Re) (.slice Rf Rg Rh) (.bool ye) (.bool yb) (.int .i64 ym)
     exact⟨⟨⟨(uZ W g k _ _ _ _ _ _ _).mono fun x hx=>hx.2,fun _=>hO⟩,fun j hj hb _ e=>by
      rcases e with rfl | rfl | rfl
      ·exact absurd hb (by decide)
      ·exact absurd hb (by decide)
      ·exact absurd rfl hj⟩,rfl,hO⟩
    replace hv:v=_:=hv;subst hv;go_simp;refine hK _ _ ?_;clear hK K;refine RegQ.aY (fun W hW hH=>?_);have ie:=(HC.out W).1 hW;have hR:W.ownsRow base 46 7 (.slice (some ⟨g,0,none⟩) n cap) n ys:=hH _ (List.mem_of_getElem? (show _=some _ from rfl:_[0]? =some _));have hyq:∀ j u,[Value.slice QX QY QZ,.slice Q8 Q9 Ra,.slice Rb Rc Re,.slice Rf Rg Rh,.bool ye,.bool yb,.int .i64 ym][j]? =some u->ys[q*7+j]? =some u:=fun j u hj=>by
     have hj7:j<7:=by simpa using(List.getElem?_eq_some_iff.1 hj).1
     rw[HYS.out,ow (by omega) hj7];exact HYC.out j u hj
    have KW:=hid ie.1;have VV:=hid hR;have rg:=RF hR hyq;have c0:=rg 0 _ rfl;have c1:=rg 1 _ rfl;have c2:=rg 2 _ rfl;have c3:=rg 3 _ rfl;have c4:=rg 4 _ rfl;have c5:=rg 5 _ rfl;have c6:=rg 6 _ rfl;simp only[Nat.add_zero]at c0;have z0:W.frozen? ⟨g,q*7,none⟩=false:=hR.frozenAt _;have z1:W.frozen? ⟨g,q*7+1,none⟩=false:=hR.frozenAt _;have z2:W.frozen? ⟨g,q*7+2,none⟩=false:=hR.frozenAt _;have z3:W.frozen? ⟨g,q*7+3,none⟩=false:=hR.frozenAt _;have z4:W.frozen? ⟨g,q*7+4,none⟩=false:=hR.frozenAt _;have z5:W.frozen? ⟨g,q*7+5,none⟩=false:=hR.frozenAt _;have z6:W.frozen? ⟨g,q*7+6,none⟩=false:=hR.frozenAt _;have Xq:IntKind.i64.wrap ((k:Int)+1)=((k+1:Nat):Int):=by rw[IntWalk.i64_in _ (by omega)];omega
    have hwq:IntKind.i64.wrap ((q:Int)-1)=(n:Int)-1-((k+1:Nat):Int):=by rw[IntWalk.i64_in _ (by omega)];have:=HQ.out;omega
    clear ie hR hyq rg hW hH HC hne;go_wp2;go_roundw;case rel=>
     refine⟨k+1,zJ ys q (.slice J6 J7 J8) (.slice J9 Ka Kb) (.slice Kc Kd Ke) (.slice Kf Kg Kh) (.bool xe) (.bool xb) (.int .i64 xm),by omega,by go_num,by first | rfl | simp,pT VV.out q _ _ _ _ _ _ _,fun i m hi hm=>?_,(HK.out.tr (KW.out.mono fun x (hx:x<w.heap.size/\x≠g)=>⟨Nat.lt_of_lt_of_le hx.1 HK.out.size,hx.2⟩)).tr ((uZ W g q _ _ _ _ _ _ _).mono fun x (hx:x<w.heap.size/\x≠g)=>hx.2)⟩;by_cases eq:i=q
     ·subst eq
      have h1:=xV (xs:=ys) (n:=n) (by rw[HYS.out,Oq];exact sr) Yc (.slice J6 J7 J8) (.slice J9 Ka Kb) (.slice Kc Kd Ke) (.slice Kf Kg Kh) (.bool xe) (.bool xb) (.int .i64 xm) (List.getElem?_eq_getElem (show m<7 from hm));rw[h1,show jV n (k+1) i=k from by have:=HQ.out;unfold jV;rw[if_pos (by omega)];omega];have h2:=HXC.out m _ (List.getElem?_eq_getElem (show m<7 from hm));rw[QG.out k m vQ hm,show jV n k k=k from if_neg (by omega)]at h2;exact h2.symm
     ·rw[ow eq hm,HYS.out]
      by_cases ek:i=k
      ·subst ek
       have h1:=xV (xs:=xs) (n:=n) sr vQ (.slice QX QY QZ) (.slice Q8 Q9 Ra) (.slice Rb Rc Re) (.slice Rf Rg Rh) (.bool ye) (.bool yb) (.int .i64 ym) (List.getElem?_eq_getElem (show m<7 from hm));rw[h1,show jV n (i+1) i=q from by have:=HQ.out;unfold jV;rw[if_pos (by omega)];omega];have h2:=HYC.out m _ (List.getElem?_eq_getElem (show m<7 from hm));rw[QG.out q m Yc hm,show jV n i q=q from if_neg (by have:=HQ.out;omega)]at h2;exact h2.symm
      ·rw[ow ek hm,QG.out i m hi hm]
       congr 2
       have:=HQ.out;unfold jV;by_cases e9:i<k\/n-k<=i
       ·rw[if_pos e9,if_pos (by omega)]
       ·rw[if_neg e9,if_neg (by omega)]
    case measure=>simp[intOf];omega
   ·have ed:¬ ((k:Int)<(n:Int)-1-k):=by omega
    go_wp2;refine bodyPost_end (results_none rfl _ _ _) rfl ?_;refine⟨rfl,⟨xs,by rw[List.length_reverse, <-HN.out];exact HR.out,fun i x hx=>?_⟩,HK.out.mono fun x hx=>⟨hx.1,fun e=>hx.2 (by rw[e];rfl)⟩⟩;have fU:=(List.getElem?_eq_some_iff.1 hx).1;rw[List.length_reverse, <-HN.out]at fU;rw[List.getElem?_reverse (by rw[<-HN.out];exact fU), <-HN.out]at hx;refine(Wu.out _ x hx).mono (fun _ hv=>hv.far eE.out (by decide) (by decide) (by decide) (HK.out.mono fun z hz=>⟨hz.1,fun e=>hz.2 (by rw[e];rfl)⟩)) fun j hj u hu=>?_
    rw[QG.out i j fU hj];have e9:jV n k i=n-1-i:=by
     unfold jV;by_cases e:i<k\/n-k<=i
     ·rw[if_pos e]
     ·rw[if_neg e];omega
    rw[e9];exact hu
end Go.Proofs.YtbiboekhakbnpaaGreatDoor
namespace Go.Proofs.YtbiboekhakbnpaaGreatDoor
open Go Go.RowKit
theorem Dr (ps:List PT):partsOf (aL ps.reverse)=partsOf (aL ps):=by
 refine bH.uniq (bH.jF _) (bH.jF _) fun c d _ _=>?_
 unfold Alike;have:∀ s,s∈aL ps.reverse↔s∈aL ps:=fun s=>by unfold aL;simp
 constructor
 ·exact fun h s hs=>h s ((this s).2 hs)
 ·exact fun h s hs=>h s ((this s).1 hs)
theorem JN {ps:List PT} {row:List (List Int)} (h:row.length=ps.length) (c:Nat):bU ps.reverse row.reverse c=(bU ps row c).reverse:=by unfold bU;rw[List.reverse_zipWith h.symm]
theorem Ot (ps:List PT):gh ps.reverse=(gh ps).reverse:=by unfold gh;rw[List.map_reverse]
theorem Gi {ps:List PT} {row:List (List Int)} (h:row.length=ps.length):bX ps.reverse row.reverse=bX ps row:=by
 unfold bX;congr 1;refine List.filter_congr fun m _=>?_
 have:List.zip ps.reverse row.reverse=(List.zip ps row).reverse:=by unfold List.zip;rw[List.reverse_zipWith h.symm]
 rw[this,List.any_reverse]
theorem Ou {ps:List PT} {f:Nat} {st:List (List (List Int))×List (List Nat)} (h:fD ps f=some st):fD ps.reverse f=some (st.1.map List.reverse,st.2):=by
 unfold fD at h ⊢;split at h
 ·cases h
 ·rename_i hf
  rw[if_neg hf,Dr,Ot];have h1:1<=f:=by omega
  rw[Db (φ:=List.reverse) (f:=fun row k=>bU ps row (lb (partsOf (aL ps)) k)) (f':=fun row k=>bU ps.reverse row (lb (partsOf (aL ps)) k)) (p0:=gh ps) (K:=(partsOf (aL ps)).length) (fun x y e=>by have:=congrArg List.reverse e;simpa using this) (fuel:=f) h1 (P:=fun r=>r.length=ps.length) (by show(gh ps).length=_;unfold gh;rw[List.length_map]) (fun r k hr _=>by show(bU ps r _).length=_;unfold bU;rw[List.length_zipWith,hr];omega) (fun r k hr _=>JN hr _),h];rfl
theorem JO (ps:List PT) (b:List Nat):rowAt ps.reverse b=(rowAt ps b).reverse:=by rw[qK,qK,List.map_reverse]
theorem RG {ps:List PT} {f:Int} (h:(fJ ps f).2=0):∃ d',fJ ps.reverse ((fJ ps f).1.nx.length:Int)=(d',0)/\d'.nx.length=(fJ ps f).1.nx.length/\∀ b,(∀ c∈b,c<256)->d'.mr.getD (cA d' 0 b) []=(fJ ps f).1.mr.getD (cA (fJ ps f).1 0 b) []:=by
 obtain⟨a1,a2,a3,a4,st,a5,a6⟩:=qy h;have I:=pI a5;have hn:st.2.length=st.1.length:=by have:=I.len;have:=I.le;omega
 have e6:(fJ ps f).1=gy ps st:=a6;have hl:(fJ ps f).1.nx.length=st.1.length:=by rw[e6];show(st.2.map _).length=_;rw[List.length_map,hn]
 have il:=ji a5;have a7:=mB a5 (g:=st.1.length) (Nat.le_refl _);have a8:=Ou a7;refine⟨gy ps.reverse (st.1.map List.reverse,st.2),?_,?_,fun b hb=>?_⟩
 ·rw[hl]
  exact CQ (by rw[List.length_reverse];omega) (by rw[List.all_reverse];exact a2) (by omega) a8
 ·rw[hl]
  show(st.2.map _).length=_;rw[List.length_map,hn]
 ·rw[e6,xN (by omega) a8 b hb,xN (by omega) a5 b hb,JO,Gi]
  rw[qK,List.length_map]
end Go.Proofs.YtbiboekhakbnpaaGreatDoor
namespace Go.Proofs.YtbiboekhakbnpaaGreatDoor
open Go Go.RowKit Go.Shelf Go.Maps
theorem zH (W:World):gN W (.agg #[.slice none 0 0,.slice none 0 0,.slice none 0 0]) ⟨[],[],[]⟩:=
 aP.df (base:=0) ⟨_,_,_,rfl,World.ownsRow_nil _ _ _ _,⟨[],rfl,World.ownsRow_nil _ _ _ _,fun i u l h=>by simp at h⟩,⟨[],rfl,World.ownsRow_nil _ _ _ _,fun i u l h=>by simp at h⟩⟩
theorem zI:Sm ⟨[],[],[]⟩:=⟨by decide,by decide,by decide,fun _ h=>(by cases h),fun _ h=>(by cases h)⟩
theorem uV (v bv:Value) (l:List (List (Nat×Nat×Nat)×Bool×Nat)) (gv:l.length<=1000000000000000) (z:Int) (b:List Nat) (hb:∀ c∈b,c<256) (w:World) (h:jQ w v l) (nz:bg en w bv b) (hT:∀ W,Below w.heap.size w W->gO W): Calls Tryz.prog 4 #[v,.int .i64 z,bv] w fun e w'=>e=.returned (.bool true)/\Below w.heap.size w w':=by
 have HT:=hid hT;have PK:=oq h;have CM:Hid (∀ W,Below w.heap.size w W->Calls Tryz.prog 10 #[v] W fun e w'=>∃ u,e=.returned (.tuple #[u,.bool true])/\bP W.heap.size w' u (cy l)/\Below W.heap.size W w'):=hid fun W hW=>n4 v l gv W (h.below hW)
 obtain⟨sa,sc,rfl⟩:=h.form;have Oi:(cy l).length<=4:=by rw[jl];omega
 obtain⟨P,hP⟩:∃ P,P=cy l:=⟨_,rfl⟩;rw[<-hP]at PK CM Oi;generalize l.length=sn at*;clear h hP hT;obtain⟨d,code,Hk⟩:∃ d code,fJ P 300=(d,code):=⟨_,_,rfl⟩;have two:=zq PK (f:=300) (by decide) (by decide);rw[Hk]at two;obtain⟨n0,cN⟩:∃ n,n=d.cl.length:=⟨_,rfl⟩;obtain⟨n1,fL⟩:∃ n,n=d.nx.length:=⟨_,rfl⟩;obtain⟨n2,jc⟩:∃ n,n=d.mr.length:=⟨_,rfl⟩;have TT:Hid (∀ A,Below w.heap.size w A->∀ V,Below A.heap.size A V->gO V):=hid fun A hA V hV=>HT.out V (hA.trans (hV.mono hA.size))
 have CO:Hid (∀ W u,Below w.heap.size w W->dh W u P->Calls Tryz.prog 11 #[u,.int .i64 300] W (Rm n0 n1 n2 code d W)):=hid fun W u hW hu=>jT PK Hk cN fL jc W u hu (TT.out W hW)
 have Rs:=hid PK;have JH:=hid Hk;have j8:=hid cN;have gS:=hid fL;have kI:=hid jc;obtain⟨pm,tk⟩:∃ m,m=P.length:=⟨_,rfl⟩;have aal:pm<=4:=by rw[tk];exact Oi
 have Ph:=hid tk;have EM:=hid hb;have Nl:=hid nz;obtain⟨ba,bc,rfl⟩:=nz.form;obtain⟨bn,y8⟩:∃ n,n=b.length:=⟨_,rfl⟩;obtain⟨bm,hbm⟩:∃ m,m=min bn 40:=⟨_,rfl⟩;have jy:min (bn:Int) 40=(bm:Int):=by omega
 have Oj:bm<=bn:=by omega
 have aam:bm<=40:=by omega
 rw[<-y8]at Nl nz ⊢;have ae4:bm<=bc:=Nat.le_trans Oj nz.cap;obtain⟨bb,Ru⟩:∃ x,x=b.take bm:=⟨_,rfl⟩;have jW:Hid (∀ W,Below w.heap.size w W->bg en W (.slice ba bm bc) bb):=hid fun W hW=>by rw[Ru];exact((Nl.out.below hW).take bm Oj)
 have eB:Hid (∀ c∈bb,c<256):=hid fun c hc=>by rw[Ru]at hc;exact EM.out c (List.mem_of_mem_take hc)
 have HBM:Hid (bm=bb.length):=hid (by rw[Ru,List.length_take];omega);clear PK Hk cN fL jc tk Oi hb nz y8 hbm Ru EM Nl;go_enter Tryz.func4,Tryz.ntmps4;go_wp2_with fail
 refine(lY w HT.out).mono ?_;rintro e w1 ⟨rfl,hx⟩;have X1:=hid hx;clear hx;go_wp2_with fail
 refine(CM.out w1 X1.out).mono ?_;rintro e w2 ⟨u,rfl,ho,hx⟩;obtain⟨pa,pc,rfl⟩:=ho.form;have OP:=hid (show bP w1.heap.size w2 (.slice pa pm pc) P by rw[Ph.out];exact ho);have X2:=hid (X1.out.trans (hx.mono X1.out.size));rw[<-Ph.out];clear ho hx CM;go_wp2_with fail
 refine(CO.out w2 _ X2.out OP.out.Ul).mono ?_;rintro e w3 ⟨a0,c0,a1,c1,a2,c2,rfl,hd,hx⟩;have X3:=hid (X2.out.trans (hx.mono X2.out.size));have OD:=hid hd;have VJ:=hid (OP.out.below hx);have aao:=X1.out.size;have Ol:=hx.size;clear hd hx CO;rcases two with h0 | h0
 case inr=>
  replace h0:code=181:=h0;subst h0;go_wp2;go_ret;exact⟨rfl,X3.out.trans ((((Ext.refl _).alloc _).below).mono X3.out.size)⟩
 case inl=>
 replace h0:code=0:=h0;subst h0;have RT:Hid (Rt d):=hid (gi JH.out);have SD:Hid (Sm d):=hid RT.out.Ui;have OPB:=hid OP.out;have amm:w2.heap.size<=w3.heap.size:=Ol;go_upto_region 7 with fail
 refine au ?_;intro V hV;have BD:Hid (ak V w3.heap.size #[.slice a0 n0 c0,.slice a1 n1 c1,.slice a2 n2 c2] 31):=hid (by rw[hV];exact ak.new w3 _ _);have XV:Hid (Below w3.heap.size w3 V):=hid (by rw[hV];exact((Ext.refl w3).alloc _).below);clear hV;have ODV:=hid (OD.out.below XV.out);have OPV:=hid (VJ.out.below XV.out);have X4:=hid (X3.out.trans (XV.out.mono X3.out.size));clear OD OP VJ XV X3;obtain⟨b0,b1,b2⟩:=aP.mN BD.out;have XV3:Hid (w3.heap.size<=V.heap.size):=hid (Nat.le_of_lt BD.out.lt);have Gf:n2=n1:=by rw[kI.out,gS.out];exact RT.out.mr
 have aap:1<=n1/\n1<=300:=by
  obtain⟨st,_,_,f3,f4⟩:=uS JH.out;have h1:=ji f3;have h2:d.mr.length=st.1.length:=by rw[f4];simp[gy]
  have h3:(300:Int).toNat=300:=rfl;rw[kI.out.symm,Gf]at h2;omega
 have aft:=hid Gf;clear Gf;obtain⟨na,Jo⟩:∃ a,a=n1-1:=⟨_,rfl⟩;obtain⟨nb,mm⟩:∃ a,a=n1+1:=⟨_,rfl⟩;have hwa:IntKind.i64.wrap ((n1:Int)-1)=(na:Int):=by rw[IntWalk.i64_in _ (by omega)];omega
 have Vi:IntKind.i64.wrap ((n1:Int)+1)=(nb:Int):=by rw[IntWalk.i64_in _ (by omega)];omega
 obtain⟨m1,GY⟩:∃ a:Int,a=max z 0:=⟨_,rfl⟩;obtain⟨tt,htt⟩:∃ a:Int,a=min m1 4000:=⟨_,rfl⟩;have hmx:max z 0=m1:=GY.symm;have WR:min m1 4000=tt:=htt.symm;have KB:Hid (∀ f∈ [(0:Int),na,n1,nb,4000,tt],0<=f/\f<=4000):=hid fun f hf=>by
  simp only[List.mem_cons,List.not_mem_nil,or_false]at hf;rcases hf with rfl | rfl | rfl | rfl | rfl | rfl<;>omega
 obtain⟨ks,zM⟩:∃ ks,ks=[(0:Int),na,n1,nb,4000,tt]:=⟨_,rfl⟩;rw[<-zM]at KB;clear GY htt Jo mm;go_upto_region 9 with fail
 refine au ?_;intro W hW;have BK:Hid (ak W V.heap.size #[.int .i64 0,.int .i64 na,.int .i64 n1,.int .i64 nb,.int .i64 4000,.int .i64 tt] 3):=hid (by rw[hW];exact ak.new V _ _);have XW:Hid (Below V.heap.size V W):=hid (by rw[hW];exact((Ext.refl V).alloc _).below);clear hW
 have KS:Hid (bg aF W (.slice (some ⟨V.heap.size,0,none⟩) 6 6) ks):=hid (by
  rw[zM];refine .inr ⟨V.heap.size,0,6,rfl,BK.out.lt,Nat.le_refl _,fun i x hi=>?_⟩;have fU:=(List.getElem?_eq_some_iff.1 hi).1;simp only[List.length_cons,List.length_nil]at fU;have hc:i=0\/i=1\/i=2\/i=3\/i=4\/i=5:=by omega
  rcases hc with rfl | rfl | rfl | rfl | rfl | rfl<;>cases hi<;>exact BK.out.cell _)
 have hk6:ks.length=6:=by rw[zM];rfl
 have ODW:=hid (ODV.out.below XW.out);have OPW:=hid (OPV.out.below XW.out);have BW:=hid (BD.out.below XW.out BD.out.lt);have X5:=hid (X4.out.trans (XW.out.mono X4.out.size));clear zM hwa Vi hmx WR BK b0 b1 b2 BD ODV OPV;go_loopw [58] (fun iv wr=>∃ k:Nat,k<=6/\iv=.int .i64 k/\Below W.heap.size W wr) (fun iv _=>6-(intOf iv).toNat);case atStart=>exact⟨0,by omega,rfl,Below.refl _ _⟩
 case round=>
  obtain⟨k,hk,rfl,hx⟩:=hrel;obtain⟨wo,rfl⟩:∃ wo:World,wo=wr:=⟨_,rfl⟩;have HX:=hid hx;have X6:=hid (X5.out.trans (hx.mono X5.out.size));have X6o:Hid (V.heap.size<=wo.heap.size):=hid (Nat.le_trans XW.out.size hx.size);have B6:=hid (BW.out.below hx BW.out.lt);have OD6:=hid (ODW.out.below hx);have OP6:=hid (OPW.out.below hx);clear hx;by_cases hlt:k<6
  ·have ed:(k:Int)<6:=by omega
   obtain⟨f,hfk⟩:∃ f,ks[k]? =some f:=⟨_,List.getElem?_eq_getElem (by rw[hk6];exact hlt)⟩;have hfb:=KB.out f (List.mem_of_getElem? hfk);have q0:wo.cell? ⟨V.heap.size,k,none⟩=some (.int .i64 f):=by obtain⟨g,off,e,hg,q⟩:=(KS.out.below HX.out).elem hfk;cases e;have q2:wo.cell? ⟨V.heap.size,0+k,none⟩=some (.int .i64 f):=q;rwa[Nat.zero_add]at q2
   have hfu:=wZ (ps:=P) (f:=300) (g:=f) (by rw[JH.out]) hfb.1 hfb.2;rw[JH.out]at hfu;have DK:d.mr.length=n1:=by rw[<-kI.out,aft.out]
   rw[show(d,(0:Int)).1.mr.length=n1 from DK]at hfu;have HFU:=hid hfu;clear hfu DK hfk;by_cases hle:(n1:Int)<=f
   ·have he:fJ P f=(d,0):=by rw[HFU.out,if_pos hle]
    have C1:=hid (jT Rs.out he j8.out gS.out kI.out wo (.slice pa pm pc) OP6.out.Ul (TT.out wo X6.out));have h1:¬ (f<(n1:Int)):=by omega
    clear he hle;go_wp2_with fail
    refine C1.out.mono ?_;rintro e w7 ⟨e0,g0,e1,g1,e2,g2,rfl,hd,hx⟩;have O7:=hid hd;have XA:=hid hx;have B7:=hid (B6.out.below hx B6.out.lt);have OD7:=hid (OD6.out.below hx);clear hd hx C1 B6 OD6 q0;go_upto_region 12 with fail
    refine au ?_;intro V7 DG;have BX:Hid (ak V7 w7.heap.size #[.slice e0 n0 g0,.slice e1 n1 g1,.slice e2 n2 g2] 31):=hid (by rw[DG];exact ak.new w7 _ _);have RH:Hid (Below w7.heap.size w7 V7):=hid (by rw[DG];exact((Ext.refl w7).alloc _).below);clear DG;have B8:=hid (B7.out.below RH.out B7.out.lt);obtain⟨b0,b1,b2⟩:=aP.mN B8.out;obtain⟨d0,d1,d2⟩:=aP.mN BX.out;have OC:(n1:Int)<=f:=by omega
    go_wp2_with fail
    refine(eX _ _ d d V7 (O7.out.below RH.out).df.e (OD7.out.below RH.out).df.e SD.out).mono ?_;rintro e w8 ⟨rfl,hx⟩;rw[mO.2 rfl];have XB:=hid hx;clear hx b0 b1 b2 d0 d1 d2;go_wp2;go_roundw;case rel=>exact⟨k+1,by omega,by go_num,HX.out.trans ((XA.out.trans ((RH.out.trans (XB.out.mono RH.out.size)).mono XA.out.size)).mono HX.out.size)⟩
    case measure=>simp[intOf];omega
   ·have he:fJ P f=(⟨[],[],[]⟩,181):=by rw[HFU.out,if_neg hle]
    have C1:=hid (jT Rs.out he (n0:=0) (n1:=0) (n2:=0) rfl rfl rfl wo (.slice pa pm pc) OP6.out.Ul (TT.out wo X6.out));have h1:f<(n1:Int):=by omega
    have h2:¬ ((n1:Int)<=f):=hle;clear he hle;go_wp2_with fail
    refine C1.out.mono ?_;rintro e w7 ⟨e0,g0,e1,g1,e2,g2,rfl,hd,hx⟩;have O7:=hid hd;have XA:=hid hx;clear hd hx C1 B6 OD6 q0;go_upto_region 12 with fail
    refine au ?_;intro V7 DG;have BX:Hid (ak V7 w7.heap.size #[.slice e0 0 g0,.slice e1 0 g1,.slice e2 0 g2] 31):=hid (by rw[DG];exact ak.new w7 _ _);have RH:Hid (Below w7.heap.size w7 V7):=hid (by rw[DG];exact((Ext.refl w7).alloc _).below);clear DG;obtain⟨d0,d1,d2⟩:=aP.mN BX.out;go_wp2_with fail
    refine(eX _ _ ⟨[],[],[]⟩ ⟨[],[],[]⟩ V7 (O7.out.below RH.out).df.e (zH V7).e zI).mono ?_;rintro e w8 ⟨rfl,hx⟩;rw[mO.2 rfl];have XB:=hid hx;clear hx d0 d1 d2;go_wp2;go_roundw;case rel=>exact⟨k+1,by omega,by go_num,HX.out.trans ((XA.out.trans ((RH.out.trans (XB.out.mono RH.out.size)).mono XA.out.size)).mono HX.out.size)⟩
    case measure=>simp[intOf];omega
  ·obtain rfl:k=6:=by omega
   obtain⟨d',WD,LD,hd3⟩:=RG (ps:=P) (f:=300) (by rw[JH.out]);rw[JH.out]at WD LD hd3;have aaR:fJ P.reverse (n1:Int)=(d',0):=by rw[gS.out];exact WD
   have HD1:=hid aaR;have HD2:Hid (d'.nx.length=n1):=hid (by rw[gS.out];exact LD);have HD3:=hid hd3;have Qz:Hid (Ps P.reverse):=hid ⟨by rw[List.length_reverse];exact Rs.out.len,fun x hx=>Rs.out.ok x (List.mem_reverse.1 hx)⟩;clear WD LD hd3 aaR hlt hk;go_wp2_with fail
   refine(zK w1.heap.size _ P (by have:=Rs.out.len;omega) wo OP6.out).mono ?_;rintro e w5 ⟨rfl,ho,Ma⟩;have h1w:w.heap.size<=w1.heap.size:=X1.out.size;have hpl:∀ c,(Value.slice pa pm pc).ownBlock=some c->w1.heap.size<=c/\c<w2.heap.size:=fun c e=>by
    obtain⟨cs,o1,_⟩:=OPB.out;exact o1.lt c e
   have KP:=hid Ma;have WU:=hid ho;have HPL:=hid hpl;have h2o:w2.heap.size<=wo.heap.size:=Nat.le_trans Ol (Nat.le_trans XV3.out X6o.out);have X7:Hid (Below w.heap.size w w5):=hid (X6.out.trans (Ma.mono fun c (hc:c<w.heap.size)=>⟨Nat.lt_of_lt_of_le hc X6.out.size,fun e=>by have:=(hpl c e).1;omega⟩:aa (· <w.heap.size) wo w5).below);have OD7:=hid (OD6.out.keeps Ma fun c h1 h2=>⟨h2,fun e=>by have:=(hpl c e).2;omega⟩);have B7:=hid (B6.out.keeps Ma ⟨B6.out.lt,fun e=>by have:=(hpl _ e).2;omega⟩);clear ho Ma hpl B6 OD6 OP6;obtain⟨m0,DA⟩:∃ m,m=d'.cl.length:=⟨_,rfl⟩;obtain⟨m2,s9⟩:∃ m,m=d'.mr.length:=⟨_,rfl⟩;have C1:=hid (jT Qz.out HD1.out DA HD2.out.symm s9 w5 (.slice pa pm pc) (by have:=WU.out.Ul;exact this) (TT.out w5 X7.out));clear DA s9;obtain⟨b0,b1,b2⟩:=aP.mN B7.out;go_wp2_with fail
   refine C1.out.mono ?_;rintro e w6 ⟨e0,g0,e1,g1,e2,g2,rfl,hd,hx⟩;have O8:=hid hd;have X8:=hid (X7.out.trans (hx.mono X7.out.size));have B8:=hid (B7.out.below hx B7.out.lt);have OD8:=hid (OD7.out.below hx);have Yq:=hx.size;clear hd hx C1 B7 OD7 b0 b1 b2;go_upto_region 17 with fail
   refine au ?_;intro V9 Om;have BX:Hid (ak V9 w6.heap.size #[.slice e0 m0 g0,.slice e1 n1 g1,.slice e2 m2 g2] 31):=hid (by rw[Om];exact ak.new w6 _ _);have RD:Hid (Below w6.heap.size w6 V9):=hid (by rw[Om];exact((Ext.refl w6).alloc _).below);clear Om;have B9:=hid (B8.out.below RD.out B8.out.lt);have VL:=hid (OD8.out.below RD.out);have O9:=hid (O8.out.below RD.out);have X9:=hid (X8.out.trans (RD.out.mono X8.out.size));have RT':Hid (Rt d'):=hid (gi HD1.out);have SD':Hid (Sm d'):=hid RT'.out.Ui;clear B8 OD8 O8 RD X8;obtain⟨b0,b1,b2⟩:=aP.mN B9.out;go_wp2_with fail
   refine(fI _ _ d RT.out SD.out bb eB.out (by rw[<-HBM.out];omega) V9 VL.out.df (jW.out V9 X9.out)).mono ?_;rintro e zT ⟨um,rfl,ho,hx⟩;obtain⟨mg,VO⟩:∃ m,m=d.mr.getD (cA d 0 bb) []:=⟨_,rfl⟩;rw[<-VO]at ho;obtain⟨gn,VP⟩:∃ n,n=mg.length:=⟨_,rfl⟩;rw[<-VP]at ho;obtain⟨ga,gc,rfl⟩:=ownsRow_form ho;have GOT:=hid ho;have HMG:=hid VO;have VQ:=hid VP;have XA:=hid (X9.out.trans (hx.mono X9.out.size));have OA:=hid (O9.out.below hx);have BA:=hid (BX.out.below hx BX.out.lt);clear ho VO VP hx b0 b1 b2 B9 O9 BX;obtain⟨b0,b1,b2⟩:=aP.mN BA.out;go_wp2_with fail
   refine(fI _ _ d' RT'.out SD'.out bb eB.out (by rw[<-HBM.out];omega) zT OA.out.df (jW.out zT XA.out)).mono ?_;rintro e gQ ⟨um,rfl,ho,hx⟩;rw[HD3.out bb eB.out]at ho;replace ho:gQ.ownsRow zT.heap.size 3 1 um mg.length (mg.map aF):=by rw[HMG.out];exact ho
   rw[<-VQ.out]at ho;obtain⟨ha,hc,rfl⟩:=ownsRow_form ho;have Rx:=hid ho;have Ry:=hid (ag GOT.out hx);have XB:=hid (XA.out.trans (hx.mono XA.out.size));have BB:=hid (BA.out.below hx BA.out.lt);have VR:mg.length<=1000000:=by
    rw[HMG.out,List.getD_eq_getElem?_getD];cases h:d.mr[cA d 0 bb]? with
    | none=>simp
    | some l=>exact SD.out.PS l (List.mem_of_getElem? h)
   clear ho hx b0 b1 b2 BA GOT OA;obtain⟨b0,b1,b2⟩:=aP.mN BB.out;go_wp2_with fail
   refine(jg _ _ mg mg gQ (cH Ry.out VQ.out) (cH Rx.out VQ.out) VR).mono ?_;rintro e wC ⟨rfl,hx⟩;rw[beq_self_eq_true];have XC:=hid (XB.out.trans (hx.below.mono XB.out.size));clear hx;go_wp2;go_ret;exact⟨rfl,XC.out⟩
end Go.Proofs.YtbiboekhakbnpaaGreatDoor
