/- The law's cat: a rule of some bytes one behind the other. -/
import Derived.Test.YtpcmhjbehdgdbaaGreatDoorOI15
set_option maxRecDepth 100000
set_option maxHeartbeats 16000000
open Go.Lib (hid)
namespace Go.Proofs.YtpcmhjbehdgdbaaGreatDoor
section
open Go Go.RowKit Go.Shelf Go.Maps
theorem QV (a b c:BS) (h:(!ltOf aW b a)=true) (k:(!ltOf aW c b)=true):(!ltOf aW c a)=true:=by
 simp only[Bool.not_eq_true']at*;cases VS:ltOf aW c a with
 | false=>rfl
 | true=>
  exfalso;rw[<-Bool.not_eq_true,fh]at h k;rw[fh]at VS;rcases nI a b with e | e | e
  ·subst e;exact k VS
  ·exact k (ij VS e)
  ·exact h e
theorem QW (a b:BS):((!ltOf aW b a) || (!ltOf aW a b))=true:=by
 cases Gd:ltOf aW b a with
 | false=>rfl
 | true=>
  cases hab:ltOf aW a b with
  | false=>rfl
  | true=>
   rw[fh]at Gd hab;exact absurd (ij Gd hab) (jr b)
theorem cI {l L:List BS} (hp:(bh l).isPerm L=true) (hs:decide (L.Pairwise fun x y=>(!ltOf aW y x)=true)=true):partsOf l=L:=
 List.Perm.eq_of_pairwise (fun a b _ _ h k=>ZZ a b (by simpa using k) (by simpa using h)) (List.pairwise_mergeSort QV QW _) (of_decide_eq_true hs) ((List.mergeSort_perm _ _).trans (List.isPerm_iff.1 hp))
def aU (l:List Nat):BS:=oo fun c=>l.contains c
def mm (l:List Nat):NF:=⟨l.map fun c=>aU [c],(List.range l.length).map fun i=>if i+1<l.length then [(i:Int)+1]else [],[0],[(l.length:Int)-1],false⟩
theorem ku {ps:List PT} {P:List BS} {f:Nat} {st:List (List (List Int))×List (List Nat)} (hP:partsOf (ct ps)=P) (hl:¬64<ps.length) (ho:ps.all PT.ok=true) (h1:1<=f) (h2:f<=4000) (hst:dQ f (fun row k=>dZ ps row (lb P k)) P.length (kq ps) f=some st):di ps f=(⟨P,st.2.map fun r=>r.map Int.ofNat,st.1.map (dG ps)⟩,0):=by subst hP;unfold di kO;rw[if_neg hl,if_neg (by rw[ho];decide),if_neg (by omega),Int.toNat_natCast,if_neg (by omega),hst]
def jd (l:List Nat):RX:=.nd 2 (aU l) 0 0 []
def Bk (l:List Nat):RX:=.nd 3 0 0 0 (l.map fun c=>jd [c])
def Js (t:RX):RX:=.nd 5 0 0 (-1) [t]
def gy (t:RX) (b:Bool):PT:=⟨t.nf,b,0⟩
theorem Ym:(jd [97]).nf=mm [97]:=by kernel_rfl
theorem Yn:(jd [98]).nf=mm [98]:=by kernel_rfl
theorem ag9:(jd [120]).nf=mm [120]:=by kernel_rfl
theorem QX:(jd [97,98]).nf=⟨[aU [97,98]],[[]],[0],[0],false⟩:=by kernel_rfl
theorem ach:(Bk [97,98]).nf=mm [97,98]:=by kernel_rfl
theorem aci:(Js (jd [97])).nf=⟨[aU [97]],[[0]],[0],[0],true⟩:=by kernel_rfl
theorem fP {a b:DF} {P:List BS} {f:Nat} {st:List (Nat×Nat)×List (List Nat)} (ra:a.right=true) (rb:b.right=true) (hP:partsOf (a.cl++b.cl)=P) (h1:1<=f) (h2:f<=4000) (hst:dQ f (fun (p:Nat×Nat) k=>(jh a p.1 (cls a.cl (lb P k)),jh b p.2 (cls b.cl (lb P k)))) P.length (0,0) f=some st):bM a b 3 f=(⟨P,st.2.map fun r=>r.map Int.ofNat,st.1.map (eB a b 3)⟩,0):=by subst hP;unfold bM fT;rw[ra,rb,if_neg (by decide),if_neg (by decide),if_neg (by omega),if_neg (by omega),Int.toNat_natCast];have h:dQ f (l6 a b) (partsOf (a.cl++b.cl)).length (0,0) f=some st:=hst;rw[h];rfl
theorem lU {x y:List PT} {dx dy dz:DF} {r:Option (List Nat)} (hx:di x 9=(dx,0)) (hy:di y 9=(dy,0)) (hz:bM dx dy 3 9=(dz,0)) (hr:dA dz=r):kr x y 3 9=some r:=by unfold kr;rw[hx,hy];show(if(0:Int)=0/\(0:Int)=0/\(bM dx dy 3 9).2=0 then some (dA (bM dx dy 3 9).1)else none)=_;rw[hz,if_pos ⟨rfl,rfl,rfl⟩,hr]
def Jt:List PT:=[gy (jd [98]) false]
def eDB:DF:=⟨[~~~(aU [98]),aU [98]],[[0,1],[0,1]],[[],[0]]⟩
theorem EY:di Jt 9=(eDB,0):=by
 have e:Jt=[⟨mm [98],false,0⟩]:=by unfold Jt gy;rw[Yn]
 rw[e];exact(ku (P:=[~~~(aU [98]),aU [98]]) (f:=9) (st:=([[[-1]],[[-1,0]]],[[0,1],[0,1]])) (cI (by kernel_rfl) (by kernel_rfl)) (by decide) (by kernel_rfl) (by decide) (by decide) (by kernel_rfl)).trans (by kernel_rfl)
def pDA:List PT:=[gy (jd [97]) false]
def eDA:DF:=⟨[~~~(aU [97]),aU [97]],[[0,1],[0,1]],[[],[0]]⟩
theorem mDA:di pDA 9=(eDA,0):=by
 have e:pDA=[⟨mm [97],false,0⟩]:=by unfold pDA gy;rw[Ym]
 rw[e];exact(ku (P:=[~~~(aU [97]),aU [97]]) (f:=9) (st:=([[[-1]],[[-1,0]]],[[0,1],[0,1]])) (cI (by kernel_rfl) (by kernel_rfl)) (by decide) (by kernel_rfl) (by decide) (by decide) (by kernel_rfl)).trans (by kernel_rfl)
def pDX:List PT:=[gy (jd [120]) false]
def eDX:DF:=⟨[~~~(aU [120]),aU [120]],[[0,1],[0,1]],[[],[0]]⟩
theorem mDX:di pDX 9=(eDX,0):=by
 have e:pDX=[⟨mm [120],false,0⟩]:=by unfold pDX gy;rw[ag9]
 rw[e];exact(ku (P:=[~~~(aU [120]),aU [120]]) (f:=9) (st:=([[[-1]],[[-1,0]]],[[0,1],[0,1]])) (cI (by kernel_rfl) (by kernel_rfl)) (by decide) (by kernel_rfl) (by decide) (by decide) (by kernel_rfl)).trans (by kernel_rfl)
def Fa:List PT:=[gy (jd [97,98]) false]
def acj:DF:=⟨[~~~(aU [97,98]),aU [97,98]],[[0,1],[0,1]],[[],[0]]⟩
theorem Ju:di Fa 9=(acj,0):=by
 have e:Fa=[⟨⟨[aU [97,98]],[[]],[0],[0],false⟩,false,0⟩]:=by unfold Fa gy;rw[QX]
 rw[e];exact(ku (P:=[~~~(aU [97,98]),aU [97,98]]) (f:=9) (st:=([[[-1]],[[-1,0]]],[[0,1],[0,1]])) (cI (by kernel_rfl) (by kernel_rfl)) (by decide) (by kernel_rfl) (by decide) (by decide) (by kernel_rfl)).trans (by kernel_rfl)
def Bl:List PT:=[gy (Bk [97,98]) false]
def Ub:DF:=⟨[~~~(aU [97,98]),aU [97],aU [98]],[[0,1,0],[0,1,2],[0,1,0]],[[],[],[0]]⟩
theorem H6:di Bl 9=(Ub,0):=by
 have e:Bl=[⟨mm [97,98],false,0⟩]:=by unfold Bl gy;rw[ach]
 rw[e];exact(ku (P:=[~~~(aU [97,98]),aU [97],aU [98]]) (f:=9) (st:=([[[-1]],[[-1,0]],[[-1,1]]],[[0,1,0],[0,1,2],[0,1,0]])) (cI (by kernel_rfl) (by kernel_rfl)) (by decide) (by kernel_rfl) (by decide) (by decide) (by kernel_rfl)).trans (by kernel_rfl)
def Uc:List PT:=[gy (jd [98]) true]
def aha:DF:=⟨[~~~(aU [98]),aU [98]],[[1,2],[1,1],[1,1]],[[],[],[0]]⟩
theorem ack:di Uc 9=(aha,0):=by
 have e:Uc=[⟨mm [98],true,0⟩]:=by unfold Uc gy;rw[Yn]
 rw[e];exact(ku (P:=[~~~(aU [98]),aU [98]]) (f:=9) (st:=([[[-1]],[[]],[[0]]],[[1,2],[1,1],[1,1]])) (cI (by kernel_rfl) (by kernel_rfl)) (by decide) (by kernel_rfl) (by decide) (by decide) (by kernel_rfl)).trans (by kernel_rfl)
def Yo:List PT:=[]
def ahb:DF:=⟨[~~~(0:BS)],[[0]],[[]]⟩
theorem acm:di Yo 9=(ahb,0):=by
 have e:Yo=[]:=by rfl
 rw[e];exact(ku (P:=[~~~(0:BS)]) (f:=9) (st:=([[]],[[0]])) (cI (by kernel_rfl) (by kernel_rfl)) (by decide) (by kernel_rfl) (by decide) (by decide) (by kernel_rfl)).trans (by kernel_rfl)
def Ud:List PT:=[gy (Js (jd [97])) false]
def ahc:DF:=⟨[~~~(aU [97]),aU [97]],[[0,1],[0,1]],[[0],[0]]⟩
theorem acn:di Ud 9=(ahc,0):=by
 have e:Ud=[⟨⟨[aU [97]],[[0]],[0],[0],true⟩,false,0⟩]:=by unfold Ud gy;rw[aci]
 rw[e];exact(ku (P:=[~~~(aU [97]),aU [97]]) (f:=9) (st:=([[[-1]],[[-1,0]]],[[0,1],[0,1]])) (cI (by kernel_rfl) (by kernel_rfl)) (by decide) (by kernel_rfl) (by decide) (by decide) (by kernel_rfl)).trans (by kernel_rfl)
def Jv:List PT:=[gy (jd [97,98]) false,gy (jd [97]) false]
def aco:DF:=⟨[~~~(aU [97,98]),aU [97],aU [98]],[[0,1,2],[0,1,2],[0,1,2]],[[],[0],[0]]⟩
theorem Vi:di Jv 9=(aco,0):=by
 have e:Jv=[⟨⟨[aU [97,98]],[[]],[0],[0],false⟩,false,0⟩,⟨mm [97],false,0⟩]:=by unfold Jv gy;rw[QX,Ym]
 rw[e];exact(ku (P:=[~~~(aU [97,98]),aU [97],aU [98]]) (f:=9) (st:=([[[-1],[-1]],[[-1,0],[-1,0]],[[-1,0],[-1]]],[[0,1,2],[0,1,2],[0,1,2]])) (cI (by kernel_rfl) (by kernel_rfl)) (by decide) (by kernel_rfl) (by decide) (by decide) (by kernel_rfl)).trans (by kernel_rfl)
def Jw:List PT:=[gy (jd [97]) false,gy (jd [98]) false]
def acp:DF:=⟨[~~~(aU [97,98]),aU [97],aU [98]],[[0,1,2],[0,1,2],[0,1,2]],[[],[0],[0]]⟩
theorem Vj:di Jw 9=(acp,0):=by
 have e:Jw=[⟨mm [97],false,0⟩,⟨mm [98],false,0⟩]:=by unfold Jw gy;rw[Ym,Yn]
 rw[e];exact(ku (P:=[~~~(aU [97,98]),aU [97],aU [98]]) (f:=9) (st:=([[[-1],[-1]],[[-1,0],[-1]],[[-1],[-1,0]]],[[0,1,2],[0,1,2],[0,1,2]])) (cI (by kernel_rfl) (by kernel_rfl)) (by decide) (by kernel_rfl) (by decide) (by decide) (by kernel_rfl)).trans (by kernel_rfl)
theorem ahd:kr Jt Bl 3 9=some (some [98]):=
 lU EY H6 ((fP (P:=[~~~(aU [97,98]),aU [97],aU [98]]) (f:=9) (st:=([(0,0),(0,1),(1,0),(1,2)],[[0,1,2],[0,1,3],[0,1,2],[0,1,2]])) ((aP _).2 (bO EY)) ((aP _).2 (bO H6)) (cI (by kernel_rfl) (by kernel_rfl)) (by decide) (by decide) (by kernel_rfl)).trans (show _=((⟨[~~~(aU [97,98]),aU [97],aU [98]],[[0,1,2],[0,1,3],[0,1,2],[0,1,2]],[[],[],[0],[]]⟩:DF),(0:Int)) by kernel_rfl)) (by kernel_rfl)
theorem acr:kr Bl Jt 3 9=some (none):=
 lU H6 EY ((fP (P:=[~~~(aU [97,98]),aU [97],aU [98]]) (f:=9) (st:=([(0,0),(1,0),(0,1),(2,1)],[[0,1,2],[0,1,3],[0,1,2],[0,1,2]])) ((aP _).2 (bO H6)) ((aP _).2 (bO EY)) (cI (by kernel_rfl) (by kernel_rfl)) (by decide) (by decide) (by kernel_rfl)).trans (show _=((⟨[~~~(aU [97,98]),aU [97],aU [98]],[[0,1,2],[0,1,3],[0,1,2],[0,1,2]],[[],[],[],[]]⟩:DF),(0:Int)) by kernel_rfl)) (by kernel_rfl)
theorem ahe:kr pDA Fa 3 9=some (none):=
 lU mDA Ju ((fP (P:=[~~~(aU [97,98]),aU [97],aU [98]]) (f:=9) (st:=([(0,0),(1,1),(0,1)],[[0,1,2],[0,1,2],[0,1,2]])) ((aP _).2 (bO mDA)) ((aP _).2 (bO Ju)) (cI (by kernel_rfl) (by kernel_rfl)) (by decide) (by decide) (by kernel_rfl)).trans (show _=((⟨[~~~(aU [97,98]),aU [97],aU [98]],[[0,1,2],[0,1,2],[0,1,2]],[[],[],[]]⟩:DF),(0:Int)) by kernel_rfl)) (by kernel_rfl)
theorem ahf:kr Jt Jv 3 9=some (none):=
 lU EY Vi ((fP (P:=[~~~(aU [97,98]),aU [97],aU [98]]) (f:=9) (st:=([(0,0),(0,1),(1,2)],[[0,1,2],[0,1,2],[0,1,2]])) ((aP _).2 (bO EY)) ((aP _).2 (bO Vi)) (cI (by kernel_rfl) (by kernel_rfl)) (by decide) (by decide) (by kernel_rfl)).trans (show _=((⟨[~~~(aU [97,98]),aU [97],aU [98]],[[0,1,2],[0,1,2],[0,1,2]],[[],[],[]]⟩:DF),(0:Int)) by kernel_rfl)) (by kernel_rfl)
theorem ahg:kr Fa Jw 3 9=some (none):=
 lU Ju Vj ((fP (P:=[~~~(aU [97,98]),aU [97],aU [98]]) (f:=9) (st:=([(0,0),(1,1),(1,2)],[[0,1,2],[0,1,2],[0,1,2]])) ((aP _).2 (bO Ju)) ((aP _).2 (bO Vj)) (cI (by kernel_rfl) (by kernel_rfl)) (by decide) (by decide) (by kernel_rfl)).trans (show _=((⟨[~~~(aU [97,98]),aU [97],aU [98]],[[0,1,2],[0,1,2],[0,1,2]],[[],[],[]]⟩:DF),(0:Int)) by kernel_rfl)) (by kernel_rfl)
theorem ahh:kr Jt Uc 3 9=some (some [0,98]):=
 lU EY ack ((fP (P:=[~~~(aU [98]),aU [98]]) (f:=9) (st:=([(0,0),(0,1),(1,2),(1,1)],[[1,2],[1,3],[1,3],[1,3]])) ((aP _).2 (bO EY)) ((aP _).2 (bO ack)) (cI (by kernel_rfl) (by kernel_rfl)) (by decide) (by decide) (by kernel_rfl)).trans (show _=((⟨[~~~(aU [98]),aU [98]],[[1,2],[1,3],[1,3],[1,3]],[[],[],[],[0]]⟩:DF),(0:Int)) by kernel_rfl)) (by kernel_rfl)
theorem ahi:kr Jt Yo 3 9=some (some [98]):=
 lU EY acm ((fP (P:=[~~~(aU [98]),aU [98]]) (f:=9) (st:=([(0,0),(1,0)],[[0,1],[0,1]])) ((aP _).2 (bO EY)) ((aP _).2 (bO acm)) (cI (by kernel_rfl) (by kernel_rfl)) (by decide) (by decide) (by kernel_rfl)).trans (show _=((⟨[~~~(aU [98]),aU [98]],[[0,1],[0,1]],[[],[0]]⟩:DF),(0:Int)) by kernel_rfl)) (by kernel_rfl)
theorem ahj:kr Jt Jt 3 9=some (none):=
 lU EY EY ((fP (P:=[~~~(aU [98]),aU [98]]) (f:=9) (st:=([(0,0),(1,1)],[[0,1],[0,1]])) ((aP _).2 (bO EY)) ((aP _).2 (bO EY)) (cI (by kernel_rfl) (by kernel_rfl)) (by decide) (by decide) (by kernel_rfl)).trans (show _=((⟨[~~~(aU [98]),aU [98]],[[0,1],[0,1]],[[],[]]⟩:DF),(0:Int)) by kernel_rfl)) (by kernel_rfl)
theorem ahk:kr pDX Ud 3 9=some (none):=
 lU mDX acn ((fP (P:=[~~~(aU [97,120]),aU [97],aU [120]]) (f:=9) (st:=([(0,0),(0,1),(1,0)],[[0,1,2],[0,1,2],[0,1,2]])) ((aP _).2 (bO mDX)) ((aP _).2 (bO acn)) (cI (by kernel_rfl) (by kernel_rfl)) (by decide) (by decide) (by kernel_rfl)).trans (show _=((⟨[~~~(aU [97,120]),aU [97],aU [120]],[[0,1,2],[0,1,2],[0,1,2]],[[],[],[]]⟩:DF),(0:Int)) by kernel_rfl)) (by kernel_rfl)
theorem QY:fZ Bl Jt 3=4:=by
 have h1:di Bl 4000=(Ub,0):=by rw[oh (f:=9) (by rw[H6]) (by decide) (by decide),H6];rfl
 have h2:di Jt 4000=(eDB,0):=by rw[oh (f:=9) (by rw[EY]) (by decide) (by decide),EY];rfl
 have h3:∃ d:DF,bM Ub eDB 3 9=(d,0)/\d.nx.length=4:=⟨_,fP (P:=[~~~(aU [97,98]),aU [97],aU [98]]) (f:=9) (st:=([(0,0),(1,0),(0,1),(2,1)],[[0,1,2],[0,1,3],[0,1,2],[0,1,2]])) ((aP _).2 (bO H6)) ((aP _).2 (bO EY)) (cI (by kernel_rfl) (by kernel_rfl)) (by decide) (by decide) (by kernel_rfl),rfl⟩;obtain⟨d,h3,h4⟩:=h3;have h5:=wX h3 (g:=4000) (by decide) (by decide);rw[if_pos (by rw[h4];decide)]at h5;unfold fZ;rw[h1,h2];show max (max 3 2) (bM Ub eDB 3 4000).1.nx.length=4;rw[h5];show max (max 3 2) d.nx.length=4;rw[h4];rfl
theorem H8 {m:Nat} (hm:0<m):∀ (cs:List (Array Value)) (k:Nat) (X:Array Value),(∀ c∈cs,c.size=m)->X.size=(k+cs.length)*m-> ∃ C,Instr.fill (fun i=>some (i*m,m)) X ((cs.zipIdx k).map fun x=>(x.2,Value.agg x.1))=some C/\(∀ j,j<k*m->C[j]? =X[j]?)/\∀ (i:Nat) (c:Array Value),cs[i]? =some c->∀ j,j<m->C[(k+i)*m+j]? =c[j]?
 | [],k,X,_,_=>⟨X,rfl,fun _ _=>rfl,fun i c h=>by simp at h⟩
 | c::cs,k,X,hc,hX=>by
  have h0:c.size=m:=hc c (bL ..);have h1:(Value.agg c).cells=c:=rfl;have hk:(k+(cs.length+1))*m=k*m+m+cs.length*m:=by rw[Nat.add_mul,Nat.add_mul];omega
  have hX2:X.size=k*m+m+cs.length*m:=by rw[hX,List.length_cons];exact hk
  obtain⟨Y,hY⟩:=ah (c.zipIdx.foldl (fun cs x=>cs.setIfInBounds (k*m+x.2) x.1) X);have hg:∀ j,Y[j]? =if k*m<=j/\j<k*m+m then c[j-k*m]? else X[j]? :=fun j=>by
   rw[hY, <-Array.foldl_toList,Array.toList_zipIdx];have:=Df (k*m) c.toList 0 X j (by rw[Array.length_toList];omega);simp only[Nat.add_zero]at this;rw[this,Array.length_toList,h0,Array.getElem?_toList]
  have hs:Y.size=X.size:=by
   rcases Nat.lt_trichotomy Y.size X.size with h | h | h
   ·have h5:=hg Y.size
    rw[Array.getElem?_eq_none (aD _)]at h5;split at h5
    ·rename_i h6
     rw[Array.getElem?_eq_getElem (by omega)]at h5;cases h5
    ·rw[Array.getElem?_eq_getElem h]at h5
     cases h5
   ·exact h
   ·have h5:=hg X.size
    rw[Array.getElem?_eq_getElem h]at h5;split at h5
    ·omega
    ·rw[Array.getElem?_eq_none (aD _)]at h5
     cases h5
  obtain⟨C,e1,e2,e3⟩:=H8 hm cs (k+1) Y (fun d hd=>hc d (cd _ hd)) (by rw[hs,hX,List.length_cons];congr 1;omega);have sP:(k+1)*m=k*m+m:=by rw[Nat.add_mul,Nat.one_mul]
  refine⟨C,?_,fun j hj=>?_,fun i d hi j hj=>?_⟩
  ·rw[List.zipIdx_cons,List.map_cons]
   unfold Instr.fill;simp only[h1,h0,ne_eq,not_true,decide_false,Bool.false_or];rw[if_neg (by simp;omega), <-hY];exact e1
  ·rw[e2 j (by omega),hg j,if_neg (by omega)]
  ·cases i with
   | zero=>
    cases hi
    rw[Nat.add_zero,e2 _ (by omega),hg,if_pos ⟨by omega,by omega⟩,Nat.add_sub_cancel_left]
   | succ i=>
    have:=e3 i d (by simpa using hi) j hj;rwa[show k+1+i=k+(i+1) by omega]at this
theorem Ue {F:Nat->Prop} {w:World} {c:Array Value} {r:RL} (h:cF F w (.agg c) r):c.size=10:=by
 obtain⟨p,cp,e,_⟩:=h;injection e with e
 rw[e];rfl
theorem Mh {F:Nat->Prop} {w:World} {b:Nat} {cs:List (Array Value)} {l:List RL} {C:Array Value} {t:TypeId} (hB:aq w b C t) (hb:F b) (hl:cs.length=l.length) (hC:∀ (i:Nat) (c:Array Value),cs[i]? =some c->∀ j,j<10->C[i*10+j]? =c[j]?) (h:∀ (i:Nat) (c:Array Value) (r:RL),cs[i]? =some c->l[i]? =some r->cF F w (.agg c) r) {n cap:Nat} (hn:n=l.length) (jW:l.length<=cap): bN F w (.slice (some ⟨b,0,none⟩) n cap) l:=by
 subst hn;refine⟨_,cap,rfl,jW,fun i r hi=>?_⟩;have iR:=(List.getElem?_eq_some_iff.1 hi).1;obtain⟨c,hc⟩:∃ c,cs[i]? =some c:=⟨_,aC (by omega)⟩;obtain⟨p,cp,e,hx⟩:=h i c r hc hi;injection e with e
 refine⟨b,0,p,cp,rfl,hb,hB.lt,fun j u hj=>?_,hx⟩;rw[<-e]at hj;have ahl:j<10:=by
  have h9:=(Array.getElem?_eq_some_iff.1 hj).1;have:c.size=10:=by rw[e];rfl
  omega
 refine(hB.cell (0+i*10+j)).trans ?_;rw[show 0+i*10+j=i*10+j by omega,hC i c hc j ahl];exact hj
def aR.xu (l:List RL):aR (Move false (fun _=>False)) where
 P:=fun v=>∃ b,v=.slice (some ⟨b,0,none⟩) l.length l.length
 H:=fun v W=>bN (· <W.heap.size) W v l
 mo:=.slice (some ⟨0,0,none⟩) l.length l.length
 pw:=⟨0,rfl⟩
 st:=fun _ _ _ hm _ h=>(h.keeps (ae.ai hm.below fun _ h=>h) fun _ hb=>hb).mono fun _ hb=>aw hb hm.size
section
variable {P:Program} {Cl:FuncId→Array Value→World→(Ending→World→Prop)→Prop} {Rd:Nat→FuncId→Array Value→Code→Code→World→(Ending→World→Prop)→Prop} {o:Oper} {a:Act} {W:World} {post:Value→World→Prop}
theorem Jy (n:Nat) (cs:List (Array Value)) (l:List RL) (hn:l.length=n) (hl:cs.length=n) (h0:0<n) (h9:n<=100000) (hx:∀ (i:Nat) (c:Array Value) (r:RL),cs[i]? =some c->l[i]? =some r->cF (· <W.heap.size) W (.agg c) r): ∃ W',(Instr.buildSlice 24 n ((cs.zipIdx 0).map fun x=>(x.2,Value.agg x.1)).toArray).run Tryz.prog W=.ok (.slice (some ⟨W.heap.size,0,none⟩) n n) W'/\aa W W'/\W'.heap.size=W.heap.size+1/\bN (· <W'.heap.size) W' (.slice (some ⟨W.heap.size,0,none⟩) n n) l:=by
 obtain⟨i,hi,hz,hs,hb⟩:=info_parts Tryz.QR;have ahm:∀ c∈cs,c.size=10:=fun c hc=>by
  obtain⟨k,hk⟩:=List.mem_iff_getElem?.1 hc;have Ct:=(List.getElem?_eq_some_iff.1 hk).1;exact Ue (hx k c _ hk (aC (by omega)))
 obtain⟨C,e1,_,e3⟩:=H8 (m:=10) (by decide) cs 0 ((Array.range (n*10)).map ((Value.agg #[.bool false,.bool false,.int .u8 0,.int .u64 0,.int .u64 0,.int .u64 0,.int .u64 0,.int .i64 0,.int .i64 0,.slice none 0 0]).cells[· % (Value.agg #[.bool false,.bool false,.int .u8 0,.int .u64 0,.int .u64 0,.int .u64 0,.int .u64 0,.int .i64 0,.int .i64 0,.slice none 0 0]).cells.size]!)) ahm (by simp[hl]);have MG:aa W (W.alloc (.cells C 42 (0,0))):=((Ext.refl W).alloc _).below;refine⟨_,run_buildSlice W 24 42 n _ C i _ Tryz.underlying24 hi hz (by rw[hs];omega) (by rw[hs];omega) (by rw[hs];exact e1),MG,by simp,?_⟩;refine Mh (cs:=cs) (aq.new W _ _) (by simp) (by omega) (fun i c hi j hj=>?_) (fun i c r hi hr=>?_) hn.symm (by omega)
 ·have:=e3 i c hi j hj
  rwa[Nat.zero_add]at this
 ·exact((hx i c r hi hr).keeps (ae.ai MG fun _ h=>h) fun b hb=>hb).mono fun b hb=>aw hb MG.size
theorem parts_eval {parts:Array (Nat×Operand)} {cs:List (Array Value)} (hv:parts.toList.map (fun p=>(p.1,a.eval p.2))=(cs.zipIdx 0).map fun x=>(x.2,Value.agg x.1)):(parts.map fun (i,x)=>(i,a.eval x))=((cs.zipIdx 0).map fun x=>(x.2,Value.agg x.1)).toArray:=by rw[<-hv];apply Array.toList_inj.1;rw[Array.toList_map]
theorem fQ (n:Nat) (parts:Array (Nat×Operand)) (ho:o.op=.buildSlice 24 n parts) (cs:List (Array Value)) (l:List RL) (hn:l.length=n) (hv:parts.toList.map (fun p=>(p.1,a.eval p.2))=(cs.zipIdx 0).map fun x=>(x.2,Value.agg x.1)) (hl:cs.length=n) (h0:0<n) (h9:n<=100000) (hx:∀ (i:Nat) (c:Array Value) (r:RL),cs[i]? =some c->l[i]? =some r->cF (· <W.heap.size) W (.agg c) r) (h:∀ W',aa W W'->bN (· <W'.heap.size) W' (.slice (some ⟨W.heap.size,0,none⟩) n n) l->post (.slice (some ⟨W.heap.size,0,none⟩) n n) W'):jo Cl Rd post ((execOp a.eval o).run Tryz.prog W):=by obtain⟨W',e1,e2,_,e3⟩:=Jy n cs l hn hl h0 h9 hx;unfold execOp;simp only[ho,Sem.run_bind,parts_eval hv,e1,Result.andThen_ok];exact h W' e2 e3
theorem H9 {ops:Array Oper} {rest:List Oper} {Q:Exit->Act->World->Prop} (hg:o.guard=none) (n:Nat) (parts:Array (Nat×Operand)) (ho:o.op=.buildSlice 24 n parts) (d:Option Tmp) (hd:o.dst=d) (cs:List (Array Value)) (l:List RL) (hn:l.length=n) (hv:parts.toList.map (fun p=>(p.1,a.eval p.2))=(cs.zipIdx 0).map fun x=>(x.2,Value.agg x.1)) (hl:cs.length=n) (h0:0<n) (h9:n<=100000) (hx:∀ (i:Nat) (c:Array Value) (r:RL),cs[i]? =some c->l[i]? =some r->cF (· <W.heap.size) W (.agg c) r) (h:∀ W',aa W W'->W'.heap.size=W.heap.size+1->bN (· <W'.heap.size) W' (.slice (some ⟨W.heap.size,0,none⟩) n n) l->wpList Tryz.prog ops Q rest (a.put d (.slice (some ⟨W.heap.size,0,none⟩) n n)) W'):wpList Tryz.prog ops Q (o::rest) a W:=by
 subst hd;obtain⟨W',e1,e2,e3,e4⟩:=Jy n cs l hn hl h0 h9 hx;refine wpList_plain hg fun K hK=>?_
 unfold Oper.wp execOp;simp only[ho,Sem.run_bind,parts_eval hv,e1,Result.andThen_ok];exact hK _ _ (h W' e2 e3 e4)
end
def xw (a:NF) (again:Bool) (b:List Nat):List Int:=(PT.mk a (!again) 0).at b
theorem Ib (a:NF) (again:Bool) (b:List Nat):a.st (xw a again b)=true:=by have h:=Qr [PT.mk a (!again) 0] b;have e:=LI [PT.mk a (!again) 0] b;exact h.2 0 _ _ rfl (by rw[e];rfl)
theorem xf (a:NF) (again:Bool) (b:List Nat) (c:Nat):xw a again (b++ [c])=if again then-1::a.step (xw a again b) c else a.step (xw a again b) c:=by unfold xw;rw[PT.Jl];unfold PT.step;cases again<;>rfl
theorem Uf {a:NF} (rt:Nt a) (again:Bool) (b:List Nat):(xw a again b).length<=401:=se rt (Ib a again b)
theorem Ic (g:Nat) (lb:Array Value) (I:Nat->World->(Nat->Prop)->Prop) (v bv:Value) (a:NF) (rt:Nt a) (sm:I8 a) (again:Bool) (b:List Nat) (hb:∀ c∈b,c<256) (hbn:b.length<=4096) (w0 w:World) (h:iZ w0 v a) (Vk:cR eN w0 bv b) (eg:∀ args w,(callFunc g args).run Tryz.prog w=.ok (.enter g args) w) (F0:Nat->Prop) (hI0:I 0 w F0) (hIb:∀ k W F,I k W F->aa w0 W/\∀ x,F x->x<W.heap.size) (hIk:∀ k W W' F,I k W F->aa W W'->I k W' F) (hat:∀ k W F u l,k<=b.length->l=xw a again (b.take k)->I k W F->cR aV W u l->(∀ B off n c,u=.slice (some ⟨B,off,none⟩) n c->¬F B)-> ag g (#[.int .i64 k,u]++lb) W fun e w'=>e=.returned (.tuple #[])/\∃ F',I (k+1) w' F'/\(∀ x,F' x->F x\/W.heap.size<=x)/\ae (fun x=>x<W.heap.size/\¬F x) W w'): ag 83 #[v,bv,.bool again,.func (.func g) #[] lb] w fun e w'=>e=.returned (.int .i64 0)/\∃ F',I (b.length+1) w' F'/\(∀ x,F' x->F0 x\/w.heap.size<=x)/\ae (fun x=>x<w.heap.size/\¬F0 x) w w':=by
 obtain⟨iI,Cb,my,mz,mA⟩:=info_parts Tryz.qB;have hb0:=hIb 0 w F0 hI0;have H:=hid h;have HBV:=hid Vk;obtain⟨xa0,xn0,xc0,xa1,xn1,xc1,xa2,xn2,xc2,xa3,xn3,xc3,rfl⟩:∃ a0 n0 c0 a1 n1 c1 a2 n2 c2 a3 n3 c3,v=.agg #[.slice a0 n0 c0,.slice a1 n1 c1,.slice a2 n2 c2,.slice a3 n3 c3,.bool a.emp]:=by obtain⟨v0,v1,v2,v3,e,_⟩:=id h;subst e;obtain⟨a0,n0,c0,a1,n1,c1,a2,n2,c2,a3,n3,c3,rfl,rfl,rfl,rfl⟩:=h.za;exact⟨_,_,_,_,_,_,_,_,_,_,_,_,rfl⟩
 obtain⟨n,hn⟩:=ah b.length;obtain⟨ba,bc,rfl⟩:=Vk.form;rw[<-hn]at Vk hbn ⊢;have HN:=hid hn;have HB:=hid hb;have HIB:=hid hIb;have HIK:=hid hIk;have zN:=hid hat;have HI0:=hid hI0;have Vd:=hid hb0.2;have Mq:=hid hb0.1;have hRt:a.right=true:=(fk a).2 rt;have h4:¬ ((4096:Int)<n):=by omega
 clear h Vk hb hIb hIk hat hI0 hb0 hn;go_enter Tryz.func83,Tryz.ntmps83;go_wp2_with fail
 refine aK ?_;intro V hV;have B1:Hid (aq V w.heap.size #[.slice xa0 xn0 xc0,.slice xa1 xn1 xc1,.slice xa2 xn2 xc2,.slice xa3 xn3 xc3,.bool a.emp] 99):=hid (by rw[hV];exact aq.new w _ _);have X1:Hid (aa w V):=hid (by rw[hV];exact((Ext.refl w).alloc _).below);clear hV;have I1:=hid (HIK.out _ _ _ _ HI0 X1);have Y1:Hid (aa w0 V):=hid (HIB.out _ _ _ I1).1;refine(py _ a V (H.below Y1) sm).mono ?_;rintro e w1 ⟨rfl,hx1⟩;rw[hRt];have B2:=hid (B1.below hx1 B1.lt);have X2:Hid (aa w w1):=hid (X1.trans (hx1.mono X1.size));have I2:=hid (HIK.out _ _ _ _ I1 hx1);have hA:w.heap.size<w1.heap.size:=B2.lt;clear hx1 B1 X1 I1 Y1;go_wp2_with fail
 refine aK ?_;intro V2 hV2;have BL:Hid (aq V2 w1.heap.size #[.int .i64 (-1)] 3):=hid (by rw[hV2];exact aq.new w1 _ _);have XL:Hid (aa w1 V2):=hid (by rw[hV2];exact((Ext.refl w1).alloc _).below);clear hV2;have B3:=hid (B2.below XL B2.lt);have X3:Hid (aa w V2):=hid (X2.trans (XL.mono X2.size));have I3:=hid (HIK.out _ _ _ _ I2 XL)
 have L3:Hid (cR aV V2 (.slice (some ⟨w1.heap.size,0,none⟩) 1 1) [-1]):=hid (.inr ⟨w1.heap.size,0,1,rfl,BL.lt,aD _,fun i x hi=>by
  cases i with
  | zero=>cases hi;exact BL.cell 0
  | succ i=>simp at hi⟩)
 have Ed:¬F0 w1.heap.size:=fun h=>by have:=Vd.out _ h;omega
 have hA3:w1.heap.size<V2.heap.size:=BL.lt;clear B2 X2 I2 XL;refine(zN 0 V2 F0 _ [-1] (Nat.zero_le _) rfl I3 L3 (fun B off n c e=>by cases e;exact Ed)).mono ?_;rintro e w2 ⟨rfl,F,hI,hF,hk⟩;have B4:=hid (B3.keeps hk ⟨B3.lt,fun h=>by have:=Vd.out _ h;omega⟩);have L4:=hid (L3.keeps hk fun B off n c e=>by cases e;exact⟨hA3,Ed⟩);have I4:=hid hI;have F4:Hid (∀ x,F x->F0 x\/w.heap.size<x):=hid fun x hx=>(hF x hx).imp id fun h=>by omega
 have K4:Hid (ae (fun x=>x<w.heap.size/\¬F0 x) w w2):=hid ((ae.ai X3 fun x (hx:x<w.heap.size/\¬F0 x)=>hx.1).tr (hk.mono fun x (hx:x<w.heap.size/\¬F0 x)=>⟨by have:=hx.1;have:=X3.size;omega,hx.2⟩));clear hI hF hk BL B3 X3 I3 L3 hA3 Ed;go_wp2;go_loopw [9,26] (fun lv iv wr=>∃ (k:Nat) (F:Nat->Prop),k<=n/\iv=.int .i64 k/\I (k+1) wr F/\(∀ x,F x->F0 x\/w.heap.size<x)/\ae (fun x=>x<w.heap.size/\¬F0 x) w wr/\cR aV wr lv (xw a again (b.take k))/\aq wr w.heap.size #[.slice xa0 xn0 xc0,.slice xa1 xn1 xc1,.slice xa2 xn2 xc2,.slice xa3 xn3 xc3,.bool a.emp] 99) (fun _ iv _=>n-(intOf iv).toNat);case atStart=>exact⟨0,F,Nat.zero_le _,rfl,I4,F4,K4,L4,B4⟩
 case round=>
  obtain⟨k,F5,hk,rfl,hI,hF,hK,hL,hB⟩:=hrel;obtain⟨wo,rfl⟩:=ah (wr:World);clear I4 F4 K4 L4 B4;have HI:=hid hI;have HF:=hid hF;have HK:=hid hK;have HL:=hid hL;have ID:=hid hB;have Y5:=hid (HIB.out _ _ _ hI).1;have hFl:=hid (HIB.out _ _ _ hI).2;clear hI hF hK hL hB;by_cases hlt:k<n
  ·have eT:(k:Int)<n:=by omega
   obtain⟨c,Mw⟩:∃ c,b[k]? =some c:=⟨_,aC (by have:=HN.out;omega)⟩;have hc:c<256:=HB.out c (aA Mw);obtain⟨bb,off,rfl,Vf,d0⟩:=(HBV.below Y5).elem Mw;have d0':wo.cell? ⟨bb,off+k,none⟩=some (.int .u8 c):=d0;have dT:b.take (k+1)=b.take k++ [c]:=by rw[List.take_add_one,Mw];rfl
   obtain⟨lk,hlk⟩:=ah (xw a again (b.take k));have hst:a.st lk=true:=by rw[hlk];exact Ib a again _
   have hln:lk.length<=401:=se rt hst;rw[<-hlk]at HL;obtain⟨la,lc,rfl⟩:=HL.form;obtain⟨ln,Yp⟩:=ah lk.length;rw[<-Yp]at HL ⊢;have xq:=hid hlk;have jg:=hid dT;obtain⟨c0,c1,c2,c3,c4⟩:wo.cell? ⟨w.heap.size,0,none⟩=some (.slice xa0 xn0 xc0)/\wo.cell? ⟨w.heap.size,1,none⟩=some (.slice xa1 xn1 xc1)/\wo.cell? ⟨w.heap.size,2,none⟩=some (.slice xa2 xn2 xc2)/\wo.cell? ⟨w.heap.size,3,none⟩=some (.slice xa3 xn3 xc3)/\wo.cell? ⟨w.heap.size,4,none⟩=some (.bool a.emp):=⟨ID.cell 0,ID.cell 1,ID.cell 2,ID.cell 3,ID.cell 4⟩;have ahq:lk.length<=1000000:=by omega
   have Zk:=hid Yp;clear hlk dT Mw d0 Yp;go_wp2_with fail
   refine(yT _ _ a rt lk hst c hc wo (H.below Y5) sm (HL) ahq).mono ?_;rintro e w3 ⟨r,rfl,hown,hx3⟩;obtain⟨sx,xn⟩:=ah ((a.step lk c).map aV);obtain⟨sn,Kl⟩:=ah ((a.step lk c).length);rw[<-xn, <-Kl]at hown;obtain⟨ra,rc,rfl⟩:=ownsRow_form hown;have R0:=hid hown;have B6:=hid (ID.below hx3 ID.lt);have I6:=hid (HIK.out _ _ _ _ HI hx3);have hsz:=hx3.size;have hA6:w.heap.size<wo.heap.size:=ID.lt;have X6:=hid hx3;have Pd:=hid xn;have Rp:=hid Kl;have aon:sn<=401:=by
    have h1:=Uf rt again (b.take (k+1));rw[jg.out,xf, <-xq.out]at h1;cases again
    ·have h2:(a.step lk c).length<=401:=h1
     omega
    ·have h2:(-1::a.step lk c).length<=401:=h1
     rw[List.length_cons]at h2;omega
   have GN:IntKind.i64.wrap ((k:Int)+1)=((k+1:Nat):Int):=by rw[IntWalk.i64_in _ (by omega)];omega
   clear hown hx3 xn Kl ID HI HL c0 c1 c2 c3 c4 d0'
   have FIN:Hid (∀ W nv l',l'=xw a again (b.take (k+1))->aa w3 W->cR aV W nv l'->(∀ B off n c,nv=.slice (some ⟨B,off,none⟩) n c->wo.heap.size<=B/\B<W.heap.size)->
     ag g (#[.int .i64 (k+1:Nat),nv]++lb) W fun e w'=>e=.returned (.tuple #[])/\∃ F',I (k+1+1) w' F'/\(∀ x,F' x->F0 x\/w.heap.size<x)/\ae (fun x=>x<w.heap.size/\¬F0 x) w w'/\cR aV w' nv (xw a again (b.take (k+1)))/\aq w' w.heap.size #[.slice xa0 xn0 xc0,.slice xa1 xn1 xc1,.slice xa2 xn2 xc2,.slice xa3 xn3 xc3,.bool a.emp] 99):=hid fun W nv l' hl' hW YV hno=>by
    have hS:=hW.size;refine(zN (k+1) W F5 nv l' (by have:=HN.out;omega) hl' (HIK _ _ _ _ I6 hW) YV (fun B off n c e hF=>by have:=hFl.out _ hF;have:=(hno B off n c e).1;omega)).mono ?_;rintro e w' ⟨rfl,F',h1,h2,h3⟩;refine⟨rfl,F',h1,fun x hx=>?_,?_,?_,?_⟩
    ·rcases h2 x hx with h | h
     ·exact HF x h
     ·exact .inr (by omega)
    ·refine(HK.tr (ae.ai X6 fun x (hx:x<w.heap.size/\¬F0 x)=>by have:=hx.1;omega)).tr ((ae.ai hW fun x (hx:x<w.heap.size/\¬F0 x)=>by have:=hx.1;omega).tr (h3.mono fun x (hx:x<w.heap.size/\¬F0 x)=>⟨by have:=hx.1;omega,fun h=>?_⟩))
     rcases HF.out x h with h | h
     ·exact hx.2 h
     ·have:=hx.1;omega
    ·rw[<-hl']
     exact YV.keeps h3 fun B off n c e=>⟨(hno B off n c e).2,fun h=>by have:=hFl.out _ h;have:=(hno B off n c e).1;omega⟩
    ·exact(B6.below hW B6.lt).keeps h3 ⟨by omega,fun h=>by
      rcases HF.out _ h with h | h
      ·have:=Vd.out _ h;omega
      ·omega⟩
   cases again with
   | false=>
    have hl':a.step lk c=xw a false (b.take (k+1)):=by rw[jg.out,xf, <-xq.out];rfl
    go_wp2_with fail
    refine(FIN w3 _ (a.step lk c) hl' (Below.refl _ _) (dP (by rw[Pd.out]at R0;exact R0) Rp) (fun B off n c e=>by
     cases e
     exact R0.lt B rfl)).mono ?_
    rintro e w4 ⟨rfl,F',h1,h2,h3,h4,h5⟩;have G1:=hid h1;have G2:=hid h2;have G3:=hid h3;have G4:=hid h4;have G5:=hid h5;clear h1 h2 h3 h4 h5;go_wp2;go_roundw;case rel=>exact⟨k+1,F',by omega,by go_num,G1,G2,G3,G4,G5⟩
    case measure=>simp[intOf];omega
   | true=>
    have hl': -1::a.step lk c=xw a true (b.take (k+1)):=by rw[jg.out,xf, <-xq.out];rfl
    have O1:Hid ((w3.alloc (.cells #[.int .i64 (-1)] 3)).ownsRow w3.heap.size 3 1 (.slice (some ⟨w3.heap.size,0,none⟩) 1 1) 1 [.int .i64 (-1)]):=hid ⟨rfl,.inr ⟨w3.heap.size,1, #[.int .i64 (-1)],rfl,aD _,World.alloc_heap_new _ _,aD _,by unfold maxLen;omega,rfl,rfl⟩⟩;go_wp2_with (at_builtin;refine Hid.out ?_);refine hid ?_;refine ju rfl (.tmp 36) (.tmp 37) 51 rfl w3.heap.size 3 iI (.int .i64 0) 1 8 Tryz.underlying51 Cb my mz mA rfl (by decide) _ 1 _ rfl O1 _ sn sx rfl (uX.own (R0.alloc _)) (by rw[Pd.out,bp,Nat.mul_one];exact Rp.symm) (fun u hu=>by rw[Pd.out]at hu;obtain⟨y,_,rfl⟩:=List.mem_map.1 hu;rfl) (by unfold maxLen;omega) (by omega) (by simp) ?_;intro v1 w4 hown1 vM;have XB:Hid (aa w3 w4):=hid (((Below.refl _ w3).alloc (aD _) _).grown vM (by simp) (fun c e=>by have e2:some w3.heap.size=some c:=e;injection e2 with e2;omega));have hN:1+sn=(-1::a.step lk c).length:=by rw[List.length_cons, <-Rp.out];omega
    have hX:[.int .i64 (-1)]++sx=(-1::a.step lk c).map aV:=by rw[Pd.out];rfl
    rw[hN,hX]at hown1;have S1:Hid (cR aV w4 v1 (-1::a.step lk c)):=hid (dP hown1 rfl);have ahr:=hid hown1.lt;obtain⟨sm9,hsm⟩:=ah ((-1::a.step lk c).length);rw[<-hsm]at hown1;obtain⟨a6,c6,rfl⟩:=ownsRow_form hown1;clear hown1 vM hN hX hsm O1;go_wp2_with fail
    refine(FIN w4 _ (-1::a.step lk c) hl' XB S1 (fun B off n c e=>by
     cases e
     have:=ahr.out B rfl
     omega)).mono ?_
    rintro e w5 ⟨rfl,F',h1,h2,h3,h4,h5⟩;have G1:=hid h1;have G2:=hid h2;have G3:=hid h3;have G4:=hid h4;have G5:=hid h5;clear h1 h2 h3 h4 h5;go_wp2;go_roundw;case rel=>exact⟨k+1,F',by omega,by go_num,G1,G2,G3,G4,G5⟩
    case measure=>simp[intOf];omega
  ·obtain rfl:k=n:=by omega
   have yQ:¬ ((k:Int)<k):=by omega
   go_wp2;go_ret;exact⟨rfl,F5,HI,fun x hx=>(HF x hx).imp id fun h=>Nat.le_of_lt h,HK⟩
theorem aq.ahs {w:World} {b:Nat} {x:Value} {t:TypeId} (h:aq w b #[x] t) (y:Value):aq (w.setCell ⟨b,0,none⟩ y) b #[y] t:=by have:=h.set 0 y;have e:(#[x]:Array Value).setIfInBounds 0 y= #[y]:=rfl;rwa[e]at this
theorem Ie:∀ args w,(callFunc 84 args).run Tryz.prog w=.ok (.enter 84 args) w:=fun args w=>by kernel_rfl
def ib (a:NF) (b:List Nat) (k:Nat):List Int:=((List.range k).filter fun i=>a.acc (xw a true (b.take i))).map Int.ofNat
theorem xg (a:NF) (b:List Nat) (k:Nat):ib a b (k+1)=if a.acc (xw a true (b.take k))then ib a b k++ [(k:Int)]else ib a b k:=by unfold ib;rw[List.range_succ,List.filter_append,List.map_append];by_cases h:a.acc (xw a true (b.take k))=true<;>simp[h]
theorem zE (a:NF) (b:List Nat) (k:Nat):(ib a b k).length<=k:=by unfold ib;rw[bp];exact Nat.le_trans (List.length_filter_le _ _) (by rw[List.length_range];exact aD _)
def Ug (B base:Nat) (W:World) (rv:Value) (ys:List Value) (w':World):Prop:=
 ∃ Yq n',aq w' B #[Yq] 51/\w'.ownsRow base 3 1 Yq n' ys/\(Yq.ownBlock=rv.ownBlock\/∃ x,Yq.ownBlock=some x/\W.heap.size<=x)/\ae (fun x=>x<W.heap.size/\x≠B/\rv.ownBlock≠some x) W w'
theorem Bn (k:Nat) (u:Value) (a:NF) (v0 v1 v2 v3:Value) (rt:Nt a) (sm:I8 a) (l:List Int) (hst:a.st l=true) (A B base n:Nat) (rv:Value) (xs:List Value) (hn:n<=5000) (W:World) (hA:aq W A #[v0,v1,v2,v3,.bool a.emp] 99) (ox:iZ W (.agg #[v0,v1,v2,v3,.bool a.emp]) a) (hu:cR aV W u l) (hB:aq W B #[rv] 51) (ho:W.ownsRow base 3 1 rv n xs) (hBb:B<base) (Zs:base<=W.heap.size): ag 84 #[.int .i64 k,u,.pointer (some ⟨A,0,none⟩),.pointer (some ⟨B,0,none⟩)] W fun e w'=>e=.returned (.tuple #[])/\Ug B base W rv (if a.acc l then xs++ [.int .i64 k]else xs) w':=by
 obtain⟨iI,Cb,my,mz,mA⟩:=info_parts Tryz.qB;have CA:Hid (∀ V,aa W V->ag 82 #[.agg #[v0,v1,v2,v3,.bool a.emp],u] V fun e w'=>e=.returned (.bool (a.acc l))/\aa V w'):=hid fun V hV=>qN _ u a rt l hst V (ox.below hV) sm (hu.below hV) (by have:=se rt hst;omega)
 obtain⟨a0,n0,c0,a1,n1,c1,a2,n2,c2,a3,n3,c3,rfl,rfl,rfl,rfl⟩:=ox.za;obtain⟨ua,uc,rfl⟩:=hu.form;obtain⟨ra,rc,rfl⟩:=ownsRow_form ho;obtain⟨R,hR⟩:=ah (a.acc l);rw[<-hR]at CA ⊢;generalize l.length=m at*;have HB:=hid hB;have HO:=hid ho;obtain⟨i0,i1,i2,i3,i4⟩:=hA.five;clear ox hu hst rt sm hB ho hA hR;go_enter Tryz.func84,Tryz.ntmps84;go_wp2_with fail
 refine(CA W (Below.refl _ _)).mono ?_;rintro e w1 ⟨rfl,hx⟩;have X1:=hid hx;have B1:=hid (HB.below hx HB.lt);have O1:=hid (ay HO hx);have hs1:=hx.size;have b0:w1.cell? ⟨B,0,none⟩=some (.slice ra n rc):=B1.cell 0;have hBl:=HB.lt;clear hx i0 i1 i2 i3 i4 CA;cases R with
 | false=>
  go_wp2;refine bodyPost_end (results_none rfl _ _ _) rfl ⟨rfl,_,_,B1,O1,.inl rfl,ae.ai X1 fun x (hx:x<W.heap.size/\_)=>hx.1⟩
 | true=>
  go_wp2_with (at_builtin;refine Hid.out ?_)
  refine hid ?_;refine wpList_append_own_at _ rfl (.tmp 9) (.tmp 11) 51 rfl base 3 iI (.int .i64 0) 1 8 Tryz.underlying51 Cb my mz mA rfl (by decide) _ _ _ rfl (O1.alloc _) ⟨w1.heap.size,0,none⟩ 1 1 [.int .i64 k] rfl rfl (jx _ _ _) (by simp[Value.oneCell']) (by unfold maxLen;omega) (by omega) (by simp;omega) ?_;intro v' w2 hown' hgrow hh hat;have kA:=hid hown';have HG:=hid hgrow;have HT:=hid hat;obtain⟨T4,T5,rfl⟩:=ownsRow_form hown';clear hown' hgrow hh hat;have hs2:=HG.size;have e2:(w1.alloc (.cells #[.int .i64 k] 3)).heap.size=w1.heap.size+1:=by simp
  have g1:aa w1 (w1.alloc (.cells #[.int .i64 k] 3)):=((Ext.refl w1).alloc _).below;have hob:=HO.lt;have sP:ae (fun x=>x<W.heap.size/\x≠B/\(Value.slice ra n rc).ownBlock≠some x) W w2:=((ae.ai X1 fun x (hx:x<W.heap.size/\_)=>hx.1).tr (ae.ai g1 fun x (hx:x<W.heap.size/\_)=>aw hx.1 hs1)).tr (ae.bA HG fun x (hx:x<W.heap.size/\x≠B/\(Value.slice ra n rc).ownBlock≠some x)=>⟨by have:=hx.1;omega,fun e=>hx.2.2 e.symm⟩);have IK:aq w2 B #[.slice ra n rc] 51:=(B1.below g1 B1.lt).grown HG fun e=>by have:=(hob B e.symm).1;omega
  have b2:w2.cell? ⟨B,0,none⟩=some (.slice ra n rc):=IK.cell 0;have b3:w2.frozen? ⟨B,0,none⟩=false:=IK.frozen _;have fJ:=hid IK;have ND:=hid sP;clear IK sP g1 hob;go_wp2;refine bodyPost_end (results_none rfl _ _ _) rfl ?_;refine⟨rfl,.slice T4 (n+1) T5,n+1,fJ.ahs _,au kA ((ae.refl (fun x=>x≠B) w2).setCell (p:=⟨B,0,none⟩) (fun h=>h rfl) _) (fun x e=>?_),?_,ND.setCell (p:=⟨B,0,none⟩) (fun h=>h.2.1 rfl) _⟩
  ·have:=(kA.lt x e).1
   show x≠B;omega
  ·rcases HT.out with e | e
   ·exact .inl e
   ·exact .inr ⟨_,e,by omega⟩
def Uh (a:NF) (b:List Nat) (w0:World) (v0 v1 v2 v3:Value) (A B base k:Nat) (W:World) (F:Nat->Prop):Prop:=
 aa w0 W/\base<=W.heap.size/\aq W A #[v0,v1,v2,v3,.bool a.emp] 99/\∃ rv n,aq W B #[rv] 51/\W.ownsRow base 3 1 rv n ((ib a b k).map aV)/\∀ x,F x↔(x=B\/rv.ownBlock=some x)
theorem Bo (v bv:Value) (a:NF) (rt:Nt a) (sm:I8 a) (b:List Nat) (hb:∀ c∈b,c<256) (hbn:b.length<=4096) (w:World) (h:iZ w v a) (Vk:cR eN w bv b): ag 55 #[v,bv] w fun e w'=>∃ u,e=.returned (.tuple #[u,.int .i64 0])/\cR aV w' u (ib a b (b.length+1))/\aa w w':=by
 have h':=h;obtain⟨v0,v1,v2,v3,rfl,_⟩:=h';have CR:Hid (∀ V,aa w V->V.heap.size=w.heap.size+2->aq V w.heap.size #[v0,v1,v2,v3,.bool a.emp] 99->aq V (w.heap.size+1) #[.slice none 0 0] 51->ag 83 #[.agg #[v0,v1,v2,v3,.bool a.emp],bv,.bool true,.func (.func 84) #[] #[.pointer (some ⟨w.heap.size,0,none⟩),.pointer (some ⟨w.heap.size+1,0,none⟩)]] V fun e w'=>e=.returned (.int .i64 0)/\∃ q m d,aq w' (w.heap.size+1) #[.slice q m d] 51/\cR aV w' (.slice q m d) (ib a b (b.length+1))/\aa w w'):=hid fun V hV uH hA hB=>by
  refine(Ic 84 #[.pointer (some ⟨w.heap.size,0,none⟩),.pointer (some ⟨w.heap.size+1,0,none⟩)] (Uh a b w v0 v1 v2 v3 w.heap.size (w.heap.size+1) (w.heap.size+2)) _ bv a rt sm true b hb hbn w V h Vk Ie (· =w.heap.size+1) ⟨hV,by omega,hA,.slice none 0 0,0,hB,World.ownsRow_nil _ _ _ _,fun x=>⟨.inl,fun h=>h.elim id fun e=>by cases e⟩⟩ (fun k W F hI=>?_) (fun k W W' F hI hk=>?_) (fun k W F u l hk hl hI hu hno=>?_)).mono ?_
  ·obtain⟨h1,h2,h3,rv,n,h4,h5,h6⟩:=hI
   refine⟨h1,fun x hx=>?_⟩;rcases(h6 x).1 hx with rfl | e
   ·exact h4.lt
   ·exact(h5.lt x e).2
  ·obtain⟨h1,h2,h3,rv,n,h4,h5,h6⟩:=hI
   exact⟨h1.trans (hk.mono h1.size),Nat.le_trans h2 hk.size,h3.below hk h3.lt,rv,n,h4.below hk h4.lt,ay h5 hk,h6⟩
  ·obtain⟨h1,h2,h3,rv,n,h4,h5,h6⟩:=hI
   have hn:n=(ib a b k).length:=by have:=h5.1;rw[bp,Nat.mul_one]at this;exact this.symm
   refine(Bn k u a v0 v1 v2 v3 rt sm l (by rw[hl];exact Ib a true _) w.heap.size (w.heap.size+1) (w.heap.size+2) n rv _ (by have:=zE a b k;omega) W h3 (h.below h1) hu h4 h5 (by omega) h2).mono ?_;rintro e w' ⟨rfl,Yq,n',g1,g2,g3,g4⟩;have hbl:ae (· <w.heap.size+1) W w':=g4.mono fun x (hx:x<w.heap.size+1)=>⟨by omega,by omega,fun e=>by have:=(h5.lt x e).1;omega⟩
   refine⟨rfl,fun x=>x=w.heap.size+1\/Yq.ownBlock=some x,⟨h1.trans (hbl.mono fun x (hx:x<w.heap.size)=>by show x<_;omega:ae (· <w.heap.size) W w').below,Nat.le_trans h2 g4.size,h3.keeps hbl (by show w.heap.size<_;omega),Yq,n',g1,?_,fun _=>Iff.rfl⟩,fun x hx=>?_,g4.mono fun x (hx:x<W.heap.size/\¬F x)=>⟨hx.1,fun e=>hx.2 ((h6 x).2 (.inl e)),fun e=>hx.2 ((h6 x).2 (.inr e))⟩⟩
   ·rw[xg, <-hl]
    by_cases lF:a.acc l=true
    ·rw[if_pos lF]at g2 ⊢
     rw[List.map_append];exact g2
    ·rw[if_neg lF]at g2 ⊢
     exact g2
   ·rcases hx with rfl | e
    ·exact .inl ((h6 _).2 (.inl rfl))
    ·rcases g3 with g3 | ⟨y,e2,hy⟩
     ·exact .inl ((h6 x).2 (.inr (by rw[<-g3,e])))
     ·rw[e2]at e
      cases e
      exact .inr hy
  ·rintro e w' ⟨rfl,F,⟨h1,h2,h3,rv,n,h4,h5,h6⟩,_,_⟩
   obtain⟨q,d,rfl⟩:=ownsRow_form h5;have hn:=h5.1;rw[bp,Nat.mul_one]at hn;exact⟨rfl,q,n,d,h4,dP h5 hn.symm,h1⟩
 obtain⟨a0,n0,c0,a1,n1,c1,a2,n2,c2,a3,n3,c3,rfl,rfl,rfl,rfl⟩:=h.za;obtain⟨ba,bc,rfl⟩:=Vk.form;generalize ib a b (b.length+1)=L at*;generalize b.length=m at*;clear h Vk rt sm hb hbn;go_enter Tryz.func55,Tryz.ntmps55;go_wp2_with fail
 refine aK ?_;intro V hV;have BA:Hid (aq V w.heap.size #[.slice a0 n0 c0,.slice a1 n1 c1,.slice a2 n2 c2,.slice a3 n3 c3,.bool a.emp] 99):=hid (by rw[hV];exact(aq.new w _ _).alloc _);have BB:Hid (aq V (w.heap.size+1) #[.slice none 0 0] 51):=hid (by rw[hV];simpa using aq.new (w.alloc (.cells #[.slice a0 n0 c0,.slice a1 n1 c1,.slice a2 n2 c2,.slice a3 n3 c3,.bool a.emp] 99)) _ _);have X1:Hid (aa w V):=hid (by rw[hV];exact(((Ext.refl w).alloc _).alloc _).below);have S1:Hid (V.heap.size=w.heap.size+2):=hid (by rw[hV];simp);clear hV;refine(CR V X1 S1 BA BB).mono ?_;rintro e w1 ⟨rfl,q,m2,d,h3,h4,h5⟩;have H3:=hid h3;have H4:=hid h4;have H5:=hid h5;have e0:w1.cell? ⟨w.heap.size+1,0,none⟩=some (.slice q m2 d):=h3.cell 0;clear h3 h4 h5 BB X1;go_wp2;refine bodyPost_ret (v:=.tuple #[.slice q m2 d,.int .i64 0]) (by simp[results,Tryz.results55,go_sem]) rfl ⟨_,rfl,H4,H5⟩
attribute [local go_sem] encS
theorem Bp {w:World} {o:Obj} {b:Nat} (e:w.heap.size=b):(w.alloc o).heap[b]? =some o:=e▸World.alloc_heap_new w o
theorem Bq (W:World) (k:Nat) (s:ByteArray) (p:Nat):ae (· ≠k) W (W.iterAt k s p) where
 os:=rfl
 tape:=rfl
 output:=rfl
 size:=by rw[Lib.iterAt_size];exact aD _
 keep:=fun i hi=>Lib.iterAt_other W k i s p hi
end
section
open Go Go.RowKit Go.Shelf Go.Maps
theorem oU (W:World) (e:TypeId) (s:ByteArray):aa W (Lib.bytesWorld W e s):=by refine⟨?_,?_,?_,by rw[Lib.bytesWorld_size];omega,fun k hk=>Lib.bytesWorld_at_old W e s k hk⟩<;>(unfold Lib.bytesWorld World.freeze;split<;>rfl)
theorem Mi (k:Nat) (s:BS) (mn mx:Int) (a:Value) {i:Nat} (hi:i<4):(aj k s mn mx a)[1+i]? =some (.int .u64 (wd s i).toNat):=by
 match i,hi with
 | 0,_=>rfl
 | 1,_=>rfl
 | 2,_=>rfl
 | 3,_=>rfl
theorem Ig {s t:BS} {q:Nat} {x:Value} (hq4:q<4) (h:(encS s).setIfInBounds q x=encS t) (k:Nat) (mn mx:Int) (a:Value):(aj k s mn mx a).setIfInBounds (1+q) x=aj k t mn mx a:=by unfold encS at h;unfold aj;have h0:=congrArg (·[0]?) h;have h1:=congrArg (·[1]?) h;have h2:=congrArg (·[2]?) h;have h3:=congrArg (·[3]?) h;clear h;rcases(show q=0\/q=1\/q=2\/q=3 by omega)with rfl | rfl | rfl | rfl<;>(simp at h0 h1 h2 h3;simp[h0,h1,h2,h3])
theorem Fb (k:Nat) (s:BS) (mn mx:Int) (a:Value) {c:Nat} (hc:c<256):(aj k s mn mx a).setIfInBounds (1+c/64) (.int .u64 (bits .or .u64 (wd s (c/64)).toNat (IntKind.u64.wrap (2^ (c%64)))))=aj k (mJ s c) mn mx a:=Ig (by omega) (uR s hc) k mn mx a
theorem tO (s:ByteArray) (l:List Nat) (l8:s.data.toList.map (·.toNat)=l) (hn:l.length<=1000000) (w:World): ag 16 #[.string s] w fun e w'=>e=.returned (.agg (aj 2 (oo fun c=>l.contains c) 0 0 (.slice none 0 0)))/\aa w w':=by
 obtain⟨u,hu⟩:=ah (oo fun c=>l.contains c);rw[<-hu];have HU:=hid hu;have hcv:∀ W:World,(convert 9 55 (.string s)).run Tryz.prog W=.ok (.slice (some ⟨W.heap.size,0,none⟩) s.size (grownCap W s.size 0 5)) (Lib.bytesWorld W 5 s):=fun W=>Lib.run_convert_string_bytes W 9 55 5 s Tryz.underlying9 Tryz.underlying55 Tryz.underlying5
 have hsz:s.size=l.length:=by rw[<-l8];simp
 have HCE:Hid (∀ (W:World) (i x:Nat),l[i]? =some x->(Lib.bytesWorld W 5 s).cell? ⟨W.heap.size,i,none⟩=some (.int .u8 x)):=hid fun W i x h=>by
  have hi:i<s.size:=by rw[hsz];exact(List.getElem?_eq_some_iff.1 h).1
  rw[Lib.bytesWorld_cell W 5 s i hi];rw[<-l8,bH]at h;cases hq:s.data.toList[i]? with
  | none=>rw[hq]at h;cases h
  | some b=>rw[hq]at h;cases h;rw[cq,hq];rfl
 have HL:Hid (∀ c∈l,c<256):=hid fun c hc=>by
  rw[<-l8]at hc;obtain⟨b,_,rfl⟩:=List.mem_map.1 hc;exact b.toNat_lt
 rw[hsz]at hcv;have Ta:Hid (∀ W:World,aa W (Lib.bytesWorld W 5 s)):=hid fun W=>oU W _ s
 clear hu l8 hsz;go_enter Tryz.func16,Tryz.ntmps16;go_upto_region 2 with fail
 refine ax ?_;intro V hV;have R0:Hid (aq V w.heap.size eL 40):=by rw[hV];exact hid ((aq.new _ _ _).alloc _)
 have B0:Hid (aq V (w.heap.size+1) (aj 2 0 0 0 (.slice none 0 0)) 40):=by rw[hV,eG];exact hid ((aq.new _ _ _).at (by simp))
 have X0:Hid (aa w V):=by rw[hV];exact hid (((Ext.refl w).alloc _).alloc _).below
 have uH:V.heap.size=w.heap.size+2:=by rw[hV];simp
 have rA:=hid uH;clear hV uH;go_wp2;go_loopw [10] (fun i wr=>∃ (k:Nat) (s':BS),k<=l.length/\i=.int .i64 k/\(∀ c,c<256->s'.getLsbD c=(l.take k).contains c)/\aq wr (w.heap.size+1) (aj 2 s' 0 0 (.slice none 0 0)) 40/\aq wr w.heap.size eL 40/\(∀ i x:Nat,l[i]? =some x->wr.cell? ⟨V.heap.size,i,none⟩=some (.int .u8 x))/\aa w wr) (fun i _=>l.length-(intOf i).toNat);case atStart=>
  have hb:=Ta.out V;exact⟨0,0,by omega,rfl,fun c hc=>by simp,B0.below hb B0.lt,R0.below hb R0.lt,fun i x h=>HCE V i x h,X0.trans (hb.mono X0.size)⟩
 case round=>
  obtain⟨k,s',hk,rfl,hs,hB,hR,hce,hx⟩:=hrel;obtain⟨wo,rfl⟩:=ah (wr:World);have HS:=hid hs;have HCR:=hid hce;clear hs hce;by_cases hlt:k<l.length
  ·obtain⟨c,oG⟩:∃ c,l[k]? =some c:=⟨l[k],aC hlt⟩
   have l5:c<256:=HL.out c (aA oG);have hcc:wo.cell? ⟨V.heap.size,k,none⟩=some (.int .u8 c):=HCR.out k c oG;have hw:(aj 2 s' 0 0 (.slice none 0 0))[1+c/64]? =some (.int .u64 (wd s' (c/64)).toNat):=Mi _ _ _ _ _ (by omega);have hc1:wo.cell? ⟨w.heap.size+1,1+c/64,none⟩=some (.int .u64 (wd s' (c/64)).toNat):=(hB.cell _).trans hw;have hf:=hB.frozen (1+c/64);have dT:l.take (k+1)=l.take k++ [c]:=by rw[List.take_add_one,oG];rfl
   have HT:=hid dT;have HB:=hid hB;have HR:=hid hR;have HX:=hid hx;have eT:(k:Int)<l.length:=by omega
   clear hB hR hx hw dT oG Ta hcv;go_wp2;go_roundw;case rel=>
    refine⟨k+1,mJ s' c,by omega,by go_num,fun d hd=>?_,?_,?_,fun i x h=>?_,?_⟩
    ·rw[kD s' l5,HS.out d hd,HT.out,List.contains_eq_any_beq,List.contains_eq_any_beq,List.any_append]
     simp
    ·rw[<-Fb 2 s' 0 0 _ l5];exact HB.set _ _
    ·exact HR.other (by simp) _
    ·rw[cell_far _ _ _ _ (by have:=rA.out;simp;omega)];exact HCR i x h
    ·exact HX.trans (((ae.refl (· <w.heap.size) _).setCell (p:=⟨w.heap.size+1,1+c/64,none⟩) (fun h=>by have h':w.heap.size+1<w.heap.size:=h;omega) _).below)
   case measure=>simp[intOf];omega
  ·have Wo:s'=u:=by rw[HU.out];exact BS.Ir fun c hc=>by rw[HS.out c hc,List.take_of_length_le (by omega)]
   subst Wo;obtain rfl:k=l.length:=by omega
   have HR:=hid hR;have HX:=hid hx;have eT:¬ ((l.length:Int)<l.length):=by omega
   obtain⟨c0,c1,c2,c3,c4,c5,c6,c7⟩:=hB.eight;clear hB hR hx hcv Ta;go_wp2_with (refine wpList_store_row rfl 40 (.tmp 2) (.tmp 26) rfl w.heap.size (aj 2 s' 0 0 (.slice none 0 0)) rfl rfl 40 eL HR (cO _ _ _ _ _) rfl (j9 _ _ _ _ _ _ _) ?_;refine Hid.out ?_);refine hid ?_;obtain⟨V3,cD⟩:=ah (wo.setRow w.heap.size (aj 2 s' 0 0 (.slice none 0 0)));rw[<-cD];have R9:Hid (aq V3 w.heap.size (aj 2 s' 0 0 (.slice none 0 0)) 40):=by rw[cD];exact hid HR.setRow
   have X9:aa w V3:=by rw[cD];exact HX.trans ((bn wo w.heap.size _).mono fun x (hx:x<w.heap.size)=>by show x≠_;omega:ae (· <w.heap.size) wo _).below
   clear cD;go_wp2;obtain⟨m0,m1,m2,m3,m4,m5,m6,m7⟩:=R9.eight;exact bodyPost_ret (v:=.agg (aj 2 s' 0 0 (.slice none 0 0))) (by simp[results,Tryz.results16,aj,go_sem,m0,m1,m2,m3,m4,m5,m6,m7]) rfl ⟨rfl,X9⟩
theorem cF.leaf (F:Nat->Prop) (w:World) (bg en:Bool) (k:Nat) (s:BS):cF F w (.agg (mE bg en k s 0 0 (.slice none 0 0))) ⟨bg,en,.nd k s 0 0 []⟩:=⟨none,0,rfl,aH.leaf F w k s 0 0 none 0⟩
theorem xh (b e:Bool) (k:Nat) (mn mx:Int) (a:Value):mE b e k 0 mn mx a= #[.bool b,.bool e,.int .u8 k,.int .u64 0,.int .u64 0,.int .u64 0,.int .u64 0,.int .i64 mn,.int .i64 mx,a]:=by have h:=eG k mn mx a;unfold aj at h;unfold mE;simp at h ⊢;exact h
theorem aq.Jz {w:World} {b:Nat} {x0 x1 x2 x3 x4 x5 x6 x7 x8 x9:Value} {t:TypeId} (h:aq w b #[x0,x1,x2,x3,x4,x5,x6,x7,x8,x9] t):w.cell? ⟨b,0,none⟩=some x0/\w.cell? ⟨b,1,none⟩=some x1/\w.cell? ⟨b,2,none⟩=some x2/\w.cell? ⟨b,3,none⟩=some x3/\w.cell? ⟨b,4,none⟩=some x4/\w.cell? ⟨b,5,none⟩=some x5/\w.cell? ⟨b,6,none⟩=some x6/\w.cell? ⟨b,7,none⟩=some x7/\w.cell? ⟨b,8,none⟩=some x8/\w.cell? ⟨b,9,none⟩=some x9:=⟨h.cell 0,h.cell 1,h.cell 2,h.cell 3,h.cell 4,h.cell 5,h.cell 6,h.cell 7,h.cell 8,h.cell 9⟩
theorem QZ (b e:Bool) (k:Nat) (s:BS) (mn mx:Int) (p:Option Addr) (n c:Nat):(Tryz.prog.info? 42).map (·.size)=some (mE b e k s mn mx (.slice p n c)).size:=by
 show _=some 10
 kernel_rfl
theorem acu (b e:Bool) (k:Nat) (s:BS) (mn mx:Int) (p:Option Addr) (n c:Nat):(mE b e k s mn mx (.slice p n c)).all (·.oneCell')=true:=by unfold mE;simp[Value.oneCell']
def pS:Array Value:= #[.bool false,.bool false,.int .u8 0,.int .u64 0,.int .u64 0,.int .u64 0,.int .u64 0,.int .i64 0,.int .i64 0,.slice none 0 0]
theorem tP (bg en b e:Bool) (k:Nat) (s:BS) (mn mx:Int) (p:Option Addr) (n c:Nat) (w:World): ag 17 #[.agg (mE bg en k s mn mx (.slice p n c)),.bool b,.bool e] w fun x w'=>x=.returned (.agg (mE b e k s mn mx (.slice p n c)))/\aa w w':=by
 unfold mE;go_enter Tryz.func17,Tryz.ntmps17;go_upto_region 1 with fail
 refine ax ?_;intro V hV;have B1:Hid (aq V w.heap.size #[.bool bg,.bool en,.int .u8 k,.int .u64 (wd s 0).toNat,.int .u64 (wd s 1).toNat,.int .u64 (wd s 2).toNat,.int .u64 (wd s 3).toNat,.int .i64 mn,.int .i64 mx,.slice p n c] 42):=by rw[hV];exact hid ((aq.new w _ _).alloc _)
 have R1:Hid (aq V (w.heap.size+1) pS 42):=by rw[hV];exact hid (aq.new (w.alloc _) _ _ |>.at (by simp))
 have X1:Hid (aa w V):=by rw[hV];exact hid (((Ext.refl w).alloc _).alloc _).below
 clear hV;have e0:V.cell? ⟨w.heap.size,0,none⟩=some (.bool bg):=B1.cell 0;have e1:V.cell? ⟨w.heap.size,1,none⟩=some (.bool en):=B1.cell 1;have f0:=B1.frozen 0;have f1:=B1.frozen 1;go_upto_region 2 with fail
 refine ax ?_;intro V2 hV;have B2:Hid (aq V2 w.heap.size #[.bool b,.bool e,.int .u8 k,.int .u64 (wd s 0).toNat,.int .u64 (wd s 1).toNat,.int .u64 (wd s 2).toNat,.int .u64 (wd s 3).toNat,.int .i64 mn,.int .i64 mx,.slice p n c] 42):=by rw[hV];exact hid ((B1.set 0 _).set 1 _)
 have R2:Hid (aq V2 (w.heap.size+1) pS 42):=by rw[hV];exact hid ((R1.other (by simp) _).other (by simp) _)
 have X2:Hid (aa w V2):=by rw[hV];exact hid ((X1.setCell (by simp) _).setCell (by simp) _)
 clear hV e0 e1 f0 f1 B1 R1 X1;go_wp2_with (first | (refine aJ rfl 42 (.tmp 3) rfl w.heap.size rfl #[.bool b,.bool e,.int .u8 k,.int .u64 (wd s 0).toNat,.int .u64 (wd s 1).toNat,.int .u64 (wd s 2).toNat,.int .u64 (wd s 3).toNat,.int .i64 mn,.int .i64 mx,.slice p n c] _ B2.range Tryz.underlying42 rfl (QZ _ _ _ _ _ _ _ _ _) ?_) | (refine wpList_store_row rfl 42 (.tmp 6) (.tmp 11) rfl (w.heap.size+1) #[.bool b,.bool e,.int .u8 k,.int .u64 (wd s 0).toNat,.int .u64 (wd s 1).toNat,.int .u64 (wd s 2).toNat,.int .u64 (wd s 3).toNat,.int .i64 mn,.int .i64 mx,.slice p n c] rfl rfl 42 pS R2 (QZ _ _ _ _ _ _ _ _ _) rfl (acu _ _ _ _ _ _ _ _ _) ?_;refine Hid.out ?_));refine hid ?_;obtain⟨V3,cD⟩:=ah (V2.setRow (w.heap.size+1) #[.bool b,.bool e,.int .u8 k,.int .u64 (wd s 0).toNat,.int .u64 (wd s 1).toNat,.int .u64 (wd s 2).toNat,.int .u64 (wd s 3).toNat,.int .i64 mn,.int .i64 mx,.slice p n c]);rw[<-cD];have R9:Hid (aq V3 (w.heap.size+1) #[.bool b,.bool e,.int .u8 k,.int .u64 (wd s 0).toNat,.int .u64 (wd s 1).toNat,.int .u64 (wd s 2).toNat,.int .u64 (wd s 3).toNat,.int .i64 mn,.int .i64 mx,.slice p n c] 42):=by rw[cD];exact hid R2.setRow
 have X9:aa w V3:=by rw[cD];exact X2.trans ((bn V2 (w.heap.size+1) _).mono fun x (hx:x<w.heap.size)=>by show x≠_;omega:ae (· <w.heap.size) V2 _).below
 clear cD;go_wp2;obtain⟨m0,m1,m2,m3,m4,m5,m6,m7,m8,m9⟩:=R9.Jz;exact bodyPost_ret (v:=.agg #[.bool b,.bool e,.int .u8 k,.int .u64 (wd s 0).toNat,.int .u64 (wd s 1).toNat,.int .u64 (wd s 2).toNat,.int .u64 (wd s 3).toNat,.int .i64 mn,.int .i64 mx,.slice p n c]) (by simp[results,Tryz.results17,go_sem,m0,m1,m2,m3,m4,m5,m6,m7,m8,m9]) rfl ⟨rfl,X9⟩
theorem Ih (v:Value) (t:RX) (w:World) (h:aH (· <w.heap.size) w v t): ag 18 #[v] w fun e w'=>∃ b,e=.returned (.agg #[.bool false,.bool false,.int .u8 5,.int .u64 0,.int .u64 0,.int .u64 0,.int .u64 0,.int .i64 0,.int .i64 (-1),.slice (some ⟨b,0,none⟩) 1 1])/\cF (· <w'.heap.size) w' (.agg #[.bool false,.bool false,.int .u8 5,.int .u64 0,.int .u64 0,.int .u64 0,.int .u64 0,.int .i64 0,.int .i64 (-1),.slice (some ⟨b,0,none⟩) 1 1]) ⟨false,false,Js t⟩/\aa w w':=by
 obtain⟨p,c,rfl⟩:=h.form;have H:=hid h;obtain⟨k,hk⟩:=ah t.kind;obtain⟨nl,gW⟩:=ah t.subs.length;obtain⟨st,hst⟩:=ah t.set;obtain⟨tn,jP⟩:=ah t.mn;obtain⟨tx,lO⟩:=ah t.mx;rw[<-hk, <-gW, <-hst, <-jP, <-lO]at H ⊢;clear h hk gW hst jP lO;unfold aj;go_enter Tryz.func18,Tryz.ntmps18;go_wp2;refine aT ?_;intro V hV;have B2:Hid (aq V (w.heap.size+1+1) (aj k st tn tx (.slice p nl c)) 40):=by rw[hV];exact hid ((aq.new _ _ _).at (by simp))
 have R1:Hid (aq V (w.heap.size+1) #[.bool false,.bool false,.int .u8 5,.int .u64 0,.int .u64 0,.int .u64 0,.int .u64 0,.int .i64 0,.int .i64 (-1),.slice (some ⟨w.heap.size+1+1,0,none⟩) 1 1] 42):=by rw[hV];exact hid (((aq.new _ _ _).at (by simp)).alloc _)
 have X1:Hid (aa w V):=by rw[hV];exact hid ((((Ext.refl w).alloc _).alloc _).alloc _).below
 clear hV;obtain⟨m0,m1,m2,m3,m4,m5,m6,m7,m8,m9⟩:=R1.Jz;refine bodyPost_ret (v:=.agg #[.bool false,.bool false,.int .u8 5,.int .u64 0,.int .u64 0,.int .u64 0,.int .u64 0,.int .i64 0,.int .i64 (-1),.slice (some ⟨w.heap.size+1+1,0,none⟩) 1 1]) (by simp[results,Tryz.results18,go_sem,m0,m1,m2,m3,m4,m5,m6,m7,m8,m9]) rfl ⟨_,rfl,?_,X1⟩;have e:=aH.one (fun x (hx:x<w.heap.size)=>hx) H X1 B2 (by omega) 5 0 0 (-1);refine⟨some ⟨w.heap.size+1+1,0,none⟩,1,?_,?_⟩
 ·show _=Value.agg (mE false false 5 0 0 (-1) (.slice (some ⟨w.heap.size+1+1,0,none⟩) 1 1))
  rw[xh];rfl
 ·exact e.mono fun x hx=>hx.1
theorem Q8 (a:NF):ib a [] 1=if a.acc (xw a true [])then [0]else []:=by have:=xg a [] 0;rw[show ib a [] 0=[] from rfl]at this;rw[this];rfl
theorem Mj (v:Value) (r:RL) (hbg:r.bg=false) (tf:r.tr.fine) (ts:r.tr.size<=120) (tp:r.tr.bZ<=400) (w:World) (h:cF (· <w.heap.size) w v r): ag 31 #[v,.string ⟨#[]⟩] w fun e w'=>e=.returned (.bool (r.tr.nf.acc (xw r.tr.nf true [])))/\aa w w':=by
 obtain⟨p,c,rfl,h⟩:=h;obtain⟨b,en,t⟩:=r;dsimp only at h tf ts tp hbg ⊢;subst hbg
 have hnt:Nt t.nf:=DY (by
  unfold RX.clean;rw[Bool.and_eq_true,List.all_eq_true]
  exact⟨decide_eq_true (by omega),tf⟩) tp
 have CN:Hid (∀ W,aa w W->ag 43 #[Value.agg (aj t.kind t.set t.mn t.mx (.slice p t.subs.length c))] W fun e w'=>∃ u,e=.returned (.tuple #[u,.int .i64 0])/\fM W.heap.size w' u t.nf/\aa W w'):=hid fun W hW=>zq _ t W ((h.eK hW).mono fun b hb=>aw hb hW.size) tf ts tp
 have CS:Hid (∀ W v bv,iZ W v t.nf->cR eN W bv []->ag 55 #[v,bv] W fun e w'=>∃ u,e=.returned (.tuple #[u,.int .i64 0])/\cR aV w' u (ib t.nf [] 1)/\aa W w'):=hid fun W v bv hv hb=>Bo v bv t.nf hnt hnt.smn [] (fun c hc=>by cases hc) (by decide) W hv hb
 obtain⟨ac,Yr⟩:=ah (t.nf.acc (xw t.nf true []));have CC:Hid (∀ W u,cR aV W u (ib t.nf [] 1)->ag 56 #[u,.int .i64 0] W fun e w'=>e=.returned (.bool ac)/\aa W w'):=hid fun W u hu=>by
  have h9:=xT u (ib t.nf [] 1) 0 W hu (by have:=zE t.nf [] 1;omega);have e9:(ib t.nf [] 1).contains 0=ac:=by rw[Q8, <-Yr];cases ac<;>rfl
  rw[e9]at h9;exact h9.mono fun e w' ⟨h1,h2⟩=>⟨h1,by rw[h2];exact Below.refl _ _⟩
 obtain⟨nf,ox⟩:=ah t.nf;obtain⟨k,hk⟩:=ah t.kind;obtain⟨nl,gW⟩:=ah t.subs.length;obtain⟨st,hst⟩:=ah t.set;obtain⟨tn,jP⟩:=ah t.mn;obtain⟨tx,lO⟩:=ah t.mx;rw[<-Yr];rw[<-hk, <-gW, <-hst, <-jP, <-lO, <-ox]at CN;rw[<-ox]at CS CC;rw[<-hk, <-gW, <-hst, <-jP, <-lO];clear h ox hk gW hst jP lO tf ts tp Yr hnt t;unfold aj at CN;unfold mE;go_enter Tryz.func31,Tryz.ntmps31;go_upto_region 1 with fail
 refine ax ?_;intro V hV;have B1:Hid (aq V w.heap.size #[.bool false,.bool en,.int .u8 k,.int .u64 (wd st 0).toNat,.int .u64 (wd st 1).toNat,.int .u64 (wd st 2).toNat,.int .u64 (wd st 3).toNat,.int .i64 tn,.int .i64 tx,.slice p nl c] 42):=by rw[hV];exact hid (aq.new w _ _)
 have HX:Hid (aa w V):=by rw[hV];exact hid ((Ext.refl w).alloc _).below
 clear hV;have e2:V.cell? ⟨w.heap.size,2,none⟩=some (.int .u8 k):=B1.cell 2;have e3:V.cell? ⟨w.heap.size,3,none⟩=some (.int .u64 (wd st 0).toNat):=B1.cell 3;have e4:V.cell? ⟨w.heap.size,4,none⟩=some (.int .u64 (wd st 1).toNat):=B1.cell 4;have e5:V.cell? ⟨w.heap.size,5,none⟩=some (.int .u64 (wd st 2).toNat):=B1.cell 5;have e6:V.cell? ⟨w.heap.size,6,none⟩=some (.int .u64 (wd st 3).toNat):=B1.cell 6;have e7:V.cell? ⟨w.heap.size,7,none⟩=some (.int .i64 tn):=B1.cell 7;have e8:V.cell? ⟨w.heap.size,8,none⟩=some (.int .i64 tx):=B1.cell 8;have e9:V.cell? ⟨w.heap.size,9,none⟩=some (.slice p nl c):=B1.cell 9;go_wp2_with fail
 refine(CN V HX).mono ?_;rintro e w1 ⟨u,rfl,ho,hx⟩;obtain⟨a0,n0,c0,a1,n1,c1,a2,n2,c2,a3,n3,c3,rfl⟩:=ho.form;have X1:=hid (HX.trans (hx.mono HX.size));have B1:=hid (B1.below hx B1.lt);have HO:=hid ho;clear ho hx CN e2 e3 e4 e5 e6 e7 e8 e9 HX;go_upto_region 2 with fail
 refine ax ?_;intro V2 hV;have BN:Hid (aq V2 w1.heap.size #[.slice a0 n0 c0,.slice a1 n1 c1,.slice a2 n2 c2,.slice a3 n3 c3,.bool nf.emp] 99):=hid (by rw[hV];exact aq.new w1 _ _);have XV:aa w1 V2:=by rw[hV];exact((Ext.refl w1).alloc _).below
 clear hV;have B1:=hid (B1.below XV B1.lt);have HO:=hid (HO.below XV);have X2:=hid (X1.trans (XV.mono X1.size));clear XV X1;have e0:V2.cell? ⟨w.heap.size,0,none⟩=some (.bool false):=B1.cell 0;obtain⟨f0,f1,f2,f3,f4⟩:=BN.five;have hcv:∀ W:World,(convert 9 55 (.string ⟨#[]⟩)).run Tryz.prog W=.ok (.slice (some ⟨W.heap.size,0,none⟩) 0 (grownCap W 0 0 5)) (Lib.bytesWorld W 5 ⟨#[]⟩):=fun W=>Lib.run_convert_string_bytes W 9 55 5 ⟨#[]⟩ Tryz.underlying9 Tryz.underlying55 Tryz.underlying5
 go_wp2_with fail
 refine aK ?_;intro V3 hV;have hx:aa V2 V3:=by rw[hV];exact oU V2 _ _
 have l8:cR eN V3 (.slice (some ⟨V2.heap.size,0,none⟩) 0 (grownCap V2 0 0 5)) []:=.inr ⟨V2.heap.size,0,_,rfl,by rw[hV,Lib.bytesWorld_size];omega,Nat.zero_le _,fun i x h=>by simp at h⟩;clear hV;have X3:=hid (X2.trans (hx.mono X2.size));refine(CS V3 _ _ (HO.below hx).nf l8).mono ?_;rintro e w4 ⟨u,rfl,hu,hx4⟩;have X4:=hid (X3.trans (hx4.mono X3.size));have CU:=hid (CC.out w4 u hu);obtain⟨ua,uc,rfl⟩:=hu.form;clear hx l8 hx4 hu CS CC X2 X3 e0 f0 f1 f2 f3 f4 hcv HO;obtain⟨m,hm⟩:=ah ((ib nf [] 1).length);rw[<-hm]at CU ⊢;clear hm;go_wp2_with fail
 refine CU.mono ?_;rintro e w5 ⟨rfl,hx⟩;have X5:=X4.trans (hx.mono X4.size);clear hx CU;go_wp2;exact bodyPost_ret (results_tmp rfl _ _ _) rfl ⟨rfl,X5⟩
theorem Q9:∀ args w,(callFunc 30 args).run Tryz.prog w=.ok (.enter 30 args) w:=enters_of Tryz.func30 (by kernel_rfl) rfl
def Fc (r:RL):Bool:= !r.en&&r.tr.nf.acc (xw r.tr.nf true [])
theorem Ml (v:Value) (r:RL) (hbg:r.bg=false) (tf:r.tr.fine) (ts:r.tr.size<=120) (tp:r.tr.bZ<=400) (w:World) (h:cF (· <w.heap.size) w v r): ag 30 #[v] w fun e w'=>e=.returned (.bool (Fc r))/\aa w w':=by
 have CS:Hid (∀ W,aa w W->ag 31 #[v,.string ⟨#[]⟩] W fun e w'=>e=.returned (.bool (r.tr.nf.acc (xw r.tr.nf true [])))/\aa W w'):=hid fun W hW=>Mj v r hbg tf ts tp W ((cF.keeps (ae.ai hW fun _ h=>h) (fun b (hb:b<w.heap.size)=>hb) h).mono fun b (hb:b<w.heap.size)=>(aw hb hW.size:b<W.heap.size))
 obtain⟨p,c,rfl,h⟩:=h;obtain⟨b,en,t⟩:=r;dsimp only at h tf ts tp hbg CS ⊢;subst hbg;obtain⟨ac,Yr⟩:=ah (t.nf.acc (xw t.nf true []));have HI:Hid (Fc ⟨false,en,t⟩=(!en&&ac)):=hid (by rw[Yr];rfl);rw[HI.out];obtain⟨k,hk⟩:=ah t.kind;obtain⟨nl,gW⟩:=ah t.subs.length;obtain⟨st,hst⟩:=ah t.set;obtain⟨tn,jP⟩:=ah t.mn;obtain⟨tx,lO⟩:=ah t.mx;rw[<-hk, <-gW, <-hst, <-jP, <-lO, <-Yr]at CS;rw[<-hk, <-gW, <-hst, <-jP, <-lO];clear h hk gW hst jP lO tf ts tp Yr HI t;unfold mE at CS ⊢;go_enter Tryz.func30,Tryz.ntmps30;go_upto_region 1 with fail
 refine ax ?_;intro V hV;have B1:Hid (aq V w.heap.size #[.bool false,.bool en,.int .u8 k,.int .u64 (wd st 0).toNat,.int .u64 (wd st 1).toNat,.int .u64 (wd st 2).toNat,.int .u64 (wd st 3).toNat,.int .i64 tn,.int .i64 tx,.slice p nl c] 42):=by rw[hV];exact hid (aq.new w _ _)
 have HX:Hid (aa w V):=by rw[hV];exact hid ((Ext.refl w).alloc _).below
 clear hV;have e0:V.cell? ⟨w.heap.size,0,none⟩=some (.bool false):=B1.cell 0;have e1:V.cell? ⟨w.heap.size,1,none⟩=some (.bool en):=B1.cell 1;have e2:V.cell? ⟨w.heap.size,2,none⟩=some (.int .u8 k):=B1.cell 2;have e3:V.cell? ⟨w.heap.size,3,none⟩=some (.int .u64 (wd st 0).toNat):=B1.cell 3;have e4:V.cell? ⟨w.heap.size,4,none⟩=some (.int .u64 (wd st 1).toNat):=B1.cell 4;have e5:V.cell? ⟨w.heap.size,5,none⟩=some (.int .u64 (wd st 2).toNat):=B1.cell 5;have e6:V.cell? ⟨w.heap.size,6,none⟩=some (.int .u64 (wd st 3).toNat):=B1.cell 6;have e7:V.cell? ⟨w.heap.size,7,none⟩=some (.int .i64 tn):=B1.cell 7;have e8:V.cell? ⟨w.heap.size,8,none⟩=some (.int .i64 tx):=B1.cell 8;have e9:V.cell? ⟨w.heap.size,9,none⟩=some (.slice p nl c):=B1.cell 9;cases en with
 | false=>
  go_wp2_with fail
  refine(CS V HX).mono ?_;rintro e w1 ⟨rfl,hx⟩;have X1:=HX.trans (hx.mono HX.size);clear hx CS e0 e1 e2 e3 e4 e5 e6 e7 e8 e9;go_wp2;exact bodyPost_ret (results_tmp rfl _ _ _) rfl ⟨rfl,X1⟩
 | true=>
  go_wp2;exact bodyPost_ret (results_tmp rfl _ _ _) rfl ⟨rfl,HX⟩
theorem Ra (p:Option Addr) (n cap:Nat) (l:List RL) (i:Nat) (hi:dW Fc l=(i:Int)) (w:World) (h:bN (· <w.heap.size) w (.slice p n cap) l) (hn:l.length<=64) (ok:∀ r∈l,r.Rt false) (hbg:∀ r∈l,r.bg=false): ag 13 #[.slice p n cap] w fun e w'=>e=.returned (.tuple #[.int .i64 i,.bool true,.int .i64 0])/\aa w w':=by
 have CR:Hid (∀ W,aa w W->ag 21 #[.slice p n cap] W fun e w'=>e=.returned (.int .i64 0)/\aa W w'):=hid fun W hW=>xe (h.up hW) hn ok
 have CI:Hid (∀ W,aa w W->ag 29 #[.slice p n cap,.func (.func 30) #[] #[]] W fun e w'=>e=.returned (.int .i64 i)/\aa W w'):=hid fun W hW=>by
  have:=nE 30 #[] Fc (.slice p n cap) l W W.heap.size (aD _) (h.up hW) (by omega) Q9 fun r hr u V hV hu=>by
   obtain⟨a,b,c,_⟩:=(ok r hr).good;exact Ml u r (hbg r hr) a b c V (hu.mono fun x hx=>aw hx hV.size)
  rw[hi]at this;exact this
 have hi0:¬ ((i:Int)<0):=by omega
 have X0:Hid (aa w w):=hid (Below.refl _ _);clear h hn ok hbg hi;go_enter Tryz.func13,Tryz.ntmps13;go_wp2_with fail
 refine(CR w X0).mono ?_;rintro e w1 ⟨rfl,hx⟩;have X1:=hid (X0.trans (hx.mono X0.size));clear hx CR X0;go_wp2_with fail
 refine(CI w1 X1).mono ?_;rintro e w2 ⟨rfl,hx⟩;have X2:=X1.trans (hx.mono X1.size);clear hx CI X1;go_wp2;exact bodyPost_ret (v:=.tuple #[.int .i64 i,.bool true,.int .i64 0]) (by simp[results,Tryz.results13,go_sem]) rfl ⟨rfl,X2⟩
def rp (l:List Nat):ByteArray:=⟨(l.map UInt8.ofNat).toArray⟩
def iM:RL:=⟨false,false,jd [97]⟩
def cA:RL:=⟨false,false,jd [98]⟩
def mC:RL:=⟨false,false,jd [120]⟩
def iO:RL:=⟨false,false,jd [97,98]⟩
def dF:RL:=⟨false,false,Bk [97,98]⟩
def rq:RL:=⟨true,false,jd [98]⟩
def ic:RL:=⟨false,true,jd [98]⟩
def jY:RL:=⟨false,false,Js (jd [97])⟩
def oV:List (List RL×Bool×ByteArray):=[([dF,cA],false,rp [98]),([cA,dF],true,rp []),([iO,iM],true,rp []),([iO,iM,cA],true,rp []),([iM,cA,iO],true,rp []),([rq,cA],false,rp [0,98]),([ic,cA],false,rp [98]),([cA,ic],true,rp []),([jY,mC],true,rp [])]
theorem Rb {t:RX} (h:(t.pre.all fun x=>x.cX)=true):t.fine:=fun x hx=>List.all_eq_true.1 h x hx
theorem tQ (r:RL) (h1:(r.tr.pre.all fun x=>x.cX)=true) (h2:r.tr.size<=120) (h3:r.tr.bZ<=400) (h4:r.tr.gg<=9):r.Rt false:=.inl ⟨rfl,Rb h1,h2,h3,h4⟩
theorem rtA:iM.Rt false:=tQ _ (by kernel_rfl) (by decide) (by decide) (by decide)
theorem Vl:cA.Rt false:=tQ _ (by kernel_rfl) (by decide) (by decide) (by decide)
theorem rtX:mC.Rt false:=tQ _ (by kernel_rfl) (by decide) (by decide) (by decide)
theorem rtN:iO.Rt false:=tQ _ (by kernel_rfl) (by decide) (by decide) (by decide)
theorem Ys:dF.Rt false:=tQ _ (by kernel_rfl) (by decide) (by decide) (by decide)
theorem ahw:rq.Rt false:=tQ _ (by kernel_rfl) (by decide) (by decide) (by decide)
theorem acv:ic.Rt false:=tQ _ (by kernel_rfl) (by decide) (by decide) (by decide)
theorem rtS:jY.Rt false:=tQ _ (by kernel_rfl) (by decide) (by decide) (by decide)
structure ahx (x:List RL×Bool×ByteArray):Prop where
 pos:1<=x.1.length
 len:x.1.length<=64
 rt:∀ r∈x.1,r.Rt false
 ans:∃ rj,x.1[x.1.length-1]? =some rj/\uk (cP x.1 rj (x.1.length-1) 9)=.agg #[.bool true,.bool x.2.1,.string x.2.2]
theorem Br {a b:RL} (ha:a.Rt false) (hb:b.Rt false):∀ r∈ [a,b],r.Rt false:=fun r hr=>by
 simp only[List.mem_cons,List.not_mem_nil,or_false]at hr;rcases hr with rfl | rfl<;>assumption
theorem acw {a b c:RL} (ha:a.Rt false) (hb:b.Rt false) (hc:c.Rt false):∀ r∈ [a,b,c],r.Rt false:=fun r hr=>by
 simp only[List.mem_cons,List.not_mem_nil,or_false]at hr;rcases hr with rfl | rfl | rfl<;>assumption
theorem Yt:∀ x∈oV,ahx x:=fun x hx=>by
 unfold oV at hx;simp only[List.mem_cons,List.not_mem_nil,or_false]at hx;rcases hx with rfl | rfl | rfl | rfl | rfl | rfl | rfl | rfl | rfl
 ·exact⟨by decide,by decide,Br Ys Vl,cA,rfl,by rw[show cP [dF,cA] cA ([dF,cA].length-1) 9=some (some [98]) from ahd];rfl⟩
 ·exact⟨by decide,by decide,Br Vl Ys,dF,rfl,by rw[show cP [cA,dF] dF ([cA,dF].length-1) 9=some none from acr];rfl⟩
 ·exact⟨by decide,by decide,Br rtN rtA,iM,rfl,by rw[show cP [iO,iM] iM ([iO,iM].length-1) 9=some none from ahe];rfl⟩
 ·exact⟨by decide,by decide,acw rtN rtA Vl,cA,rfl,by rw[show cP [iO,iM,cA] cA ([iO,iM,cA].length-1) 9=some none from ahf];rfl⟩
 ·exact⟨by decide,by decide,acw rtA Vl rtN,iO,rfl,by rw[show cP [iM,cA,iO] iO ([iM,cA,iO].length-1) 9=some none from ahg];rfl⟩
 ·exact⟨by decide,by decide,Br ahw Vl,cA,rfl,by rw[show cP [rq,cA] cA ([rq,cA].length-1) 9=some (some [0,98]) from ahh];rfl⟩
 ·exact⟨by decide,by decide,Br acv Vl,cA,rfl,by rw[show cP [ic,cA] cA ([ic,cA].length-1) 9=some (some [98]) from ahi];rfl⟩
 ·exact⟨by decide,by decide,Br Vl acv,ic,rfl,by rw[show cP [cA,ic] ic ([cA,ic].length-1) 9=some none from ahj];rfl⟩
 ·exact⟨by decide,by decide,Br rtS rtX,mC,rfl,by rw[show cP [jY,mC] mC ([jY,mC].length-1) 9=some none from ahk];rfl⟩
theorem Ui:dW Fc [mC,jY]=((1:Nat):Int):=by kernel_rfl
theorem Fe:cV [cA,dF] dF 1=4/\(cP [cA,dF] dF 1 4000).isSome=true:=by have h1:cV [cA,dF] dF 1=4:=QY;have h2:=(qY (x:=Bl) (y:=Jt) (op:=3) (f:=9) (a:=none) acr).2.2 4000 (by decide) (by decide);rw[if_pos (by rw[show fZ Bl Jt 3=4 from QY];decide)]at h2;exact⟨h1,by rw[show cP [cA,dF] dF 1 4000=some none from h2];rfl⟩
theorem Tryz.Yu:(Tryz.prog.info? 58).map (fun i=>(i.zero,i.size,i.bytes))=some (some (.agg #[.slice none 0 0,.bool false,.string ⟨#[]⟩]),3,48):=by kernel_rfl
def zF (w:World) (b:Nat) (xs:List (List RL×Bool×ByteArray)):Prop:=b<w.heap.size/\∀ (i:Nat) (x:List RL×Bool×ByteArray),xs[i]? =some x->∃ u,bN (· <w.heap.size) w u x.1/\w.cell? ⟨b,i*3,none⟩=some u/\w.cell? ⟨b,i*3+1,none⟩=some (.bool x.2.1)/\w.cell? ⟨b,i*3+2,none⟩=some (.string x.2.2)
theorem zF.below {w w':World} {b:Nat} {xs:List (List RL×Bool×ByteArray)} (h:zF w b xs) (hk:aa w w'):zF w' b xs:=by
 have hcell:∀ j,w'.cell? ⟨b,j,none⟩=w.cell? ⟨b,j,none⟩:=fun j=>(ae.ai hk fun _ h=>h:ae (· <w.heap.size) w w').cell (p:=⟨b,j,none⟩) h.1
 refine⟨aw h.1 hk.size,fun i x hi=>?_⟩;obtain⟨u,h1,h2,h3,h4⟩:=h.2 i x hi;rw[hcell,hcell,hcell];exact⟨u,h1.up hk,h2,h3,h4⟩
def aR.acx (xs:List (List RL×Bool×ByteArray)):aR (Move false (fun _=>False)) where
 P:=fun v=>∃ b,v=.slice (some ⟨b,0,none⟩) xs.length xs.length
 H:=fun v W=>∀ b,v=.slice (some ⟨b,0,none⟩) xs.length xs.length->zF W b xs
 mo:=.slice (some ⟨0,0,none⟩) xs.length xs.length
 pw:=⟨0,rfl⟩
 st:=fun _ _ _ hm _ h b e=>(h b e).below hm.below
section
variable {P:Program} {Cl:FuncId→Array Value→World→(Ending→World→Prop)→Prop} {Rd:Nat→FuncId→Array Value→Code→Code→World→(Ending→World→Prop)→Prop} {o:Oper} {a:Act} {W:World} {post:Value→World→Prop}
theorem Uj (n:Nat) (parts:Array (Nat×Operand)) (ho:o.op=.buildSlice 61 n parts) (cs:List (Array Value)) (xs:List (List RL×Bool×ByteArray)) (hn:xs.length=n) (hv:parts.toList.map (fun p=>(p.1,a.eval p.2))=(cs.zipIdx 0).map fun x=>(x.2,Value.agg x.1)) (hl:cs.length=n) (h0:0<n) (h9:n<=100000) (hx:∀ (i:Nat) (c:Array Value) (x:List RL×Bool×ByteArray),cs[i]? =some c->xs[i]? =some x->∃ u,c= #[u,.bool x.2.1,.string x.2.2]/\bN (· <W.heap.size) W u x.1) (h:∀ W',aa W W'->zF W' W.heap.size xs->post (.slice (some ⟨W.heap.size,0,none⟩) n n) W'):jo Cl Rd post ((execOp a.eval o).run Tryz.prog W):=by
 obtain⟨i,hi,hz,hs,hb⟩:=info_parts Tryz.Yu;have hz3:∀ c∈cs,c.size=3:=fun c hc=>by
  obtain⟨k,hk⟩:=List.mem_iff_getElem?.1 hc;have Ct:=(List.getElem?_eq_some_iff.1 hk).1;obtain⟨u,e,_⟩:=hx k c _ hk (aC (by omega));rw[e];rfl
 obtain⟨C,e1,_,e3⟩:=H8 (m:=3) (by decide) cs 0 ((Array.range (n*3)).map ((Value.agg #[.slice none 0 0,.bool false,.string ⟨#[]⟩]).cells[· % (Value.agg #[.slice none 0 0,.bool false,.string ⟨#[]⟩]).cells.size]!)) hz3 (by simp[hl]);have MG:aa W (W.alloc (.cells C 58 (0,0))):=((Ext.refl W).alloc _).below;have hr:=run_buildSlice (P:=Tryz.prog) W 61 58 n _ C i _ Tryz.underlying61 hi hz (by rw[hs];omega) (by rw[hs];omega) (by rw[hs];exact e1);unfold execOp;simp only[ho,Sem.run_bind,parts_eval hv,hr,Result.andThen_ok];refine h _ MG ⟨by simp,fun i x Zh=>?_⟩;have iR:=(List.getElem?_eq_some_iff.1 Zh).1;obtain⟨c,hc⟩:∃ c,cs[i]? =some c:=⟨_,aC (by omega)⟩;obtain⟨u,e,hu⟩:=hx i c x hc Zh;have hB:aq (W.alloc (.cells C 58 (0,0))) W.heap.size C 58:=aq.new W _ _;have h3:=e3 i c hc;rw[Nat.zero_add,e]at h3;exact⟨u,hu.up MG,(hB.cell _).trans (h3 0 (by decide)),(hB.cell _).trans (h3 1 (by decide)),(hB.cell _).trans (h3 2 (by decide))⟩
end
theorem rr {F:Nat->Prop} {w:World} {c1 c2:Array Value} {r1 r2:RL} (h1:cF F w (.agg c1) r1) (h2:cF F w (.agg c2) r2):∀ (i:Nat) (c:Array Value) (r:RL),[c1,c2][i]? =some c->[r1,r2][i]? =some r->cF F w (.agg c) r
 | 0,_,_,ha,hb=>by cases ha;cases hb;exact h1
 | 1,_,_,ha,hb=>by cases ha;cases hb;exact h2
 | _+2,_,_,ha,_=>by simp at ha
theorem Vm {F:Nat->Prop} {w:World} {c1 c2 c3:Array Value} {r1 r2 r3:RL} (h1:cF F w (.agg c1) r1) (h2:cF F w (.agg c2) r2) (h3:cF F w (.agg c3) r3):∀ (i:Nat) (c:Array Value) (r:RL),[c1,c2,c3][i]? =some c->[r1,r2,r3][i]? =some r->cF F w (.agg c) r
 | 0,_,_,ha,hb=>by cases ha;cases hb;exact h1
 | 1,_,_,ha,hb=>by cases ha;cases hb;exact h2
 | 2,_,_,ha,hb=>by cases ha;cases hb;exact h3
 | _+3,_,_,ha,_=>by simp at ha
theorem Uk {W:World} {u0 u1 u2 u3 u4 u5 u6 u7 u8:Value} (h0:bN (· <W.heap.size) W u0 [dF,cA]) (h1:bN (· <W.heap.size) W u1 [cA,dF]) (h2:bN (· <W.heap.size) W u2 [iO,iM]) (h3:bN (· <W.heap.size) W u3 [iO,iM,cA]) (h4:bN (· <W.heap.size) W u4 [iM,cA,iO]) (h5:bN (· <W.heap.size) W u5 [rq,cA]) (h6:bN (· <W.heap.size) W u6 [ic,cA]) (h7:bN (· <W.heap.size) W u7 [cA,ic]) (h8:bN (· <W.heap.size) W u8 [jY,mC]): ∀ (i:Nat) (c:Array Value) (x:List RL×Bool×ByteArray),[#[u0,.bool false,.string ⟨#[98]⟩], #[u1,.bool true,.string ⟨#[]⟩], #[u2,.bool true,.string ⟨#[]⟩], #[u3,.bool true,.string ⟨#[]⟩], #[u4,.bool true,.string ⟨#[]⟩], #[u5,.bool false,.string ⟨#[0,98]⟩], #[u6,.bool false,.string ⟨#[98]⟩], #[u7,.bool true,.string ⟨#[]⟩], #[u8,.bool true,.string ⟨#[]⟩]][i]? =some c->oV[i]? =some x->∃ u,c= #[u,.bool x.2.1,.string x.2.2]/\bN (· <W.heap.size) W u x.1
 | 0,_,_,ha,hb=>by cases ha;cases hb;exact⟨_,rfl,h0⟩
 | 1,_,_,ha,hb=>by cases ha;cases hb;exact⟨_,rfl,h1⟩
 | 2,_,_,ha,hb=>by cases ha;cases hb;exact⟨_,rfl,h2⟩
 | 3,_,_,ha,hb=>by cases ha;cases hb;exact⟨_,rfl,h3⟩
 | 4,_,_,ha,hb=>by cases ha;cases hb;exact⟨_,rfl,h4⟩
 | 5,_,_,ha,hb=>by cases ha;cases hb;exact⟨_,rfl,h5⟩
 | 6,_,_,ha,hb=>by cases ha;cases hb;exact⟨_,rfl,h6⟩
 | 7,_,_,ha,hb=>by cases ha;cases hb;exact⟨_,rfl,h7⟩
 | 8,_,_,ha,hb=>by cases ha;cases hb;exact⟨_,rfl,h8⟩
 | _+9,_,_,ha,_=>by simp at ha
def Bt (c:Nat):List Value:=(aj 2 (aU [c]) 0 0 (.slice none 0 0)).toList
def iU (l:List Nat):List Value:=l.flatMap Bt
theorem xi (c:Nat):(Bt c).length=8:=rfl
theorem Ii (l:List Nat) (c:Nat):iU (l++ [c])=iU l++Bt c:=by unfold iU;rw[List.flatMap_append,List.flatMap_cons,List.flatMap_nil,List.append_nil]
theorem sI:∀ {l:List Nat} {i c:Nat},l[i]? =some c->∀ (j:Nat) (u:Value),(aj 2 (aU [c]) 0 0 (.slice none 0 0))[j]? =some u->(iU l)[i*8+j]? =some u
 | [],i,c,h,_,_,_=>by simp at h
 | d::l,0,c,h,j,u,hj=>by
  cases h
  have hj8:j<8:=(Array.getElem?_eq_some_iff.1 hj).1;have e:iU (d::l)=Bt d++iU l:=by unfold iU;rw[List.flatMap_cons]
  rw[e,bJ (by rw[xi];omega),Nat.zero_mul,Nat.zero_add];simpa[Bt]using hj
 | d::l,i+1,c,h,j,u,hj=>by
  have e:iU (d::l)=Bt d++iU l:=by unfold iU;rw[List.flatMap_cons]
  rw[e,cZ (by rw[xi];omega),xi,show(i+1)*8+j-8=i*8+j by omega];exact sI (by simpa using h) j u hj
theorem acy {w:World} {base n:Nat} {a:Option Addr} {c:Nat} {l:List Nat} (hn:n=l.length) (h:w.ownsRow base 40 8 (.slice a n c) n (iU l)):aH (· <w.heap.size) w (.agg (aj 3 0 0 0 (.slice a n c))) (Bk l):=by
 have hlt:=h.lt;rcases h.2 with⟨e1,e2⟩ | ⟨g,cap,cur,hv,e2,e3,e4,e5,_⟩
 ·cases e1
  have hl:l=[]:=List.eq_nil_of_length_eq_zero (by omega);subst hl;exact aH.leaf _ _ _ _ _ _ _ _
 ·cases hv
  have hg:=(hlt g rfl).2;refine .mk 3 0 0 0 (l.map fun c=>jd [c]) _ g 0 c (fun i=>.agg (aj 2 (aU [l.getD i 0]) 0 0 (.slice none 0 0))) (fun e=>?_) (fun _=>⟨by rw[bp,hn],hg,hg,by rw[bp, <-hn];exact e4⟩) (fun i t hi=>⟨_,rfl,fun j u hj=>?_⟩) (fun i t hi=>?_)
  ·have hl:l=[]:=List.map_eq_nil_iff.1 e
   subst hl;subst hn;exact⟨_,_,rfl⟩
  ·rw[bH]at hi
   cases hl:l[i]? with
   | none=>rw[hl]at hi;cases hi
   | some d=>
    have ed:l.getD i 0=d:=by rw[cq,hl];rfl
    rw[ed]at hj;have:=h.cells (g:=g) rfl _ _ (sI hl j u hj);rw[Addr.add_mid]at this;rw[show 0+i*8+j=i*8+j by omega];simpa using this
  ·rw[bH]at hi
   cases hl:l[i]? with
   | none=>rw[hl]at hi;cases hi
   | some d=>
    rw[hl]at hi;cases hi;have ed:l.getD i 0=d:=by rw[cq,hl];rfl
    show aH _ _ (.agg (aj 2 (aU [l.getD i 0]) 0 0 (.slice none 0 0))) _;rw[ed];exact aH.leaf _ _ _ _ _ _ _ _
theorem zG (s:ByteArray) (l:List Nat) (l8:s.data.toList.map (·.toNat)=l) (mq:∀ c∈l,c<128) (h1:1<=l.length) (hn:l.length<=1000) (w:World): ag 11 #[.string s] w fun e w'=>((l.length=1/\∃ c,l=[c]/\e=.returned (.agg (mE false false 2 (aU [c]) 0 0 (.slice none 0 0))))\/(l.length≠1/\∃ g cap,e=.returned (.agg (mE false false 3 0 0 0 (.slice (some ⟨g,0,none⟩) l.length cap)))/\cF (· <w'.heap.size) w' (.agg (mE false false 3 0 0 0 (.slice (some ⟨g,0,none⟩) l.length cap))) ⟨false,false,Bk l⟩))/\aa w w':=by
 obtain⟨iN,sA,iw,iy,iE⟩:=info_parts Tryz.P9;obtain⟨n,ot⟩:=ah l.length;have hsz:s.size=n:=by rw[ot, <-l8];simp
 rw[<-ot]at h1 hn ⊢;have HBY:Hid (∀ (k:Nat) (hk:k<s.size),∃ c,l[k]? =some c/\(s[k]'hk).toNat=c/\c<128):=hid fun k hk=>by
  have pT:k<s.data.toList.length:=by simpa using hk
  have e:l[k]? =some (s.data.toList[k]).toNat:=by rw[<-l8,bH,aC pT];rfl
  exact⟨_,e,by rw[Array.getElem_toList];rfl,mq _ (aA e)⟩
 have CO:Hid (∀ (k c:Nat),k<s.size->l[k]? =some c->∀ W,ag 16 #[.string (s.extract k (k+1))] W fun e w'=>e=.returned (.agg (aj 2 (aU [c]) 0 0 (.slice none 0 0)))/\aa W w'):=hid fun k c hk hc W=>by
  refine tO (s.extract k (k+1)) [c] ?_ (by simp) W;have pT:k<s.data.size:=hk;rw[<-l8,bH,Array.getElem?_toList,Array.getElem?_eq_getElem pT]at hc;have hc':(s.data[k]).toNat=c:=by simpa using hc
  apply List.ext_getElem?;intro j;have e2:(s.extract k (k+1)).data=s.data.extract k (k+1):=ByteArray.data_extract;rw[e2,bH,Array.getElem?_toList,Array.getElem?_extract];have:min (k+1) s.data.size=k+1:=by omega
  rw[this];cases j with
  | zero=>rw[if_pos (by omega),Nat.add_zero,Array.getElem?_eq_getElem pT];simp[hc']
  | succ j=>rw[if_neg (by omega)];rfl
 have nY:=hid ot;clear l8 mq ot;have hsz':((s.size:Nat):Int)=n:=by omega
 go_enter Tryz.func11,Tryz.ntmps11
 go_wp2;refine ax ?_;intro V hV;have R0:Hid (aq V w.heap.size pS 42):=hid (by rw[hV];exact((aq.new w _ _).alloc _).alloc _);have B3:Hid (aq V (w.heap.size+1) (aj 3 0 0 0 (.slice none 0 0)) 40):=hid (by rw[hV,eG];exact((aq.new (w.alloc _) _ _).at (by simp)).alloc _);have IT:Hid (V.heap[w.heap.size+2]? =some (.stringIter s 0)):=hid (by rw[hV];exact Bp (by simp));have XV:Hid (aa w V):=hid (by rw[hV];exact((((Ext.refl w).alloc _).alloc _).alloc _).below);have agT:V.heap.size=w.heap.size+3:=by rw[hV];simp[World.iter]
 clear hV;go_loopw [4] (fun _ wr=>∃ (k:Nat) (v:Value),k<=n/\wr.heap[w.heap.size+2]? =some (.stringIter s k)/\aq wr (w.heap.size+1) #[.int .u8 3,.int .u64 0,.int .u64 0,.int .u64 0,.int .u64 0,.int .i64 0,.int .i64 0,v] 40/\wr.ownsRow (w.heap.size+3) 40 8 v k (iU (l.take k))/\aq wr w.heap.size pS 42/\aa w wr/\w.heap.size+3<=wr.heap.size) (fun _ wr=>n-wr.iterPos (w.heap.size+2));case atStart=>exact⟨0,_,Nat.zero_le _,IT,by have:=B3.out;rw[eG]at this;exact this,World.ownsRow_nil _ _ _ _,R0,XV,by omega⟩
 case round=>
  obtain⟨k,v,hk,hit,hb,h0,hr,hx,Pe⟩:=hrel;obtain⟨wo,rfl⟩:=ah (wr:World);have Wv:wo.iterPos (w.heap.size+2)=k:=iterPos_of hit;by_cases hlt:k<n
  ·have JI:k<s.size:=by omega
   obtain⟨c,hlc,hc,hc1⟩:=HBY.out k JI;have Ag:∀ ty,(Instr.next (.pointer (some ⟨w.heap.size+2,0,none⟩)) true ty).run Tryz.prog wo=_:=fun ty=>Lib.run_next_ascii_at wo (w.heap.size+2) s k ty hit JI (by omega)
   have CC:=hid (CO.out k c JI hlc);have GN:IntKind.i64.wrap ((k:Int)+1)=(k:Int)+1:=IntWalk.i64_in _ (by omega);have eT:(k:Int)<n:=by omega
   have aoq:(k:Int)+1<=n:=by omega
   have aor:(k:Int)<=(k:Int)+1:=by omega
   have aos:(0:Int)<=k:=by omega
   have jg:Hid (iU (l.take (k+1))=iU (l.take k)++Bt c):=hid (by rw[List.take_add_one,hlc];exact Ii _ _);obtain⟨na,nc,rfl⟩:=ownsRow_form h0;have H0:=hid h0;have HB:=hid hb;have HR:=hid hr;have HX:=hid hx;clear hlc hc h0 hb hr hx;go_wp2;clear Ag;refine ax ?_;intro w1 hV1;have hkI:ae (· ≠w.heap.size+2) wo w1:=by rw[hV1];exact Bq _ _ _ _
   have hs1:w1.heap.size=wo.heap.size:=by rw[hV1];exact Lib.iterAt_size _ _ _ _
   have HIT:Hid (w1.heap[w.heap.size+2]? =some (.stringIter s (k+1))):=hid (by rw[hV1];exact Lib.iterAt_heap _ _ _ _ _ hit);have HB:=hid (HB.keeps hkI (by omega));have HR:=hid (HR.keeps hkI (by omega));have H0:=hid (au H0 hkI fun x e=>by have:=(H0.lt x e).1;show x≠_;omega);have HX:=hid (HX.trans (hkI.mono fun x (hx:x<w.heap.size)=>by show x≠_;omega:ae (· <w.heap.size) wo w1).below);have Lr:w.heap.size+3<=w1.heap.size:=by omega
   clear hV1 hkI hit hs1;have cb:w1.cell? ⟨w.heap.size+1,7,none⟩=some (.slice na k nc):=HB.cell 7;refine aM false (fun _=>False) (by kernel_rfl) 9 [0,1,0,0,0,16,60,124,252,511,1023,2047] (fun i=>i==7 || i==8) (by kernel_rfl) (fun i=>if i=7 then aR.oB _ (.agg (aj 2 (aU [c]) 0 0 (.slice none 0 0)))else if i=8 then aR.box 1 (aj 2 (aU [c]) 0 0 (.slice none 0 0)) 40 else aR.any _) ?_;intro C hC hne;have HC:=hid hC;have o1:=aF hC (p:=⟨w.heap.size+1,7,none⟩) HB.lt (fun h=>h) cb;clear hC cb
   repeat (refine ak (fun K hK=>?_);first | (refine cQ rfl ?_;try go_simp;refine hK _ _ ?_;clear hK K) | (refine bV rfl rfl ?_;unfold aB;go_simp;refine hK _ _ ?_;clear hK K))
   refine ak (fun K hK=>?_);refine bS rfl rfl (aR.oB _ (.agg (aj 2 (aU [c]) 0 0 (.slice none 0 0)))) rfl (fun W hW hN=>?_) (fun v hv=>?_)
   ·have hM:=(HC.out W).1 hW
    clear hW;go_simp;refine bu ((CC W).mono ?_);rintro e w2 ⟨rfl,hx⟩;exact⟨_,rfl,Move.ai hx,rfl,trivial⟩
   replace hv:v=_:=hv;subst hv;go_simp;refine hK _ _ ?_;clear hK K
   repeat (refine ak (fun K hK=>?_);first | (refine cQ rfl ?_;try go_simp;refine hK _ _ ?_;clear hK K) | (refine bV rfl rfl ?_;unfold aB;go_simp;refine hK _ _ ?_;clear hK K))
   refine ak (fun K hK=>?_);refine bS rfl rfl (aR.box 1 (aj 2 (aU [c]) 0 0 (.slice none 0 0)) 40) rfl (fun W hW hN=>?_) (fun v hv=>?_)
   ·clear hW hK K hN
    exact sY 38 40 _ rfl Tryz.underlying38 sA iw iy (by decide) (by decide) (aj 2 (aU [c]) 0 0 (.slice none 0 0)) rfl rfl ⟨Move.ai ((Ext.refl _).alloc _).below,⟨_,rfl⟩,fun b hb=>by cases hb;exact aq.new _ _ _⟩
   obtain⟨bl,rfl⟩:=hv;go_simp;refine hK _ _ ?_;clear hK K;refine cg (fun W4 hW hH=>?_);have hM:=(HC.out W4).1 hW;have E4:Hid (aa w1 W4):=hid hM.below;have B4:Hid (aq W4 bl (aj 2 (aU [c]) 0 0 (.slice none 0 0)) 40):=hid (hH _ (aA (show _=some _ from rfl:_[0]? =some _)) bl rfl);clear hM hW hH HC o1;have HB:=hid (HB.below E4 HB.lt);have HR:=hid (HR.below E4 HR.lt);have H0:=hid (ay H0 E4);have HX:=hid (HX.trans (E4.mono HX.size));have HIT:Hid (W4.heap[w.heap.size+2]? =some (.stringIter s (k+1))):=hid ((E4.block _ (by omega)).trans HIT);have ahy:w.heap.size+3<=W4.heap.size:=Nat.le_trans Lr E4.size;clear E4
   go_wp2_with (at_builtin;refine wpList_append_own_at _ rfl (.tmp 12) (.tmp 19) 38 rfl (w.heap.size+3) 40 iN (.agg eL) 8 80 Tryz.underlying38 sA iw iy iE rfl (by decide) _ _ _ rfl H0 ⟨bl,0,none⟩ 1 1 (Bt c) rfl rfl (bQ B4) (by
    intro u hu;unfold Bt aj at hu;simp only[List.mem_cons,List.not_mem_nil,or_false]at hu
    rcases hu with rfl | rfl | rfl | rfl | rfl | rfl | rfl | rfl<;>rfl) (by unfold maxLen;omega) (by omega) ahy ?_;intro v' w5 hown' hgrow hh hat;obtain⟨T4,T5,rfl⟩:=ownsRow_form hown';have hne:∀ x,x<w.heap.size+3->some x≠(Value.slice na k nc).ownBlock:=(fun x hx e=>by have:=(H0.lt x e.symm).1;omega);have HB5:=hid (HB.grown hgrow (hne _ (by omega)));have HR5:=hid (HR.grown hgrow (hne _ (by omega)));have TR:=hid hown';have Ry:=hid hgrow;have cb:=HB5.cell 7;have fb:=HB5.frozen 7;clear hown' hgrow hh hat hne)
   go_roundw
   case rel=>
    have kg:ae (· ≠w.heap.size+1) w5 (w5.setCell ⟨w.heap.size+1,7,none⟩ (.slice T4 (k+1) T5)):=(ae.refl _ _).setCell (p:=⟨w.heap.size+1,7,none⟩) (fun h=>h rfl) _;refine⟨k+1,_,by omega,?_,HB5.set 7 _,?_,HR5.keeps kg (by omega),?_,?_⟩
    ·refine(kg.keep _ (by show w.heap.size+2≠_;omega)).trans ((Ry.block _ (by omega) (fun e=>?_)).trans HIT)
     have:=(H0.lt _ e.symm).1;omega
    ·rw[jg.out]
     exact au TR kg fun x e=>by have:=(TR.lt x e).1;show x≠_;omega
    ·exact(HX.trans ((Below.refl _ _).grown Ry HX.size (fun c e=>by have:=(H0.lt c e).1;omega))).trans (kg.mono fun x (hx:x<w.heap.size)=>by show x≠_;omega:ae (· <w.heap.size) w5 _).below
    ·have:=Ry.size;simp;omega
   case measure=>
    have kg:ae (· ≠w.heap.size+1) w5 (w5.setCell ⟨w.heap.size+1,7,none⟩ (.slice T4 (k+1) T5)):=(ae.refl _ _).setCell (p:=⟨w.heap.size+1,7,none⟩) (fun h=>h rfl) _;rw[Wv,iterPos_of ((kg.keep _ (by show w.heap.size+2≠_;omega)).trans ((Ry.block _ (by omega) (fun e=>by have:=(H0.lt _ e.symm).1;omega)).trans HIT.out))];omega
  ·obtain rfl:k=n:=by omega
   have JI:¬k<s.size:=by omega
   have Ag:∀ ty,(Instr.next (.pointer (some ⟨w.heap.size+2,0,none⟩)) true ty).run Tryz.prog wo=_:=fun ty=>Lib.run_next_end_at wo (w.heap.size+2) s k ty hit JI
   obtain⟨na,nc,rfl⟩:=ownsRow_form h0;have HTL:Hid (iU (l.take k)=iU l):=hid (by rw[nY.out,List.take_length]);have H0:=hid h0;have HB:=hid hb;have HR:=hid hr;have HX:=hid hx;clear h0 hb hr hx;by_cases h1n:k=1
   ·have tq:((k:Int)==1)=true:=by simp[h1n]
    obtain⟨c,oG⟩:∃ c,l=[c]:=by
     have hll:l.length=1:=by have:=nY.out;omega
     match l,hll with
     | [c],_=>exact⟨c,rfl⟩
    obtain⟨g,cap,hv,Fs,hcs⟩:=sf H0 (by omega);cases hv;have BH:(0:Int)<k:=by omega
    have sP:0<k:=by omega
    obtain⟨S,hS⟩:=ah (aU [c]);have HRG:Hid (wo.rangeAt g 0 (aj 2 S 0 0 (.slice none 0 0)).toList):=hid fun j u hj=>by
     rw[Nat.zero_add];refine hcs j u ?_;rw[HTL.out,oG];have:=sI (l:=[c]) (i:=0) rfl j u (by rw[<-hS, <-Array.getElem?_toList];exact hj);rwa[Nat.zero_mul,Nat.zero_add]at this
    have HCL:=hid oG;have HS:=hid hS;have b7:wo.cell? ⟨w.heap.size+1,7,none⟩=some (.slice (some ⟨g,0,none⟩) k nc):=HB.cell 7;have H1N:=hid h1n;clear hcs hS oG h1n;go_upto_region 7 with fail
    go_wp2_with (first | (refine aJ rfl 40 (.tmp 27) rfl g rfl #[.int .u8 2,.int .u64 (wd S 0).toNat,.int .u64 (wd S 1).toNat,.int .u64 (wd S 2).toNat,.int .u64 (wd S 3).toNat,.int .i64 0,.int .i64 0,.slice none 0 0] _ HRG Tryz.underlying40 rfl (by kernel_rfl) ?_) | (refine wpList_store_row rfl 42 (.tmp 2) (.tmp 29) rfl w.heap.size #[.bool false,.bool false,.int .u8 2,.int .u64 (wd S 0).toNat,.int .u64 (wd S 1).toNat,.int .u64 (wd S 2).toNat,.int .u64 (wd S 3).toNat,.int .i64 0,.int .i64 0,.slice none 0 0] rfl rfl 42 pS HR (by kernel_rfl) rfl (by simp[Value.oneCell']) ?_;refine Hid.out ?_))
    refine hid ?_;obtain⟨V3,cD⟩:=ah (wo.setRow w.heap.size #[.bool false,.bool false,.int .u8 2,.int .u64 (wd S 0).toNat,.int .u64 (wd S 1).toNat,.int .u64 (wd S 2).toNat,.int .u64 (wd S 3).toNat,.int .i64 0,.int .i64 0,.slice none 0 0]);rw[<-cD];have R9:Hid (aq V3 w.heap.size #[.bool false,.bool false,.int .u8 2,.int .u64 (wd S 0).toNat,.int .u64 (wd S 1).toNat,.int .u64 (wd S 2).toNat,.int .u64 (wd S 3).toNat,.int .i64 0,.int .i64 0,.slice none 0 0] 42):=by rw[cD];exact hid HR.setRow
    have K9:ae (· ≠w.heap.size) wo V3:=by rw[cD];exact bn _ _ _
    have X9:aa w V3:=HX.trans (K9.mono fun x (hx:x<w.heap.size)=>by show x≠_;omega:ae (· <w.heap.size) wo V3).below;clear cD;go_wp2;obtain⟨m0,m1,m2,m3,m4,m5,m6,m7,m8,m9⟩:=R9.Jz;refine bodyPost_ret (v:=.agg #[.bool false,.bool false,.int .u8 2,.int .u64 (wd S 0).toNat,.int .u64 (wd S 1).toNat,.int .u64 (wd S 2).toNat,.int .u64 (wd S 3).toNat,.int .i64 0,.int .i64 0,.slice none 0 0]) (by simp[results,Tryz.results11,go_sem,m0,m1,m2,m3,m4,m5,m6,m7,m8,m9]) rfl ⟨.inl ⟨H1N,c,HCL,?_⟩,X9⟩;rw[<-HS.out];rfl
   ·have tq:((k:Int)==1)=false:=by simp;omega
    obtain⟨b0,b1,b2,b3,b4,b5,b6,b7⟩:=HB.eight;go_upto_region 8 with fail
    go_wp2_with (first | (refine aJ rfl 40 (.tmp 3) rfl (w.heap.size+1) rfl #[.int .u8 3,.int .u64 0,.int .u64 0,.int .u64 0,.int .u64 0,.int .i64 0,.int .i64 0,.slice na k nc] _ HB.range Tryz.underlying40 rfl (by kernel_rfl) ?_) | (refine wpList_store_row rfl 42 (.tmp 2) (.tmp 31) rfl w.heap.size #[.bool false,.bool false,.int .u8 3,.int .u64 0,.int .u64 0,.int .u64 0,.int .u64 0,.int .i64 0,.int .i64 0,.slice na k nc] rfl rfl 42 pS HR (by kernel_rfl) rfl (by simp[Value.oneCell']) ?_;refine Hid.out ?_))
    refine hid ?_;obtain⟨V3,cD⟩:=ah (wo.setRow w.heap.size #[.bool false,.bool false,.int .u8 3,.int .u64 0,.int .u64 0,.int .u64 0,.int .u64 0,.int .i64 0,.int .i64 0,.slice na k nc]);rw[<-cD];have R9:Hid (aq V3 w.heap.size #[.bool false,.bool false,.int .u8 3,.int .u64 0,.int .u64 0,.int .u64 0,.int .u64 0,.int .i64 0,.int .i64 0,.slice na k nc] 42):=by rw[cD];exact hid HR.setRow
    have K9:ae (· ≠w.heap.size) wo V3:=by rw[cD];exact bn _ _ _
    have X9:aa w V3:=HX.trans (K9.mono fun x (hx:x<w.heap.size)=>by show x≠_;omega:ae (· <w.heap.size) wo V3).below;clear cD;go_wp2;obtain⟨m0,m1,m2,m3,m4,m5,m6,m7,m8,m9⟩:=R9.Jz;refine bodyPost_ret (v:=.agg #[.bool false,.bool false,.int .u8 3,.int .u64 0,.int .u64 0,.int .u64 0,.int .u64 0,.int .i64 0,.int .i64 0,.slice na k nc]) (by simp[results,Tryz.results11,go_sem,m0,m1,m2,m3,m4,m5,m6,m7,m8,m9]) rfl ⟨.inr ⟨h1n,?_⟩,X9⟩;have H3:=au H0 K9 fun x e=>by have:=(H0.lt x e).1;show x≠_;omega
    rw[HTL.out]at H3;obtain⟨g,cap,hv,_,_⟩:=sf H3 (by omega);cases hv;have e:(Bk l).subs.length=k:=by rw[nY.out];simp[Bk,RX.subs]
    refine⟨g,nc,by rw[xh];rfl,some ⟨g,0,none⟩,nc,?_,?_⟩
    ·show _=Value.agg (mE false false 3 0 0 0 (.slice (some ⟨g,0,none⟩) (Bk l).subs.length nc))
     rw[e]
    ·show aH _ _ (.agg (aj 3 0 0 0 (.slice (some ⟨g,0,none⟩) (Bk l).subs.length nc))) _
     rw[e];exact acy nY H3
end
end Go.Proofs.YtpcmhjbehdgdbaaGreatDoor
