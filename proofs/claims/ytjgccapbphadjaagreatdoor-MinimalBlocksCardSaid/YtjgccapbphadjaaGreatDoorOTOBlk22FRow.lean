/- MinimalBlocks returns true for any small one, any strings, any byte, any byte; the arguments read behind the call as they did. No condition. A tied card: the three listed tables hold at the call what the program's text lays. Printed by wip/gen/drow.py. -/
import Derived.Test.YtjgccapbphadjaaGreatDoorCards
import Derived.Test.YtjgccapbphadjaaGreatDoorTie
import Derived.Deep.DeepHandedRow
import Derived.Stop.LaidErr
import Derived.Test.YtjgccapbphadjaaGreatDoorOB15
set_option maxRecDepth 100000
set_option maxHeartbeats 16000000
open Go.Lib (hid)
open Go.Value renaming slice->Lw,int->L7,okWide->O',tuple->St,bool->UP,agg->Wr,oneCell'->eS,cells->gd
open Go.Proofs.Tryz renaming prog->Ly,underlying5->OR,underlying22->Q_,results39->RC,f7->TC,underlying24->U',underlying66->V_,underlying116->Z',func7->aE,checked->c_,params7->da
open Go.Lib renaming hid->L_
open Option renaming none->MY,some->M',map_eq_some_iff->Ox
open Go.Proofs.YtjgccapbphadjaaGreatDoor.Rows renaming minimalBlocksRow->M_,minimalBlocksSpec->NX
open Go.Ending renaming returned->N_
open List renaming range->N',getElem?_eq_some_iff->Ot,length_take->O_,take_of_length_le->P',map_append->To,map_congr_left->TA,getElem?_range->TB,take_add_one->U_,range_succ->W_,mem_of_mem_take->ZD,take_succ_cons->ZS,getElem?_take->ao,map_map->a_,length_range->b_,mem_range->d_,mem_map->ff,length->fi
open Bool renaming true->On,false->SO
open Go.IntKind renaming u8->Ou,i64->Ow,u64->Wg
open Go renaming Value->Ov,bodyPost_ret->R_,MemPlace->TO,TypeId->Wi,wpList_append_own_at->Y',DataW->dd,Addr->dq,Reach->f_
open Int renaming toNat_of_nonneg->Oy,tmod_eq_emod_of_nonneg->T_,ofNat->gx,toNat->g_
open Go.DataW renaming trod->P_,weights->Z_,Trod->de
open Go.OpenSpec renaming ofChange->Rr
open Go.IntWalk renaming i64_in->RE
open Go.RowKit renaming Hid->Se
open Nat renaming eq_zero_or_pos->Sf,zero_le->S',not_lt_zero->X_,mul_le_mul->du,mul_one->fs,mod_lt->gk
open Go.RowKit.Below renaming refl->S_
open Go.World renaming cells?_some->US,cell?_spot->V',ownsRow_nil->be,holding->e_
open Option.some renaming inj->X'
open Go.Addr renaming add->Y_
namespace Go.Proofs.YtjgccapbphadjaaGreatDoor
section
open Go Go.RowKit Go.WideShapes Go.ChangeShapes Go.ChangeAt Go.Deep
section
variable {H:Type} {enc:Wi×Ov→H} {P:Program}
end
section
variable {H:Type} {enc:Wi×Ov→H} {W:World} {base:Nat} {sp:Nat→Bool}
end
end
section
open Go Go.ChangeShapes Go.WideShapes Go.ChangeAt Go.RowKit
section
variable {H:Type} {enc:Wi×Ov→H} {W:World}
theorem abh {r:Reach} {v:Ov} {d:dd H} {p:List TO} {b0:Nat} (pE:O' Ly W r b0 5 v) (h:de enc Ly W 0 (fun _=>On) On 5 v d p):∃ n:Nat,v=L7 Ou n/\n<256:=by obtain⟨n,rfl,_,_,hw⟩:=open_int OR pE h;have:=Ei hw;exact⟨n.toNat,by rw[Oy this.1],by omega⟩
end
end
section
open Go Go.RowKit
def Reach (d:DF):Nat->Nat->Prop
 | 0,s=>acc d s=On
 | m+1,s=>∃ k,k<d.cl.length/\Reach d m (en d s k)
end
section
open Go Go.ChangeShapes Go.WideShapes Go.ChangeAt Go.RowKit Go.Deep
section
variable {H:Type} {enc:Wi×Ov→H} {W:World}
theorem sF {t e:Wi} {fuel:Nat} {a:Option dq} {n c:Nat} {x:dd H×List TO} (ht:Ly.underlying t=M' (.slice e)) (hb:1<=Ly.bytesOf e) (h:P_ enc Ly W 0 (fun _=>On) On fuel t [Lw a n c]=M' x) (hs:∀ m∈x.1.weights Ly t,m<=reachBytes):n<=1000000000000000:=by
 rcases open_slice ht h with⟨hcs,_⟩ | ⟨a',len,cap,m,k,D,Pl,hcs,_,_,_,_,rfl,_⟩
 ·have:Lw a n c=Lw MY 0 0:=by simpa using hcs
  cases this
  omega
 ·have:Lw a n c=Lw (M' a') len cap:=by simpa using hcs
  cases this
  have h1:=hs ((((N' n).map D).length+((N' (m-n)).map fun j=>D (n+j)).length)*Ly.bytesOf e) (by simp[Z_,ht]);have h2:n*1<=(((N' n).map D).length+((N' (m-n)).map fun j=>D (n+j)).length)*Ly.bytesOf e:=du (by simp) hb;unfold reachBytes at h1;omega
theorem sG {t:Wi} (ht:Ly.underlying t=M' (.int Ou)) {fuel:Nat} {c:Ov} {y:dd H×List TO} (h:P_ enc Ly W 0 (fun _=>On) On fuel t [c]=M' y):∃ n:Nat,c=L7 Ou n/\n<256:=by
 obtain⟨z,hz,_,hw⟩:=DataW.trod_int ht h;obtain rfl:c=L7 Ou z:=by simpa using hz
 have:=Ei hw;exact⟨z.toNat,by rw[Oy this.1],by omega⟩
theorem Gu {fuel:Nat} {v:Ov} {y:dd H×List TO} (h:P_ enc Ly W 0 (fun _=>On) On fuel 116 [v]=M' y) (hz:∀ m∈y.1.weights Ly 116,m<=reachBytes): ∃ l:List (Nat×Nat×Nat),dT W v l/\l.length<=1000000000000000:=by
 have hb3:1<=Ly.bytesOf 185:=by
  have:Ly.bytesOf 185=3:=by kernel_rfl
  omega
 have h0:=h;rcases open_slice Z' h with⟨hcs,_⟩ | ⟨a,len,cap,m,n,D,Pl,hcs,_,hl,hm,qQ,_,hi⟩
 ·obtain rfl:v=Lw MY 0 0:=by simpa using hcs
  exact⟨[],.inl ⟨rfl,rfl⟩,by simp⟩
 ·obtain rfl:v=Lw (M' a) len cap:=by simpa using hcs
  have hbd:=sF Z' hb3 h0 hz;have hc:Ly.cellsOf 185=3:=by kernel_rfl
  rw[hc]at hi;rw[if_pos rfl]at qQ;rcases Sf len with h1 | h1
  ·subst h1
   exact⟨[],.inr (.inl ⟨a,cap,rfl,rfl⟩),by simp⟩
  ·obtain⟨b,off,spot⟩:=a
   have el:∀ i,i<len->∃ s:Nat×Nat×Nat,(s.1<256/\s.2.1<256/\s.2.2<256)/\W.cell? ((⟨b,off,spot⟩:dq).add (i*3))=M' (L7 Ou s.1)/\W.cell? (((⟨b,off,spot⟩:dq).add (i*3)).add 1)=M' (L7 Ou s.2.1)/\W.cell? (((⟨b,off,spot⟩:dq).add (i*3)).add 2)=M' (L7 Ou s.2.2):=fun i gJ=>by
    obtain⟨cs',h2,h3⟩:=hi i (by omega);obtain⟨_,Cm,hat⟩:=US h2;match cs',Cm with
    | [c0,c1,c2],_=>
    obtain⟨y0,y1,y2,k,_,_,t0,t1,t2⟩:=trod_struct3 Tryz.underlying185 h3;obtain⟨n0,rfl,q0⟩:=sG OR (show P_ enc Ly W 0 (fun _=>On) On k 5 [c0]=M' y0 from t0);obtain⟨n1,rfl,q1⟩:=sG OR (show P_ enc Ly W 0 (fun _=>On) On k 5 [c1]=M' y1 from t1);obtain⟨n2,rfl,q2⟩:=sG OR (show P_ enc Ly W 0 (fun _=>On) On k 5 [c2]=M' y2 from t2);have g0:=hat 0 (by decide);have g1:=hat 1 (by decide);have g2:=hat 2 (by decide);refine⟨(n0,n1,n2),⟨q0,q1,q2⟩,?_,g1,g2⟩;have e:∀ A:dq,A.add 0=A:=fun A=>by simp[Y_]
    rwa[e]at g0
   have hspot:spot=none:=by obtain⟨s,_,g0,_⟩:=el 0 h1;simpa[Y_]using V' g0
   subst hspot;have hb:b<W.heap.size:=by
    obtain⟨s,_,g0,_⟩:=el 0 h1;rw[jS]at g0;exact ql g0
   obtain⟨S,hS⟩:=choose_lt (α:=Nat×Nat×Nat) (p:=fun i s=>s.1<256/\s.2.1<256/\s.2.2<256/\W.cell? ⟨b,off+i*3,MY⟩=M' (L7 Ou s.1)/\W.cell? ⟨b,off+i*3+1,MY⟩=M' (L7 Ou s.2.1)/\W.cell? ⟨b,off+i*3+2,MY⟩=M' (L7 Ou s.2.2)) (n:=len) (fun i gJ=>by
    obtain⟨s,⟨q0,q1,q2⟩,g0,g1,g2⟩:=el i gJ;rw[jS]at g0 g1 g2;rw[jS]at g1 g2
    exact⟨s,q0,q1,q2,g0,g1,g2⟩)
   refine⟨(N' len).map S,.inr (.inr ⟨b,off,cap,by simp,hb,by simpa using hl,?_,fun i s Un=>?_⟩),by simpa using hbd⟩
   ·intro e
    have:=congrArg fi e;simp at this;omega
   ·simp only[aO,Ox,G8]at Un
    obtain⟨k,⟨hk,rfl⟩,rfl⟩:=Un;simp at hk ⊢;exact hS i hk
end
end
section
open Go Go.RowKit Go.Shelf Go.Maps
theorem aaJ (v bv:Ov) (d:DF) (rt:Rt d) (sm:Sm d) (s:Nat) (hs:s<d.nx.length) (b:List Nat) (hb:∀ c∈b,c<256) (NI:b.length<=1000000) (w:World) (h:dr w v d) (OQ:bQ cU w bv b): ah 41 #[v,L7 Ow s,bv] w fun e w'=>e=N_ (St #[L7 Ow (bG d s b),L7 Ow 0])/\aa w w':=FJ v bv d rt sm s hs b hb NI w h (.inl OQ)
end
section
open Go Go.RowKit
theorem acG (n:Nat):NP (fun s=>s) n:=fun s _=>by
 have:∀ s,fj (fun s=>s) s=s:=fun s=>by
  induction s with
  | zero=>rfl
  | succ s ih=>rw[fj,ih];omega
 show s<=_;rw[this];omega
set_option maxRecDepth 100000
section
variable {α:Type} [DecidableEq α]
end
theorem abd {d:DF} (h:Rt d) {s t:Nat} (hs:s<d.nx.length) (ht:t<d.nx.length):cB d d (s,t)=MY↔Ay d s t:=by
 refine⟨fun hn w hw=>nZ h h ⟨hs,ht⟩ hn hw,fun ha=>?_⟩;cases e:cB d d (s,t)with
 | none=>rfl
 | some w=>
  have f:=kE h h e;have:=of_decide_eq_true f.ok;exact absurd (ha w f.TQ) this
set_option maxRecDepth 100000
theorem aa6 {p:Nat->Nat} {n:Nat} (hp:NP p n) (hi:∀ s t,s<n->t<n->p s=p t->s=t):∀ m,m<=n->fj p m=m/\∀ s,s<m->p s=s
 | 0,_=>⟨rfl,fun s hs=>by omega⟩
 | m+1,hm=>by
  obtain⟨h1,h2⟩:=aa6 hp hi m (by omega);have h3:=hp m (by omega);rw[h1]at h3;have h4:p m=m:=by
   refine Classical.byContradiction fun hne=>?_
   have h5:p m<m:=by omega
   have:=hi (p m) m (by omega) (by omega) (h2 _ h5);omega
  refine⟨by rw[fj,h1,h4];omega,fun s hs=>?_⟩;by_cases e:s=m
  ·subst e;exact h4
  ·exact h2 s (by omega)
theorem abv {d:DF} (h:Rt d):dn d (fun s=>s)=d:=by
 have key:∀ n,n<=d.nx.length->br d (fun s=>s) n=(d.nx.take n,d.mr.take n):=fun n=>by
  induction n with
  | zero=>intro _;rfl
  | succ n ih=>
   intro hn;have ih:=ih (by omega);have hm:=h.mr;rw[br,ih,if_neg (by show ¬n<(d.nx.take n).length;rw[O_];omega)];have e1:d.nx[n]? =M' (d.nx.getD n []):=aW [] (by omega);have e2:d.mr[n]? =M' (d.mr.getD n []):=aW [] (by omega);rw[U_,U_,e1,e2];have e3:(d.nx.getD n []).map (fun t=>((t.toNat:Nat):Int))=d.nx.getD n []:=by
    refine(TA fun x hx=>?_).trans (List.map_id _);have:=h.iV n (by omega) x hx;exact Oy this.1
   show(_++ [(d.nx.getD n []).map fun t=>((t.toNat:Nat):Int)],_)=_;rw[e3];rfl
 unfold dn;rw[key _ (aG _),P' (aG _),P' (by rw[h.mr];exact aG _)]
theorem abE (d:DF):Fits d fun s=>s:=⟨acG _,fun s t _ _ e=>by rw[show s=t from e],fun s t k _ _ _ e=>by rw[show s=t from e]⟩
def abi (d:DF) (p:Nat->Nat):Prop:=∀ s,s<d.nx.length->(dn d p).mr.getD (p s) []=d.mr.getD s []/\∀ k,k<d.cl.length->en (dn d p) (p s) k=p (en d s k)
theorem aa7 {d:DF} (h:Rt d) {p:Nat->Nat} (hp:NP p d.nx.length):abi d p↔Fits d p:=by
 constructor
 ·intro ok
  refine⟨hp,fun s t hs ht e=>?_,fun s t k hs ht hk e=>?_⟩
  ·rw[<- (ok s hs).1, <- (ok t ht).1,e]
  ·rw[<- (ok s hs).2 k hk, <- (ok t ht).2 k hk,e]
 ·intro hf s hs
  exact⟨qH h hf hs,fun k hk=>NQ h hf hs hk⟩
theorem aaK {d:DF} (h:Rt d) {s t:Nat} (hs:s<d.nx.length) (ht:t<d.nx.length):kq d s=kq d t↔Ay d s t:=NN h (Lm d).1 hs ht
theorem aaL (d:DF):NP (kq d) d.nx.length:=by
 unfold kq;cases x8 d with
 | zero=>exact CY _ _
 | succ i=>exact CY _ _
theorem abe {d:DF} (h:Rt d) {b:Nat} (hb:b<(dn d (kq d)).nx.length):kq (dn d (kq d)) b=b:=by have hf:=NY h;have rm:=F5 h hf;refine(aa6 (aaL _) (fun s t hs ht e=>?_) _ (aG _)).2 b hb;have ha:=(aaK rm hs ht).1 e;rw[(fk hf).1]at hs ht;obtain⟨x,hx,rfl,_⟩:=j3 (d:=d) hf.num s hs;obtain⟨y,hy,rfl,_⟩:=j3 (d:=d) hf.num t ht;exact F6 h (Lm d).1 hx hy ha
end
section
open Go Go.RowKit Go.Shelf Go.Maps
theorem abf (L:List Nat):L.map cV=(L.map gx).map aM:=by rw[a_];rfl
end
section
open Go Go.ChangeShapes Go.WideShapes Go.ChangeAt Go.RowKit Go.Deep
section
variable {H:Type} {enc:Wi×Ov→H} {W:World}
theorem Gv {fuel:Nat} {a:Option dq} {len cap:Nat} {y:dd H×List TO} (h:P_ enc Ly W 0 (fun _=>On) On fuel 22 [Lw a len cap]=M' y) (hz:∀ m∈y.1.weights Ly 22,m<=reachBytes): ∃ l:List (List (Nat×Nat×Nat)),Gi W (Lw a len cap) l/\l.length<=1000000000000000:=by
 have hb3:1<=Ly.bytesOf 116:=by
  have:Ly.bytesOf 116=24:=by kernel_rfl
  omega
 have h0:=h;have hbd:=sF Q_ hb3 h0 hz;rcases open_slice Q_ h with⟨hcs,_⟩ | ⟨a',len',cap',m,n,D,Pl,hcs,_,hl,hm,qQ,hd,hi⟩
 ·have:Lw a len cap=Lw MY 0 0:=by simpa using hcs
  cases this
  exact⟨[],.inl ⟨MY,0,rfl,rfl⟩,by simp⟩
 ·have:Lw a len cap=Lw (M' a') len' cap':=by simpa using hcs
  cases this
  rcases Sf len with h1 | h1
  ·subst h1
   exact⟨[],.inl ⟨M' a',cap,rfl,rfl⟩,by simp⟩
  have hc:Ly.cellsOf 116=1:=by kernel_rfl
  rw[hc]at hi;rw[if_pos rfl]at qQ;have hd1:y.1=.slice ((N' len).map D) ((N' (m-len)).map fun j=>D (len+j)):=congrArg Prod.fst hd;have hD:∀ i,i<len->∀ w∈(D i).weights Ly 116,w<=reachBytes:=fun i gJ w hw=>by
   refine hz w ?_;rw[hd1];simp only[Z_,Q_,List.mem_cons,List.mem_append];exact .inr (.inl (pL (ff.2 ⟨i,d_.2 gJ,rfl⟩) w hw))
  obtain⟨b,off,spot⟩:=a';have el:∀ i,i<len->∃ s:List (Nat×Nat×Nat),s.length<=1000000000000000/\∃ u,dT W u s/\W.cell? ((⟨b,off,spot⟩:dq).add (i*1))=M' u:=fun i gJ=>by
   obtain⟨cs',h2,h3⟩:=hi i (by omega);obtain⟨_,Cm,hat⟩:=US h2;match cs',Cm with
   | [c0],_=>
   obtain⟨st,s0,sl⟩:=Gu h3 (hD i gJ);have g0:=hat 0 (by decide);have e:∀ A:dq,A.add 0=A:=fun A=>by simp[Y_]
   rw[e]at g0;exact⟨st,sl,c0,s0,g0⟩
  have hspot:spot=none:=by obtain⟨s,_,u,_,g0⟩:=el 0 h1;simpa[Y_]using V' g0
  subst hspot;have hb:b<W.heap.size:=by
   obtain⟨s,_,u,_,g0⟩:=el 0 h1;rw[jS]at g0;exact ql g0
  obtain⟨L,hL⟩:=choose_lt (α:=List (Nat×Nat×Nat)) (p:=fun i s=>s.length<=1000000000000000/\∃ u,dT W u s/\W.cell? ⟨b,off+i,MY⟩=M' u) (n:=len) (fun i gJ=>by
   obtain⟨s,q1,u,q2,g0⟩:=el i gJ;rw[jS,fs]at g0
   exact⟨s,q1,u,q2,g0⟩)
  refine⟨(N' len).map L,.inr ⟨b,off,cap,by simp,hb,by simpa using hl,?_,fun i s hx=>?_⟩,by simpa using hbd⟩
  ·intro e
   have:=congrArg fi e;simp at this;omega
  ·simp only[aO,Ox,G8]at hx
   obtain⟨k,⟨hk,rfl⟩,rfl⟩:=hx;simp at hk ⊢;exact hL i hk
theorem zn {r:f_} {b0:Nat} {v:Ov} (pE:O' Ly W r b0 24 v):∃ a n c v1,v=Wr #[Lw a n c,v1]:=by
 simp only[O',U']at pE;obtain⟨cs,rfl,hsz,ts,Mh,_,hrow⟩:=pE;have e:Ly.cellTypes Ly.depth 24=M' [22,5]:=by kernel_rfl
 rw[e]at Mh;cases Mh;have hc:Ly.cellsOf 24=2:=by kernel_rfl
 rw[hc]at hsz;obtain⟨l⟩:=cs;match l,hsz with
 | [v0,v1],_=>
  obtain⟨u,hu,h⟩:=hrow 0 v0 rfl;cases hu;have h5:O' Ly W r b0 22 v0:=by simp only[O',Q_];exact h
  obtain⟨a,n,c,rfl⟩:=okWide_slice Q_ h5;exact⟨a,n,c,v1,rfl⟩
theorem Gw {r:f_} {v:Ov} {d:dd H} {p:List TO} {b0:Nat} (pE:O' Ly W r b0 24 v) (h:de enc Ly W 0 (fun _=>On) On 24 v d p) (hz:∀ m∈d.weights Ly 24,m<=reachBytes): ∃ (l:List (List (Nat×Nat×Nat))) (fl:Nat),pT W v l fl/\l.length<=1000000000000000/\fl<256:=by
 obtain⟨a,n,c,v1,rfl⟩:=zn pE;obtain⟨fuel,hf⟩:=h;obtain⟨y0,y1,k,e,_,t0,t1⟩:=trod_struct2 U' hf;replace t0:P_ enc Ly W 0 (fun _=>On) On k 22 [Lw a n c]=M' y0:=t0;replace t1:P_ enc Ly W 0 (fun _=>On) On k 5 [v1]=M' y1:=t1;have e1:d=.agg [y0.1,y1.1]:=congrArg Prod.fst e;subst e1
 obtain⟨l,s0,g0⟩:=Gv t0 (fun m hm=>hz m (by
  simp only[Z_,U']
  exact DataW.weights_mem_each (j:=0) (ds:=[y0.1,y1.1]) rfl rfl m hm))
 obtain⟨fl,rfl,pG⟩:=sG OR t1;exact⟨l,fl,⟨_,rfl,s0⟩,g0,pG⟩
end
end
section
open Go Go.RowKit Go.Shelf Go.Maps
theorem Tryz.Wf:(Ly.info? 44).map (fun i=>(i.zero,i.size,i.bytes))=M' (M' (Lw MY 0 0),1,24):=by kernel_rfl
def JV (w:World) (v:Ov) (L:List (List Nat)):Prop:=∃ a c,v=Lw a L.length c/\L.length<=c/\∀ (i:Nat) (s:List Nat),L[i]? =M' s->(∀ c∈s,c<256)/\∃ b off x y,a=M' ⟨b,off,MY⟩/\b<w.heap.size/\s.length<=y/\w.cell? ⟨b,off+i,MY⟩=M' (Lw x s.length y)/\ew cU w (Lw x s.length y) s
theorem JV.below {w W:World} {v:Ov} {L:List (List Nat)} (h:JV w v L) (hk:aa w W):JV W v L:=by obtain⟨a,c,h1,h2,h3⟩:=h;refine⟨a,c,h1,h2,fun i s hs=>?_⟩;obtain⟨q1,b,off,x,y,q2,q3,q4,q5,q6⟩:=h3 i s hs;exact⟨q1,b,off,x,y,q2,aD q3 hk.size,q4,((ae.ai hk fun _ h=>h:ae (· <w.heap.size) w W).cell (p:=⟨b,off+i,MY⟩) q3).trans q5,q6.below hk⟩
theorem ew.JG {w:World} {a:Option dq} {n c m:Nat} {s:List Nat} (h:ew cU w (Lw a n c) s) (hm:m=(s.take 12).length):ew cU w (Lw a m c) (s.take 12):=by
 subst hm;rcases h with(⟨e,rfl⟩ | ⟨b,off,cap,e,hb,hc,hg⟩) | ⟨rfl,x,y,e⟩
 ·cases e
  exact .inl (.inl ⟨rfl,rfl⟩)
 ·cases e
  refine .inl (.inr ⟨b,off,c,rfl,hb,?_,fun i x hi=>?_⟩)
  ·rw[O_];omega
  ·by_cases h12:i<12
   ·rw[ao,if_pos h12]at hi
    exact hg i x hi
   ·rw[aS (by rw[O_];omega)]at hi;cases hi
 ·cases e
  exact .inr ⟨rfl,_,_,rfl⟩
def LH (L:List (List Nat)) (m:Nat) (W:World) (e:Ending) (w':World):Prop:=
 ∃ a c,∃ g:Nat->Ov,e=N_ (Lw a m c)/\w'.ownsRow W.heap.size 44 1 (Lw a m c) m ((N' m).map g)/\(∀ (i:Nat) (s:List Nat),L[i]? =M' s->∃ x y,g i=Lw x (s.take 12).length y/\ew cU W (g i) (s.take 12)/\∀ c∈s.take 12,c<256)/\aa W w'
theorem Gx (v:Ov) (L:List (List Nat)) {m:Nat} (hm:m=min L.length 30) (w:World) (h:JV w v L): ah 35 #[v] w (LH L m w):=by
 obtain⟨i0,hi,hz0,hz1,hz2⟩:=info_parts Tryz.Wf;obtain⟨a,c,rfl,hc,hS⟩:=h
 obtain⟨p,hp⟩:=Classical.axiomOfChoice (r:=fun (i:Nat) (q:Option dq×Nat)=>∀ s,L[i]? =M' s->(∀ c∈s,c<256)/\∃ b off,a=M' ⟨b,off,MY⟩/\b<w.heap.size/\s.length<=q.2/\w.cell? ⟨b,off+i,MY⟩=M' (Lw q.1 s.length q.2)/\ew cU w (Lw q.1 s.length q.2) s) (fun i=>by
  by_cases hl:i<L.length
  ·obtain⟨h1,b,off,x,y,h2,h3,h4,h5,h6⟩:=hS i _ (az hl)
   refine⟨(x,y),fun s hs=>?_⟩;rw[az hl]at hs;cases hs;exact⟨h1,b,off,h2,h3,h4,h5,h6⟩
  ·exact⟨(MY,0),fun s hs=>by rw[aS (by omega)]at hs;cases hs⟩)
 have HP:=L_ hp;obtain⟨g,hg⟩:=ag (fun i=>Lw (p i).1 ((L.getD i []).take 12).length (p i).2:Nat->Ov);have HG:Se (∀ i s,L[i]? =M' s->g i=Lw (p i).1 (s.take 12).length (p i).2):=L_ fun i s hs=>by rw[hg];show Lw _ _ _=_;rw[bu,hs];rfl
 obtain⟨n,hn⟩:=ag L.length;have l9:min (n:Int) 30=(m:Int):=by omega
 have hmn:m<=n:=by omega
 have aqs:m<=30:=by omega
 rw[<-hn]at hc ⊢;have RV:m<=c:=by omega
 have HN:=L_ hn;clear hS hp hg hn hm;go_enter Tryz.func35,Tryz.ntmps35;go_wp2_with fail
 go_loopw [3,12] (fun u i wr=>∃ k:Nat,k<=m/\i=L7 Ow k/\(∃ a c,u=Lw a k c)/\wr.ownsRow w.heap.size 44 1 u k ((N' k).map g)/\aa w wr) (fun _ i _=>m-(intOf i).toNat)
 case atStart=>exact⟨0,by omega,rfl,⟨_,_,rfl⟩,be _ _ _ _,S_ _ _⟩
 case round=>
  obtain⟨k,hk,rfl,⟨oa,oc,rfl⟩,ho,hx⟩:=hrel;obtain⟨wo,rfl⟩:=ag (wr:World);have HO:=L_ ho;have HX:=L_ hx;clear ho hx;by_cases hlt:k<m
  ·have eE:(k:Int)<m:=by omega
   obtain⟨s,hs⟩:∃ s,L[k]? =M' s:=⟨_,az (by have:=HN.out;omega)⟩;obtain⟨_,b,off,rfl,hb,hsy,c0,_⟩:=HP.out k s hs;have HGK:=L_ (HG.out k s hs);have wc:∀ (o:Nat) (u:Ov),w.cell? ⟨b,o,MY⟩=M' u->wo.cell? ⟨b,o,MY⟩=M' u:=fun o u h=>((ae.ai HX fun _ h=>h:ae (· <w.heap.size) w wo).cell (p:=⟨b,o,MY⟩) hb).trans h
   replace c0:=wc _ _ c0;obtain⟨x,VR⟩:=ag ((p k).1);obtain⟨y,hye⟩:=ag ((p k).2);rw[<-VR, <-hye]at c0 HGK;rw[<-hye]at hsy;obtain⟨sn,kS⟩:=ag s.length;obtain⟨S,hSe⟩:=ag ((s.take 12).length);have hSm:S=min 12 sn:=by rw[hSe,O_,kS]
   have adV:min (sn:Int) 12=(S:Int):=by omega
   have hSn:S<=sn:=by omega
   rw[<-kS]at hsy c0;rw[<-hSe]at HGK;have hSy:S<=y:=by omega
   have hrg:(N' (k+1)).map g=(N' k).map g++ [Lw x S y]:=by rw[W_,To, <-HGK.out];rfl
   have HR:=L_ hrg;clear wc hrg hs VR hye kS hSe hSm;go_wp2_with (at_builtin;refine Y' _ rfl (.tmp 16) (.tmp 22) 66 rfl w.heap.size 44 i0 (Lw MY 0 0) 1 24 V_ hi hz0 hz1 hz2 rfl (by decide) _ _ _ rfl (HO.alloc _) ⟨wo.heap.size,0,MY⟩ 1 1 [Lw x S y] rfl rfl (eF _ _ _) (by simp[eS]) (by unfold maxLen;omega) (by omega) (by have:=HX.size;simp;omega) ?_;intro v' w2 hown' hgrow hh hat;have jH:=L_ hown';have HG2:=L_ hgrow;clear hown' hgrow hh hat);go_roundw;case rel=>
    have GQ:=jH.out;rw[<-HR.out]at GQ;refine⟨k+1,by omega,by go_num,ownsRow_form GQ,GQ,?_⟩;exact(HX.alloc HX.size _).grown HG2 (by have:=HX.size;simp;omega) (fun c e=>(HO.lt c e).1)
   case measure=>simp[intOf];omega
  ·obtain rfl:k=m:=by omega
   have eE:¬ ((k:Int)<k):=by omega
   go_wp2;go_ret;refine⟨_,_,g,rfl,HO,fun i s hs=>?_,HX⟩;obtain⟨h1,b,off,_,_,_,_,h6⟩:=HP.out i s hs;have h7:=HG.out i s hs;exact⟨_,_,h7,by rw[h7];exact h6.JG rfl,fun c hc=>h1 c (ZD hc)⟩
end
section
open Go Go.ChangeShapes Go.WideShapes Go.ChangeAt Go.RowKit Go.Deep
section
variable {H:Type} {enc:Wi×Ov→H} {W:World}
theorem Gy {fuel:Nat} {v:Ov} {y:dd H×List TO} (h:P_ enc Ly W 0 (fun _=>On) On fuel 44 [v]=M' y):∃ l:List Nat,(∀ c∈l,c<256)/\ew cU W v l/\∃ a c,v=Lw a l.length c/\l.length<=c:=by
 rcases open_ints Tryz.underlying44 OR (by kernel_rfl) h with⟨hcs,_⟩ | ⟨a,len,cap,zs,hcs,_,hl,hm,hzs,_,hi,hwf⟩
 ·obtain rfl:v=Lw MY 0 0:=by simpa using hcs
  exact⟨[],(fun c hc=>by cases hc),.inl (.inl ⟨rfl,rfl⟩),_,_,rfl,aG _⟩
 ·obtain rfl:v=Lw (M' a) len cap:=by simpa using hcs
  rw[if_pos rfl]at hzs;have hlen:((zs.take len).map g_).length=len:=by rw[aQ,O_];omega
  rcases Sf cap with h1 | h1
  ·obtain rfl:len=0:=by omega
   subst h1;exact⟨[],(fun c hc=>by cases hc),.inr ⟨rfl,_,_,rfl⟩,_,_,rfl,aG _⟩
  ·obtain⟨b,off,rfl,hc⟩:=ints_at hi (by omega)
   have hbl:b<W.heap.size:=by
    have:=hc 0 (by omega);unfold World.cell? at this;cases hh:W.heap[b]? with
    | none=>rw[hh]at this;cases this
    | some o=>exact(Array.getElem?_eq_some_iff.1 hh).1
   have hu:∀ z∈zs.take len,0<=z/\z<256:=fun z hz=>Ei (hwf z (ZD hz))
   refine⟨(zs.take len).map g_,fun c hc=>?_,.inl (.inr ⟨b,off,cap,by rw[hlen],hbl,by rw[hlen];exact hl,fun i x hx=>?_⟩),M' ⟨b,off,MY⟩,cap,by rw[hlen],by rw[hlen];exact hl⟩
   ·obtain⟨z,hz,rfl⟩:=ff.1 hc
    have:=hu z hz;omega
   ·rw[aO]at hx
    obtain⟨z,hz,rfl⟩:=Ox.1 hx;have hz2:=hu z (aw hz);rw[ao]at hz;split at hz
    ·have hiz:i<zs.length:=(Ot.1 hz).1
     have:=hc i hiz;rw[bu,hz]at this;rw[this];show M' (L7 Ou z)=M' (L7 Ou ((z.toNat:Nat):Int));rw[Oy hz2.1]
    ·cases hz
theorem Tz {r:f_} {v:Ov} {d:dd H} {p:List TO} {b0:Nat} (pE:O' Ly W r b0 66 v) (h:de enc Ly W 0 (fun _=>On) On 66 v d p):∃ L:List (List Nat),JV W v L:=by
 obtain⟨a,len,cap,rfl⟩:=okWide_slice V_ pE;obtain⟨fuel,h⟩:=h;rcases open_slice V_ h with⟨hcs,_⟩ | ⟨a',len',cap',m,n,D,Pl,hcs,_,hl,hm,qQ,hd,hi⟩
 ·have:Lw a len cap=Lw MY 0 0:=by simpa[gd]using hcs
  cases this
  exact⟨[],MY,0,rfl,aG _,fun i s hs=>by cases hs⟩
 ·have:Lw a len cap=Lw (M' a') len' cap':=by simpa[gd]using hcs
  cases this
  rcases Sf len with h1 | h1
  ·subst h1
   exact⟨[],M' a',cap,rfl,S' _,fun i s hs=>by cases hs⟩
  have hc:Ly.cellsOf 44=1:=by kernel_rfl
  rw[hc]at hi;rw[if_pos rfl]at qQ;obtain⟨b,off,spot⟩:=a';have el:∀ i,i<len->∃ s:List Nat,(∀ c∈s,c<256)/\∃ x y,s.length<=y/\ew cU W (Lw x s.length y) s/\W.cell? ((⟨b,off,spot⟩:dq).add (i*1))=M' (Lw x s.length y):=fun i gJ=>by
   obtain⟨cs',h2,h3⟩:=hi i (by omega);obtain⟨_,Cm,hat⟩:=US h2;match cs',Cm with
   | [c0],_=>
   obtain⟨s,s0,s1,x,y,rfl,s2⟩:=Gy h3;have g0:=hat 0 (by decide);have e:∀ A:dq,A.add 0=A:=fun A=>by simp[Y_]
   rw[e]at g0;exact⟨s,s0,x,y,s2,s1,g0⟩
  have hspot:spot=none:=by obtain⟨s,_,x,y,_,_,g0⟩:=el 0 h1;simpa[Y_]using V' g0
  subst hspot;have hb:b<W.heap.size:=by
   obtain⟨s,_,x,y,_,_,g0⟩:=el 0 h1;rw[jS]at g0;exact ql g0
  obtain⟨L,hL⟩:=choose_lt (α:=List Nat) (p:=fun i s=>(∀ c∈s,c<256)/\∃ x y,s.length<=y/\ew cU W (Lw x s.length y) s/\W.cell? ⟨b,off+i,MY⟩=M' (Lw x s.length y)) (n:=len) (fun i gJ=>by
   obtain⟨s,q1,x,y,q2,q3,g0⟩:=el i gJ;rw[jS,fs]at g0
   exact⟨s,q1,x,y,q2,q3,g0⟩)
  refine⟨(N' len).map L,M' ⟨b,off,MY⟩,cap,by simp,by simpa using hl,fun i s hx=>?_⟩;simp only[aO,Ox,G8]at hx;obtain⟨k,⟨hk,rfl⟩,rfl⟩:=hx;rw[b_]at hk;simp only[List.getElem_range];obtain⟨q1,x,y,q2,q3,q4⟩:=hL i hk;exact⟨q1,b,off,x,y,rfl,hb,q2,q4,q3⟩
end
end
section
open Go
theorem Oq {P:Program} {f:FuncId} {fn:Func} {s:ChangeSpec} {c:OpenClaim} (k1:(c.wf (Rr s))=On) (k2:(laidOutB P)=On) (k3:(mapsRowed P)=On) (k4:(fn.params.all (P.readableRec ·))=On) (k5:(namedTie P c.named s.vars)=On) (k6:(c.stops== [])=On) (k7:(P.stops== [])=On) (k8:(c.knobs== [])=On) (k9:(P.stopKnobs== [])=On) (k10:(c.inPlace==P.inPlace f)=On) (k11:(c.unfollowed==P.unfollowed f)=On) (k12:(c.recurses==P.recurses f)=On) (k13:(c.named==P.varsNamed f)=On) (k14:(c.maps==(fn.params.toList++s.plain.varTypes P).any (P.mapsRec ·))=On) (k15:(c.ifaces==(fn.params.toList++s.plain.varTypes P).any (P.ifacesRec ·))=On) (k16:(c.mapsOut==P.mapsAmong fn.resultTypes.toList)=On) (k17:(c.loops==(fn.params.toList++s.plain.varTypes P).any (P.loopsFrom ·))=On) (ajc:(c.wideKeys==(fn.params.toList++s.plain.varTypes P++fn.resultTypes.toList).any (P.wideKeysFrom ·))=On) (k18:(s.vars.all (P.varReadable ·))=On) (k19:(fn.resultTypes.all (fun t=>P.readableRec t&&decide (t<P.types.size)))=On) (k20:(c.ifacesOut==fn.resultTypes.toList.any (P.ifacesRec ·))=On) (k21:(c.loopsOut==fn.resultTypes.toList.any (P.loopsFrom ·))=On) (k22:(c.plainKeys==P.plainKeys)=On) (k23:c.shortTexts.isNone=On) (ajd:P.stopsHeard=On) (k24:P.mayEnter=On) (aje:(c.lifted==P.liftsFinal)=On) (ajf:(P.make==M' c.make)=On) (k25:(c.kinds==(if c.domain.isEmpty then []else fn.params.toList.map fun t=>match P.underlying t with | some (.int k)=>M' k | _=>MY))=On) (k26:(c.pinned==c.pinnedBy)=On) (k27:(c.veiled==(fn.params.toList++s.plain.varTypes P++fn.resultTypes.toList).any (P.veiledRec ·))=On) (k28:(c.veiledFits P fn.params.toList (fn.params.toList++s.plain.varTypes P++fn.resultTypes.toList))=On):joinedFacts P f fn s c=true:=by unfold joinedFacts;simp only[Bool.and_eq_true];exact⟨⟨⟨⟨⟨⟨⟨⟨⟨⟨⟨⟨⟨⟨⟨⟨⟨⟨⟨⟨⟨⟨⟨⟨⟨⟨⟨⟨⟨⟨⟨k1,k2⟩,k3⟩,k4⟩,k5⟩,k6⟩,k7⟩,k8⟩,k9⟩,k10⟩,k11⟩,k12⟩,k13⟩,k14⟩,k15⟩,k16⟩,k17⟩,ajc⟩,k18⟩,k19⟩,k20⟩,k21⟩,k22⟩,k23⟩,ajd⟩,k24⟩,aje⟩,ajf⟩,k25⟩,k26⟩,k27⟩,k28⟩
theorem aa8:(M_.wf (Rr NX))=true:=by kernel_rfl
theorem aa9:(laidOutB Ly)=true:=by kernel_rfl
theorem aba:(mapsRowed Ly)=true:=by kernel_rfl
theorem aaX:((M_.inPlace==Ly.inPlace 7))=true:=by kernel_rfl
theorem aaY:((M_.unfollowed==Ly.unfollowed 7))=true:=by kernel_rfl
theorem aaZ:((M_.recurses==Ly.recurses 7))=true:=by kernel_rfl
theorem aa0:((M_.named==Ly.varsNamed 7))=true:=by kernel_rfl
theorem aaR:(Ly.stopsHeard)=true:=by kernel_rfl
theorem aa1:(Ly.mayEnter)=true:=by kernel_rfl
theorem aaS:((M_.lifted==Ly.liftsFinal))=true:=by kernel_rfl
theorem aaT:((Ly.make==M' M_.make))=true:=by kernel_rfl
theorem aaF:joinedFacts Ly 7 TC NX M_=true:=Oq aa8 aa9 aba (by kernel_rfl) (by kernel_rfl) (by kernel_rfl) (by kernel_rfl) (by kernel_rfl) (by kernel_rfl) aaX aaY aaZ aa0 (by kernel_rfl) (by kernel_rfl) (by kernel_rfl) (by kernel_rfl) (by kernel_rfl) (by kernel_rfl) (by kernel_rfl) (by kernel_rfl) (by kernel_rfl) (by kernel_rfl) (by kernel_rfl) aaR aa1 aaS aaT (by kernel_rfl) (by kernel_rfl) (by kernel_rfl) (by kernel_rfl)
end
section
open Go Go.RowKit Go.Shelf Go.Maps
theorem GD {d:DF} (rt:Rt d) (b:List Nat) (hb:∀ c∈b,c<256) (NI:b.length<=1000000) {m:Nat} (hm:m=(d.mr.getD (bG d 0 b) []).length) (w:World) (v bv:Ov) (h:dr w v d) (OQ:ew cU w bv b): ah 34 #[v,bv] w fun e w'=>∃ a c,e=N_ (Lw a m c)/\bQ aM w' (Lw a m c) (d.mr.getD (bG d 0 b) [])/\aa w w':=by
 have CM:Se (∀ W,aa w W->ah 78 #[v,bv] W fun e w'=>∃ a c,e=N_ (St #[Lw a m c,L7 Ow 0])/\bQ aM w' (Lw a m c) (d.mr.getD (bG d 0 b) [])/\aa W w'):=L_ fun W hW=>(zg v bv d rt rt.ZF b hb NI W (h.below hW) (OQ.below hW)).mono fun e w' ⟨u,h1,h2,h3⟩=>by
  rw[<-hm]at h2;obtain⟨a,c,rfl⟩:=ownsRow_form h2;exact⟨a,c,h1,cZ h2 hm,h3⟩
 obtain⟨a0,c0,a1,c1,a2,c2,rfl⟩:=h.form;obtain⟨ba,bc,rfl⟩:=OQ.form;obtain⟨n0,dw⟩:=ag d.cl.length;obtain⟨n1,fH⟩:=ag d.nx.length;obtain⟨n2,jg⟩:=ag d.mr.length;obtain⟨bn,aen⟩:=ag b.length;rw[<-dw, <-fH, <-jg, <-aen]at CM ⊢;clear h OQ dw fH jg aen hm;go_enter Tryz.func34,Tryz.ntmps34;go_upto_region 1 with fail
 refine aA ?_;intro V hV;have B0:Se (ar V w.heap.size #[Lw a0 n0 c0,Lw a1 n1 c1,Lw a2 n2 c2] 29):=L_ (by rw[hV];exact ar.new _ _ _);have X0:Se (aa w V):=L_ (by rw[hV];exact((Ext.refl w).alloc _).below);clear hV;obtain⟨⟨i0,i1,i2⟩,_⟩:=B0.three;go_wp2_with fail
 refine(CM V X0).mono ?_;rintro e w1 ⟨a,c,rfl,hs,hx⟩;have HS:=L_ hs;have X1:=L_ (X0.trans (hx.mono X0.size));clear hs hx i0 i1 i2 B0 X0;go_wp2;go_ret;exact⟨a,c,rfl,HS,X1⟩
end
section
open Go Go.RowKit
def Dk (d:DF) (s:List Nat):List Int:=d.mr.getD (bG d 0 s) []
end
section
open Go Go.RowKit Go.Shelf Go.Maps
theorem abo {d:DF} (rt:Rt d) (hM:d.nx.length*d.nx.length<=900000) (s t:Nat) (hs:s<d.nx.length) (ht:t<d.nx.length) (w:World) (v:Ov) (h:dr w v d): ah 18 #[v,L7 Ow s,L7 Ow t] w (JP (cB d d (s,t)) w):=by
 have CL:Se (∀ W,aa w W->ah 68 #[v,v,Wr #[L7 Ow s,L7 Ow t]] W (PartsAt d d (s,t) W)):=L_ fun W hW=>JO rt rt (s,t) ⟨hs,ht⟩ hM W v v (h.below hW) (h.below hW)
 have CR:Se (∀ W,aa w W->ah 16 #[v] W fun e w'=>e=N_ (UP On)/\aa W w'):=L_ fun W hW=>j5 rt v W (h.below hW)
 obtain⟨n0,dw⟩:=ag d.cl.length;obtain⟨n1,fH⟩:=ag d.nx.length;obtain⟨n2,jg⟩:=ag d.mr.length;obtain⟨a0,c0,a1,c1,a2,c2,rfl⟩:=h.form;rw[<-dw, <-fH, <-jg]at h CR CL ⊢;have H:=L_ h;have sH:=L_ fH;rw[<-fH]at hs ht hM;obtain⟨r,hr⟩:=ag (cB d d (s,t));unfold PartsAt at CL;rw[<-hr]at CL ⊢;clear h dw fH jg hr;go_enter Tryz.func18,Tryz.ntmps18;go_upto_region 1 with fail
 refine aA ?_;intro V hV;have B0:Se (ar V w.heap.size #[Lw a0 n0 c0,Lw a1 n1 c1,Lw a2 n2 c2] 29):=L_ (by rw[hV];exact ar.new w _ _);have X0:Se (aa w V):=L_ (by rw[hV];exact((Ext.refl w).alloc _).below);clear hV;obtain⟨p0,p1,p2⟩:=bN.qC B0;go_wp2_with fail
 refine(CR V X0).mono ?_;rintro e w1 ⟨rfl,hx⟩;have B1:=L_ (B0.below hx B0.lt);have X1:=L_ (X0.trans (hx.mono X0.size));clear hx p0 p1 p2 B0 X0 CR;obtain⟨p0,p1,p2⟩:=bN.qC B1;have d1:decide ((s:Int)<0)=false:=decide_eq_false (by omega);have d2:decide ((n1:Int)<=s)=false:=decide_eq_false (by omega);have d3:decide ((t:Int)<0)=false:=decide_eq_false (by omega);have d4:decide ((n1:Int)<=t)=false:=decide_eq_false (by omega);have d5:¬ ((n1:Int)<=s):=by omega
 have d6:¬ ((n1:Int)<=t):=by omega
 have d7:¬ (n1<=s):=by omega
 have d8:¬ (n1<=t):=by omega
 go_wp2_with fail
 refine(CL w1 X1).mono ?_;rintro e w2 ⟨u,rfl,hu,hx⟩;obtain⟨ua,uc,rfl⟩:=hu.form;have HU:=L_ hu;have X2:=L_ (X1.trans (hx.mono X1.size));obtain⟨ln,Qt⟩:=ag ((r.getD []).length);rw[<-Qt]at HU ⊢;obtain⟨q,hq⟩:=ag r.isSome;rw[<-hq];have WQ:=L_ Qt;have HQ:=L_ hq;clear hu hx Qt hq p0 p1 p2 d1 d2 d3 d4 d5 d6 d7 d8 CL;go_wp2;exact R_ (v:=St #[Lw ua ln uc,UP (!q),L7 Ow 0]) (by simp[results,Tryz.results18,go_sem]) rfl ⟨ua,uc,by rw[<-WQ.out, <-HQ.out],by rw[<-WQ.out];exact HU,X2⟩
end
section
open Go Go.RowKit
def aX.slQ {α:Type} (enc:α->Ov) (n:Nat) (l:List α):aX (Move SO (fun _=>False)) where
 P:=fun v=>∃ a c,v=Lw a n c
 H:=fun v W=>bQ enc W v l
 ot:=Lw MY n 0
 pw:=⟨MY,0,rfl⟩
 st:=fun _ _ _ hm _ h=>h.below hm.below
end
section
open Go Go.RowKit Go.Shelf Go.Maps
def Oz (l:List Int) (n:Nat) (W:World) (e:Ending) (w':World):Prop:=∃ x y,e=N_ (Lw x n y)/\bQ aM w' (Lw x n y) l/\aa W w'
theorem TD {d:DF} (rt:Rt d) (s:List Nat):(Dk d s).length<=1000000:=by
 unfold Dk;rw[bu];cases h:d.mr[bG d 0 s]? with
 | none=>exact S' _
 | some m=>exact rt.ZF.Yw m (aw h)
theorem TE {d:DF} (rt:Rt d) (s:List Nat) (hs:∀ c∈s,c<256) (hn:s.length<=1000000) {l:List Int} (hl:l=Dk d s) {n:Nat} (hm:n=l.length) (W:World) (v bv:Ov) (h:dr W v d) (hb:ew cU W bv s):ah 34 #[v,bv] W (Oz l n W):=by subst hl;exact GD rt s hs hn hm W v bv h hb
theorem qP {l1 l2:List Int} (hn:l1.length<=1000000) {b:Bool} (hb:(l1==l2)=b) (W:World) (u v:Ov) (h:bQ aM W u l1) (h':bQ aM W v l2):ah 33 #[u,v] W fun e w'=>e=N_ (UP b)/\aa W w':=(nw u v l1 l2 W h h' hn).mono fun e w' ⟨he,hx⟩=>by
 rw[hb]at he;exact⟨he,hx.below⟩
def fnL (l:List Int) (s:Nat):Nat:=(l.getD s 0).toNat
def abj (l:List Int) (n:Nat):Prop:=∀ s,s<n->0<=l.getD s 0/\fnL l s<=fj (fnL l) s
def mOk (d:DF) (l:List Int):Prop:=l.length=d.nx.length/\abj l d.nx.length/\abi d (fnL l)
theorem abk {p:Nat->Nat} :∀ {n:Nat},(∀ s,s<n->p s<=fj p s)->fj p n<=n
 | 0,_=>aG _
 | n+1,h=>by
  have h1:=abk (p:=p) (n:=n) fun s hs=>h s (by omega)
  have h2:=h n (by omega);rw[fj];omega
theorem aaM {d:DF} (rt:Rt d) (l:List Int) (w:World) (v pv:Ov) (hp:bQ aM w pv l) (h:dr w v d) {m0 m1 m2:Nat} (vn:m0=(dn d (fnL l)).cl.length) (rY:m1=(dn d (fnL l)).nx.length) (tT:m2=(dn d (fnL l)).mr.length): ah 39 #[v,pv] w fun e w'=>(mOk d l/\qB m0 m1 m2 0 (dn d (fnL l)) w e w')\/(¬mOk d l/\e=N_ (St #[Wr #[Lw MY 0 0,Lw MY 0 0,Lw MY 0 0],L7 Ow 220])/\aa w w'):=by
 have CR:Se (∀ W,aa w W->ah 16 #[v] W fun e w'=>e=N_ (UP On)/\aa W w'):=L_ fun W hW=>j5 rt v W (h.below hW)
 have CM:Se (∀ W,aa w W->l.length=d.nx.length->abj l d.nx.length->ah 81 #[v,pv] W (Gg m0 m1 m2 (dn d (fnL l)) W)):=L_ fun W hW hlen pE=>Od rt (fnL l) vn rY tT W v pv (h.below hW) (by
  have h5:bQ aM W pv ((N' d.nx.length).map fun s=>((fnL l s:Nat):Int)):=by
   have e:(N' d.nx.length).map (fun s=>((fnL l s:Nat):Int))=l:=by
    refine List.ext_getElem? fun i=>?_
    rw[aO];by_cases hi:i<d.nx.length
    ·have h6:=(pE i hi).1
     rw[TB hi,az (by rw[hlen];exact hi)];have e5:l.getD i 0=l[i]'(by rw[hlen];exact hi):=by rw[bu,az (by rw[hlen];exact hi)];rfl
     show M' (((l.getD i 0).toNat:Nat):Int)=_;rw[e5]at h6 ⊢;rw[Oy h6]
    ·rw[aS (by simpa using hi),aS (by omega)];rfl
   rw[e];exact hp.below hW
  rcases h5 with⟨e1,e2⟩ | ⟨b,off,cap,e1,e2,e3,e4⟩
  ·exact .inl ⟨e1,by simpa using e2⟩
  ·refine .inr ⟨b,off,cap,by rw[e1,aQ,aQ],e2,by rw[aQ]at e3 ⊢;exact e3,fun i x hx=>?_⟩
   rw[aO]at hx;obtain⟨y,hy,rfl⟩:=Ox.1 hx
   exact e4 i _ (by rw[aO,hy];rfl))
 have CE:Se (∀ (x y:List Int) (u u':Ov) (W:World),bQ aM W u x->bQ aM W u' y->x.length<=1000000->ah 33 #[u,u'] W fun e w'=>e=N_ (UP (x==y))/\Ext W w'):=L_ fun x y u u' W h1 h2 h3=>AK u u' x y W (.inl h1) (.inl h2) h3
 have yB:=rt.mr;obtain⟨ln,Qt⟩:=ag l.length;obtain⟨pa,pc,rfl⟩:=hp.form;rw[<-Qt]at hp CM;have HPE:Se (∀ s,s<ln->∃ b off,pa=M' ⟨b,off,MY⟩/\b<w.heap.size/\w.cell? ⟨b,off+s,MY⟩=M' (L7 Ow (l.getD s 0))):=L_ fun s hs=>by
  obtain⟨b,off,e1,e2,e3⟩:=hp.elem (i:=s) (x:=l.getD s 0) (by rw[bu,az (by rw[<-Qt];exact hs)];rfl);exact⟨b,off,e1,e2,e3⟩
 have RT:=L_ rt;have WQ:=L_ Qt;have HM0:=L_ vn;have HM1:=L_ rY;have HM2:=L_ tT;have MAT:Se (abj l d.nx.length->∀ b,b<fj (fnL l) d.nx.length->b<m1/\b<m2/\∃ s,s<d.nx.length/\(dn d (fnL l)).nx[b]? =M' ((d.nx.getD s []).map fun t=>((fnL l t.toNat:Nat):Int))/\(dn d (fnL l)).mr[b]? =M' (d.mr.getD s [])):=L_ fun pE b hb=>by
  obtain⟨s,h1,_,h3,h4⟩:=j3 (d:=d) (p:=fnL l) (n:=d.nx.length) (fun s hs=>(pE s hs).2) b hb;exact⟨by rw[rY];exact(Ot.1 h3).1,by rw[tT];exact(Ot.1 h4).1,s,h1,h3,h4⟩
 obtain⟨n0,dw⟩:=ag d.cl.length;obtain⟨n1,fH⟩:=ag d.nx.length;obtain⟨n2,jg⟩:=ag d.mr.length;obtain⟨a0,c0,a1,c1,a2,c2,rfl⟩:=h.form;rw[yB]at jg;obtain rfl:n2=n1:=jg.trans fH.symm;rw[yB, <-dw, <-fH]at h CR;rw[<-dw,yB, <-fH]at CM;rw[yB, <-dw, <-fH, <-Qt];have H:=L_ h;have sH:=L_ fH;have zM:=L_ dw;have RA:n2<=4000:=by rw[fH];exact rt.le
 have hK4:n0<=256:=by have:=rt.Bk;omega
 clear h dw fH jg hp Qt yB rt vn rY tT;go_enter Tryz.func39,Tryz.ntmps39;go_upto_region 1 with fail
 refine aA ?_;intro V hV;have B0:Se (ar V w.heap.size #[Lw a0 n0 c0,Lw a1 n2 c1,Lw a2 n2 c2] 29):=L_ (by rw[hV];exact(ar.new w _ _).alloc _);have R0:Se (ar V (w.heap.size+1) #[Lw MY 0 0,Lw MY 0 0,Lw MY 0 0] 29):=L_ (by rw[hV];exact(ar.new (w.alloc _) _ _).at (by simp));have X0:Se (aa w V):=L_ (by rw[hV];exact(((Ext.refl w).alloc _).alloc _).below);clear hV;obtain⟨p0,p1,p2⟩:=bN.qC B0;go_wp2_with fail
 refine(CR V X0).mono ?_;rintro e w1 ⟨rfl,hx⟩;have B1:=L_ (B0.below hx B0.lt);have R1:=L_ (R0.below hx R0.lt);have hV1:w.heap.size+1<V.heap.size:=R0.lt;have hW1:V.heap.size<=w1.heap.size:=hx.size;have X1:=L_ (X0.trans (hx.mono X0.size));clear hx p0 p1 p2 B0 X0 CR R0;have Xh:w.heap.size+1<w1.heap.size:=by omega
 clear hV1 hW1;have jB:(0:Int)<=n2:=by omega
 obtain⟨p0,p1,p2⟩:=bN.qC B1;by_cases Qt:ln=n2;case neg=>
  have d1:((ln:Int)==(n2:Int))=false:=beq_eq_false_iff_ne.2 (by omega);have d2:((ln:Int) != (n2:Int))=true:=by simp;omega
  have d3:(ln==n2)=false:=beq_eq_false_iff_ne.2 Qt;obtain⟨⟨l0,l1,l2⟩,z0,z1,z2⟩:=R1.three;have aa2:Se (¬mOk d l):=L_ (fun h=>Qt (by rw[WQ.out,sH.out];exact h.1));go_wp2;refine bA ?_;intro W9 gj;have E9:Se (ar W9 (w.heap.size+1) #[Lw MY 0 0,Lw MY 0 0,Lw MY 0 0] 29/\ae (· ≠w.heap.size+1) w1 W9):=by rw[gj];exact L_ ⟨R1.yl,fE _ _ _ _ _⟩
  clear gj z0 z1 z2 l0 l1 l2;obtain⟨m0,m1,m2⟩:=bN.qC E9.1;refine R_ (v:=St #[Wr #[Lw MY 0 0,Lw MY 0 0,Lw MY 0 0],L7 Ow 220]) (by simp[results,RC,go_sem,m0,m1,m2]) rfl (.inr ⟨aa2,rfl,X1.trans (E9.2.mono fun x (hx:x<w.heap.size)=>by show x≠w.heap.size+1;omega:ae (· <w.heap.size) w1 W9).below⟩)
 subst Qt;go_wp2_with fail
 go_loopw [6,27] (fun nv iv wr=>∃ k:Nat,k<=ln/\iv=L7 Ow k/\nv=L7 Ow (fj (fnL l) k)/\(∀ s,s<k->0<=l.getD s 0/\fnL l s<=fj (fnL l) s)/\wr=w1) (fun _ iv _=>ln-(intOf iv).toNat)
 case atStart=>exact⟨0,S' _,rfl,rfl,fun s hs=>absurd hs (X_ _),rfl⟩
 case round=>
  obtain⟨k,hk,rfl,rfl,pE,hw⟩:=hrel;subst hw;have km:=L_ pE;clear pE;by_cases hlt:k<ln
  ·have eE:(k:Int)<ln:=by omega
   obtain⟨pb,po,rfl,oA,hpc⟩:=HPE.out k hlt;replace hpc:=((ae.ai X1 fun _ h=>h:ae (· <w.heap.size) w wr).cell (p:=⟨pb,po+k,MY⟩) oA).trans hpc;obtain⟨x,hx⟩:=ag (l.getD k 0);obtain⟨t,ht⟩:=ag (fj (fnL l) k);have eT:t<=k:=by rw[ht];exact abk fun s hs=>(km s hs).2
   rw[<-hx]at hpc;rw[<-ht];have HXE:=L_ hx;have HTE:=L_ ht;clear hx ht;by_cases hx0:x<0;case pos=>
    have d1:decide (x<0)=true:=decide_eq_true hx0;obtain⟨⟨l0,l1,l2⟩,z0,z1,z2⟩:=R1.three;have aa2:Se (¬mOk d l):=L_ (fun h=>by have h5:=(h.2.1 k (by rw[<-sH.out];exact hlt)).1;have h6:=HXE.out;omega);go_wp2;refine bA ?_;intro W9 gj;have E9:Se (ar W9 (w.heap.size+1) #[Lw MY 0 0,Lw MY 0 0,Lw MY 0 0] 29/\ae (· ≠w.heap.size+1) wr W9):=by rw[gj];exact L_ ⟨R1.yl,fE _ _ _ _ _⟩
    clear gj z0 z1 z2 l0 l1 l2;obtain⟨m0,m1,m2⟩:=bN.qC E9.1;refine R_ (v:=St #[Wr #[Lw MY 0 0,Lw MY 0 0,Lw MY 0 0],L7 Ow 220]) (by simp[results,RC,go_sem,m0,m1,m2]) rfl (.inr ⟨aa2,rfl,X1.trans (E9.2.mono fun x (hx:x<w.heap.size)=>by show x≠w.heap.size+1;omega:ae (· <w.heap.size) wr W9).below⟩)
   have d1:decide (x<0)=false:=decide_eq_false hx0;by_cases hxt:(t:Int)<x;case pos=>
    have d2:decide ((t:Int)<x)=true:=decide_eq_true hxt;obtain⟨⟨l0,l1,l2⟩,z0,z1,z2⟩:=R1.three;have aa2:Se (¬mOk d l):=L_ (fun h=>by have h5:=(h.2.1 k (by rw[<-sH.out];exact hlt)).2;have h6:=HXE.out;have h7:=HTE.out;unfold fnL at h5 h7;omega);go_wp2;refine bA ?_;intro W9 gj;have E9:Se (ar W9 (w.heap.size+1) #[Lw MY 0 0,Lw MY 0 0,Lw MY 0 0] 29/\ae (· ≠w.heap.size+1) wr W9):=by rw[gj];exact L_ ⟨R1.yl,fE _ _ _ _ _⟩
    clear gj z0 z1 z2 l0 l1 l2;obtain⟨m0,m1,m2⟩:=bN.qC E9.1;refine R_ (v:=St #[Wr #[Lw MY 0 0,Lw MY 0 0,Lw MY 0 0],L7 Ow 220]) (by simp[results,RC,go_sem,m0,m1,m2]) rfl (.inr ⟨aa2,rfl,X1.trans (E9.2.mono fun x (hx:x<w.heap.size)=>by show x≠w.heap.size+1;omega:ae (· <w.heap.size) wr W9).below⟩)
   have d2:decide ((t:Int)<x)=false:=decide_eq_false hxt;obtain⟨xn,rfl⟩:∃ xn:Nat,x=(xn:Int):=⟨x.toNat,by omega⟩;have hxn:xn<=t:=by omega
   have XJ:Ow.wrap ((xn:Int)+1)=((xn+1:Nat):Int):=by rw[RE _ (by omega)];omega
   have HST:Se (fj (fnL l) (k+1)=max t (xn+1)):=L_ (by
    have e:fnL l k=xn:=by unfold fnL;rw[<-HXE.out];rfl
    rw[fj, <-HTE.out,e])
   go_wp2;go_roundw;case rel=>
    refine⟨k+1,by omega,by go_num,?_,fun s hs=>?_,trivial⟩
    ·rw[HST.out];go_num
    ·by_cases e:s=k
     ·subst e
      rw[<-HXE.out, <-HTE.out];exact⟨by omega,by unfold fnL;rw[<-HXE.out];exact hxn⟩
     ·exact km s (by omega)
   case measure=>simp[intOf];omega
  ·obtain rfl:k=ln:=by omega
   have eE:¬ ((k:Int)<k):=by omega
   have NUM:Se (abj l d.nx.length):=L_ (by rw[<-sH.out];exact km);have HLE:Se (l.length=d.nx.length):=L_ (by rw[<-WQ.out,sH.out]);clear km;obtain⟨wb,rfl⟩:=ag (wr:World);go_wp2_with fail
   refine(CM wb X1 (by first | trivial | rfl) (by rw[sH.out];exact NUM)).mono ?_;rintro e w4 ⟨x0,y0,x1,y1,x2,y2,rfl,ho,hx⟩;have O4:=L_ ho;have B4:=L_ (B1.below hx B1.lt);have R4:=L_ (R1.below hx R1.lt);have X4:=L_ (X1.trans (hx.mono X1.size));have hw4:wb.heap.size<=w4.heap.size:=hx.size;clear ho hx B1 R1 X1 CM p0 p1 p2;go_wp2_with fail
   refine aA ?_;intro V5 hV;obtain⟨mb,oH⟩:=ag w4.heap.size;have M5:Se (ar V5 mb #[Lw x0 m0 y0,Lw x1 m1 y1,Lw x2 m2 y2] 29):=L_ (by rw[hV,oH];exact ar.new _ _ _);have Zo:aa w4 V5:=by rw[hV];exact((Ext.refl _).alloc _).below
   clear hV;have O5:=L_ (O4.below Zo);have B5:=L_ (B4.below Zo B4.lt);have R5:=L_ (R4.below Zo R4.lt);have X5:=L_ (X4.trans (Zo.mono X4.size));have hmw:w.heap.size+1<mb:=by omega
   have hm5:mb<V5.heap.size:=M5.lt;rw[<-oH];clear Zo O4 B4 R4 X4 oH;have HL5:Se (∀ W,aa V5 W->iZ W (Lw x1 m1 y1) (dn d (fnL l)).nx/\iZ W (Lw x2 m2 y2) (dn d (fnL l)).mr):=L_ fun W hW=>by
    obtain⟨u0,u1,u2,e,_,h1,h2⟩:=(O5.below hW).df;cases e;exact⟨h1,h2⟩
   have HD5:Se (∀ W,aa w W->iZ W (Lw a1 k c1) d.nx/\iZ W (Lw a2 k c2) d.mr):=L_ fun W hW=>by
    obtain⟨u0,u1,u2,e,_,h1,h2⟩:=H.below hW;cases e;exact⟨h1,h2⟩
   clear eE hlt hk;go_loopw [49] (fun iv wr=>∃ s:Nat,s<=k/\iv=L7 Ow s/\(∀ i,i<s->(dn d (fnL l)).mr.getD (fnL l i) []=d.mr.getD i []/\∀ j,j<d.cl.length->en (dn d (fnL l)) (fnL l i) j=fnL l (en d i j))/\aa V5 wr) (fun iv _=>k-(intOf iv).toNat);case atStart=>exact⟨0,S' _,rfl,fun s hs=>absurd hs (X_ _),S_ _ _⟩
   case round=>
    obtain⟨s,hs,rfl,pE,hx⟩:=hrel;obtain⟨wo,rfl⟩:=ag (wr:World);have km:=L_ pE;have HX:=L_ hx;have hV5:w.heap.size<=V5.heap.size:=X5.size;have XO:=L_ (X5.trans (hx.mono hV5));have RO:=L_ (R5.below hx R5.lt);have BO:=L_ (B5.below hx B5.lt);have MO:=L_ (M5.below hx M5.lt);clear pE hx;by_cases hlt:s<k
    ·have GI:(s:Int)<k:=by omega
     have kS:s<d.nx.length:=by rw[<-sH.out];exact hlt
     obtain⟨pb,po,rfl,oA,hpc⟩:=HPE.out s hlt;replace hpc:=((ae.ai XO fun _ h=>h:ae (· <w.heap.size) w wo).cell (p:=⟨pb,po+s,MY⟩) oA).trans hpc;obtain⟨b,hb⟩:=ag (fnL l s);have hbl:l.getD s 0=(b:Int):=by rw[hb];unfold fnL;have:=(NUM.out s kS).1;omega
     rw[hbl]at hpc;obtain⟨asS,asT,s',hs',hMn,hMm⟩:=MAT.out NUM b (by rw[hb];exact iM kS);have asU:(b:Int)<m1:=by omega
     have asV:(b:Int)<m2:=by omega
     have HB:=L_ hb;obtain⟨g2,o2,Xq,Xr,e2,hg2,hc2,xI⟩:=(HL5.out wo HX).2.elem hMm;cases e2;obtain⟨g3,o3,PF,cp3,e3,hg3,hc3,af6⟩:=(HD5.out wo XO).2.elem (i:=s) (l:=d.mr.getD s []) (aW [] (by rw[RT.mr];exact kS));cases e3;have HMM:=L_ hMm;have HMN:=L_ hMn;have pd:(d.mr.getD s' []).length<=1000000:=RT.ZF.Yw _ (aw (aW [] (by rw[RT.mr];exact hs')));have CE1:Se (∀ W,aa wo W->ah 33 #[Lw Xq (d.mr.getD s' []).length Xr,Lw PF (d.mr.getD s []).length cp3] W fun e w'=>e=N_ (UP (d.mr.getD s' []==d.mr.getD s []))/\Ext W w'):=L_ fun W hW=>CE _ _ _ _ W (xI.below hW) (af6.below hW) pd
     obtain⟨q,hq⟩:=ag ((d.mr.getD s' []==d.mr.getD s []));rw[<-hq]at CE1;have HQ:=L_ hq;obtain⟨l2,hl2⟩:=ag ((d.mr.getD s' []).length);obtain⟨l3,Cm⟩:=ag ((d.mr.getD s []).length);rw[<-hl2]at hc2;rw[<-Cm]at hc3;rw[<-hl2, <-Cm]at CE1;obtain⟨b0,b1,b2⟩:=bN.qC BO;obtain⟨k0,k1,k2⟩:=bN.qC MO;clear hb hbl hMn hMm xI af6 hq hl2 Cm pd;go_upto_region 17 with fail
     refine aL SO (fun _=>False) (by kernel_rfl) 10 [0,1,0,7,15,0,32,0,224,480,1023,2047] (fun i=>i==10) (by kernel_rfl) (fun _=>aX.any _) ?_;intro C hC hne;have HC:=L_ hC;have f0:=aC hC (p:=⟨mb,2,MY⟩) MO.lt (fun h=>h) k2;have f1:=aC hC (p:=⟨g2,o2+b,MY⟩) hg2 (fun h=>h) hc2;have f2:=aC hC (p:=⟨w.heap.size,2,MY⟩) BO.lt (fun h=>h) b2;have f3:=aC hC (p:=⟨g3,o3+s,MY⟩) hg3 (fun h=>h) hc3;clear hC b0 b1 b2 k0 k1 k2 hc2 hc3
     repeat (refine au (fun K hK=>?_);first | (refine cg rfl ?_;try go_simp;refine hK _ _ ?_;clear hK K) | (refine bV rfl rfl ?_;unfold aF;go_simp;refine hK _ _ ?_;clear hK K))
     refine bM (fun W hW hH=>?_);have hM:=(HC.out W).1 hW;have hMs:V5.heap.size<=wo.heap.size:=HX.size;have kj:Se (aa V5 W):=L_ (HX.trans (hM.below.mono hMs));have HWO:=L_ hM.below;clear hM hW hH HC hne f0 f1 f2 f3;go_wp2_with fail
     refine(CE1 W HWO).mono ?_;rintro e w6 ⟨rfl,hx⟩;have af7:V5.heap.size<=W.heap.size:=kj.size;have Ws:=L_ (kj.trans (hx.below.mono af7));have XO6:=L_ (X5.trans (Ws.mono hV5));have RO6:=L_ (R5.below Ws R5.lt);have BO6:=L_ (B5.below Ws B5.lt);have MO6:=L_ (M5.below Ws M5.lt);clear hx kj HWO CE1 HX XO RO BO MO hpc hMs af7;have af8:Se ((dn d (fnL l)).mr.getD b []=d.mr.getD s' []):=L_ (getD_some HMM);cases q with
     | false=>
      obtain⟨⟨l0,l1,l2⟩,z0,z1,z2⟩:=RO6.three;have aa2:Se (¬mOk d l):=L_ (fun h=>by have h5:=(h.2.2 s kS).1;rw[<-HB.out,af8.out]at h5;have h6:=HQ.out;rw[h5,beq_self_eq_true]at h6;cases h6);go_wp2;refine bA ?_;intro W9 gj;have E9:Se (ar W9 (w.heap.size+1) #[Lw MY 0 0,Lw MY 0 0,Lw MY 0 0] 29/\ae (· ≠w.heap.size+1) w6 W9):=by rw[gj];exact L_ ⟨RO6.yl,fE _ _ _ _ _⟩
      clear gj z0 z1 z2 l0 l1 l2;obtain⟨m0,m1,m2⟩:=bN.qC E9.1;refine R_ (v:=St #[Wr #[Lw MY 0 0,Lw MY 0 0,Lw MY 0 0],L7 Ow 220]) (by simp[results,RC,go_sem,m0,m1,m2]) rfl (.inr ⟨aa2,rfl,XO6.trans (E9.2.mono fun x (hx:x<w.heap.size)=>by show x≠w.heap.size+1;omega:ae (· <w.heap.size) w6 W9).below⟩)
     | true=>
     have HQE:Se (d.mr.getD s' []=d.mr.getD s []):=L_ (beq_iff_eq.1 HQ.symm);obtain⟨g4,o4,XC,cp4,e4,hg4,hc4,acJ⟩:=(HL5.out w6 Ws).1.elem HMN;cases e4;obtain⟨g5,o5,ad5,cp5,e5,SI,hc5,acK⟩:=(HD5.out w6 XO6).1.elem (i:=s) (l:=d.nx.getD s []) (aW [] kS);cases e5;rw[aQ,RT.len s' hs', <-zM.out]at hc4 acJ;rw[RT.len s kS, <-zM.out]at hc5 acK;obtain⟨b0,b1,b2⟩:=bN.qC BO6;obtain⟨k0,k1,k2⟩:=bN.qC MO6;have ak1:=L_ acJ;have ak2:=L_ acK;have HC4:=L_ hc4;clear acJ acK HQ;go_wp2_with fail
     clear hc4 hc5 b0 b1 b2 k0 k1 k2;go_loopw [73] (fun jv wr=>∃ j:Nat,j<=n0/\jv=L7 Ow j/\(∀ i,i<j->en (dn d (fnL l)) b i=fnL l (en d s i))/\aa w6 wr) (fun jv _=>n0-(intOf jv).toNat);case atStart=>exact⟨0,S' _,rfl,fun i hi=>absurd hi (X_ _),S_ _ _⟩
     case round=>
      obtain⟨j,hj,rfl,hokj,hx⟩:=hrel;obtain⟨wi,rfl⟩:=ag (wr:World);have HOJ:=L_ hokj;have uM:V5.heap.size<=w6.heap.size:=Ws.size;have HXI:=L_ (Ws.trans (hx.mono uM));have XOI:=L_ (X5.trans (HXI.mono hV5));have ROI:=L_ (R5.below HXI R5.lt);have MOI:=L_ (M5.below HXI M5.lt);have HX7:=L_ hx;clear hokj hx;by_cases hjn:j<n0
      ·have ku:(j:Int)<n0:=by omega
       have hjK:j<d.cl.length:=by rw[<-zM.out];exact hjn
       obtain⟨ht1,ht2⟩:=tG RT kS hjK;obtain⟨ht3,ht4⟩:=tG RT hs' hjK;obtain⟨t,ht⟩:=ag (en d s j);obtain⟨t',ht'⟩:=ag (en d s' j);rw[<-ht]at ht1 ht2;rw[<-ht']at ht3 ht4;have eT:t<k:=by rw[sH.out];exact ht1
       have hti:(t:Int)<k:=by omega
       obtain⟨q5,w5',e5,hq5,hd5⟩:=(ak2.below HX7).elem ht2;cases e5;replace hd5:wi.cell? ⟨q5,w5'+j,MY⟩=M' (L7 Ow t):=hd5;obtain⟨q4,w4',e4,hq4,hd4⟩:=(ak1.below HX7).elem (i:=j) (x:=((fnL l t':Nat):Int)) (by rw[aO,ht4];rfl);cases e4;obtain⟨y,hy⟩:=ag (fnL l t');obtain⟨z,hz⟩:=ag (fnL l t);rw[<-hy]at hd4;replace hd4:wi.cell? ⟨q4,w4'+j,MY⟩=M' (L7 Ow y):=hd4;obtain⟨pb2,po2,e6,as5,acL⟩:=HPE.out t eT;cases e6;have hzl:l.getD t 0=(z:Int):=by rw[hz];unfold fnL;have:=(NUM.out t ht1).1;omega
       rw[hzl]at acL;replace acL:=((ae.ai XOI fun _ h=>h:ae (· <w.heap.size) w wi).cell (p:=⟨pb,po+t,MY⟩) oA).trans acL;have hc4:=((ae.ai HX7 fun _ h=>h:ae (· <w6.heap.size) w6 wi).cell (p:=⟨g4,o4+b,MY⟩) hg4).trans HC4
       have GX:Se (en (dn d (fnL l)) b j=fnL l (en d s j)↔y=z):=L_ (by
        have e:en (dn d (fnL l)) b j=y:=by unfold en;rw[getD_some HMN.out,getD_some (show((d.nx.getD s' []).map fun t=>((fnL l t.toNat:Nat):Int))[j]? =M' ((y:Nat):Int) by rw[aO,ht4,hy];rfl)];rfl
        rw[e, <-ht, <-hz])
       obtain⟨k0,k1,k2⟩:=bN.qC MOI;clear ht ht' hy hz hzl ht2 ht4;by_cases hyz:y=z
       ·have d1:((y:Int) != (z:Int))=false:=by rw[hyz];simp
        have d2:((y:Int)==(z:Int))=true:=by rw[hyz];exact beq_self_eq_true _
        have HYZ:=L_ hyz;subst hyz;go_wp2_with fail
        go_quiet (fail)
        go_wp2_with fail
        go_roundw
        case rel=>
         refine⟨j+1,by omega,by go_num,fun i hi=>?_,((ae.ai HX7 fun _ h=>h:ae (· <w6.heap.size) w6 wi).drewN _).below⟩;by_cases e:i=j
         ·subst e;exact GX.2 (by first | trivial | rfl)
         ·exact HOJ i (by omega)
        case measure=>simp[intOf];omega
       ·have af9:¬ ((y:Int)=(z:Int)):=fun e=>hyz (by exact_mod_cast e)
        have d1:((y:Int) != (z:Int))=true:=bne_iff_ne.2 af9;have d2:((y:Int)==(z:Int))=false:=beq_eq_false_iff_ne.2 af9;have d3:(y==z)=false:=beq_eq_false_iff_ne.2 hyz;go_wp2_with fail
        go_quiet (fail)
        go_upto_region 23 with fail
        refine aA ?_;intro Zu hwq;have DB:Se (aa w Zu):=L_ (by rw[hwq];exact((ae.ai XOI fun _ h=>h:ae (· <w.heap.size) w wi).drewN _).below);have BP:Se (ar Zu (w.heap.size+1) #[Lw MY 0 0,Lw MY 0 0,Lw MY 0 0] 29):=L_ (by rw[hwq];exact ROI.keeps ((ae.refl (fun _=>True) wi).drewN _) trivial);clear hwq;obtain⟨⟨l0,l1,l2⟩,z0,z1,z2⟩:=BP.three;have aa2:Se (¬mOk d l):=L_ (fun h=>by have h5:=(h.2.2 s kS).2 j hjK;rw[<-HB.out]at h5;exact hyz (GX.1 h5));go_wp2;refine bA ?_;intro W9 gj;have E9:Se (ar W9 (w.heap.size+1) #[Lw MY 0 0,Lw MY 0 0,Lw MY 0 0] 29/\ae (· ≠w.heap.size+1) Zu W9):=by
         rw[gj];exact L_ ⟨BP.yl,fE _ _ _ _ _⟩
        clear gj z0 z1 z2 l0 l1 l2;obtain⟨m0,m1,m2⟩:=bN.qC E9.1;refine R_ (v:=St #[Wr #[Lw MY 0 0,Lw MY 0 0,Lw MY 0 0],L7 Ow 220]) (by simp[results,RC,go_sem,m0,m1,m2]) rfl (.inr ⟨aa2,rfl,DB.trans (E9.2.mono fun x (hx:x<w.heap.size)=>by show x≠w.heap.size+1;omega:ae (· <w.heap.size) Zu W9).below⟩)
      ·obtain rfl:j=n0:=by omega
       have ku:¬ ((j:Int)<j):=by omega
       have HST:Se (∀ i,i<s+1->(dn d (fnL l)).mr.getD (fnL l i) []=d.mr.getD i []/\∀ j,j<d.cl.length->en (dn d (fnL l)) (fnL l i) j=fnL l (en d i j)):=L_ fun i hi=>by
        by_cases e:i=s
        ·subst e
         rw[<-HB.out];exact⟨af8.trans HQE,fun j hj=>HOJ j (by rw[zM.out];exact hj)⟩
        ·exact km i (by omega)
       go_wp2;go_roundw;case rel=>exact⟨s+1,by omega,by go_num,HST,HXI⟩
       case measure=>simp[intOf];omega
    ·obtain rfl:s=k:=by omega
     have GI:¬ ((s:Int)<s):=by omega
     have HMK:Se (mOk d l):=L_ ⟨HLE,NUM,fun i hi=>km i (by rw[sH.out];exact hi)⟩;have py:=L_ (O5.below HX);obtain⟨k0,k1,k2⟩:=bN.qC MO;obtain⟨⟨l0,l1,l2⟩,z0,z1,z2⟩:=RO.three;go_wp2;refine bA ?_;intro W9 gj;have E9:Se (ar W9 (w.heap.size+1) #[Lw x0 m0 y0,Lw x1 m1 y1,Lw x2 m2 y2] 29/\ae (· ≠w.heap.size+1) wo W9):=by rw[gj];exact L_ ⟨RO.yl,fE _ _ _ _ _⟩
     clear gj z0 z1 z2 l0 l1 l2 k0 k1 k2;obtain⟨r0,r1,r2⟩:=bN.qC E9.1;refine R_ (v:=St #[Wr #[Lw x0 m0 y0,Lw x1 m1 y1,Lw x2 m2 y2],L7 Ow 0]) (by simp[results,RC,go_sem,r0,r1,r2]) rfl (.inl ⟨HMK,x0,y0,x1,y1,x2,y2,rfl,(py.keeps E9.2 fun x h1 _=>by show x≠_;omega).base (by omega),XO.trans (E9.2.mono fun x (hx:x<w.heap.size)=>by show x≠w.heap.size+1;omega:ae (· <w.heap.size) wo W9).below⟩)
def mxI:List Int->Int
 | []=>0
 | a::r=>r.foldl max a
theorem abb {l:List Int} {k:Nat} {x:Int} (hk:1<=k) (hx:l[k]? =M' x):mxI (l.take (k+1))=max (mxI (l.take k)) x:=by
 obtain⟨j,rfl⟩:∃ j,k=j+1:=⟨k-1,by omega⟩;cases l with
 | nil=>cases hx
 | cons a r=>
  have h:r[j]? =M' x:=hx;rw[ZS,ZS];show(r.take (j+1)).foldl max a=max ((r.take j).foldl max a) x;rw[U_,h,List.foldl_append];rfl
theorem abc (v:Ov) (l:List Int) (hl:0<l.length) (hn:l.length<=1000000) {M:Int} (hM:M=mxI l) (w:World) (h:bQ aM w v l): ah 38 #[v] w fun e w'=>e=N_ (L7 Ow M)/\aa w w':=by
 obtain⟨a,c,rfl⟩:=h.form;obtain⟨n,tK⟩:=ag l.length;rw[<-tK]at h hl hn ⊢;obtain⟨x0,hx0⟩:∃ x,l[0]? =M' x:=⟨_,az (by omega)⟩;obtain⟨b,off,rfl,hb,c0⟩:=h.elem hx0;replace c0:w.cell? ⟨b,off,MY⟩=M' (L7 Ow x0):=c0;have h1:¬ ((n:Int)<1):=by omega
 have h0:mxI (l.take 1)=x0:=by
  cases l with
  | nil=>cases hx0
  | cons a r=>cases hx0;rfl
 have H:=L_ h;have HM:=L_ hM;have HN:=L_ tK;have H0:=L_ h0;clear h hM tK hx0 h0;go_enter Tryz.func38,Tryz.ntmps38;go_wp2;go_loopw [3,4] (fun m i wr=>∃ k:Nat,1<=k/\k<=n/\i=L7 Ow k/\m=L7 Ow (mxI (l.take k))/\aa w wr) (fun _ i _=>n-(intOf i).toNat);case atStart=>exact⟨1,by omega,by omega,rfl,by rw[H0.out],S_ _ _⟩
 case round=>
  obtain⟨k,lM,hk,rfl,rfl,hx⟩:=hrel;obtain⟨wo,rfl⟩:=ag (wr:World);by_cases hlt:k<n
  ·have eE:(k:Int)<n:=by omega
   obtain⟨x,VJ⟩:∃ x,l[k]? =M' x:=⟨_,az (by have:=HN.out;omega)⟩;obtain⟨b',off',e,_,cx⟩:=(H.below hx).elem VJ;cases e;replace cx:wo.cell? ⟨b,off+k,MY⟩=M' (L7 Ow x):=cx;have HT:=L_ (abb lM VJ);have HX:=L_ hx;generalize mxI (l.take k)=mk at HT ⊢;clear hx VJ c0;go_wp2;go_roundw;case rel=>exact⟨k+1,by omega,by omega,by go_num,by rw[HT.out],HX⟩
   case measure=>simp[intOf];omega
  ·obtain rfl:k=n:=by omega
   have eE:¬ ((k:Int)<k):=by omega
   have ht:mxI (l.take k)=M:=by rw[HM.out,HN.out,List.take_length]
   rw[ht];have HX:=L_ hx;clear ht hx c0;go_wp2;go_ret;exact⟨rfl,HX⟩
end
section
open Go Go.RowKit
theorem aaw {d:DF} (h:Rt d) {p q:Nat->Nat} (e:∀ s,s<d.nx.length->p s=q s):∀ n,n<=d.nx.length->br d p n=br d q n
 | 0,_=>rfl
 | n+1,hn=>by
  have ih:=aaw h e n (by omega);have hr:((d.nx.getD n []).map fun t=>((p t.toNat:Nat):Int))=(d.nx.getD n []).map fun t=>((q t.toNat:Nat):Int):=TA fun t ht=>by
   have:=h.iV n (by omega) t ht;rw[e t.toNat (by omega)]
  rw[br,br,ih,hr,e n (by omega)]
theorem aa3 {d:DF} (h:Rt d) {p q:Nat->Nat} (e:∀ s,s<d.nx.length->p s=q s):dn d p=dn d q:=by unfold dn;rw[aaw h e _ (aG _)]
theorem aaN {p q:Nat->Nat} :∀ {n:Nat},(∀ s,s<n->p s=q s)->fj p n=fj q n
 | 0,_=>rfl
 | n+1,h=>by rw[fj,fj,aaN fun s hs=>h s (by omega),h n (by omega)]
theorem Fits.congr {d:DF} (h:Rt d) {p q:Nat->Nat} (e:∀ s,s<d.nx.length->p s=q s) (f:Fits d p):Fits d q where
 num s hs:=by rw[<-e s hs, <-aaN fun t ht=>e t (by omega)];exact f.num s hs
 mark s t hs ht x:=f.mark s t hs ht (by rw[e s hs,e t ht,x])
 next s t k hs ht hk x:=by
  rw[<-e _ (h.iY hs hk), <-e _ (h.iY ht hk)];exact f.next s t k hs ht hk (by rw[e s hs,e t ht,x])
def Zy (f:Nat->Nat) (n:Nat):List Int:=((N' n).map f).map gx
theorem Zx (f:Nat->Nat) (n:Nat):(Zy f n).length=n:=by unfold Zy;rw[aQ,aQ,b_]
theorem aax (f:Nat->Nat) {n s:Nat} (hs:s<n):(Zy f n)[s]? =M' ((f s:Nat):Int):=by unfold Zy;rw[aO,aO,TB hs];rfl
theorem aaW (f:Nat->Nat) {n s:Nat} (hs:s<n):(Zy f n).getD s 0=((f s:Nat):Int):=by rw[bu,aax f hs];rfl
theorem abJ (f:Nat->Nat) {n s:Nat} (hs:s<n):fnL (Zy f n) s=f s:=by unfold fnL;rw[aaW f hs];rfl
theorem abp (f:Nat->Nat) (n:Nat):Zy f (n+1)=Zy f n++ [((f n:Nat):Int)]:=by unfold Zy;rw[W_,To,To];rfl
theorem abl {d:DF} (h:Rt d) {f:Nat->Nat} (hf:Fits d f):mOk d (Zy f d.nx.length)/\dn d (fnL (Zy f d.nx.length))=dn d f:=by
 have e:∀ s,s<d.nx.length->f s=fnL (Zy f d.nx.length) s:=fun s hs=>(abJ f hs).symm
 have f2:=hf.congr h e;refine⟨⟨Zx f _,fun s hs=>⟨by rw[aaW f hs];omega,f2.num s hs⟩,(aa7 h f2.num).2 f2⟩,(aa3 h e).symm⟩
theorem aa4 (f:Nat->Nat):∀ n,0<n->mxI (Zy f n)+1=((fj f n:Nat):Int)
 | 0,h=>by omega
 | 1,_=>by
  show((f 0:Nat):Int)+1=((max 0 (f 0+1):Nat):Int);omega
 | n+2,_=>by
  have ih:=aa4 f (n+1) (by omega);have h1:=abb (l:=Zy f (n+2)) (k:=n+1) (by omega) (aax f (by omega));rw[P' (by rw[Zx];omega)]at h1;have h2:(Zy f (n+2)).take (n+1)=Zy f (n+1):=by rw[abp,List.take_append_of_le_length (by rw[Zx];omega),P' (by rw[Zx];omega)]
  rw[h2]at h1;rw[h1,fj];omega
theorem abK {a b:DF} (ha:Rt a) (hb:Rt b) {s t:Nat} (hs:s<a.nx.length) (ht:t<b.nx.length):(∀ c∈(cB a b (s,t)).getD [],c<256)/\((cB a b (s,t)).getD []).length<=a.nx.length*b.nx.length/\(a.mr.getD (bG a s ((cB a b (s,t)).getD [])) []==b.mr.getD (bG b t ((cB a b (s,t)).getD [])) [])= !(cB a b (s,t)).isSome:=by
 cases e:cB a b (s,t)with
 | none=>
  refine⟨(fun c hc=>by cases hc),S' _,?_⟩;rw[beq_iff_eq.2]
  ·rfl
  ·exact nZ ha hb (p:=(s,t)) ⟨hs,ht⟩ e fun c hc=>by cases hc
 | some w=>
  refine⟨(kE ha hb e).TQ,?_,?_⟩
  ·obtain⟨n,x,_,_,h3,_,h5⟩:=qL _ _ e
   have h1:=lL n x (aw h3);have h2:=(Ot.1 h3).1;have h4:=tC ha hb (p:=(s,t)) ⟨hs,ht⟩ n;rw[h5]at h1;show w.length<=_;omega
  ·have h:=(kE ha hb e).ok
   unfold qK at h;rw[beq_eq_false_iff_ne.2]
   ·rfl
   ·exact of_decide_eq_true h
theorem abq {d:DF} (h:Rt d) {s t:Nat} (hs:s<d.nx.length) (ht:t<d.nx.length):(((kq d s:Nat):Int)==((kq d t:Nat):Int))= !(cB d d (s,t)).isSome:=by rw[Bool.eq_iff_iff,beq_iff_eq,Int.natCast_inj,aaK h hs ht, <-abd h hs ht];cases cB d d (s,t)<;>simp
theorem abx (d:DF) (hp:1<=d.nx.length):kq d 0=0:=by have:=aaL d 0 hp;rw[fj]at this;omega
theorem aby {d:DF} (h:Rt d) {s:List Nat} (hs:∀ c∈s,c<256):Dk (dn d (kq d)) s=Dk d s:=by have h1:=uE h (NY h) (s:=0) h.pos hs;rw[abx d h.pos]at h1;exact h1
theorem abr {d:DF} (h:Rt d):Zy (kq (dn d (kq d))) (dn d (kq d)).nx.length=Zy (fun s=>s) (dn d (kq d)).nx.length:=by unfold Zy;rw[TA fun b hb=>abe h (d_.1 hb)]
theorem abm:∀ n,fj (fun s=>s) n=n
 | 0=>rfl
 | n+1=>by rw[fj,abm n];omega
end
section
open Go Go.RowKit Go.Shelf Go.Maps
theorem abg (v lv:Ov) (s t:Nat) (hs:s<256) (ht:t<256) (a:DF) (ok:Bool) (pE:ok=On->Rt a/\a.nx.length<=60) (L:List (List Nat)) {n0 n1 n2:Nat} (fH:n1=a.nx.length) (jg:n2=a.mr.length) (w:World) (hv:∃ x n c fl,v=Wr #[Lw x n c,L7 Ou fl]) (hL:JV w lv L) (hA:∀ W,aa w W->ah 10 #[] W fun e w'=>e=N_ (UP On)/\aa W w') (hM:∀ W,aa w W->ah 11 #[v] W (yo n0 n1 n2 ok a W)): ah 7 #[v,lv,L7 Ou s,L7 Ou t] w fun e w'=>e=N_ (UP On)/\aa w w':=by
 obtain⟨iI,y8,kP,kQ,kR⟩:=info_parts Tryz.mH;obtain⟨M,TY⟩:=ag (min L.length 30);have CWD:Se (∀ W,aa w W->ah 35 #[lv] W (LH L M W)):=L_ fun W hW=>Gx lv L TY W (hL.below hW)
 have HME:=L_ TY;have aqO:M<=30:=by omega
 obtain⟨la,lc,rfl,_,_⟩:=hL;obtain⟨ln,Qt⟩:=ag L.length;rw[<-Qt]at CWD ⊢;obtain⟨xa,xn,xc,fl,rfl⟩:=hv;have HA:=L_ hA;have HM:=L_ hM;have km:=L_ pE;have sH:=L_ fH;have uN:=L_ jg;clear hA hM pE TY Qt fH jg;go_enter aE,Tryz.ntmps7;go_upto_region 1 with fail
 refine aA ?_;intro V0 hV;have X:Se (aa w V0):=L_ (by rw[hV];exact((Ext.refl w).alloc _).below);have BX:Se (ar V0 w.heap.size #[Lw xa xn xc,L7 Ou fl] 24):=L_ (by rw[hV];exact ar.new _ _ _);clear hV;go_wp2_with fail
 refine(HA V0 X).mono ?_;rintro e w1 ⟨rfl,hx⟩;replace X:=L_ (X.trans (hx.mono X.size));replace BX:=L_ (BX.below hx BX.lt);clear hx;clear HA;have i0:w1.cell? ⟨w.heap.size,0,MY⟩=M' (Lw xa xn xc):=BX.cell 0;have i1:w1.cell? ⟨w.heap.size,1,MY⟩=M' (L7 Ou fl):=BX.cell 1;clear BX;go_wp2_with fail
 refine(HM w1 X).mono ?_;rintro e w2 ⟨d0,dc0,d1,dc1,d2,dc2,rfl,hd,hx⟩;replace X:=L_ (X.trans (hx.mono X.size));have DA:=L_ hd.df;clear hd hx i0 i1 HM;go_upto_region 4 with fail
 refine aA ?_;intro V1 hV;have hb:aa w2 V1:=by rw[hV];exact((Ext.refl w2).alloc _).below
 have kb:ar V1 w2.heap.size #[Lw d0 n0 dc0,Lw d1 n1 dc1,Lw d2 n2 dc2] 29:=by rw[hV];exact ar.new _ _ _
 replace X:=L_ (X.trans (hb.mono X.size));replace DA:=L_ (DA.below hb);have BA:=L_ kb;clear hb kb hV;cases ok with
 | false=>
  clear km;go_wp2;go_ret;exact⟨rfl,X⟩
 | true=>
  obtain⟨ra,aeq⟩:=km.out rfl;clear km;have xB:1<=n1:=by rw[sH.out];exact ra.pos
  have as6:n1<=60:=by rw[sH.out];exact aeq
  obtain⟨m,hm⟩:=ag (dn a (kq a));have rm:Rt m:=by rw[hm];exact F5 ra (NY ra)
  obtain⟨m0,vn⟩:=ag m.cl.length;obtain⟨m1,rY⟩:=ag m.nx.length;obtain⟨m2,tT⟩:=ag m.mr.length;obtain⟨h0,hh0⟩:=ag a.cl.length;obtain⟨h2,hh2⟩:=ag a.mr.length;obtain⟨pl,hpl⟩:=ag (Zy (kq a) n1);obtain⟨Zr,gJ⟩:=ag (Zy (fun s=>s) m1);have acR:m1=fj (kq a) n1:=by rw[rY,hm,sH.out];exact(fk (NY ra)).1
  have aga:1<=m1:=by rw[rY];exact rm.pos
  have agb:m1<=60:=by have:=C0 (aaL a);rw[<-sH.out, <-acR]at this;omega
  obtain⟨mx,hmx⟩:∃ k:Nat,k+1=m1:=⟨m1-1,by omega⟩;obtain⟨i,hi⟩:=ag (s%n1);obtain⟨k,hk⟩:=ag (t%n1);have j7:i<n1:=by rw[hi];exact gk _ (by omega)
  have Il:k<n1:=by rw[hk];exact gk _ (by omega)
  have hia:i<a.nx.length:=by rw[<-sH.out];exact j7
  have hka:k<a.nx.length:=by rw[<-sH.out];exact Il
  obtain⟨wl,hwl⟩:=ag ((cB a a (i,k)).getD []);obtain⟨wn,hwn⟩:=ag wl.length;obtain⟨Zq,hag⟩:=ag (!(cB a a (i,k)).isSome);obtain⟨Xh,hw3,lH⟩:=abK ra ra hia hka;rw[<-hwl]at Xh hw3 lH;rw[<-hag]at lH;have h36:a.nx.length*a.nx.length<=3600:=du aeq aeq;have hw9:wl.length<=1000000:=by omega
  obtain⟨u,hu⟩:=ag (bG a i wl);obtain⟨x,hx9⟩:=ag (bG a k wl);have TF:u<n1:=by rw[hu,sH.out];exact fD ra hia wl Xh
  have hxn:x<n1:=by rw[hx9,sH.out];exact fD ra hka wl Xh
  obtain⟨ul,Re⟩:∃ l,a.mr[u]? =M' l:=⟨_,az (by rw[ra.mr, <-sH.out];exact TF)⟩;obtain⟨xl,zI⟩:∃ l,a.mr[x]? =M' l:=⟨_,az (by rw[ra.mr, <-sH.out];exact hxn)⟩;rw[<-hu, <-hx9,getD_some Re,getD_some zI]at lH;have agd:ul.length<=1000000:=ra.ZF.Yw ul (aw Re);have hpi:pl[i]? =M' ((kq a i:Nat):Int):=by rw[hpl];exact aax _ j7
  have UA:pl[k]? =M' ((kq a k:Nat):Int):=by rw[hpl];exact aax _ Il
  have OP:(((kq a i:Nat):Int)==((kq a k:Nat):Int))=Zq:=by rw[hag];exact abq ra hia hka
  generalize kq a i=bi at hpi OP;generalize kq a k=bk at UA OP;have CB:Se (∀ W v,dr W v a->ah 36 #[v] W fun e w'=>∃ x y,e=N_ (St #[Lw x n1 y,L7 Ow 0])/\bQ aM w' (Lw x n1 y) pl/\aa W w'):=L_ fun W v hv=>(JN ra W v hv).mono fun e w' ⟨x,y,h1,h2,h3⟩=>by
   rw[<-sH.out]at h1 h2;have h4:w'.ownsRow W.heap.size 3 1 (Lw x n1 y) n1 (pl.map aM):=by
    rw[hpl];unfold Zy;rw[<-abf,a_];exact h2
   exact⟨x,y,h1,cZ h4 (by rw[hpl,Zx]),h3⟩
  have CC:Se (∀ W v,dr W v m->ah 36 #[v] W fun e w'=>∃ x y,e=N_ (St #[Lw x m1 y,L7 Ow 0])/\bQ aM w' (Lw x m1 y) Zr/\aa W w'):=L_ fun W v hv=>(JN rm W v hv).mono fun e w' ⟨x,y,h1,h2,h3⟩=>by
   rw[<-rY]at h1 h2;have h4:w'.ownsRow W.heap.size 3 1 (Lw x m1 y) m1 (Zr.map aM):=by
    have h9:=abr ra;rw[<-hm, <-rY]at h9;rw[gJ, <-h9];unfold Zy;rw[<-abf,a_];exact h2
   exact⟨x,y,h1,cZ h4 (by rw[gJ,Zx]),h3⟩
  have ax:Se (∀ W v u,bQ aM W u pl->dr W v a->ah 39 #[v,u] W (qB m0 m1 m2 0 m W)):=L_ fun W v u hu hv=>by
   obtain⟨h1,h2⟩:=abl ra (NY ra);rw[<-sH.out, <-hpl]at h1 h2;rw[<-hm]at h2;refine(aaM ra pl W v u hu hv (m0:=m0) (m1:=m1) (m2:=m2) (by rw[h2];exact vn) (by rw[h2];exact rY) (by rw[h2];exact tT)).mono fun e w' h=>?_
   rcases h with⟨_,h⟩ | ⟨h,_⟩
   ·rwa[h2]at h
   ·exact absurd h1 h
  have CH:Se (∀ W v u,bQ aM W u (Zy (fun s=>s) n1)->dr W v a->ah 39 #[v,u] W (qB h0 n1 h2 0 a W)):=L_ fun W v u hu hv=>by
   obtain⟨h1,h3⟩:=abl ra (abE a);rw[<-sH.out]at h1 h3;rw[abv ra]at h3;refine(aaM ra (Zy (fun s=>s) n1) W v u hu hv (m0:=h0) (m1:=n1) (m2:=h2) (by rw[h3];exact hh0) (by rw[h3];exact sH) (by rw[h3];exact hh2)).mono fun e w' h=>?_
   rcases h with⟨_,h⟩ | ⟨h,_⟩
   ·rwa[h3]at h
   ·exact absurd h1 h
  have ay:Se (∀ W u,bQ aM W u pl->ah 38 #[u] W fun e w'=>e=N_ (L7 Ow mx)/\aa W w'):=L_ fun W u hu=>by
   refine abc u pl (by rw[hpl,Zx];omega) (by rw[hpl,Zx];omega) ?_ W hu;have h5:=aa4 (kq a) n1 xB;rw[<-acR]at h5;rw[hpl];omega
  have my:Se (∀ W u,bQ aM W u Zr->ah 38 #[u] W fun e w'=>e=N_ (L7 Ow mx)/\aa W w'):=L_ fun W u hu=>by
   refine abc u Zr (by rw[gJ,Zx];omega) (by rw[gJ,Zx];omega) ?_ W hu;have h5:=aa4 (fun s=>s) m1 aga;rw[abm]at h5;rw[gJ];omega
  have CE:Se (∀ W v,dr W v a->ah 18 #[v,L7 Ow i,L7 Ow k] W fun e w'=>∃ x y,e=N_ (St #[Lw x wn y,UP Zq,L7 Ow 0])/\bQ cU w' (Lw x wn y) wl/\aa W w'):=L_ fun W v hv=>by
   have h:=abo ra (by omega) i k hia hka W v hv;unfold JP at h;rw[<-hwl, <-hwn, <-hag]at h;exact h
  have CR:Se (∀ W v b,dr W v a->bQ cU W b wl->ah 41 #[v,L7 Ow i,b] W fun e w'=>e=N_ (St #[L7 Ow u,L7 Ow 0])/\aa W w'):=L_ fun W v b hv hb=>by rw[hu];exact aaJ v b a ra ra.ZF i hia wl Xh hw9 W hv hb
  have CK:Se (∀ W v b,dr W v a->bQ cU W b wl->ah 41 #[v,L7 Ow k,b] W fun e w'=>e=N_ (St #[L7 Ow x,L7 Ow 0])/\aa W w'):=L_ fun W v b hv hb=>by rw[hx9];exact aaJ v b a ra ra.ZF k hka wl Xh hw9 W hv hb
  have CQ:Se (∀ W u v,bQ aM W u ul->bQ aM W v xl->ah 33 #[u,v] W fun e w'=>e=N_ (UP Zq)/\aa W w'):=L_ fun W u v hu hv=>qP agd lH W u v hu hv
  have CA:Se (∀ W v bv s,dr W v a->(∀ c∈s,c<256)->s.length<=1000000->∀ l n,l=Dk a s->n=l.length->ew cU W bv s->ah 34 #[v,bv] W (Oz l n W)):=L_ fun W v bv s hv hs hn l n hl hm hb=>TE ra s hs hn hl hm W v bv hv hb
  have CP:Se (∀ W v bv s,dr W v m->(∀ c∈s,c<256)->s.length<=1000000->∀ l n,l=Dk a s->n=l.length->ew cU W bv s->ah 34 #[v,bv] W (Oz l n W)):=L_ fun W v bv s hv hs hn l n hl Xm hb=>TE rm s hs hn (by rw[hl,hm];exact(aby ra hs).symm) Xm W v bv hv hb
  have CS:Se (∀ W v u,dr W v a->dr W u a->ah 17 #[v,u] W fun e w'=>e=N_ (UP On)/\aa W w'):=L_ fun W v u hv hu=>by
   have h:=Gn v u a a W hv.e hu.e ra.ZF;rwa[VV.2 rfl]at h
  have ML:Se (∀ s,(Dk a s).length<=1000000):=L_ fun s=>TD ra s
  have PI:Se (∀ W y c,bQ aM W (Lw y n1 c) pl->∃ b o,y=M' ⟨b,o,MY⟩/\W.cell? ⟨b,o+i,MY⟩=M' (L7 Ow bi)/\W.cell? ⟨b,o+k,MY⟩=M' (L7 Ow bk)):=L_ fun W y c h=>by
   obtain⟨b,o,e,_,h1⟩:=h.elem hpi;cases e;obtain⟨b',o',e,_,h2⟩:=h.elem UA;cases e;exact⟨b,o,rfl,h1,h2⟩
  have rp:Se (∀ W v0 v1 y c,dr W (Wr #[v0,v1,Lw y n2 c]) a->u<n2/\x<n2/\∃ b o x1 y1 x2 y2,y=M' ⟨b,o,MY⟩/\W.cell? ⟨b,o+u,MY⟩=M' (Lw x1 ul.length y1)/\W.cell? ⟨b,o+x,MY⟩=M' (Lw x2 xl.length y2)/\bQ aM W (Lw x1 ul.length y1) ul/\bQ aM W (Lw x2 xl.length y2) xl):=L_ fun W v0 v1 y c h=>by
   obtain⟨u0,u1,u2,e,_,_,h2⟩:=h;cases e;have hlen:=uN.out;obtain⟨b,o,x1,y1,e,_,c1,q1⟩:=h2.elem Re;cases e;obtain⟨b',o',x2,y2,e,_,c2,q2⟩:=h2.elem zI;cases e;have e1:=(Ot.1 Re).1;have e2:=(Ot.1 zI).1;exact⟨by omega,by omega,b,o,x1,y1,x2,y2,rfl,c1,c2,q1,q2⟩
  obtain⟨Zs,huq⟩:=ag ul.length;obtain⟨Zv,hxq⟩:=ag xl.length;rw[<-huq, <-hxq]at rp;have HUQ:=L_ huq;have HXQ:=L_ hxq;have hri:(s:Int)% (n1:Int)=(i:Int):=by omega
  have hrk:(t:Int)% (n1:Int)=(k:Int):=by omega
  have hS1:(Ow.wrap (s:Int)).tmod (n1:Int)=(i:Int):=by rw[RE _ (by omega),T_ (by omega)];exact hri
  have hT1:(Ow.wrap (t:Int)).tmod (n1:Int)=(k:Int):=by rw[RE _ (by omega),T_ (by omega)];exact hrk
  have HS1:=L_ hS1;have HWS:Se (Ow.wrap (s:Int)=(s:Int)):=L_ (RE _ (by omega));have HWT:Se (Ow.wrap (t:Int)=(t:Int)):=L_ (RE _ (by omega));have HT1:=L_ hT1;have hnz:¬ (n1=0):=by omega
  have alb:¬ ((n1:Int)=0):=by omega
  have hii:(i:Int)<n1:=by omega
  have eE:(k:Int)<n1:=by omega
  have hui:(u:Int)<n1:=by omega
  have hxi:(x:Int)<n1:=by omega
  have jB:((n1:Int) != n1)=false:=by simp
  have hwr:Ow.wrap ((mx:Int)+1)=(m1:Int):=by rw[<-hmx];exact RE _ (by omega)
  have hgg:(Zq != Zq)=false:=by cases Zq<;>rfl
  have as8:(Zq==Zq)=true:=by cases Zq<;>rfl
  have alc:(!(Zq==Zq))=false:=by cases Zq<;>rfl
  have ZE:=L_ hmx;have HPE:=L_ OP;have ald:=L_ agb;have HM1:=L_ rY;clear hS1 hT1 hri hrk ra aeq hm rm vn rY tT hh0 hh2 hpl gJ acR aga agb hmx hi hk hia hka hwl hwn hag Xh hw3 lH h36 hw9 hu hx9 Re zI agd hpi UA OP huq hxq;obtain⟨⟨i0,i1,i2⟩,_⟩:=BA.three;go_wp2_with fail
  refine(CB V1 _ DA).mono ?_;rintro e w3 ⟨pa,pc,rfl,hs,hx⟩;replace X:=L_ (X.trans (hx.mono X.size));replace DA:=L_ (DA.below hx);replace BA:=L_ (BA.below hx BA.lt);have PL:=L_ hs;clear hs hx CB;clear i0 i1 i2;obtain⟨⟨i0,i1,i2⟩,_⟩:=BA.three;go_wp2_with fail
  refine(ax w3 _ _ PL DA).mono ?_;rintro e w4 ⟨z0,zc0,z1,zc1,z2,zc2,rfl,hd,hx⟩;replace X:=L_ (X.trans (hx.mono X.size));replace DA:=L_ (DA.below hx);replace BA:=L_ (BA.below hx BA.lt);replace PL:=L_ (PL.below hx);have DM:=L_ hd.df;clear hd hx ax;clear i0 i1 i2;go_upto_region 8 with fail
  refine aA ?_;intro V2 hV;have hb:aa w4 V2:=by rw[hV];exact((Ext.refl w4).alloc _).below
  have kb:ar V2 w4.heap.size #[Lw z0 m0 zc0,Lw z1 m1 zc1,Lw z2 m2 zc2] 29:=by rw[hV];exact ar.new _ _ _
  replace X:=L_ (X.trans (hb.mono X.size));replace DA:=L_ (DA.below hb);replace BA:=L_ (BA.below hb BA.lt);replace PL:=L_ (PL.below hb);replace DM:=L_ (DM.below hb);have BM:=L_ kb;clear hb kb hV;obtain⟨⟨i0,i1,i2⟩,_⟩:=BA.three;obtain⟨⟨j0,j1,j2⟩,_⟩:=BM.three;refine aL SO (fun _=>False) (by kernel_rfl) 21 [0,0,3,7,15,31,63,31,159,415,1023,2047,4095,8191,16383,32767,8191,73727,204799,524287,1048575] (fun i=>i==17) (by kernel_rfl) (fun i=>if i=17 then aX.yw _ (L7 Ow mx)else aX.any _) ?_;intro C hC hne;have HC:=L_ hC;have f0:=aC hC (p:=⟨w2.heap.size,1,MY⟩) BA.lt (fun h=>h) i1;have f1:=aC hC (p:=⟨w4.heap.size,1,MY⟩) BM.lt (fun h=>h) j1;clear hC;clear i0 i1 i2 j0 j1 j2
  repeat (refine au (fun K hK=>?_);first | (refine cg rfl ?_;try go_simp;refine hK _ _ ?_;clear hK K) | (refine bV rfl rfl ?_;unfold aF;go_simp;refine hK _ _ ?_;clear hK K))
  refine au (fun K hK=>?_);refine ct rfl rfl (aX.yw _ (L7 Ow mx)) rfl (fun W hW hN=>?_) (fun v hv=>?_)
  ·have hM:=(HC.out W).1 hW
   clear hW;go_simp;refine bI ((ay W _ (PL.below hM.below)).mono ?_);rintro e w9 ⟨rfl,hx⟩;exact⟨_,rfl,Move.ai hx,rfl,trivial⟩
  replace hv:v=_:=hv;subst hv;go_simp;refine hK _ _ ?_;clear hK K
  repeat (refine au (fun K hK=>?_);first | (refine cg rfl ?_;try go_simp;refine hK _ _ ?_;clear hK K) | (refine bV rfl rfl ?_;unfold aF;go_simp;refine hK _ _ ?_;clear hK K))
  refine bM (fun W5 hW hH=>?_);have hM:=(HC.out W5).1 hW;have hb:=hM.below;replace X:=L_ (X.trans (hb.mono X.size));replace DA:=L_ (DA.below hb);replace BA:=L_ (BA.below hb BA.lt);replace PL:=L_ (PL.below hb);replace DM:=L_ (DM.below hb);replace BM:=L_ (BM.below hb BM.lt);clear hM hb hW hH HC hne f0 f1 ay;go_wp2_with fail
  refine aL SO (fun _=>False) (by kernel_rfl) 12 [0,1,0,4,15,0,32,0,128,480,31,2047] (fun i=>SO) (by kernel_rfl) (fun i=>aX.any _) ?_;intro C hC hne;have HC:=L_ hC;clear hC
  repeat (refine au (fun K hK=>?_);first | (refine cg rfl ?_;try go_simp;refine hK _ _ ?_;clear hK K) | (refine bV rfl rfl ?_;unfold aF;go_simp;refine hK _ _ ?_;clear hK K))
  refine bM (fun W6 hW hH=>?_);have hM:=(HC.out W6).1 hW;have hb:=hM.below;replace X:=L_ (X.trans (hb.mono X.size));replace DA:=L_ (DA.below hb);replace BA:=L_ (BA.below hb BA.lt);replace PL:=L_ (PL.below hb);replace DM:=L_ (DM.below hb);replace BM:=L_ (BM.below hb BM.lt);clear hM hb hW hH HC hne;rw[HS1.out,HT1.out,HWS.out,HWT.out];clear HS1 HT1 HWS HWT;obtain⟨⟨i0,i1,i2⟩,_⟩:=BA.three;go_wp2_with fail
  refine(CE W6 _ DA).mono ?_;rintro e w7 ⟨wa,wc,rfl,hs,hx⟩;replace X:=L_ (X.trans (hx.mono X.size));replace DA:=L_ (DA.below hx);replace BA:=L_ (BA.below hx BA.lt);replace PL:=L_ (PL.below hx);replace DM:=L_ (DM.below hx);replace BM:=L_ (BM.below hx BM.lt);have WS:=L_ hs;clear hs hx CE hnz alb hwr;clear i0 i1 i2;obtain⟨pb,po,rfl,q1,q2⟩:=PI.out w7 _ _ PL;go_upto_region 12 with fail
  refine aL SO (fun _=>False) (by kernel_rfl) 15 [0,1,3,7,7,7,55,119,7,7,775,1799,4087,8191,16383] (fun i=>SO) (by kernel_rfl) (fun i=>aX.any _) ?_;intro C hC hne;have HC:=L_ hC;have f0:=aC hC (p:=⟨pb,po+i,MY⟩) (Dj q1) (fun h=>h) q1;have f1:=aC hC (p:=⟨pb,po+k,MY⟩) (Dj q2) (fun h=>h) q2;clear hC q1 q2
  repeat (refine au (fun K hK=>?_);first | (refine cg rfl ?_;try go_simp;refine hK _ _ ?_;clear hK K) | (refine bV rfl rfl ?_;unfold aF;go_simp;refine hK _ _ ?_;clear hK K))
  refine bM (fun W8 hW hH=>?_);have hM:=(HC.out W8).1 hW;have hb:=hM.below;replace X:=L_ (X.trans (hb.mono X.size));replace DA:=L_ (DA.below hb);replace BA:=L_ (BA.below hb BA.lt);replace PL:=L_ (PL.below hb);replace DM:=L_ (DM.below hb);replace BM:=L_ (BM.below hb BM.lt);replace WS:=L_ (WS.below hb);clear hM hb hW hH HC hne f0 f1 PI;rw[HPE.out,alc];clear HPE;obtain⟨⟨i0,i1,i2⟩,_⟩:=BA.three;go_wp2_with fail
  refine(CR W8 _ _ DA WS).mono ?_;rintro e w9 ⟨rfl,hx⟩;replace X:=L_ (X.trans (hx.mono X.size));replace DA:=L_ (DA.below hx);replace BA:=L_ (BA.below hx BA.lt);replace PL:=L_ (PL.below hx);replace DM:=L_ (DM.below hx);replace BM:=L_ (BM.below hx BM.lt);replace WS:=L_ (WS.below hx);clear hx CR;clear i0 i1 i2;obtain⟨⟨i0,i1,i2⟩,_⟩:=BA.three;go_wp2_with fail
  refine(CK w9 _ _ DA WS).mono ?_;rintro e w10 ⟨rfl,hx⟩;replace X:=L_ (X.trans (hx.mono X.size));replace DA:=L_ (DA.below hx);replace BA:=L_ (BA.below hx BA.lt);replace PL:=L_ (PL.below hx);replace DM:=L_ (DM.below hx);replace BM:=L_ (BM.below hx BM.lt);replace WS:=L_ (WS.below hx);clear hx CK WS;clear i0 i1 i2;obtain⟨hu2,hx2,mb,mo,ux,Zt,xx,Zw,rfl,c1,c2,q1,q2⟩:=rp.out w10 _ _ _ _ DA;have ale:(u:Int)<n2:=by omega
  have alg:(x:Int)<n2:=by omega
  have yn:=L_ q1;have BB:=L_ q2;obtain⟨⟨i0,i1,i2⟩,_⟩:=BA.three;go_upto_region 16 with fail
  refine aL SO (fun _=>False) (by kernel_rfl) 19 [0,0,3,7,15,31,31,95,31,479,991,31,2079,31,14367,30751,65503,131071,262143] (fun i=>i==16) (by kernel_rfl) (fun i=>if i=16 then aX.yw _ (UP Zq)else aX.any _) ?_;intro C hC hne;have HC:=L_ hC;have f0:=aC hC (p:=⟨w2.heap.size,2,MY⟩) BA.lt (fun h=>h) i2;have f1:=aC hC (p:=⟨mb,mo+u,MY⟩) (Dj c1) (fun h=>h) c1;have f2:=aC hC (p:=⟨mb,mo+x,MY⟩) (Dj c2) (fun h=>h) c2;clear hC c1 c2 q1 q2;clear i0 i1 i2
  repeat (refine au (fun K hK=>?_);first | (refine cg rfl ?_;try go_simp;refine hK _ _ ?_;clear hK K) | (refine bV rfl rfl ?_;unfold aF;go_simp;refine hK _ _ ?_;clear hK K))
  refine au (fun K hK=>?_);refine ct rfl rfl (aX.yw _ (UP Zq)) rfl (fun W hW hN=>?_) (fun v hv=>?_)
  ·have hM:=(HC.out W).1 hW
   clear hW;go_simp;refine bI ((CQ W _ _ (yn.below hM.below) (BB.below hM.below)).mono ?_);rintro e w99 ⟨rfl,hx⟩;exact⟨_,rfl,Move.ai hx,rfl,trivial⟩
  replace hv:v=_:=hv;subst hv;go_simp;refine hK _ _ ?_;clear hK K
  repeat (refine au (fun K hK=>?_);first | (refine cg rfl ?_;try go_simp;refine hK _ _ ?_;clear hK K) | (refine bV rfl rfl ?_;unfold aF;go_simp;refine hK _ _ ?_;clear hK K))
  refine bM (fun W11 hW hH=>?_);have hM:=(HC.out W11).1 hW;have hb:=hM.below;replace X:=L_ (X.trans (hb.mono X.size));replace DA:=L_ (DA.below hb);replace BA:=L_ (BA.below hb BA.lt);replace PL:=L_ (PL.below hb);replace DM:=L_ (DM.below hb);replace BM:=L_ (BM.below hb BM.lt);clear hM hb hW hH HC hne f0 f1 f2 CQ yn BB rp hu2 hx2 ale alg;go_wp2_with fail
  refine(CWD W11 X).mono ?_;rintro e w12 ⟨oa,oc,g,rfl,ho,hg,hx⟩;replace X:=L_ (X.trans (hx.mono X.size));replace DA:=L_ (DA.below hx);replace BA:=L_ (BA.below hx BA.lt);replace PL:=L_ (PL.below hx);replace DM:=L_ (DM.below hx);replace BM:=L_ (BM.below hx BM.lt);have RR:=L_ ho;have XG:=L_ hx;have HG:=L_ hg;clear ho hg hx CWD;go_wp2_with fail
  go_loopw [23,138] (fun _ iv wr=>∃ i:Nat,i<=M/\iv=L7 Ow i/\aa w12 wr) (fun _ iv _=>M-(intOf iv).toNat)
  case atStart=>exact⟨0,by omega,rfl,S_ _ _⟩
  case round=>
   obtain⟨j,hj,rfl,hx⟩:=hrel;obtain⟨wo,rfl⟩:=ag (wr:World);have XO:=L_ hx;replace X:=L_ (X.trans (hx.mono X.size));replace DA:=L_ (DA.below hx);replace BA:=L_ (BA.below hx BA.lt);replace PL:=L_ (PL.below hx);replace DM:=L_ (DM.below hx);replace BM:=L_ (BM.below hx BM.lt);replace RR:=L_ (ak RR hx);replace XG:=L_ (XG.trans (hx.mono XG.size));clear hx;by_cases hlt:j<M
   ·skip
    have ku:(j:Int)<M:=by omega
    obtain⟨s9,hs9⟩:∃ s,L[j]? =M' s:=⟨_,az (by have:=HME.out;omega)⟩;obtain⟨sx,sy,Xv,EK,kJ⟩:=HG.out j s9 hs9;obtain⟨s,hse⟩:=ag (s9.take 12);have aes:s.length<=1000000:=by rw[hse,O_];omega
    rw[<-hse]at Xv EK kJ;obtain⟨sn,kS⟩:=ag s.length;rw[Xv, <-kS]at EK;rw[<-kS]at Xv;obtain⟨gr,ur,hra,_,_,Xu,cr,_⟩:=fB RR hlt;obtain rfl:ur=Lw sx sn sy:=by rw[aO,TB hlt]at Xu;exact(X' Xu).symm.trans Xv
    cases hra
    replace cr:wo.cell? ⟨gr,j,MY⟩=M' (Lw sx sn sy):=by simpa using cr
    have SS:=L_ (EK.below XG);obtain⟨ml,pd⟩:=ag (Dk a s);obtain⟨mn,hmn⟩:=ag ml.length;have aeu:ml.length<=1000000:=by rw[pd];exact ML s
    have CA1:Se (∀ W bv,aa wo W->ew cU W bv s->ah 34 #[Wr #[Lw d0 n0 dc0,Lw d1 n1 dc1,Lw (M' ⟨mb,mo,MY⟩) n2 dc2],bv] W (Oz ml mn W)):=L_ fun W bv hW hb=>CA W _ _ s (DA.below hW) kJ aes ml mn pd hmn hb
    have CP1:Se (∀ W bv,aa wo W->ew cU W bv s->ah 34 #[Wr #[Lw z0 m0 zc0,Lw z1 m1 zc1,Lw z2 m2 zc2],bv] W (Oz ml mn W)):=L_ fun W bv hW hb=>CP W _ _ s (DM.below hW) kJ aes ml mn pd hmn hb
    have vr:=L_ aeu;clear hs9 Xv EK kJ hse aes kS Xu HG XG RR pd hmn aeu;go_wp2_with fail
    clear cr;obtain⟨⟨i0,i1,i2⟩,_⟩:=BA.three;obtain⟨⟨o0,o1,o2⟩,_⟩:=BM.three;refine aL SO (fun _=>False) (by kernel_rfl) 8 [0,0,3,0,0,31,63,127] (fun i=>i==2 || i==5 || i==6) (by kernel_rfl) (fun i=>if i=2 then aX.slQ aM mn ml else if i=5 then aX.slQ aM mn ml else if i=6 then aX.yw _ (UP On)else aX.any _) ?_;intro C hC hne;have HC:=L_ hC;have f0:=aC hC (p:=⟨w2.heap.size,0,MY⟩) BA.lt (fun h=>h) i0;have f1:=aC hC (p:=⟨w2.heap.size,1,MY⟩) BA.lt (fun h=>h) i1;have f2:=aC hC (p:=⟨w2.heap.size,2,MY⟩) BA.lt (fun h=>h) i2;have f3:=aC hC (p:=⟨w4.heap.size,0,MY⟩) BM.lt (fun h=>h) o0;have f4:=aC hC (p:=⟨w4.heap.size,1,MY⟩) BM.lt (fun h=>h) o1;have f5:=aC hC (p:=⟨w4.heap.size,2,MY⟩) BM.lt (fun h=>h) o2;clear hC;clear i0 i1 i2 o0 o1 o2
    repeat (refine au (fun K hK=>?_);first | (refine cg rfl ?_;try go_simp;refine hK _ _ ?_;clear hK K) | (refine bV rfl rfl ?_;unfold aF;go_simp;refine hK _ _ ?_;clear hK K))
    refine au (fun K hK=>?_);refine ct rfl rfl (aX.slQ aM mn ml) rfl (fun W hW hN=>?_) (fun v hv=>?_)
    ·have hM:=(HC.out W).1 hW
     clear hW;go_simp;refine bI ((CA1 W _ hM.below (SS.below hM.below)).mono ?_);rintro e w99 ⟨x9,y9,rfl,ho,hx⟩;exact⟨_,rfl,Move.ai hx,⟨_,_,rfl⟩,ho⟩
    obtain⟨mx1,my1,rfl⟩:=hv;go_simp;refine hK _ _ ?_;clear hK K
    repeat (refine au (fun K hK=>?_);first | (refine cg rfl ?_;try go_simp;refine hK _ _ ?_;clear hK K) | (refine bV rfl rfl ?_;unfold aF;go_simp;refine hK _ _ ?_;clear hK K))
    refine au (fun K hK=>?_);refine ct rfl rfl (aX.slQ aM mn ml) rfl (fun W hW hN=>?_) (fun v hv=>?_)
    ·have hM:=(HC.out W).1 hW
     clear hW;go_simp;refine bI ((CP1 W _ hM.below (SS.below hM.below)).mono ?_);rintro e w99 ⟨x9,y9,rfl,ho,hx⟩;exact⟨_,rfl,Move.ai hx,⟨_,_,rfl⟩,ho⟩
    obtain⟨nx1,ny1,rfl⟩:=hv;go_simp;refine hK _ _ ?_;clear hK K;refine au (fun K hK=>?_);refine ct rfl rfl (aX.yw _ (UP On)) rfl (fun W hW hN=>?_) (fun v hv=>?_)
    ·have hM:=(HC.out W).1 hW
     clear hW;go_simp;refine bI ((qP (l1:=ml) (l2:=ml) (b:=On) vr (beq_self_eq_true _) W _ _ (hN.at 1 rfl (by kernel_rfl)) (hN.at 0 rfl (by kernel_rfl))).mono ?_);rintro e w99 ⟨rfl,hx⟩;exact⟨_,rfl,Move.ai hx,rfl,trivial⟩
    replace hv:v=_:=hv;subst hv;go_simp;refine hK _ _ ?_;clear hK K
    repeat (refine au (fun K hK=>?_);first | (refine cg rfl ?_;try go_simp;refine hK _ _ ?_;clear hK K) | (refine bV rfl rfl ?_;unfold aF;go_simp;refine hK _ _ ?_;clear hK K))
    refine bM (fun W13 hW hH=>?_);have hM:=(HC.out W13).1 hW;replace XO:=L_ (XO.trans (hM.below.mono XO.size));clear hM hW hH HC hne f0 f1 f2 f3 f4 f5;go_wp2;go_roundw;case rel=>exact⟨j+1,by omega,by go_num,XO⟩
    case measure=>simp[intOf];omega
   ·obtain rfl:j=M:=by omega
    have ku:¬ ((j:Int)<j):=by omega
    clear XG RR HG CA CP ML HME XO;go_wp2_with fail
    go_loopw [24,25,153] (fun ov _ iv wr=>∃ q:Nat,q<=n1/\iv=L7 Ow q/\(∃ oa oc,ov=Lw oa q oc)/\wr.ownsRow wo.heap.size 3 1 ov q ((N' q).map cV)/\aa wo wr) (fun _ _ iv _=>n1-(intOf iv).toNat)
    case atStart=>exact⟨0,by omega,rfl,⟨_,_,rfl⟩,be _ _ _ _,S_ _ _⟩
    case round=>
     obtain⟨q,hq,rfl,⟨oa2,oc2,rfl⟩,ho,hx⟩:=hrel;obtain⟨wp,rfl⟩:=ag (wr:World);have HO:=L_ ho;have BQ:=L_ hx;have Bd:wo.heap.size<=wp.heap.size:=hx.size;replace X:=L_ (X.trans (hx.mono X.size));replace DA:=L_ (DA.below hx);replace BA:=L_ (BA.below hx BA.lt);replace PL:=L_ (PL.below hx);replace DM:=L_ (DM.below hx);replace BM:=L_ (BM.below hx BM.lt);clear ho hx;by_cases hlq:q<n1
     ·skip
      have hqi:(q:Int)<n1:=by omega
      have HT:Se ((N' (q+1)).map cV=(N' q).map cV++ [L7 Ow q]):=L_ (by rw[W_,To];rfl);go_wp2_with (at_builtin;refine Hid.out ?_);refine L_ ?_;refine Y' _ rfl (.tmp 156) (.tmp 158) 39 rfl wo.heap.size 3 iI (L7 Ow 0) 1 8 Tryz.underlying39 y8 kP kQ kR rfl (by decide) (Lw oa2 q oc2) q _ rfl (HO.alloc _) ⟨wp.heap.size,0,MY⟩ 1 1 [L7 Ow q] rfl rfl (eF _ _ _) (by simp[eS]) (by unfold maxLen;omega) (by omega) (by simp;omega) ?_;intro v' w5 hown' hgrow hh hat;have Jk:=L_ hown';have lJ:=L_ hgrow;clear hown' hgrow hh hat;go_wp2;go_roundw;case rel=>
       have h5:=Jk.out;rw[<-HT.out]at h5;refine⟨_,_,_,_,_,_,_,_,_,_,⟨q+1,by omega,by go_num,ownsRow_form h5,h5,?_⟩,rfl⟩;exact(BQ.trans (((Ext.refl wp).alloc _).below.mono Bd)).trans (((S_ _ _).grown lJ (by simp;omega) fun x e=>(HO.lt x e).1))
      case measure=>simp[intOf];omega
     ·obtain rfl:q=n1:=by omega
      have hqi:¬ ((q:Int)<q):=by omega
      have ny:Se (bQ aM wp (Lw oa2 q oc2) (Zy (fun s=>s) q)):=L_ (by
       have h5:=HO.out;refine cZ (base:=wo.heap.size) (e:=3) ?_ (by rw[Zx]);unfold Zy;rw[List.map_id', <-abf]
       exact h5)
      clear BQ HO;obtain⟨⟨i0,i1,i2⟩,_⟩:=BA.three;go_wp2_with fail
      refine(CH wp _ _ ny DA).mono ?_;rintro e v1 ⟨y0,yc0,y1,yc1,y2,yc2,rfl,hd,hx⟩;replace X:=L_ (X.trans (hx.mono X.size));replace DA:=L_ (DA.below hx);replace BA:=L_ (BA.below hx BA.lt);replace PL:=L_ (PL.below hx);replace DM:=L_ (DM.below hx);replace BM:=L_ (BM.below hx BM.lt);replace ny:=L_ (ny.below hx);have DS:=L_ hd.df;clear hd hx CH ny;clear i0 i1 i2;go_upto_region 31 with fail
      refine aA ?_;intro V3 hV;have hb:aa v1 V3:=by rw[hV];exact((Ext.refl v1).alloc _).below
      have kb:ar V3 v1.heap.size #[Lw y0 h0 yc0,Lw y1 q yc1,Lw y2 h2 yc2] 29:=by rw[hV];exact ar.new _ _ _
      replace X:=L_ (X.trans (hb.mono X.size));replace DA:=L_ (DA.below hb);replace BA:=L_ (BA.below hb BA.lt);replace PL:=L_ (PL.below hb);replace DM:=L_ (DM.below hb);replace BM:=L_ (BM.below hb BM.lt);replace DS:=L_ (DS.below hb);have BS:=L_ kb;clear hb kb hV;obtain⟨⟨o0,o1,o2⟩,_⟩:=BM.three;go_wp2_with fail
      refine(CC V3 _ DM).mono ?_;rintro e v2 ⟨ga,gc,rfl,hs,hx⟩;replace X:=L_ (X.trans (hx.mono X.size));replace DA:=L_ (DA.below hx);replace BA:=L_ (BA.below hx BA.lt);replace PL:=L_ (PL.below hx);replace DM:=L_ (DM.below hx);replace BM:=L_ (BM.below hx BM.lt);replace DS:=L_ (DS.below hx);replace BS:=L_ (BS.out.below hx BS.out.lt);have GL:=L_ hs;clear hs hx CC;clear o0 o1 o2;obtain⟨⟨y0,y1,y2⟩,_⟩:=BS.out.three;obtain⟨⟨i0,i1,i2⟩,_⟩:=BA.three;obtain⟨⟨o0,o1,o2⟩,_⟩:=BM.three;go_wp2_with fail
      refine(CS v2 _ _ DS DA).mono ?_;rintro e v3 ⟨rfl,hx⟩;clear y0 y1 y2 i0 i1 i2 o0 o1 o2;replace X:=L_ (X.trans (hx.mono X.size));replace DA:=L_ (DA.below hx);replace BA:=L_ (BA.below hx BA.lt);replace PL:=L_ (PL.below hx);replace DM:=L_ (DM.below hx);replace BM:=L_ (BM.below hx BM.lt);replace DS:=L_ (DS.below hx);replace BS:=L_ (BS.out.below hx BS.out.lt);replace GL:=L_ (GL.below hx);obtain⟨⟨o0,o1,o2⟩,_⟩:=BM.three;clear hx CS;go_wp2_with fail
      refine(my v3 _ GL).mono ?_;rintro e v4 ⟨rfl,hx⟩;replace X:=L_ (X.trans (hx.mono X.size));replace DA:=L_ (DA.below hx);replace BA:=L_ (BA.below hx BA.lt);replace PL:=L_ (PL.below hx);replace DM:=L_ (DM.below hx);replace BM:=L_ (BM.below hx BM.lt);replace DS:=L_ (DS.below hx);replace BS:=L_ (BS.out.below hx BS.out.lt);replace GL:=L_ (GL.below hx);clear hx my;have kJ:wrap64 (mx:Int)=(mx:Int):=by have:=ZE.out;have:=ald.out;exact IntWalk.wrap64_in _ ⟨by omega,by omega⟩
      have ath:((m1:Int)-1)=(mx:Int):=by have:=ZE.out;omega
      go_wp2;go_ret;exact⟨rfl,X⟩
theorem pT.shape {w:World} {v:Ov} {l:List (List (Nat×Nat×Nat))} {fl:Nat} (h:pT w v l fl):∃ a n c,v=Wr #[Lw a n c,L7 Ou fl]:=by
 obtain⟨u,rfl,h⟩:=h;rcases h with⟨p,c,rfl,_⟩ | ⟨b,off,c,rfl,_⟩
 ·exact⟨_,_,_,rfl⟩
 ·exact⟨_,_,_,rfl⟩
theorem AR (v:Ov) (l:List (List (Nat×Nat×Nat))) (iT:l.length<=1000000000000000) (fl:Nat) (pG:fl<256) (w:World) (h:pT w v l fl) (hT:∀ W,aa w W->nN W): ∃ (d:DF) (ok:Bool) (n0 n1 n2:Nat),(n0=d.cl.length/\n1=d.nx.length/\n2=d.mr.length/\(ok=On->Rt d/\d.nx.length<=60))/\∀ W,aa w W->ah 11 #[v] W (yo n0 n1 n2 ok d W):=by
 rcases NJ l fl pG with⟨d,he,rt,h60⟩ | he
 ·exact⟨d,On,_,_,_,⟨rfl,rfl,rfl,fun _=>⟨rt,h60⟩⟩,fun W hW=>yq v fl pG l iT he (fun _=>rt.pos) rfl rfl rfl W (h.below hW) fun V hV=>hT V (hW.trans (hV.mono hW.size))⟩
 ·exact⟨⟨[],[],[]⟩,SO,_,_,_,⟨rfl,rfl,rfl,fun e=>by cases e⟩,fun W hW=>yq v fl pG l iT he (fun e=>by cases e) rfl rfl rfl W (h.below hW) fun V hV=>hT V (hW.trans (hV.mono hW.size))⟩
theorem aaD (v0 v1:Ov) (l0:List (List (Nat×Nat×Nat))) (g0:l0.length<=1000000000000000) (f0:Nat) (u0:f0<256) (L:List (List Nat)) (x2:Nat) (u2:x2<256) (x3:Nat) (u3:x3<256) (w:World) (h0:pT w v0 l0 f0) (hL:JV w v1 L) (hT:∀ W,aa w W->nN W): ah 7 #[v0,v1,L7 Ou x2,L7 Ou x3] w fun e w'=>e=N_ (UP On)/\aa w w':=by obtain⟨a,oka,n0,n1,n2,Wh,Dt⟩:=AR v0 l0 g0 f0 u0 w h0 hT;obtain⟨_,_,_,hv⟩:=h0.shape;exact abg v0 v1 x2 x3 u2 u3 a oka Wh.2.2.2 L Wh.2.1 Wh.2.2.1 w ⟨_,_,_,_,hv⟩ hL (fun W hW=>Gt W fun V hV=>hT V (hW.trans (hV.mono hW.size))) Dt
end
section
open Go Go.ChangeShapes Go.WideShapes Go.ChangeAt Go.RowKit
theorem aaU:Ly.globalNamed "internal/strconv.uint64pow10" =M' 0:=by kernel_rfl
theorem aaE:(Ly.globals[0]?).map (·.type)=M' 346:=by kernel_rfl
theorem aaG:Ly.cellsOf 346=20:=by kernel_rfl
theorem aaH:Ly.cellsOf 54=1:=by kernel_rfl
theorem aaO {W:World} (h:laidMetH Ly M_.laid W):nN W:=by have h1:laidMet Ly [("math/bits.deBruijn32tab",Rows.laid_math_bits_deBruijn32tab),("math/bits.deBruijn64tab",Rows.laid_math_bits_deBruijn64tab),("internal/strconv.uint64pow10",Lib.tabData Wg Lib.pow10Tab)] W:=h;exact Lib.tabIs_of_head (rest:=[]) aaU aaE Tryz.underlying346 Tryz.underlying54 aaH aaG h1.tail.tail
noncomputable def aav (cs:Array Ov):Obj->Obj
 | .cells _ t frozen=>.cells cs t frozen
 | o=>o
noncomputable def aap (os:Os):World:=
 {e_ Ly os ⟨#[], #[],[]⟩with heap:=(((e_ Ly os ⟨#[], #[],[]⟩).heap.modify 0 (aav #[L7 Wg 1,L7 Wg 10,L7 Wg 100,L7 Wg 1000,L7 Wg 10000,L7 Wg 100000,L7 Wg 1000000,L7 Wg 10000000,L7 Wg 100000000,L7 Wg 1000000000,L7 Wg 10000000000,L7 Wg 100000000000,L7 Wg 1000000000000,L7 Wg 10000000000000,L7 Wg 100000000000000,L7 Wg 1000000000000000,L7 Wg 10000000000000000,L7 Wg 100000000000000000,L7 Wg 1000000000000000000,L7 Wg 10000000000000000000])).modify 1 (aav #[L7 Ou 0,L7 Ou 1,L7 Ou 28,L7 Ou 2,L7 Ou 29,L7 Ou 14,L7 Ou 24,L7 Ou 3,L7 Ou 30,L7 Ou 22,L7 Ou 20,L7 Ou 15,L7 Ou 25,L7 Ou 17,L7 Ou 4,L7 Ou 8,L7 Ou 31,L7 Ou 27,L7 Ou 13,L7 Ou 23,L7 Ou 21,L7 Ou 19,L7 Ou 16,L7 Ou 7,L7 Ou 26,L7 Ou 12,L7 Ou 18,L7 Ou 6,L7 Ou 11,L7 Ou 5,L7 Ou 10,L7 Ou 9])).modify 2 (aav #[L7 Ou 0,L7 Ou 1,L7 Ou 56,L7 Ou 2,L7 Ou 57,L7 Ou 49,L7 Ou 28,L7 Ou 3,L7 Ou 61,L7 Ou 58,L7 Ou 42,L7 Ou 50,L7 Ou 38,L7 Ou 29,L7 Ou 17,L7 Ou 4,L7 Ou 62,L7 Ou 47,L7 Ou 59,L7 Ou 36,L7 Ou 45,L7 Ou 43,L7 Ou 51,L7 Ou 22,L7 Ou 53,L7 Ou 39,L7 Ou 33,L7 Ou 30,L7 Ou 24,L7 Ou 18,L7 Ou 12,L7 Ou 5,L7 Ou 63,L7 Ou 55,L7 Ou 48,L7 Ou 27,L7 Ou 60,L7 Ou 41,L7 Ou 37,L7 Ou 16,L7 Ou 46,L7 Ou 35,L7 Ou 44,L7 Ou 21,L7 Ou 52,L7 Ou 32,L7 Ou 23,L7 Ou 11,L7 Ou 54,L7 Ou 26,L7 Ou 40,L7 Ou 15,L7 Ou 34,L7 Ou 20,L7 Ou 31,L7 Ou 10,L7 Ou 25,L7 Ou 14,L7 Ou 19,L7 Ou 9,L7 Ou 13,L7 Ou 8,L7 Ou 7,L7 Ou 6])}
theorem aa5 (os:Os):laidMet Ly M_.laid ((aap os).forCall (fun _ _=>0) ⟨#[], #[Wr #[Lw MY 0 0,L7 Ou 0],Lw MY 0 0,L7 Ou 0,L7 Ou 0],[]⟩).memory:=
 laidMet_of_run' 8 (by kernel_rfl) (by kernel_rfl)
theorem aaP (os:Os) {H:Type} (enc:Wi×Ov->H):∃ places,DataW.whole enc Ly ((aap os).forCall (fun _ _=>0) ⟨#[], #[Wr #[Lw MY 0 0,L7 Ou 0],Lw MY 0 0,L7 Ou 0,L7 Ou 0],[]⟩).memory TC.params.toList NX.vars SO (#[Wr #[Lw MY 0 0,L7 Ou 0],Lw MY 0 0,L7 Ou 0,L7 Ou 0]:Array Ov).toList 8=M' ([.agg [.nil,.lit (.int Ou 0)],.nil,.lit (.int Ou 0),.lit (.int Ou 0)],[],places):=
 ⟨[],by kernel_rfl⟩
theorem aaI (os:Os) (started:os.Started) (H:Type) (enc:Wi×Ov->H) (F:Stop.Interp): ReturnsInHanded {} c_ os 7 .any ((Rr NX).preRow enc Ly TC M_.domain SO M_.laid) (((Rr NX).at F).post enc Ly TC SO On SO SO):=by
 obtain⟨places,hx⟩:=aaP os enc;refine returnsInHanded_of_row (C:=c_) (s:=Rr NX) Tryz.own started (by kernel_rfl) aE
  (witness_row_at (enc:=enc) (C:=c_) SO (aap os) #[Wr #[Lw MY 0 0,L7 Ou 0],Lw MY 0 0,L7 Ou 0,L7 Ou 0] rfl (by kernel_rfl) (by kernel_rfl) (by kernel_rfl)
   (OpenSpec.preRow_of_cond 8 hx (by kernel_rfl) (fun k hk=>by cases hk) (by kernel_rfl) (aa5 os))) ?_
 intro W base args ds gs before aev hW _ _ ajm hL _ _;have hval:∀ (j:Nat) t v,TC.params[j]? =M' t->args[j]? =M' v->O' Ly W .any base t v:=aev;have hT:∀ V,aa W V->nN V:=fun V hV=>(aaO hL).below hV
 have hW1:DataW.Whole enc Ly TC.params.toList NX.vars SO W args.toList ds gs before:=hW;have Mj:=hW1;obtain⟨p,q,hA0,hV,rfl,hfz,Wj⟩:=hW1;have hA:DataW.TrodAll enc Ly W 0 (fun _=>On) On TC.params.toList args.toList ds p:=hA0;have hsz:(DataW.weightsEach Ly (TC.params.toList++NX.plain.varTypes Ly) (ds++gs)).all (· <=reachBytes)=true:=ajm;rw[da]at hA hval hsz;obtain⟨v0,v1,v2,v3,d0,d1,d2,d3,p0,p1,p2,p3,rfl,rfl,rfl,h0,h1,h2,h3⟩:=trodAll_four hA;obtain⟨l0,f0,s0,g0,u0⟩:=Gw (hval 0 _ v0 rfl rfl) h0 (zP hsz (j:=0) rfl rfl);obtain⟨l1,s1⟩:=Tz (hval 1 _ v1 rfl rfl) h1;obtain⟨x2,rfl,u2⟩:=abh (hval 2 _ v2 rfl rfl) h2;obtain⟨x3,rfl,u3⟩:=abh (hval 3 _ v3 rfl rfl) h3;refine(aaD v0 v1 l0 g0 f0 u0 l1 x2 u2 x3 u3 W s0 s1 hT).mono fun e W' ⟨he,hw⟩=>⟨_,he,?_⟩
 exact Qa (s:=NX) Tryz.laidOut rfl (by rw[da];exact of_decide_eq_true (by kernel_rfl)) rfl Tryz.underlying4 rfl Mj hw
theorem aaV:Rows.MinimalBlocksSaid:=
 OpenClaim.holds_of_cond 7 TC rfl rfl rfl rfl rfl rfl rfl ⟨rfl,rfl,rfl,rfl,rfl⟩ rfl rfl rfl rfl rfl (by kernel_rfl) aE aaF
  (of_decide_eq_true (by kernel_rfl)) (by unfold Func.isWrapper;first | (rw[if_pos (by decide+kernel)];kernel_rfl) | (rw[if_neg (by decide+kernel)];exact⟨rfl,rfl⟩))
  (fun os started H enc _ F=>by rw[OpenClaim.pre_eq_preRow];exact aaI os started H enc F)
theorem aaQ (f:FuncId) (fn:Func) (hf:Tryz.pinned.checked.prog.funcNamed "repartee/reparteelaw22.MinimalBlocks" =M' f) (hfn:Tryz.pinned.checked.prog.funcs[f]? =M' fn): On=Tryz.pinned.checked.prog.looks []/\∀ (j:Nat) t,fn.params[j]? =M' t->Tryz.pinned.checked.prog.wantsStandIn t=false:=by
 obtain rfl:f=7:=X' ((show Ly.funcNamed "repartee/reparteelaw22.MinimalBlocks" =M' 7 by kernel_rfl).symm.trans hf) |>.symm;obtain rfl:fn=TC:=(X' (aE.symm.trans hfn)).symm;refine⟨by kernel_rfl,fun j t ht=>?_⟩;rw[da]at ht;have h2:t=24\/t=66\/t=5:=by have:=Array.mem_of_getElem? ht;simpa using this
 rcases h2 with rfl | rfl | rfl
 ·exact(show Ly.wantsStandIn 24=SO by kernel_rfl)
 ·exact(show Ly.wantsStandIn 66=SO by kernel_rfl)
 ·exact(show Ly.wantsStandIn 5=SO by kernel_rfl)
theorem miblocks_card:Rows.MinimalBlocksCardSaid:=
 Claim7.holds_tied_plain_at .later [] _ _ _ _ aaV (fun _ h=>by cases h) (by kernel_rfl) (fun _ h=>by cases h) minimalBlocks_row_tie rfl ⟨rfl,rfl⟩ (by kernel_rfl) rfl aaQ (by kernel_rfl)
end
end Go.Proofs.YtjgccapbphadjaaGreatDoor
