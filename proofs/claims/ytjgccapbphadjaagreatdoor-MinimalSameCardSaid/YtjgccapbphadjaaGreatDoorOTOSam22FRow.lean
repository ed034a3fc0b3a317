/- MinimalSame returns true for any small one, any small one, any strings; the arguments read behind the call as they did. No condition. A tied card: the three listed tables hold at the call what the program's text lays. Printed by wip/gen/drow.py. -/
import Derived.Test.YtjgccapbphadjaaGreatDoorCards
import Derived.Test.YtjgccapbphadjaaGreatDoorTie
import Derived.Deep.DeepHandedRow
import Derived.Stop.LaidErr
import Derived.Test.YtjgccapbphadjaaGreatDoorOB15
set_option maxRecDepth 100000
set_option maxHeartbeats 16000000
open Go.Lib (hid)
namespace Go.Proofs.YtjgccapbphadjaaGreatDoor
section
open Go Go.RowKit
def Reach (d:DF):Nat->Nat->Prop
 | 0,s=>acc d s=true
 | m+1,s=>∃ k,k<d.cl.length/\Reach d m (en d s k)
end
section
open Go Go.ChangeShapes Go.WideShapes Go.ChangeAt Go.RowKit Go.Deep
section
variable {H:Type} {enc:TypeId×Value→H} {W:World}
theorem sF {t e:TypeId} {fuel:Nat} {a:Option Addr} {n c:Nat} {x:DataW H×List MemPlace} (ht:Tryz.prog.underlying t=some (.slice e)) (hb:1<=Tryz.prog.bytesOf e) (h:DataW.trod enc Tryz.prog W 0 (fun _=>true) true fuel t [.slice a n c]=some x) (hs:∀ m∈x.1.weights Tryz.prog t,m<=reachBytes):n<=1000000000000000:=by
 rcases open_slice ht h with⟨hcs,_⟩ | ⟨a',len,cap,m,k,D,Pl,hcs,_,_,_,_,rfl,_⟩
 ·have:Value.slice a n c=.slice none 0 0:=by simpa using hcs
  cases this
  omega
 ·have:Value.slice a n c=.slice (some a') len cap:=by simpa using hcs
  cases this
  have h1:=hs ((((List.range n).map D).length+((List.range (m-n)).map fun j=>D (n+j)).length)*Tryz.prog.bytesOf e) (by simp[DataW.weights,ht]);have h2:n*1<=(((List.range n).map D).length+((List.range (m-n)).map fun j=>D (n+j)).length)*Tryz.prog.bytesOf e:=Nat.mul_le_mul (by simp) hb;unfold reachBytes at h1;omega
theorem sG {t:TypeId} (ht:Tryz.prog.underlying t=some (.int .u8)) {fuel:Nat} {c:Value} {y:DataW H×List MemPlace} (h:DataW.trod enc Tryz.prog W 0 (fun _=>true) true fuel t [c]=some y):∃ n:Nat,c=.int .u8 n/\n<256:=by
 obtain⟨z,hz,_,hw⟩:=DataW.trod_int ht h;obtain rfl:c=.int .u8 z:=by simpa using hz
 have:=Ei hw;exact⟨z.toNat,by rw[Int.toNat_of_nonneg this.1],by omega⟩
theorem Gu {fuel:Nat} {v:Value} {y:DataW H×List MemPlace} (h:DataW.trod enc Tryz.prog W 0 (fun _=>true) true fuel 116 [v]=some y) (hz:∀ m∈y.1.weights Tryz.prog 116,m<=reachBytes): ∃ l:List (Nat×Nat×Nat),dT W v l/\l.length<=1000000000000000:=by
 have hb3:1<=Tryz.prog.bytesOf 185:=by
  have:Tryz.prog.bytesOf 185=3:=by kernel_rfl
  omega
 have h0:=h;rcases open_slice Tryz.underlying116 h with⟨hcs,_⟩ | ⟨a,len,cap,m,n,D,Pl,hcs,_,hl,hm,qQ,_,hi⟩
 ·obtain rfl:v=.slice none 0 0:=by simpa using hcs
  exact⟨[],.inl ⟨rfl,rfl⟩,by simp⟩
 ·obtain rfl:v=.slice (some a) len cap:=by simpa using hcs
  have hbd:=sF Tryz.underlying116 hb3 h0 hz;have hc:Tryz.prog.cellsOf 185=3:=by kernel_rfl
  rw[hc]at hi;rw[if_pos rfl]at qQ;rcases Nat.eq_zero_or_pos len with h1 | h1
  ·subst h1
   exact⟨[],.inr (.inl ⟨a,cap,rfl,rfl⟩),by simp⟩
  ·obtain⟨b,off,spot⟩:=a
   have el:∀ i,i<len->∃ s:Nat×Nat×Nat,(s.1<256/\s.2.1<256/\s.2.2<256)/\W.cell? ((⟨b,off,spot⟩:Addr).add (i*3))=some (.int .u8 s.1)/\W.cell? (((⟨b,off,spot⟩:Addr).add (i*3)).add 1)=some (.int .u8 s.2.1)/\W.cell? (((⟨b,off,spot⟩:Addr).add (i*3)).add 2)=some (.int .u8 s.2.2):=fun i gJ=>by
    obtain⟨cs',h2,h3⟩:=hi i (by omega);obtain⟨_,Cm,hat⟩:=World.cells?_some h2;match cs',Cm with
    | [c0,c1,c2],_=>
    obtain⟨y0,y1,y2,k,_,_,t0,t1,t2⟩:=trod_struct3 Tryz.underlying185 h3;obtain⟨n0,rfl,q0⟩:=sG Tryz.underlying5 (show DataW.trod enc Tryz.prog W 0 (fun _=>true) true k 5 [c0]=some y0 from t0);obtain⟨n1,rfl,q1⟩:=sG Tryz.underlying5 (show DataW.trod enc Tryz.prog W 0 (fun _=>true) true k 5 [c1]=some y1 from t1);obtain⟨n2,rfl,q2⟩:=sG Tryz.underlying5 (show DataW.trod enc Tryz.prog W 0 (fun _=>true) true k 5 [c2]=some y2 from t2);have g0:=hat 0 (by decide);have g1:=hat 1 (by decide);have g2:=hat 2 (by decide);refine⟨(n0,n1,n2),⟨q0,q1,q2⟩,?_,g1,g2⟩;have e:∀ A:Addr,A.add 0=A:=fun A=>by simp[Addr.add]
    rwa[e]at g0
   have hspot:spot=none:=by obtain⟨s,_,g0,_⟩:=el 0 h1;simpa[Addr.add]using World.cell?_spot g0
   subst hspot;have hb:b<W.heap.size:=by
    obtain⟨s,_,g0,_⟩:=el 0 h1;rw[jS]at g0;exact ql g0
   obtain⟨S,hS⟩:=choose_lt (α:=Nat×Nat×Nat) (p:=fun i s=>s.1<256/\s.2.1<256/\s.2.2<256/\W.cell? ⟨b,off+i*3,none⟩=some (.int .u8 s.1)/\W.cell? ⟨b,off+i*3+1,none⟩=some (.int .u8 s.2.1)/\W.cell? ⟨b,off+i*3+2,none⟩=some (.int .u8 s.2.2)) (n:=len) (fun i gJ=>by
    obtain⟨s,⟨q0,q1,q2⟩,g0,g1,g2⟩:=el i gJ;rw[jS]at g0 g1 g2;rw[jS]at g1 g2
    exact⟨s,q0,q1,q2,g0,g1,g2⟩)
   refine⟨(List.range len).map S,.inr (.inr ⟨b,off,cap,by simp,hb,by simpa using hl,?_,fun i s Un=>?_⟩),by simpa using hbd⟩
   ·intro e
    have:=congrArg List.length e;simp at this;omega
   ·simp only[aO,Option.map_eq_some_iff,G8]at Un
    obtain⟨k,⟨hk,rfl⟩,rfl⟩:=Un;simp at hk ⊢;exact hS i hk
end
section
variable {H:Type} {enc:TypeId×Value→H} {W:World}
theorem Gv {fuel:Nat} {a:Option Addr} {len cap:Nat} {y:DataW H×List MemPlace} (h:DataW.trod enc Tryz.prog W 0 (fun _=>true) true fuel 22 [.slice a len cap]=some y) (hz:∀ m∈y.1.weights Tryz.prog 22,m<=reachBytes): ∃ l:List (List (Nat×Nat×Nat)),Gi W (.slice a len cap) l/\l.length<=1000000000000000:=by
 have hb3:1<=Tryz.prog.bytesOf 116:=by
  have:Tryz.prog.bytesOf 116=24:=by kernel_rfl
  omega
 have h0:=h;have hbd:=sF Tryz.underlying22 hb3 h0 hz;rcases open_slice Tryz.underlying22 h with⟨hcs,_⟩ | ⟨a',len',cap',m,n,D,Pl,hcs,_,hl,hm,qQ,hd,hi⟩
 ·have:Value.slice a len cap=.slice none 0 0:=by simpa using hcs
  cases this
  exact⟨[],.inl ⟨none,0,rfl,rfl⟩,by simp⟩
 ·have:Value.slice a len cap=.slice (some a') len' cap':=by simpa using hcs
  cases this
  rcases Nat.eq_zero_or_pos len with h1 | h1
  ·subst h1
   exact⟨[],.inl ⟨some a',cap,rfl,rfl⟩,by simp⟩
  have hc:Tryz.prog.cellsOf 116=1:=by kernel_rfl
  rw[hc]at hi;rw[if_pos rfl]at qQ;have hd1:y.1=.slice ((List.range len).map D) ((List.range (m-len)).map fun j=>D (len+j)):=congrArg Prod.fst hd;have hD:∀ i,i<len->∀ w∈(D i).weights Tryz.prog 116,w<=reachBytes:=fun i gJ w hw=>by
   refine hz w ?_;rw[hd1];simp only[DataW.weights,Tryz.underlying22,List.mem_cons,List.mem_append];exact .inr (.inl (pL (List.mem_map.2 ⟨i,List.mem_range.2 gJ,rfl⟩) w hw))
  obtain⟨b,off,spot⟩:=a';have el:∀ i,i<len->∃ s:List (Nat×Nat×Nat),s.length<=1000000000000000/\∃ u,dT W u s/\W.cell? ((⟨b,off,spot⟩:Addr).add (i*1))=some u:=fun i gJ=>by
   obtain⟨cs',h2,h3⟩:=hi i (by omega);obtain⟨_,Cm,hat⟩:=World.cells?_some h2;match cs',Cm with
   | [c0],_=>
   obtain⟨st,s0,sl⟩:=Gu h3 (hD i gJ);have g0:=hat 0 (by decide);have e:∀ A:Addr,A.add 0=A:=fun A=>by simp[Addr.add]
   rw[e]at g0;exact⟨st,sl,c0,s0,g0⟩
  have hspot:spot=none:=by obtain⟨s,_,u,_,g0⟩:=el 0 h1;simpa[Addr.add]using World.cell?_spot g0
  subst hspot;have hb:b<W.heap.size:=by
   obtain⟨s,_,u,_,g0⟩:=el 0 h1;rw[jS]at g0;exact ql g0
  obtain⟨L,hL⟩:=choose_lt (α:=List (Nat×Nat×Nat)) (p:=fun i s=>s.length<=1000000000000000/\∃ u,dT W u s/\W.cell? ⟨b,off+i,none⟩=some u) (n:=len) (fun i gJ=>by
   obtain⟨s,q1,u,q2,g0⟩:=el i gJ;rw[jS,Nat.mul_one]at g0
   exact⟨s,q1,u,q2,g0⟩)
  refine⟨(List.range len).map L,.inr ⟨b,off,cap,by simp,hb,by simpa using hl,?_,fun i s hx=>?_⟩,by simpa using hbd⟩
  ·intro e
   have:=congrArg List.length e;simp at this;omega
  ·simp only[aO,Option.map_eq_some_iff,G8]at hx
   obtain⟨k,⟨hk,rfl⟩,rfl⟩:=hx;simp at hk ⊢;exact hL i hk
theorem zn {r:Go.Reach} {b0:Nat} {v:Value} (pE:Value.okWide Tryz.prog W r b0 24 v):∃ a n c v1,v=.agg #[.slice a n c,v1]:=by
 simp only[Value.okWide,Tryz.underlying24]at pE;obtain⟨cs,rfl,hsz,ts,Mh,_,hrow⟩:=pE;have e:Tryz.prog.cellTypes Tryz.prog.depth 24=some [22,5]:=by kernel_rfl
 rw[e]at Mh;cases Mh;have hc:Tryz.prog.cellsOf 24=2:=by kernel_rfl
 rw[hc]at hsz;obtain⟨l⟩:=cs;match l,hsz with
 | [v0,v1],_=>
  obtain⟨u,hu,h⟩:=hrow 0 v0 rfl;cases hu;have h5:Value.okWide Tryz.prog W r b0 22 v0:=by simp only[Value.okWide,Tryz.underlying22];exact h
  obtain⟨a,n,c,rfl⟩:=okWide_slice Tryz.underlying22 h5;exact⟨a,n,c,v1,rfl⟩
theorem Gw {r:Go.Reach} {v:Value} {d:DataW H} {p:List MemPlace} {b0:Nat} (pE:Value.okWide Tryz.prog W r b0 24 v) (h:DataW.Trod enc Tryz.prog W 0 (fun _=>true) true 24 v d p) (hz:∀ m∈d.weights Tryz.prog 24,m<=reachBytes): ∃ (l:List (List (Nat×Nat×Nat))) (fl:Nat),pT W v l fl/\l.length<=1000000000000000/\fl<256:=by
 obtain⟨a,n,c,v1,rfl⟩:=zn pE;obtain⟨fuel,hf⟩:=h;obtain⟨y0,y1,k,e,_,t0,t1⟩:=trod_struct2 Tryz.underlying24 hf;replace t0:DataW.trod enc Tryz.prog W 0 (fun _=>true) true k 22 [.slice a n c]=some y0:=t0;replace t1:DataW.trod enc Tryz.prog W 0 (fun _=>true) true k 5 [v1]=some y1:=t1;have e1:d=.agg [y0.1,y1.1]:=congrArg Prod.fst e;subst e1
 obtain⟨l,s0,g0⟩:=Gv t0 (fun m hm=>hz m (by
  simp only[DataW.weights,Tryz.underlying24]
  exact DataW.weights_mem_each (j:=0) (ds:=[y0.1,y1.1]) rfl rfl m hm))
 obtain⟨fl,rfl,pG⟩:=sG Tryz.underlying5 t1;exact⟨l,fl,⟨_,rfl,s0⟩,g0,pG⟩
end
end
section
open Go Go.RowKit Go.Shelf Go.Maps
theorem Tryz.Wf:(Tryz.prog.info? 44).map (fun i=>(i.zero,i.size,i.bytes))=some (some (.slice none 0 0),1,24):=by kernel_rfl
def JV (w:World) (v:Value) (L:List (List Nat)):Prop:=∃ a c,v=.slice a L.length c/\L.length<=c/\∀ (i:Nat) (s:List Nat),L[i]? =some s->(∀ c∈s,c<256)/\∃ b off x y,a=some ⟨b,off,none⟩/\b<w.heap.size/\s.length<=y/\w.cell? ⟨b,off+i,none⟩=some (.slice x s.length y)/\ew cU w (.slice x s.length y) s
theorem JV.below {w W:World} {v:Value} {L:List (List Nat)} (h:JV w v L) (hk:aa w W):JV W v L:=by obtain⟨a,c,h1,h2,h3⟩:=h;refine⟨a,c,h1,h2,fun i s hs=>?_⟩;obtain⟨q1,b,off,x,y,q2,q3,q4,q5,q6⟩:=h3 i s hs;exact⟨q1,b,off,x,y,q2,aD q3 hk.size,q4,((ae.ai hk fun _ h=>h:ae (· <w.heap.size) w W).cell (p:=⟨b,off+i,none⟩) q3).trans q5,q6.below hk⟩
theorem ew.JG {w:World} {a:Option Addr} {n c m:Nat} {s:List Nat} (h:ew cU w (.slice a n c) s) (hm:m=(s.take 12).length):ew cU w (.slice a m c) (s.take 12):=by
 subst hm;rcases h with(⟨e,rfl⟩ | ⟨b,off,cap,e,hb,hc,hg⟩) | ⟨rfl,x,y,e⟩
 ·cases e
  exact .inl (.inl ⟨rfl,rfl⟩)
 ·cases e
  refine .inl (.inr ⟨b,off,c,rfl,hb,?_,fun i x hi=>?_⟩)
  ·rw[List.length_take];omega
  ·by_cases h12:i<12
   ·rw[List.getElem?_take,if_pos h12]at hi
    exact hg i x hi
   ·rw[aS (by rw[List.length_take];omega)]at hi;cases hi
 ·cases e
  exact .inr ⟨rfl,_,_,rfl⟩
def LH (L:List (List Nat)) (m:Nat) (W:World) (e:Ending) (w':World):Prop:=
 ∃ a c,∃ g:Nat->Value,e=.returned (.slice a m c)/\w'.ownsRow W.heap.size 44 1 (.slice a m c) m ((List.range m).map g)/\(∀ (i:Nat) (s:List Nat),L[i]? =some s->∃ x y,g i=.slice x (s.take 12).length y/\ew cU W (g i) (s.take 12)/\∀ c∈s.take 12,c<256)/\aa W w'
theorem Gx (v:Value) (L:List (List Nat)) {m:Nat} (hm:m=min L.length 30) (w:World) (h:JV w v L): ah 35 #[v] w (LH L m w):=by
 obtain⟨i0,hi,hz0,hz1,hz2⟩:=info_parts Tryz.Wf;obtain⟨a,c,rfl,hc,hS⟩:=h
 obtain⟨p,hp⟩:=Classical.axiomOfChoice (r:=fun (i:Nat) (q:Option Addr×Nat)=>∀ s,L[i]? =some s->(∀ c∈s,c<256)/\∃ b off,a=some ⟨b,off,none⟩/\b<w.heap.size/\s.length<=q.2/\w.cell? ⟨b,off+i,none⟩=some (.slice q.1 s.length q.2)/\ew cU w (.slice q.1 s.length q.2) s) (fun i=>by
  by_cases hl:i<L.length
  ·obtain⟨h1,b,off,x,y,h2,h3,h4,h5,h6⟩:=hS i _ (az hl)
   refine⟨(x,y),fun s hs=>?_⟩;rw[az hl]at hs;cases hs;exact⟨h1,b,off,h2,h3,h4,h5,h6⟩
  ·exact⟨(none,0),fun s hs=>by rw[aS (by omega)]at hs;cases hs⟩)
 have HP:=hid hp;obtain⟨g,hg⟩:=ag (fun i=>.slice (p i).1 ((L.getD i []).take 12).length (p i).2:Nat->Value);have HG:Hid (∀ i s,L[i]? =some s->g i=.slice (p i).1 (s.take 12).length (p i).2):=hid fun i s hs=>by rw[hg];show Value.slice _ _ _=_;rw[bu,hs];rfl
 obtain⟨n,hn⟩:=ag L.length;have l9:min (n:Int) 30=(m:Int):=by omega
 have hmn:m<=n:=by omega
 have aqs:m<=30:=by omega
 rw[<-hn]at hc ⊢;have RV:m<=c:=by omega
 have HN:=hid hn;clear hS hp hg hn hm;go_enter Tryz.func35,Tryz.ntmps35;go_wp2_with fail
 go_loopw [3,12] (fun u i wr=>∃ k:Nat,k<=m/\i=.int .i64 k/\(∃ a c,u=.slice a k c)/\wr.ownsRow w.heap.size 44 1 u k ((List.range k).map g)/\aa w wr) (fun _ i _=>m-(intOf i).toNat)
 case atStart=>exact⟨0,by omega,rfl,⟨_,_,rfl⟩,World.ownsRow_nil _ _ _ _,Below.refl _ _⟩
 case round=>
  obtain⟨k,hk,rfl,⟨oa,oc,rfl⟩,ho,hx⟩:=hrel;obtain⟨wo,rfl⟩:=ag (wr:World);have HO:=hid ho;have HX:=hid hx;clear ho hx;by_cases hlt:k<m
  ·have eE:(k:Int)<m:=by omega
   obtain⟨s,hs⟩:∃ s,L[k]? =some s:=⟨_,az (by have:=HN.out;omega)⟩;obtain⟨_,b,off,rfl,hb,hsy,c0,_⟩:=HP.out k s hs;have HGK:=hid (HG.out k s hs);have wc:∀ (o:Nat) (u:Value),w.cell? ⟨b,o,none⟩=some u->wo.cell? ⟨b,o,none⟩=some u:=fun o u h=>((ae.ai HX fun _ h=>h:ae (· <w.heap.size) w wo).cell (p:=⟨b,o,none⟩) hb).trans h
   replace c0:=wc _ _ c0;obtain⟨x,VR⟩:=ag ((p k).1);obtain⟨y,hye⟩:=ag ((p k).2);rw[<-VR, <-hye]at c0 HGK;rw[<-hye]at hsy;obtain⟨sn,kS⟩:=ag s.length;obtain⟨S,hSe⟩:=ag ((s.take 12).length);have hSm:S=min 12 sn:=by rw[hSe,List.length_take,kS]
   have adV:min (sn:Int) 12=(S:Int):=by omega
   have hSn:S<=sn:=by omega
   rw[<-kS]at hsy c0;rw[<-hSe]at HGK;have hSy:S<=y:=by omega
   have hrg:(List.range (k+1)).map g=(List.range k).map g++ [.slice x S y]:=by rw[List.range_succ,List.map_append, <-HGK.out];rfl
   have HR:=hid hrg;clear wc hrg hs VR hye kS hSe hSm;go_wp2_with (at_builtin;refine wpList_append_own_at _ rfl (.tmp 16) (.tmp 22) 66 rfl w.heap.size 44 i0 (.slice none 0 0) 1 24 Tryz.underlying66 hi hz0 hz1 hz2 rfl (by decide) _ _ _ rfl (HO.alloc _) ⟨wo.heap.size,0,none⟩ 1 1 [.slice x S y] rfl rfl (eF _ _ _) (by simp[Value.oneCell']) (by unfold maxLen;omega) (by omega) (by have:=HX.size;simp;omega) ?_;intro v' w2 hown' hgrow hh hat;have jH:=hid hown';have HG2:=hid hgrow;clear hown' hgrow hh hat);go_roundw;case rel=>
    have GQ:=jH.out;rw[<-HR.out]at GQ;refine⟨k+1,by omega,by go_num,ownsRow_form GQ,GQ,?_⟩;exact(HX.alloc HX.size _).grown HG2 (by have:=HX.size;simp;omega) (fun c e=>(HO.lt c e).1)
   case measure=>simp[intOf];omega
  ·obtain rfl:k=m:=by omega
   have eE:¬ ((k:Int)<k):=by omega
   go_wp2;go_ret;refine⟨_,_,g,rfl,HO,fun i s hs=>?_,HX⟩;obtain⟨h1,b,off,_,_,_,_,h6⟩:=HP.out i s hs;have h7:=HG.out i s hs;exact⟨_,_,h7,by rw[h7];exact h6.JG rfl,fun c hc=>h1 c (List.mem_of_mem_take hc)⟩
end
section
open Go Go.ChangeShapes Go.WideShapes Go.ChangeAt Go.RowKit Go.Deep
section
variable {H:Type} {enc:TypeId×Value→H} {W:World}
theorem Gy {fuel:Nat} {v:Value} {y:DataW H×List MemPlace} (h:DataW.trod enc Tryz.prog W 0 (fun _=>true) true fuel 44 [v]=some y):∃ l:List Nat,(∀ c∈l,c<256)/\ew cU W v l/\∃ a c,v=.slice a l.length c/\l.length<=c:=by
 rcases open_ints Tryz.underlying44 Tryz.underlying5 (by kernel_rfl) h with⟨hcs,_⟩ | ⟨a,len,cap,zs,hcs,_,hl,hm,hzs,_,hi,hwf⟩
 ·obtain rfl:v=.slice none 0 0:=by simpa using hcs
  exact⟨[],(fun c hc=>by cases hc),.inl (.inl ⟨rfl,rfl⟩),_,_,rfl,aG _⟩
 ·obtain rfl:v=.slice (some a) len cap:=by simpa using hcs
  rw[if_pos rfl]at hzs;have hlen:((zs.take len).map Int.toNat).length=len:=by rw[aQ,List.length_take];omega
  rcases Nat.eq_zero_or_pos cap with h1 | h1
  ·obtain rfl:len=0:=by omega
   subst h1;exact⟨[],(fun c hc=>by cases hc),.inr ⟨rfl,_,_,rfl⟩,_,_,rfl,aG _⟩
  ·obtain⟨b,off,rfl,hc⟩:=ints_at hi (by omega)
   have hbl:b<W.heap.size:=by
    have:=hc 0 (by omega);unfold World.cell? at this;cases hh:W.heap[b]? with
    | none=>rw[hh]at this;cases this
    | some o=>exact(Array.getElem?_eq_some_iff.1 hh).1
   have hu:∀ z∈zs.take len,0<=z/\z<256:=fun z hz=>Ei (hwf z (List.mem_of_mem_take hz))
   refine⟨(zs.take len).map Int.toNat,fun c hc=>?_,.inl (.inr ⟨b,off,cap,by rw[hlen],hbl,by rw[hlen];exact hl,fun i x hx=>?_⟩),some ⟨b,off,none⟩,cap,by rw[hlen],by rw[hlen];exact hl⟩
   ·obtain⟨z,hz,rfl⟩:=List.mem_map.1 hc
    have:=hu z hz;omega
   ·rw[aO]at hx
    obtain⟨z,hz,rfl⟩:=Option.map_eq_some_iff.1 hx;have hz2:=hu z (aw hz);rw[List.getElem?_take]at hz;split at hz
    ·have hiz:i<zs.length:=(List.getElem?_eq_some_iff.1 hz).1
     have:=hc i hiz;rw[bu,hz]at this;rw[this];show some (Value.int .u8 z)=some (Value.int .u8 ((z.toNat:Nat):Int));rw[Int.toNat_of_nonneg hz2.1]
    ·cases hz
theorem Tz {r:Go.Reach} {v:Value} {d:DataW H} {p:List MemPlace} {b0:Nat} (pE:Value.okWide Tryz.prog W r b0 66 v) (h:DataW.Trod enc Tryz.prog W 0 (fun _=>true) true 66 v d p):∃ L:List (List Nat),JV W v L:=by
 obtain⟨a,len,cap,rfl⟩:=okWide_slice Tryz.underlying66 pE;obtain⟨fuel,h⟩:=h;rcases open_slice Tryz.underlying66 h with⟨hcs,_⟩ | ⟨a',len',cap',m,n,D,Pl,hcs,_,hl,hm,qQ,hd,hi⟩
 ·have:Value.slice a len cap=.slice none 0 0:=by simpa[Value.cells]using hcs
  cases this
  exact⟨[],none,0,rfl,aG _,fun i s hs=>by cases hs⟩
 ·have:Value.slice a len cap=.slice (some a') len' cap':=by simpa[Value.cells]using hcs
  cases this
  rcases Nat.eq_zero_or_pos len with h1 | h1
  ·subst h1
   exact⟨[],some a',cap,rfl,Nat.zero_le _,fun i s hs=>by cases hs⟩
  have hc:Tryz.prog.cellsOf 44=1:=by kernel_rfl
  rw[hc]at hi;rw[if_pos rfl]at qQ;obtain⟨b,off,spot⟩:=a';have el:∀ i,i<len->∃ s:List Nat,(∀ c∈s,c<256)/\∃ x y,s.length<=y/\ew cU W (.slice x s.length y) s/\W.cell? ((⟨b,off,spot⟩:Addr).add (i*1))=some (.slice x s.length y):=fun i gJ=>by
   obtain⟨cs',h2,h3⟩:=hi i (by omega);obtain⟨_,Cm,hat⟩:=World.cells?_some h2;match cs',Cm with
   | [c0],_=>
   obtain⟨s,s0,s1,x,y,rfl,s2⟩:=Gy h3;have g0:=hat 0 (by decide);have e:∀ A:Addr,A.add 0=A:=fun A=>by simp[Addr.add]
   rw[e]at g0;exact⟨s,s0,x,y,s2,s1,g0⟩
  have hspot:spot=none:=by obtain⟨s,_,x,y,_,_,g0⟩:=el 0 h1;simpa[Addr.add]using World.cell?_spot g0
  subst hspot;have hb:b<W.heap.size:=by
   obtain⟨s,_,x,y,_,_,g0⟩:=el 0 h1;rw[jS]at g0;exact ql g0
  obtain⟨L,hL⟩:=choose_lt (α:=List Nat) (p:=fun i s=>(∀ c∈s,c<256)/\∃ x y,s.length<=y/\ew cU W (.slice x s.length y) s/\W.cell? ⟨b,off+i,none⟩=some (.slice x s.length y)) (n:=len) (fun i gJ=>by
   obtain⟨s,q1,x,y,q2,q3,g0⟩:=el i gJ;rw[jS,Nat.mul_one]at g0
   exact⟨s,q1,x,y,q2,q3,g0⟩)
  refine⟨(List.range len).map L,some ⟨b,off,none⟩,cap,by simp,by simpa using hl,fun i s hx=>?_⟩;simp only[aO,Option.map_eq_some_iff,G8]at hx;obtain⟨k,⟨hk,rfl⟩,rfl⟩:=hx;rw[List.length_range]at hk;simp only[List.getElem_range];obtain⟨q1,x,y,q2,q3,q4⟩:=hL i hk;exact⟨q1,b,off,x,y,rfl,hb,q2,q4,q3⟩
end
end
section
open Go
theorem Oq {P:Program} {f:FuncId} {fn:Func} {s:ChangeSpec} {c:OpenClaim} (k1:(c.wf (OpenSpec.ofChange s))=true) (k2:(laidOutB P)=true) (k3:(mapsRowed P)=true) (k4:(fn.params.all (P.readableRec ·))=true) (k5:(namedTie P c.named s.vars)=true) (k6:(c.stops== [])=true) (k7:(P.stops== [])=true) (k8:(c.knobs== [])=true) (k9:(P.stopKnobs== [])=true) (k10:(c.inPlace==P.inPlace f)=true) (k11:(c.unfollowed==P.unfollowed f)=true) (k12:(c.recurses==P.recurses f)=true) (k13:(c.named==P.varsNamed f)=true) (k14:(c.maps==(fn.params.toList++s.plain.varTypes P).any (P.mapsRec ·))=true) (k15:(c.ifaces==(fn.params.toList++s.plain.varTypes P).any (P.ifacesRec ·))=true) (k16:(c.mapsOut==P.mapsAmong fn.resultTypes.toList)=true) (k17:(c.loops==(fn.params.toList++s.plain.varTypes P).any (P.loopsFrom ·))=true) (ajc:(c.wideKeys==(fn.params.toList++s.plain.varTypes P++fn.resultTypes.toList).any (P.wideKeysFrom ·))=true) (k18:(s.vars.all (P.varReadable ·))=true) (k19:(fn.resultTypes.all (fun t=>P.readableRec t&&decide (t<P.types.size)))=true) (k20:(c.ifacesOut==fn.resultTypes.toList.any (P.ifacesRec ·))=true) (k21:(c.loopsOut==fn.resultTypes.toList.any (P.loopsFrom ·))=true) (k22:(c.plainKeys==P.plainKeys)=true) (k23:c.shortTexts.isNone=true) (ajd:P.stopsHeard=true) (k24:P.mayEnter=true) (aje:(c.lifted==P.liftsFinal)=true) (ajf:(P.make==some c.make)=true) (k25:(c.kinds==(if c.domain.isEmpty then []else fn.params.toList.map fun t=>match P.underlying t with | some (.int k)=>some k | _=>none))=true) (k26:(c.pinned==c.pinnedBy)=true) (k27:(c.veiled==(fn.params.toList++s.plain.varTypes P++fn.resultTypes.toList).any (P.veiledRec ·))=true) (k28:(c.veiledFits P fn.params.toList (fn.params.toList++s.plain.varTypes P++fn.resultTypes.toList))=true):joinedFacts P f fn s c=true:=by unfold joinedFacts;simp only[Bool.and_eq_true];exact⟨⟨⟨⟨⟨⟨⟨⟨⟨⟨⟨⟨⟨⟨⟨⟨⟨⟨⟨⟨⟨⟨⟨⟨⟨⟨⟨⟨⟨⟨⟨k1,k2⟩,k3⟩,k4⟩,k5⟩,k6⟩,k7⟩,k8⟩,k9⟩,k10⟩,k11⟩,k12⟩,k13⟩,k14⟩,k15⟩,k16⟩,k17⟩,ajc⟩,k18⟩,k19⟩,k20⟩,k21⟩,k22⟩,k23⟩,ajd⟩,k24⟩,aje⟩,ajf⟩,k25⟩,k26⟩,k27⟩,k28⟩
theorem Ot:(Rows.minimalSameRow.wf (OpenSpec.ofChange Rows.minimalSameSpec))=true:=by kernel_rfl
theorem Ou:(laidOutB Tryz.prog)=true:=by kernel_rfl
theorem Ov:(mapsRowed Tryz.prog)=true:=by kernel_rfl
theorem JY:((Rows.minimalSameRow.inPlace==Tryz.prog.inPlace 5))=true:=by kernel_rfl
theorem JZ:((Rows.minimalSameRow.unfollowed==Tryz.prog.unfollowed 5))=true:=by kernel_rfl
theorem J1:((Rows.minimalSameRow.recurses==Tryz.prog.recurses 5))=true:=by kernel_rfl
theorem J2:((Rows.minimalSameRow.named==Tryz.prog.varsNamed 5))=true:=by kernel_rfl
theorem Gz:(Tryz.prog.stopsHeard)=true:=by kernel_rfl
theorem J3:(Tryz.prog.mayEnter)=true:=by kernel_rfl
theorem GA:((Rows.minimalSameRow.lifted==Tryz.prog.liftsFinal))=true:=by kernel_rfl
theorem GC:((Tryz.prog.make==some Rows.minimalSameRow.make))=true:=by kernel_rfl
theorem zo:joinedFacts Tryz.prog 5 Tryz.f5 Rows.minimalSameSpec Rows.minimalSameRow=true:=Oq Ot Ou Ov (by kernel_rfl) (by kernel_rfl) (by kernel_rfl) (by kernel_rfl) (by kernel_rfl) (by kernel_rfl) JY JZ J1 J2 (by kernel_rfl) (by kernel_rfl) (by kernel_rfl) (by kernel_rfl) (by kernel_rfl) (by kernel_rfl) (by kernel_rfl) (by kernel_rfl) (by kernel_rfl) (by kernel_rfl) (by kernel_rfl) Gz J3 GA GC (by kernel_rfl) (by kernel_rfl) (by kernel_rfl) (by kernel_rfl)
end
section
open Go Go.RowKit Go.Shelf Go.Maps
theorem GD {d:DF} (rt:Rt d) (b:List Nat) (hb:∀ c∈b,c<256) (NI:b.length<=1000000) {m:Nat} (hm:m=(d.mr.getD (bG d 0 b) []).length) (w:World) (v bv:Value) (h:dr w v d) (OQ:ew cU w bv b): ah 34 #[v,bv] w fun e w'=>∃ a c,e=.returned (.slice a m c)/\bQ aM w' (.slice a m c) (d.mr.getD (bG d 0 b) [])/\aa w w':=by
 have CM:Hid (∀ W,aa w W->ah 78 #[v,bv] W fun e w'=>∃ a c,e=.returned (.tuple #[.slice a m c,.int .i64 0])/\bQ aM w' (.slice a m c) (d.mr.getD (bG d 0 b) [])/\aa W w'):=hid fun W hW=>(zg v bv d rt rt.ZF b hb NI W (h.below hW) (OQ.below hW)).mono fun e w' ⟨u,h1,h2,h3⟩=>by
  rw[<-hm]at h2;obtain⟨a,c,rfl⟩:=ownsRow_form h2;exact⟨a,c,h1,cZ h2 hm,h3⟩
 obtain⟨a0,c0,a1,c1,a2,c2,rfl⟩:=h.form;obtain⟨ba,bc,rfl⟩:=OQ.form;obtain⟨n0,dw⟩:=ag d.cl.length;obtain⟨n1,fH⟩:=ag d.nx.length;obtain⟨n2,jg⟩:=ag d.mr.length;obtain⟨bn,aen⟩:=ag b.length;rw[<-dw, <-fH, <-jg, <-aen]at CM ⊢;clear h OQ dw fH jg aen hm;go_enter Tryz.func34,Tryz.ntmps34;go_upto_region 1 with fail
 refine aA ?_;intro V hV;have B0:Hid (ar V w.heap.size #[.slice a0 n0 c0,.slice a1 n1 c1,.slice a2 n2 c2] 29):=hid (by rw[hV];exact ar.new _ _ _);have X0:Hid (aa w V):=hid (by rw[hV];exact((Ext.refl w).alloc _).below);clear hV;obtain⟨⟨i0,i1,i2⟩,_⟩:=B0.three;go_wp2_with fail
 refine(CM V X0).mono ?_;rintro e w1 ⟨a,c,rfl,hs,hx⟩;have HS:=hid hs;have X1:=hid (X0.trans (hx.mono X0.size));clear hs hx i0 i1 i2 B0 X0;go_wp2;go_ret;exact⟨a,c,rfl,HS,X1⟩
end
section
open Go Go.RowKit Go.Shelf
theorem Ow (W:World) (a:Option Addr) (c:Nat):(convert 44 9 (.slice a 0 c)).run Tryz.prog W=.ok (.string ⟨#[]⟩) W:=by
 rw[run_convert_bytes_string W 44 9 5 a 0 c Tryz.underlying44 Tryz.underlying5 Tryz.underlying9];cases a with
 | none=>rfl
 | some a=>
  rw[run_bytesToString W a 0 c [] (by rfl)];rfl
theorem TA {W:World} {a:Option Addr} {n c:Nat} {s:List Nat} (hs:∀ x∈s,x<256) (hn:n=s.length) (h:s=[]\/∃ b off,a=some ⟨b,off,none⟩/\∀ (i x:Nat),s[i]? =some x->W.cell? ⟨b,off+i,none⟩=some (.int .u8 x)):(convert 44 9 (.slice a n c)).run Tryz.prog W=.ok (.string ⟨(s.map UInt8.ofNat).toArray⟩) W:=by
 subst hn;rcases h with rfl | ⟨b,off,rfl,hc⟩
 ·exact Ow W a c
 ·have h8:=Lib.run_convert_whole (P:=Tryz.prog) W 44 5 9 Tryz.underlying44 Tryz.underlying5 Tryz.underlying9 b off ⟨(s.map UInt8.ofNat).toArray⟩ (fun i hi=>by
   have hi':i<s.length:=by simpa[ByteArray.size]using hi
   rw[hc i _ (az hi')];have h3:=hs _ (List.getElem_mem hi');have e:((⟨(s.map UInt8.ofNat).toArray⟩:ByteArray)[i]'hi)=UInt8.ofNat s[i]:=by
    show((s.map UInt8.ofNat).toArray)[i]'_=_;simp
   rw[e,UInt8.toNat_ofNat'];simp only[Nat.reducePow]
   rw[Nat.mod_eq_of_lt h3]) c
  have e9:(⟨(s.map UInt8.ofNat).toArray⟩:ByteArray).size=s.length:=by simp[ByteArray.size]
  rw[e9]at h8;exact h8
theorem pV:∀ (s w:List Nat),s.length=w.length->(∀ c∈s,c<256)->(∀ c∈w,c<256)->(∀ j x y,s.take j=w.take j->s[j]? =some x->w[j]? =some y->y<=x)->Op.bytesLess (s.map UInt8.ofNat) (w.map UInt8.ofNat)=false
 | [],[],_,_,_,_=>rfl
 | _::_,[],h,_,_,_=>by cases h
 | [],_::_,h,_,_,_=>by cases h
 | a::r,b::t,h,hs,hw,hd=>by
  have h0:=hd 0 a b rfl rfl rfl;have ha:=hs a aY;have hb:=hw b aY;have e1:(UInt8.ofNat a<UInt8.ofNat b)↔a<b:=by rw[UInt8.lt_iff_toNat_lt,UInt8.toNat_ofNat',UInt8.toNat_ofNat'];simp only[Nat.reducePow];rw[Nat.mod_eq_of_lt ha,Nat.mod_eq_of_lt hb]
  simp only[List.map_cons,Op.bytesLess,Bool.or_eq_false_iff,Bool.and_eq_false_iff,decide_eq_false_iff_not,e1];refine⟨by omega,?_⟩;by_cases e:a=b
  ·subst e
   right
   exact pV r t (by simpa using h) (fun c hc=>hs c (bC _ hc)) (fun c hc=>hw c (bC _ hc)) fun j x y h1 h2 h3=>hd (j+1) x y (by rw[List.take_succ_cons,List.take_succ_cons,h1]) h2 h3
  ·left
   rw[beq_eq_false_iff_ne];intro e2;have:=congrArg UInt8.toNat e2;rw[UInt8.toNat_ofNat',UInt8.toNat_ofNat']at this;simp only[Nat.reducePow]at this;rw[Nat.mod_eq_of_lt ha,Nat.mod_eq_of_lt hb]at this;exact e this
end
section
open Go Go.RowKit
def Dk (d:DF) (s:List Nat):List Int:=d.mr.getD (bG d 0 s) []
theorem TB {d:DF} (h:Rt d) {s:List Nat} (hs:∀ c∈s,c<256):Dk (cq d) s=Dk d s:=oh h hs
theorem Ox {a b:DF} (ha:Rt a) (hb:Rt b):∀ c∈(cB a b (0,0)).getD [],c<256:=by
 cases e:cB a b (0,0)with
 | none=>intro c hc;cases hc
 | some w=>exact(kE ha hb e).TQ
theorem TC {a b:DF} (ha:Rt a) (hb:Rt b):((cB a b (0,0)).getD []).length<=a.nx.length*b.nx.length:=by
 cases e:cB a b (0,0)with
 | none=>exact Nat.zero_le _
 | some w=>
  obtain⟨n,x,_,_,h3,_,h5⟩:=qL _ _ e;have h1:=lL n x (aw h3);have h2:=(List.getElem?_eq_some_iff.1 h3).1;have h4:=tC ha hb (p:=(0,0)) ⟨ha.pos,hb.pos⟩ n;rw[h5]at h1;show w.length<=_;omega
theorem Oy {a b:DF} (ha:Rt a) (hb:Rt b):eqD (cq a) (cq b)= !(cB a b (0,0)).isSome:=by rw[Bool.eq_iff_iff,VV,Tj ha hb];cases cB a b (0,0)<;>simp
theorem J4 {a b:DF} (ha:Rt a) (hb:Rt b):(Dk a ((cB a b (0,0)).getD [])==Dk b ((cB a b (0,0)).getD []))= !(cB a b (0,0)).isSome:=by
 cases e:cB a b (0,0)with
 | none=>
  rw[beq_iff_eq.2]
  ·rfl
  ·exact nZ ha hb (p:=(0,0)) ⟨ha.pos,hb.pos⟩ e fun c hc=>by cases hc
 | some w=>
  have h:=(kE ha hb e).ok;unfold qK at h;rw[beq_eq_false_iff_ne.2]
  ·rfl
  ·exact of_decide_eq_true h
theorem J5 {a b:DF} (ha:Rt a) (hb:Rt b) {s:List Nat} (hs:∀ c∈s,c<256) (h:Dk a s≠Dk b s):(cB a b (0,0)).isSome=true/\((cB a b (0,0)).getD []).length<=s.length/\(s.length=((cB a b (0,0)).getD []).length->Op.bytesLess (s.map UInt8.ofNat) (((cB a b (0,0)).getD []).map UInt8.ofNat)=false):=by obtain⟨w,e,hf,hl,hx⟩:=JI ha hb hs h;rw[e];exact⟨rfl,hl,fun hn=>pV s w hn hs hf.TQ (hx hn)⟩
def aX.slQ {α:Type} (enc:α->Value) (n:Nat) (l:List α):aX (Move false (fun _=>False)) where
 P:=fun v=>∃ a c,v=.slice a n c
 H:=fun v W=>bQ enc W v l
 ot:=.slice none n 0
 pw:=⟨none,0,rfl⟩
 st:=fun _ _ _ hm _ h=>h.below hm.below
end
section
open Go Go.RowKit Go.Shelf Go.Maps
def Oz (l:List Int) (n:Nat) (W:World) (e:Ending) (w':World):Prop:=∃ x y,e=.returned (.slice x n y)/\bQ aM w' (.slice x n y) l/\aa W w'
theorem TD {d:DF} (rt:Rt d) (s:List Nat):(Dk d s).length<=1000000:=by
 unfold Dk;rw[bu];cases h:d.mr[bG d 0 s]? with
 | none=>exact Nat.zero_le _
 | some m=>exact rt.ZF.Yw m (aw h)
theorem TE {d:DF} (rt:Rt d) (s:List Nat) (hs:∀ c∈s,c<256) (hn:s.length<=1000000) {l:List Int} (hl:l=Dk d s) {n:Nat} (hm:n=l.length) (W:World) (v bv:Value) (h:dr W v d) (hb:ew cU W bv s):ah 34 #[v,bv] W (Oz l n W):=by subst hl;exact GD rt s hs hn hm W v bv h hb
theorem qP {l1 l2:List Int} (hn:l1.length<=1000000) {b:Bool} (hb:(l1==l2)=b) (W:World) (u v:Value) (h:bQ aM W u l1) (h':bQ aM W v l2):ah 33 #[u,v] W fun e w'=>e=.returned (.bool b)/\aa W w':=(nw u v l1 l2 W h h' hn).mono fun e w' ⟨he,hx⟩=>by
 rw[hb]at he;exact⟨he,hx.below⟩
theorem ew.str {W:World} {a:Option Addr} {n c:Nat} {s:List Nat} (h:ew cU W (.slice a n c) s) (hs:∀ x∈s,x<256) (hn:n=s.length):(convert 44 9 (.slice a n c)).run Tryz.prog W=.ok (.string ⟨(s.map UInt8.ofNat).toArray⟩) W:=by
 refine TA hs hn ?_;rcases h with(⟨_,e⟩ | ⟨b,off,cap,e,_,_,hc⟩) | ⟨e,_⟩
 ·exact .inl e
 ·cases e
  exact .inr ⟨b,off,rfl,hc⟩
 ·exact .inl e
theorem GF (v v' lv:Value) (a b:DF) (oka okb:Bool) (Wh:oka=true->Rt a/\a.nx.length<=60) (Wi:okb=true->Rt b/\b.nx.length<=60) (L:List (List Nat)) {n0 n1 n2 m0 m1 m2:Nat} (w:World) (hv:∃ x n c fl,v=.agg #[.slice x n c,.int .u8 fl]) (hv':∃ x n c fl,v'=.agg #[.slice x n c,.int .u8 fl]) (hL:JV w lv L) (hA:∀ W,aa w W->ah 10 #[] W fun e w'=>e=.returned (.bool true)/\aa W w') (hM:∀ W,aa w W->ah 11 #[v] W (yo n0 n1 n2 oka a W)) (yA:∀ W,aa w W->ah 11 #[v'] W (yo m0 m1 m2 okb b W)): ah 5 #[v,v',lv] w fun e w'=>e=.returned (.bool true)/\aa w w':=by
 obtain⟨M,TY⟩:=ag (min L.length 30);have CWD:Hid (∀ W,aa w W->ah 35 #[lv] W (LH L M W)):=hid fun W hW=>Gx lv L TY W (hL.below hW)
 have HME:=hid TY;have aqO:M<=30:=by omega
 obtain⟨la,lc,rfl,_,_⟩:=hL;obtain⟨ln,Qt⟩:=ag L.length;rw[<-Qt]at CWD ⊢;obtain⟨xa,xn,xc,fl,rfl⟩:=hv;obtain⟨ya,yn,yc,gl,rfl⟩:=hv';have HA:=hid hA;have HM:=hid hM;have HN:=hid yA;have km:=hid Wh;have HOL:=hid Wi;clear hA hM yA Wh Wi TY Qt;go_enter Tryz.func5,Tryz.ntmps5;go_upto_region 1 with fail
 refine aA ?_;intro V0 hV;have X:Hid (aa w V0):=hid (by rw[hV];exact(((Ext.refl w).alloc _).alloc _).below);have BX:Hid (ar V0 w.heap.size #[.slice xa xn xc,.int .u8 fl] 24):=hid (by rw[hV];exact(ar.new w _ _).alloc _);have BY:Hid (ar V0 (w.heap.size+1) #[.slice ya yn yc,.int .u8 gl] 24):=hid (by rw[hV];exact(ar.new (w.alloc _) _ _).at (by simp));clear hV;go_wp2_with fail
 refine(HA V0 X).mono ?_;rintro e w1 ⟨rfl,hx⟩;replace X:=hid (X.trans (hx.mono X.size));replace BX:=hid (BX.below hx BX.lt);replace BY:=hid (BY.below hx BY.lt);clear hx;clear HA;have i0:w1.cell? ⟨w.heap.size,0,none⟩=some (.slice xa xn xc):=BX.cell 0;have i1:w1.cell? ⟨w.heap.size,1,none⟩=some (.int .u8 fl):=BX.cell 1;clear BX;go_wp2_with fail
 refine(HM w1 X).mono ?_;rintro e w2 ⟨d0,dc0,d1,dc1,d2,dc2,rfl,hd,hx⟩;replace X:=hid (X.trans (hx.mono X.size));replace BY:=hid (BY.below hx BY.lt);have DA:=hid hd.df;clear hd hx i0 i1 HM;go_upto_region 4 with fail
 refine aA ?_;intro V1 hV;have hb:aa w2 V1:=by rw[hV];exact((Ext.refl w2).alloc _).below
 have kb:ar V1 w2.heap.size #[.slice d0 n0 dc0,.slice d1 n1 dc1,.slice d2 n2 dc2] 29:=by rw[hV];exact ar.new _ _ _
 replace X:=hid (X.trans (hb.mono X.size));replace BY:=hid (BY.below hb BY.lt);replace DA:=hid (DA.below hb);have BA:=hid kb;clear hb kb hV;have i0:V1.cell? ⟨w.heap.size+1,0,none⟩=some (.slice ya yn yc):=BY.cell 0;have i1:V1.cell? ⟨w.heap.size+1,1,none⟩=some (.int .u8 gl):=BY.cell 1;clear BY;go_wp2_with fail
 refine(HN V1 X).mono ?_;rintro e w3 ⟨e0,ec0,e1,ec1,e2,ec2,rfl,hd,hx⟩;replace X:=hid (X.trans (hx.mono X.size));replace DA:=hid (DA.below hx);replace BA:=hid (BA.below hx BA.lt);have DB:=hid hd.df;clear hd hx i0 i1 HN;go_upto_region 5 with fail
 refine aA ?_;intro V2 hV;have hb:aa w3 V2:=by rw[hV];exact((Ext.refl w3).alloc _).below
 have kb:ar V2 w3.heap.size #[.slice e0 m0 ec0,.slice e1 m1 ec1,.slice e2 m2 ec2] 29:=by rw[hV];exact ar.new _ _ _
 replace X:=hid (X.trans (hb.mono X.size));replace DA:=hid (DA.below hb);replace BA:=hid (BA.below hb BA.lt);replace DB:=hid (DB.below hb);have BB:=hid kb;clear hb kb hV;cases oka with
 | false=>
  clear km HOL;go_wp2;go_ret;exact⟨rfl,X⟩
 | true=>
  cases okb with
  | false=>
   clear km HOL;go_wp2;go_ret;exact⟨rfl,X⟩
  | true=>
   obtain⟨ra,aeq⟩:=km.out rfl;obtain⟨rb,aer⟩:=HOL.out rfl;clear km HOL;obtain⟨p,hp⟩:=ag (cq a);obtain⟨q,hq⟩:=ag (cq b);obtain⟨k0,tJ⟩:=ag p.cl.length;obtain⟨k1,lM⟩:=ag p.nx.length;obtain⟨k2,hk2⟩:=ag p.mr.length;obtain⟨l0,hl0⟩:=ag q.cl.length;obtain⟨l1,vG⟩:=ag q.nx.length;obtain⟨l2,hl2⟩:=ag q.mr.length;obtain⟨wl,hwl⟩:=ag ((cB a b (0,0)).getD []);obtain⟨wn,hwn⟩:=ag wl.length;obtain⟨eq,heq⟩:=ag (!(cB a b (0,0)).isSome);have Xh:∀ c∈wl,c<256:=by rw[hwl];exact Ox ra rb
   have h36:a.nx.length*b.nx.length<=3600:=Nat.mul_le_mul aeq aer;have hw9:wl.length<=1000000:=by have:=TC ra rb;rw[<-hwl]at this;omega
   have rp:Rt p:=by rw[hp];exact SU ra
   have CL:Hid (∀ W v,dr W v a->ah 12 #[v] W (qB k0 k1 k2 0 p W)):=hid fun W v hv=>by rw[hp];exact tH ra (by rw[tJ,hp]) (by rw[lM,hp]) (by rw[hk2,hp]) W v hv
   have CK:Hid (∀ W v,dr W v b->ah 12 #[v] W (qB l0 l1 l2 0 q W)):=hid fun W v hv=>by rw[hq];exact tH rb (by rw[hl0,hq]) (by rw[vG,hq]) (by rw[hl2,hq]) W v hv
   have CE:Hid (∀ W v u,dr W v a->dr W u b->ah 32 #[v,u] W fun e w'=>∃ x y,e=.returned (.tuple #[.slice x wn y,.bool eq,.int .i64 0])/\bQ cU w' (.slice x wn y) wl/\aa W w'):=hid fun W v u hv hu=>by
    have h:=AP ra rb (by omega) W v u hv hu;unfold JP at h;rw[<-hwl, <-hwn, <-heq]at h;exact h
   have CS:Hid (∀ W v u,dr W v p->dr W u q->ah 17 #[v,u] W fun e w'=>e=.returned (.bool eq)/\aa W w'):=hid fun W v u hv hu=>by
    have h:=Gn v u p q W hv.e hu.e rp.ZF;rwa[hp,hq,Oy ra rb, <-heq]at h
   obtain⟨ma,Dt⟩:=ag (Dk a wl);obtain⟨mb,oH⟩:=ag (Dk b wl);have CQ:Hid (∀ W u v,bQ aM W u ma->bQ aM W v mb->ah 33 #[u,v] W fun e w'=>e=.returned (.bool eq)/\aa W w'):=hid fun W u v hu hv=>qP (by rw[Dt];exact TD ra wl) (by rw[Dt,oH,hwl,heq];exact J4 ra rb) W u v hu hv
   have CA:Hid (∀ W v bv s,dr W v a->(∀ c∈s,c<256)->s.length<=1000000->∀ l n,l=Dk a s->n=l.length->ew cU W bv s->ah 34 #[v,bv] W (Oz l n W)):=hid fun W v bv s hv hs hn l n hl hm hb=>TE ra s hs hn hl hm W v bv hv hb
   have CB:Hid (∀ W v bv s,dr W v b->(∀ c∈s,c<256)->s.length<=1000000->∀ l n,l=Dk b s->n=l.length->ew cU W bv s->ah 34 #[v,bv] W (Oz l n W)):=hid fun W v bv s hv hs hn l n hl hm hb=>TE rb s hs hn hl hm W v bv hv hb
   have CP:Hid (∀ W v bv s,dr W v p->(∀ c∈s,c<256)->s.length<=1000000->∀ l n,l=Dk a s->n=l.length->ew cU W bv s->ah 34 #[v,bv] W (Oz l n W)):=hid fun W v bv s hv hs hn l n hl hm hb=>TE rp s hs hn (by rw[hl,hp];exact(TB ra hs).symm) hm W v bv hv hb
   have PF:Hid (∀ s:List Nat,(∀ c∈s,c<256)->Dk a s≠Dk b s->eq=false/\wn<=s.length/\(s.length=wn->Op.bytesLess (s.map UInt8.ofNat) (wl.map UInt8.ofNat)=false)):=hid fun s hs h=>by
    have h5:=J5 ra rb hs h;rw[<-hwl, <-hwn]at h5;exact⟨by rw[heq,h5.1];rfl,h5.2⟩
   have ML:Hid (∀ s,(Dk a s).length<=1000000):=hid fun s=>TD ra s
   have HWB:=hid Xh;have HWN:=hid hwn;have HW9:=hid hw9;have hbb:(eq != eq)=false:=by cases eq<;>rfl
   have NI:(eq== !eq)=false:=by cases eq<;>rfl
   have Xx:=hid Dt;have Jl:=hid oH;clear ra rb aeq aer hp hq tJ lM hk2 hl0 vG hl2 hwl hwn heq Xh h36 hw9 rp Dt oH;obtain⟨⟨i0,i1,i2⟩,_⟩:=BA.three;go_wp2_with fail
   refine(CL V2 _ DA).mono ?_;rintro e w4 ⟨p0,pc0,p1,pc1,p2,pc2,rfl,hd,hx⟩;replace X:=hid (X.trans (hx.mono X.size));replace DA:=hid (DA.below hx);replace BA:=hid (BA.below hx BA.lt);replace DB:=hid (DB.below hx);replace BB:=hid (BB.below hx BB.lt);have DP:=hid hd.df;clear hd hx CL;clear i0 i1 i2;go_upto_region 8 with fail
   refine aA ?_;intro V3 hV;have hb:aa w4 V3:=by rw[hV];exact((Ext.refl w4).alloc _).below
   have kb:ar V3 w4.heap.size #[.slice p0 k0 pc0,.slice p1 k1 pc1,.slice p2 k2 pc2] 29:=by rw[hV];exact ar.new _ _ _
   replace X:=hid (X.trans (hb.mono X.size));replace DA:=hid (DA.below hb);replace BA:=hid (BA.below hb BA.lt);replace DB:=hid (DB.below hb);replace BB:=hid (BB.below hb BB.lt);replace DP:=hid (DP.below hb);have BP:=hid kb;clear hb kb hV;obtain⟨⟨i0,i1,i2⟩,_⟩:=BB.three;go_wp2_with fail
   refine(CK V3 _ DB).mono ?_;rintro e w5 ⟨q0,qc0,q1,qc1,q2,qc2,rfl,hd,hx⟩;replace X:=hid (X.trans (hx.mono X.size));replace DA:=hid (DA.below hx);replace BA:=hid (BA.below hx BA.lt);replace DB:=hid (DB.below hx);replace BB:=hid (BB.below hx BB.lt);replace DP:=hid (DP.below hx);replace BP:=hid (BP.below hx BP.lt);have DQ:=hid hd.df;clear hd hx CK;clear i0 i1 i2;go_upto_region 9 with fail
   refine aA ?_;intro V4 hV;have hb:aa w5 V4:=by rw[hV];exact((Ext.refl w5).alloc _).below
   have kb:ar V4 w5.heap.size #[.slice q0 l0 qc0,.slice q1 l1 qc1,.slice q2 l2 qc2] 29:=by rw[hV];exact ar.new _ _ _
   replace X:=hid (X.trans (hb.mono X.size));replace DA:=hid (DA.below hb);replace BA:=hid (BA.below hb BA.lt);replace DB:=hid (DB.below hb);replace BB:=hid (BB.below hb BB.lt);replace DP:=hid (DP.below hb);replace BP:=hid (BP.below hb BP.lt);replace DQ:=hid (DQ.below hb);have BQ:=hid kb;clear hb kb hV;obtain⟨⟨i0,i1,i2⟩,_⟩:=BA.three;obtain⟨⟨g0,g1,g2⟩,_⟩:=BB.three;go_wp2_with fail
   refine(CE V4 _ _ DA DB).mono ?_;rintro e w6 ⟨wa,wc,rfl,hs,hx⟩;replace X:=hid (X.trans (hx.mono X.size));replace DA:=hid (DA.below hx);replace BA:=hid (BA.below hx BA.lt);replace DB:=hid (DB.below hx);replace BB:=hid (BB.below hx BB.lt);replace DP:=hid (DP.below hx);replace BP:=hid (BP.below hx BP.lt);replace DQ:=hid (DQ.below hx);replace BQ:=hid (BQ.below hx BQ.lt);have WS:Hid (ew cU w6 (.slice wa wn wc) wl):=hid (.inl hs);clear hs hx CE;clear i0 i1 i2 g0 g1 g2;obtain⟨⟨i0,i1,i2⟩,_⟩:=BA.three;obtain⟨⟨g0,g1,g2⟩,_⟩:=BB.three;obtain⟨⟨j0,j1,j2⟩,_⟩:=BP.three;obtain⟨⟨o0,o1,o2⟩,_⟩:=BQ.three;obtain⟨na,Nq⟩:=ag ma.length;obtain⟨nb,pZ⟩:=ag mb.length;have CA1:Hid (∀ W,aa w6 W->ah 34 #[.agg #[.slice d0 n0 dc0,.slice d1 n1 dc1,.slice d2 n2 dc2],.slice wa wn wc] W (Oz ma na W)):=hid fun W hW=>CA W _ _ wl (DA.below hW) HWB HW9 ma na Xx Nq (WS.below hW)
   have CB1:Hid (∀ W,aa w6 W->ah 34 #[.agg #[.slice e0 m0 ec0,.slice e1 m1 ec1,.slice e2 m2 ec2],.slice wa wn wc] W (Oz mb nb W)):=hid fun W hW=>CB W _ _ wl (DB.below hW) HWB HW9 mb nb Jl pZ (WS.below hW)
   have HNA:=hid Nq;have GR:=hid pZ;clear Nq pZ Xx Jl;go_upto_region 10 with fail
   refine aL false (fun _=>False) (by kernel_rfl) 25 [0,0,3,0,15,31,63,127,127,511,127,2047,4095,8191,16383,16383,16383,114687,16383,16383,1032191,2080767,4177919,8388607,16777215] (fun i=>i==9 || i==17 || i==20 || i==21) (by kernel_rfl) (fun i=>if i=9 then aX.yw _ (.bool eq)else if i=17 then aX.slQ aM na ma else if i=20 then aX.slQ aM nb mb else if i=21 then aX.yw _ (.bool eq)else aX.any _) ?_;intro C hC hne;have HC:=hid hC;have f0:=aC hC (p:=⟨w2.heap.size,0,none⟩) BA.lt (fun h=>h) i0;have f1:=aC hC (p:=⟨w2.heap.size,1,none⟩) BA.lt (fun h=>h) i1;have f2:=aC hC (p:=⟨w2.heap.size,2,none⟩) BA.lt (fun h=>h) i2;have f3:=aC hC (p:=⟨w3.heap.size,0,none⟩) BB.lt (fun h=>h) g0;have f4:=aC hC (p:=⟨w3.heap.size,1,none⟩) BB.lt (fun h=>h) g1;have f5:=aC hC (p:=⟨w3.heap.size,2,none⟩) BB.lt (fun h=>h) g2;have f6:=aC hC (p:=⟨w4.heap.size,0,none⟩) BP.lt (fun h=>h) j0;have f7:=aC hC (p:=⟨w4.heap.size,1,none⟩) BP.lt (fun h=>h) j1;have f8:=aC hC (p:=⟨w4.heap.size,2,none⟩) BP.lt (fun h=>h) j2;have f9:=aC hC (p:=⟨w5.heap.size,0,none⟩) BQ.lt (fun h=>h) o0;have f10:=aC hC (p:=⟨w5.heap.size,1,none⟩) BQ.lt (fun h=>h) o1;have f11:=aC hC (p:=⟨w5.heap.size,2,none⟩) BQ.lt (fun h=>h) o2;clear hC;clear i0 i1 i2 g0 g1 g2 j0 j1 j2 o0 o1 o2
   repeat (refine au (fun K hK=>?_);first | (refine cg rfl ?_;try go_simp;refine hK _ _ ?_;clear hK K) | (refine bV rfl rfl ?_;unfold aF;go_simp;refine hK _ _ ?_;clear hK K))
   refine au (fun K hK=>?_);refine ct rfl rfl (aX.yw _ (.bool eq)) rfl (fun W hW hN=>?_) (fun v hv=>?_)
   ·have hM:=(HC.out W).1 hW
    clear hW;go_simp;refine bI ((CS W _ _ (DP.below hM.below) (DQ.below hM.below)).mono ?_);rintro e w9 ⟨rfl,hx⟩;exact⟨_,rfl,Move.ai hx,rfl,trivial⟩
   replace hv:v=_:=hv;subst hv;go_simp;refine hK _ _ ?_;clear hK K
   repeat (refine au (fun K hK=>?_);first | (refine cg rfl ?_;try go_simp;refine hK _ _ ?_;clear hK K) | (refine bV rfl rfl ?_;unfold aF;go_simp;refine hK _ _ ?_;clear hK K))
   refine au (fun K hK=>?_);refine ct rfl rfl (aX.slQ aM na ma) rfl (fun W hW hN=>?_) (fun v hv=>?_)
   ·have hM:=(HC.out W).1 hW
    clear hW;go_simp;refine bI ((CA1 W hM.below).mono ?_);rintro e w9 ⟨x9,y9,rfl,ho,hx⟩;exact⟨_,rfl,Move.ai hx,⟨_,_,rfl⟩,ho⟩
   obtain⟨mx,my,rfl⟩:=hv;go_simp;refine hK _ _ ?_;clear hK K
   repeat (refine au (fun K hK=>?_);first | (refine cg rfl ?_;try go_simp;refine hK _ _ ?_;clear hK K) | (refine bV rfl rfl ?_;unfold aF;go_simp;refine hK _ _ ?_;clear hK K))
   refine au (fun K hK=>?_);refine ct rfl rfl (aX.slQ aM nb mb) rfl (fun W hW hN=>?_) (fun v hv=>?_)
   ·have hM:=(HC.out W).1 hW
    clear hW;go_simp;refine bI ((CB1 W hM.below).mono ?_);rintro e w9 ⟨x9,y9,rfl,ho,hx⟩;exact⟨_,rfl,Move.ai hx,⟨_,_,rfl⟩,ho⟩
   obtain⟨nx,ny,rfl⟩:=hv;go_simp;refine hK _ _ ?_;clear hK K;refine au (fun K hK=>?_);refine ct rfl rfl (aX.yw _ (.bool eq)) rfl (fun W hW hN=>?_) (fun v hv=>?_)
   ·have hM:=(HC.out W).1 hW
    clear hW;go_simp;refine bI ((CQ W _ _ (hN.at 1 rfl (by kernel_rfl)) (hN.at 0 rfl (by kernel_rfl))).mono ?_);rintro e w9 ⟨rfl,hx⟩;exact⟨_,rfl,Move.ai hx,rfl,trivial⟩
   replace hv:v=_:=hv;subst hv;go_simp;refine hK _ _ ?_;clear hK K
   repeat (refine au (fun K hK=>?_);first | (refine cg rfl ?_;try go_simp;refine hK _ _ ?_;clear hK K) | (refine bV rfl rfl ?_;unfold aF;go_simp;refine hK _ _ ?_;clear hK K))
   refine bM (fun W7 hW hH=>?_);have hM:=(HC.out W7).1 hW;have hb:=hM.below;replace X:=hid (X.trans (hb.mono X.size));replace DA:=hid (DA.below hb);replace BA:=hid (BA.below hb BA.lt);replace DB:=hid (DB.below hb);replace BB:=hid (BB.below hb BB.lt);replace DP:=hid (DP.below hb);replace BP:=hid (BP.below hb BP.lt);replace DQ:=hid (DQ.below hb);replace BQ:=hid (BQ.below hb BQ.lt);replace WS:=hid (WS.below hb);clear hM hb hW hH HC hne f0 f1 f2 f3 f4 f5 f6 f7 f8 f9 f10 f11 CA1 CB1 CQ CS DQ BQ HNA GR;go_wp2_with fail
   refine(CWD W7 X).mono ?_;rintro e w8 ⟨oa,oc,g,rfl,ho,hg,hx⟩;replace X:=hid (X.trans (hx.mono X.size));replace DA:=hid (DA.below hx);replace BA:=hid (BA.below hx BA.lt);replace DB:=hid (DB.below hx);replace BB:=hid (BB.below hx BB.lt);replace DP:=hid (DP.below hx);replace BP:=hid (BP.below hx BP.lt);replace WS:=hid (WS.below hx);have RR:=hid ho;have XG:=hid hx;have HG:=hid hg;clear ho hg hx CWD;go_wp2_with fail
   go_loopw [19,20,84] (fun _ _ iv wr=>∃ i:Nat,i<=M/\iv=.int .i64 i/\aa w8 wr) (fun _ _ iv _=>M-(intOf iv).toNat)
   case atStart=>exact⟨0,by omega,rfl,Below.refl _ _⟩
   case round=>
    obtain⟨i,hi,rfl,hx⟩:=hrel;obtain⟨wo,rfl⟩:=ag (wr:World);have XO:=hid hx;replace X:=hid (X.trans (hx.mono X.size));replace DA:=hid (DA.below hx);replace BA:=hid (BA.below hx BA.lt);replace DB:=hid (DB.below hx);replace BB:=hid (BB.below hx BB.lt);replace DP:=hid (DP.below hx);replace BP:=hid (BP.below hx BP.lt);replace WS:=hid (WS.below hx);replace RR:=hid (ak RR hx);replace XG:=hid (XG.trans (hx.mono XG.size));clear hx;by_cases hlt:i<M
    ·skip
     have hii:(i:Int)<M:=by omega
     obtain⟨s9,hs9⟩:∃ s,L[i]? =some s:=⟨_,az (by have:=HME.out;omega)⟩;obtain⟨sx,sy,Xv,EK,kJ⟩:=HG.out i s9 hs9;obtain⟨s,hse⟩:=ag (s9.take 12);have aes:s.length<=1000000:=by rw[hse,List.length_take];omega
     rw[<-hse]at Xv EK kJ;obtain⟨sn,kS⟩:=ag s.length;rw[Xv, <-kS]at EK;rw[<-kS]at Xv;obtain⟨gr,ur,hra,_,_,Xu,cr,_⟩:=fB RR hlt;obtain rfl:ur=.slice sx sn sy:=by rw[aO,List.getElem?_range hlt]at Xu;exact(Option.some.inj Xu).symm.trans Xv
     cases hra
     replace cr:wo.cell? ⟨gr,i,none⟩=some (.slice sx sn sy):=by simpa using cr
     have SS:=hid (EK.below XG);have HSB:=hid kJ;have HSN:=hid kS;have aaC:=hid aes;obtain⟨ml,pd⟩:=ag (Dk a s);obtain⟨mn,hmn⟩:=ag ml.length;obtain⟨bl,hbl⟩:=ag (Dk b s);obtain⟨bn,aet⟩:=ag bl.length;obtain⟨em,Ua⟩:∃ x,(ml==bl)=x:=⟨_,rfl⟩;have aeu:ml.length<=1000000:=by rw[pd];exact ML s
     have Xx:=hid pd;have HMN:=hid hmn;have Jl:=hid hbl;have HBN:=hid aet;have HEM:=hid Ua;have vr:=hid aeu;have PFS:Hid (em=false->eq=false/\wn<=sn/\(sn=wn->Op.bytesLess (s.map UInt8.ofNat) (wl.map UInt8.ofNat)=false)):=hid fun e=>by
      rw[kS];refine PF s kJ ?_;rw[<-pd, <-hbl];rw[<-Ua]at e;exact beq_eq_false_iff_ne.1 e
     clear hs9 Xv EK kJ hse aes kS Xu HG PF XG RR pd hmn hbl aet Ua aeu;obtain⟨⟨i0,i1,i2⟩,_⟩:=BA.three;go_wp2_with fail
     refine(CA wo _ _ s DA HSB aaC ml mn Xx HMN SS).mono ?_;rintro e u1 ⟨ax,ay,rfl,ho,hx⟩;replace X:=hid (X.trans (hx.mono X.size));replace DA:=hid (DA.below hx);replace BA:=hid (BA.below hx BA.lt);replace DB:=hid (DB.below hx);replace BB:=hid (BB.below hx BB.lt);replace DP:=hid (DP.below hx);replace BP:=hid (BP.below hx BP.lt);replace WS:=hid (WS.below hx);replace XO:=hid (XO.trans (hx.mono XO.size));replace SS:=hid (SS.below hx);have MS:=hid ho;clear ho hx;clear cr;clear i0 i1 i2;obtain⟨⟨j0,j1,j2⟩,_⟩:=BP.three;go_wp2_with fail
     refine(CP u1 _ _ s DP HSB aaC ml mn Xx HMN SS).mono ?_;rintro e u2 ⟨px,py,rfl,ho,hx⟩;replace X:=hid (X.trans (hx.mono X.size));replace DA:=hid (DA.below hx);replace BA:=hid (BA.below hx BA.lt);replace DB:=hid (DB.below hx);replace BB:=hid (BB.below hx BB.lt);replace DP:=hid (DP.below hx);replace BP:=hid (BP.below hx BP.lt);replace WS:=hid (WS.below hx);replace XO:=hid (XO.trans (hx.mono XO.size));replace SS:=hid (SS.below hx);replace MS:=hid (MS.below hx);have PS:=hid ho;clear ho hx;clear j0 j1 j2;go_wp2_with fail
     refine(qP (l1:=ml) (l2:=ml) (b:=true) vr (beq_self_eq_true _) u2 _ _ PS MS).mono ?_;rintro e u3 ⟨rfl,hx⟩;replace X:=hid (X.trans (hx.mono X.size));replace DA:=hid (DA.below hx);replace BA:=hid (BA.below hx BA.lt);replace DB:=hid (DB.below hx);replace BB:=hid (BB.below hx BB.lt);replace DP:=hid (DP.below hx);replace BP:=hid (BP.below hx BP.lt);replace WS:=hid (WS.below hx);replace XO:=hid (XO.trans (hx.mono XO.size));replace SS:=hid (SS.below hx);replace MS:=hid (MS.below hx);replace PS:=hid (PS.below hx);clear hx PS;obtain⟨⟨g0,g1,g2⟩,_⟩:=BB.three;go_wp2_with fail
     refine(CB u3 _ _ s DB HSB aaC bl bn Jl HBN SS).mono ?_;rintro e u4 ⟨zx,zy,rfl,ho,hx⟩;replace X:=hid (X.trans (hx.mono X.size));replace DA:=hid (DA.below hx);replace BA:=hid (BA.below hx BA.lt);replace DB:=hid (DB.below hx);replace BB:=hid (BB.below hx BB.lt);replace DP:=hid (DP.below hx);replace BP:=hid (BP.below hx BP.lt);replace WS:=hid (WS.below hx);replace XO:=hid (XO.trans (hx.mono XO.size));replace SS:=hid (SS.below hx);replace MS:=hid (MS.below hx);have BS:=hid ho;clear ho hx;clear g0 g1 g2;go_wp2_with fail
     refine(qP (l1:=ml) (l2:=bl) (b:=em) vr HEM u4 _ _ MS BS.out).mono ?_;rintro e u5 ⟨rfl,hx⟩;replace X:=hid (X.trans (hx.mono X.size));replace DA:=hid (DA.below hx);replace BA:=hid (BA.below hx BA.lt);replace DB:=hid (DB.below hx);replace BB:=hid (BB.below hx BB.lt);replace DP:=hid (DP.below hx);replace BP:=hid (BP.below hx BP.lt);replace WS:=hid (WS.below hx);replace XO:=hid (XO.trans (hx.mono XO.size));replace SS:=hid (SS.below hx);replace MS:=hid (MS.below hx);replace BS:=hid (BS.out.below hx);clear hx BS MS;cases em with
     | true=>
      clear PFS;go_wp2;go_roundw;case rel=>exact⟨i+1,by omega,by go_num,XO⟩
      case measure=>simp[intOf];omega
     | false=>
      obtain⟨rfl,Bd,hbl⟩:=PFS.out rfl;clear PFS;have tK:¬ ((sn:Int)<wn):=by omega
      have aqZ:decide (sn<wn)=false:=decide_eq_false (by omega);by_cases hsw:sn=wn
      ·have ajk:((sn:Int)==wn)=true:=by simp;omega
       have c1:=SS.str HSB HSN;have c2:=WS.str HWB HWN;have hb9:Op.bytesLess (s.map UInt8.ofNat) (wl.map UInt8.ofNat)=false:=hbl hsw;have ajl:(sn==wn)=true:=by simp;exact hsw
       clear hbl hsw Bd;go_wp2;go_roundw;case rel=>exact⟨_,_,_,_,_,_,_,_,_,_,_,_,_,_,_,_,_,_,_,_,_,_,_,_,_,_,_,_,_,_,_,_,_,_,_,_,_,_,_,_,_,_,_,_,_,_,_,⟨i+1,by omega,by go_num,XO⟩,rfl⟩
       case measure=>simp[intOf];omega
      ·have ajk:((sn:Int)==wn)=false:=by simp;omega
       have ajl:decide (sn=wn)=false:=decide_eq_false hsw;clear hbl Bd;go_wp2;go_roundw;case rel=>exact⟨_,_,_,_,_,_,_,_,_,_,_,_,_,_,_,_,_,_,_,_,_,_,_,_,_,_,_,_,_,_,_,_,_,_,_,_,_,_,_,_,_,_,_,_,_,_,_,⟨i+1,by omega,by go_num,XO⟩,rfl⟩
       case measure=>simp[intOf];omega
    ·obtain rfl:i=M:=by omega
     have hii:¬ ((i:Int)<i):=by omega
     go_wp2;go_ret;exact⟨rfl,X⟩
theorem pT.shape {w:World} {v:Value} {l:List (List (Nat×Nat×Nat))} {fl:Nat} (h:pT w v l fl):∃ a n c,v=.agg #[.slice a n c,.int .u8 fl]:=by
 obtain⟨u,rfl,h⟩:=h;rcases h with⟨p,c,rfl,_⟩ | ⟨b,off,c,rfl,_⟩
 ·exact⟨_,_,_,rfl⟩
 ·exact⟨_,_,_,rfl⟩
theorem AR (v:Value) (l:List (List (Nat×Nat×Nat))) (iT:l.length<=1000000000000000) (fl:Nat) (pG:fl<256) (w:World) (h:pT w v l fl) (hT:∀ W,aa w W->nN W): ∃ (d:DF) (ok:Bool) (n0 n1 n2:Nat),(n0=d.cl.length/\n1=d.nx.length/\n2=d.mr.length/\(ok=true->Rt d/\d.nx.length<=60))/\∀ W,aa w W->ah 11 #[v] W (yo n0 n1 n2 ok d W):=by
 rcases NJ l fl pG with⟨d,he,rt,h60⟩ | he
 ·exact⟨d,true,_,_,_,⟨rfl,rfl,rfl,fun _=>⟨rt,h60⟩⟩,fun W hW=>yq v fl pG l iT he (fun _=>rt.pos) rfl rfl rfl W (h.below hW) fun V hV=>hT V (hW.trans (hV.mono hW.size))⟩
 ·exact⟨⟨[],[],[]⟩,false,_,_,_,⟨rfl,rfl,rfl,fun e=>by cases e⟩,fun W hW=>yq v fl pG l iT he (fun e=>by cases e) rfl rfl rfl W (h.below hW) fun V hV=>hT V (hW.trans (hV.mono hW.size))⟩
theorem ve (v0 v1 v2:Value) (l0:List (List (Nat×Nat×Nat))) (g0:l0.length<=1000000000000000) (f0:Nat) (u0:f0<256) (l1:List (List (Nat×Nat×Nat))) (g1:l1.length<=1000000000000000) (f1:Nat) (u1:f1<256) (L:List (List Nat)) (w:World) (h0:pT w v0 l0 f0) (h1:pT w v1 l1 f1) (hL:JV w v2 L) (hT:∀ W,aa w W->nN W): ah 5 #[v0,v1,v2] w fun e w'=>e=.returned (.bool true)/\aa w w':=by obtain⟨a,oka,n0,n1,n2,Wh,Dt⟩:=AR v0 l0 g0 f0 u0 w h0 hT;obtain⟨b,okb,m0,m1,m2,Wi,oH⟩:=AR v1 l1 g1 f1 u1 w h1 hT;obtain⟨_,_,_,hv⟩:=h0.shape;obtain⟨_,_,_,hv'⟩:=h1.shape;exact GF v0 v1 v2 a b oka okb (fun e=>(Wh.2.2.2 e)) (fun e=>Wi.2.2.2 e) L w ⟨_,_,_,_,hv⟩ ⟨_,_,_,_,hv'⟩ hL (fun W hW=>Gt W fun V hV=>hT V (hW.trans (hV.mono hW.size))) Dt oH
end
section
open Go Go.ChangeShapes Go.WideShapes Go.ChangeAt Go.RowKit
theorem GG:Tryz.prog.globalNamed "internal/strconv.uint64pow10" =some 0:=by kernel_rfl
theorem vg:(Tryz.prog.globals[0]?).map (·.type)=some 346:=by kernel_rfl
theorem zq:Tryz.prog.cellsOf 346=20:=by kernel_rfl
theorem zr:Tryz.prog.cellsOf 54=1:=by kernel_rfl
theorem Dl {W:World} (h:laidMetH Tryz.prog Rows.minimalSameRow.laid W):nN W:=by have h1:laidMet Tryz.prog [("math/bits.deBruijn32tab",Rows.laid_math_bits_deBruijn32tab),("math/bits.deBruijn64tab",Rows.laid_math_bits_deBruijn64tab),("internal/strconv.uint64pow10",Lib.tabData .u64 Lib.pow10Tab)] W:=h;exact Lib.tabIs_of_head (rest:=[]) GG vg Tryz.underlying346 Tryz.underlying54 zr zq h1.tail.tail
noncomputable def oo (cs:Array Value):Obj->Obj
 | .cells _ t frozen=>.cells cs t frozen
 | o=>o
noncomputable def mB (os:Os):World:=
 {World.holding Tryz.prog os ⟨#[], #[],[]⟩with heap:=(((World.holding Tryz.prog os ⟨#[], #[],[]⟩).heap.modify 0 (oo #[.int .u64 1,.int .u64 10,.int .u64 100,.int .u64 1000,.int .u64 10000,.int .u64 100000,.int .u64 1000000,.int .u64 10000000,.int .u64 100000000,.int .u64 1000000000,.int .u64 10000000000,.int .u64 100000000000,.int .u64 1000000000000,.int .u64 10000000000000,.int .u64 100000000000000,.int .u64 1000000000000000,.int .u64 10000000000000000,.int .u64 100000000000000000,.int .u64 1000000000000000000,.int .u64 10000000000000000000])).modify 1 (oo #[.int .u8 0,.int .u8 1,.int .u8 28,.int .u8 2,.int .u8 29,.int .u8 14,.int .u8 24,.int .u8 3,.int .u8 30,.int .u8 22,.int .u8 20,.int .u8 15,.int .u8 25,.int .u8 17,.int .u8 4,.int .u8 8,.int .u8 31,.int .u8 27,.int .u8 13,.int .u8 23,.int .u8 21,.int .u8 19,.int .u8 16,.int .u8 7,.int .u8 26,.int .u8 12,.int .u8 18,.int .u8 6,.int .u8 11,.int .u8 5,.int .u8 10,.int .u8 9])).modify 2 (oo #[.int .u8 0,.int .u8 1,.int .u8 56,.int .u8 2,.int .u8 57,.int .u8 49,.int .u8 28,.int .u8 3,.int .u8 61,.int .u8 58,.int .u8 42,.int .u8 50,.int .u8 38,.int .u8 29,.int .u8 17,.int .u8 4,.int .u8 62,.int .u8 47,.int .u8 59,.int .u8 36,.int .u8 45,.int .u8 43,.int .u8 51,.int .u8 22,.int .u8 53,.int .u8 39,.int .u8 33,.int .u8 30,.int .u8 24,.int .u8 18,.int .u8 12,.int .u8 5,.int .u8 63,.int .u8 55,.int .u8 48,.int .u8 27,.int .u8 60,.int .u8 41,.int .u8 37,.int .u8 16,.int .u8 46,.int .u8 35,.int .u8 44,.int .u8 21,.int .u8 52,.int .u8 32,.int .u8 23,.int .u8 11,.int .u8 54,.int .u8 26,.int .u8 40,.int .u8 15,.int .u8 34,.int .u8 20,.int .u8 31,.int .u8 10,.int .u8 25,.int .u8 14,.int .u8 19,.int .u8 9,.int .u8 13,.int .u8 8,.int .u8 7,.int .u8 6])}
theorem J6 (os:Os):laidMet Tryz.prog Rows.minimalSameRow.laid ((mB os).forCall (fun _ _=>0) ⟨#[], #[.agg #[.slice none 0 0,.int .u8 0],.agg #[.slice none 0 0,.int .u8 0],.slice none 0 0],[]⟩).memory:=
 laidMet_of_run' 8 (by kernel_rfl) (by kernel_rfl)
theorem Dm (os:Os) {H:Type} (enc:TypeId×Value->H):∃ places,DataW.whole enc Tryz.prog ((mB os).forCall (fun _ _=>0) ⟨#[], #[.agg #[.slice none 0 0,.int .u8 0],.agg #[.slice none 0 0,.int .u8 0],.slice none 0 0],[]⟩).memory Tryz.f5.params.toList Rows.minimalSameSpec.vars false (#[.agg #[.slice none 0 0,.int .u8 0],.agg #[.slice none 0 0,.int .u8 0],.slice none 0 0]:Array Value).toList 8=some ([.agg [.nil,.lit (.int .u8 0)],.agg [.nil,.lit (.int .u8 0)],.nil],[],places):=
 ⟨[],by kernel_rfl⟩
theorem zt (os:Os) (started:os.Started) (H:Type) (enc:TypeId×Value->H) (F:Stop.Interp): ReturnsInHanded {} Tryz.checked os 5 .any ((OpenSpec.ofChange Rows.minimalSameSpec).preRow enc Tryz.prog Tryz.f5 Rows.minimalSameRow.domain false Rows.minimalSameRow.laid) (((OpenSpec.ofChange Rows.minimalSameSpec).at F).post enc Tryz.prog Tryz.f5 false true false false):=by
 obtain⟨places,hx⟩:=Dm os enc;refine returnsInHanded_of_row (C:=Tryz.checked) (s:=OpenSpec.ofChange Rows.minimalSameSpec) Tryz.own started (by kernel_rfl) Tryz.func5
  (witness_row_at (enc:=enc) (C:=Tryz.checked) false (mB os) #[.agg #[.slice none 0 0,.int .u8 0],.agg #[.slice none 0 0,.int .u8 0],.slice none 0 0] rfl (by kernel_rfl) (by kernel_rfl) (by kernel_rfl)
   (OpenSpec.preRow_of_cond 8 hx (by kernel_rfl) (fun k hk=>by cases hk) (by kernel_rfl) (J6 os))) ?_
 intro W base args ds gs before aev hW _ _ ajm hL _ _;have hval:∀ (j:Nat) t v,Tryz.f5.params[j]? =some t->args[j]? =some v->Value.okWide Tryz.prog W .any base t v:=aev;have hT:∀ V,aa W V->nN V:=fun V hV=>(Dl hL).below hV
 have hW1:DataW.Whole enc Tryz.prog Tryz.f5.params.toList Rows.minimalSameSpec.vars false W args.toList ds gs before:=hW;have Mj:=hW1;obtain⟨p,q,hA0,hV,rfl,hfz,Wj⟩:=hW1;have hA:DataW.TrodAll enc Tryz.prog W 0 (fun _=>true) true Tryz.f5.params.toList args.toList ds p:=hA0;have hsz:(DataW.weightsEach Tryz.prog (Tryz.f5.params.toList++Rows.minimalSameSpec.plain.varTypes Tryz.prog) (ds++gs)).all (· <=reachBytes)=true:=ajm;rw[Tryz.params5]at hA hval hsz;obtain⟨v0,v1,v2,d0,d1,d2,p0,p1,p2,rfl,rfl,rfl,h0,h1,h2⟩:=trodAll_three hA;obtain⟨l0,f0,s0,g0,u0⟩:=Gw (hval 0 _ v0 rfl rfl) h0 (zP hsz (j:=0) rfl rfl);obtain⟨l1,f1,s1,g1,u1⟩:=Gw (hval 1 _ v1 rfl rfl) h1 (zP hsz (j:=1) rfl rfl);obtain⟨l2,s2⟩:=Tz (hval 2 _ v2 rfl rfl) h2;refine(ve v0 v1 v2 l0 g0 f0 u0 l1 g1 f1 u1 l2 W s0 s1 s2 hT).mono fun e W' ⟨he,hw⟩=>⟨_,he,?_⟩
 exact Qa (s:=Rows.minimalSameSpec) Tryz.laidOut rfl (by rw[Tryz.params5];exact of_decide_eq_true (by kernel_rfl)) rfl Tryz.underlying4 rfl Mj hw
theorem GH:Rows.MinimalSameSaid:=
 OpenClaim.holds_of_cond 5 Tryz.f5 rfl rfl rfl rfl rfl rfl rfl ⟨rfl,rfl,rfl,rfl,rfl⟩ rfl rfl rfl rfl rfl (by kernel_rfl) Tryz.func5 zo
  (of_decide_eq_true (by kernel_rfl)) (by unfold Func.isWrapper;first | (rw[if_pos (by decide+kernel)];kernel_rfl) | (rw[if_neg (by decide+kernel)];exact⟨rfl,rfl⟩))
  (fun os started H enc _ F=>by rw[OpenClaim.pre_eq_preRow];exact zt os started H enc F)
theorem Dn (f:FuncId) (fn:Func) (hf:Tryz.pinned.checked.prog.funcNamed "repartee/reparteelaw22.MinimalSame" =some f) (hfn:Tryz.pinned.checked.prog.funcs[f]? =some fn): true=Tryz.pinned.checked.prog.looks []/\∀ (j:Nat) t,fn.params[j]? =some t->Tryz.pinned.checked.prog.wantsStandIn t=false:=by
 obtain rfl:f=5:=Option.some.inj ((show Tryz.prog.funcNamed "repartee/reparteelaw22.MinimalSame" =some 5 by kernel_rfl).symm.trans hf) |>.symm;obtain rfl:fn=Tryz.f5:=(Option.some.inj (Tryz.func5.symm.trans hfn)).symm;refine⟨by kernel_rfl,fun j t ht=>?_⟩;rw[Tryz.params5]at ht;have h2:t=24\/t=66:=by have:=Array.mem_of_getElem? ht;simpa using this
 rcases h2 with rfl | rfl
 ·exact(show Tryz.prog.wantsStandIn 24=false by kernel_rfl)
 ·exact(show Tryz.prog.wantsStandIn 66=false by kernel_rfl)
theorem misame_card:Rows.MinimalSameCardSaid:=
 Claim7.holds_tied_plain_at .later [] _ _ _ _ GH (fun _ h=>by cases h) (by kernel_rfl) (fun _ h=>by cases h) minimalSame_row_tie rfl ⟨rfl,rfl⟩ (by kernel_rfl) rfl Dn (by kernel_rfl)
end
end Go.Proofs.YtjgccapbphadjaaGreatDoor
