/- The maker of automata of positions: loop. -/
import Derived.Test.YtbiboekhakbnpaaGreatDoorOF15
set_option maxRecDepth 100000
set_option maxHeartbeats 16000000
open Go.Lib (hid)
namespace Go.Proofs.YtbiboekhakbnpaaGreatDoor
open Go Go.RowKit Go.Shelf Go.Maps
attribute [local go_sem] Oper.semAt_some fk cG
theorem xl (s:Nat->BitVec 64) (B b off:Nat) (w:World) (hB:ak w B #[.pointer (some ⟨b,off,none⟩)] 174) (hb0:eR w b off s):Seq true Tryz.prog 149 #[.pointer (some ⟨B,0,none⟩)] (fun p:Nat=> #[.int .i64 (p:Int)]) (fun k=>k=B\/k=b) (cO s 448) w:=by
 intro l J Jx W hK hJ Tx hY h0;have HY:=hid hY;have HH:=hid (IZ s b off);clear hY;have B0:=hB.keeps hK hB.lt;have B1:=hb0.keeps hK hb0.1;clear hB hb0;refine callsIn_wide (n:=0).1 ?_;refine callsIn_of_wp Tryz.func149 rfl trivial ?_ rfl;simp only[Tryz.ntmps149,List.size_toArray,List.length_cons,List.length_nil,Nat.reduceAdd,Nat.reduceSub,Array.replicate_succ,Array.replicate_zero,List.push_toArray,List.append_toArray,List.nil_append,List.cons_append]
 gi_wp2
 gi_loopw [4] (fun i wr=>∃ (k:Nat) (T:Nat->Prop),k<=448/\i=.int .i64 k/\ak wr B #[.pointer (some ⟨b,off,none⟩)] 174/\eR wr b off s/\J (cO s k) T wr/\(∀ k,T k->W.heap.size<=k/\k<wr.heap.size)/\aa (fun k=>k=B\/k=b) W wr)
  (fun i _=>448-(intOf i).toNat)
 case atStart=>
  exact⟨0,fun _=>False,by omega,rfl,B0,B1,h0,fun _ h=>h.elim,aa.refl _ _⟩
 case round=>
  obtain⟨k,T,hk,rfl,hB,hb,hj,hT,hR⟩:=hrel;by_cases hlt:k<448
  ·have c0:wr.cell? ⟨B,0,none⟩=some (.pointer (some ⟨b,off,none⟩)):=hB.cell 0
   have EM:=hid hB;have HB:=hid hb;have HJ:=hid hj;have HT:=hid hT;have HR:=hid hR;clear hB hb hj hT hR B0 B1;have bp:=qq s k;by_cases jE:qo s k=true
   ·rw[if_pos jE]at bp
    have HP:=hid bp;have JU:cO s k++ [k]<+:cO s 448:=by rw[<-bp];exact rq s (by omega)
    have Lb:=hid JU;have h1:Calls Tryz.prog 94 #[.pointer (some ⟨b,off,none⟩),.int .i64 k] wr fun e w'=>e=.returned (.bool true)/\w'=wr:=by have:=HH.out k hlt wr HB.out;rwa[jE]at this
    have H1:=hid h1;clear bp JU h1 jE HH
    gi_wp2_with (gi_at_call 94;refine(callsIn_wide.2 H1.out).mono ?_;rintro e w1 ⟨rfl,hw⟩;replace hw:=hw.symm;subst hw;obtain⟨fn,tm,zV,bd,hy,Ap⟩:=HY.out (cO s k) k T _ Lb.out HT.out HR.out HJ.out;have JV:=hid Ap;clear Ap)
    refine JV.out.mono ?_;rintro e W2 (⟨rfl,iz,hk2⟩ | ⟨rfl,iz,hk2⟩)
    ·have si:=hid iz
     have qb:=hid hk2;clear iz hk2 hy
     gi_wp2
     go_roundw
     case rel=>
      refine⟨k+1,T,by omega,by go_num,?_,?_,?_,?_,?_⟩
      ·exact EM.out.keeps qb.out (.inl (.inl rfl))
      ·exact HB.out.keeps qb.out (.inl (.inr rfl))
      ·rw[HP.out];exact si.out
      ·exact fun j hj=>⟨(HT.out j hj).1,Nat.lt_of_lt_of_le (HT.out j hj).2 qb.out.size⟩
      ·exact HR.out.tr (qb.out.mono fun j hj=>.inl hj)
     case measure=>simp[intOf];omega
    ·have si:=hid iz
     have qb:=hid hk2;clear iz hk2 hy
     gi_wp2
     refine bodyPost_ret (results_none rfl _ _ _) rfl ?_;exact⟨⟨_,rfl⟩,T,fun j hj=>⟨(HT.out j hj).1,Nat.lt_of_lt_of_le (HT.out j hj).2 qb.out.size⟩,.inr ⟨_,Lb.out,si.out⟩⟩
   ·have qR:qo s k=false:=by simpa using jE
    rw[if_neg jE,List.append_nil]at bp;have HP:=hid bp;have h1:Calls Tryz.prog 94 #[.pointer (some ⟨b,off,none⟩),.int .i64 k] wr fun e w'=>e=.returned (.bool false)/\w'=wr:=by have:=HH.out k hlt wr HB.out;rwa[qR]at this
    have H1:=hid h1;clear bp h1 jE qR HH
    gi_wp2_with (gi_at_call 94;refine(callsIn_wide.2 H1.out).mono ?_;rintro e w1 ⟨rfl,hw⟩;replace hw:=hw.symm;subst hw)
    go_roundw
    case rel=>
     refine⟨k+1,T,by omega,by go_num,EM.out,HB.out,?_,HT.out,HR.out⟩;rw[HP.out];exact HJ.out
    case measure=>simp[intOf];omega
  ·obtain rfl:k=448:=by omega
   gi_wp2
   refine bodyPost_end (results_none rfl _ _ _) rfl ?_;exact⟨⟨_,rfl⟩,T,hT,.inl hj⟩
theorem tT (b off:Nat) (w:World):Calls Tryz.prog 115 #[.pointer (some ⟨b,off,none⟩)] w fun e w'=>e=.returned (.func (.func 149) #[] #[.pointer (some ⟨w.heap.size,0,none⟩)])/\w'=w.alloc (.cells #[.pointer (some ⟨b,off,none⟩)] 174 (0,0)):=by
 go_enter Tryz.func115,Tryz.ntmps115
 go_wp2;go_ret;exact⟨rfl,rfl⟩
theorem Fe (s:Nat->BitVec 64) (b off:Nat) (w:World) (hb:eR w b off s): Calls Tryz.prog 69 #[.pointer (some ⟨b,off,none⟩)] w fun e w'=>∃ v,e=.returned v/\w'.ownsRow w.heap.size 3 1 v (cO s 448).length ((cO s 448).map tK)/\Below w.heap.size w w':=by
 have eg:∀ args w,(callFunc 149 args).run Tryz.prog w=.ok (.enter 149 args) w:=enters_of Tryz.func149 (by kernel_rfl) rfl;have hlen:(cO s 448).length<=1000000:=Nat.le_trans (Be _ _) (by decide);have H:Hid (∀ (W:World) (B:Nat),ak W B #[.pointer (some ⟨b,off,none⟩)] 174->eR W b off s->Calls Tryz.prog 114 #[.func (.func 149) #[] #[.pointer (some ⟨B,0,none⟩)]] W fun e w'=>∃ v,e=.returned v/\w'.ownsRow W.heap.size 3 1 v (cO s 448).length ((cO s 448).map tK)/\Below W.heap.size W w'):=
  fun W B hB hb=>pC _ W (xl s B b off W hB hb) eg (fun k hk=>hk.elim (fun e=>by rw[e];exact hB.lt) (fun e=>by rw[e];exact hb.1)) hlen
 have HB:=hid hb;clear eg hlen hb;generalize cO s 448=xs at H ⊢;go_enter Tryz.func69,Tryz.ntmps69;go_wp2_with (first | (go_at_call 115;refine(tT b off _).mono ?_;rintro e w1 ⟨rfl,rfl⟩) | (go_at_call 114;refine(H.out _ _ ((ak.new _ _ _).at (by simp)) (HB.out.keeps ((Ext.refl _).alloc _).keeps HB.out.1)).mono ?_;rintro e w1 ⟨v,rfl,h1,h2⟩;have H1:=hid h1;have H2:=hid h2;clear h1 h2));go_ret;refine⟨v,rfl,ax H1.out (by simp),?_⟩;exact((Ext.refl w).alloc _).below.trans (H2.out.mono (by simp))
end Go.Proofs.YtbiboekhakbnpaaGreatDoor
namespace Go.Proofs.YtbiboekhakbnpaaGreatDoor
open Go Go.RowKit Go.Shelf Go.Maps
def bW (x:PB):Nat->BitVec 64:=fun i=>x.extractLsb' (64*i) 64
theorem tU (x y:PB) (i:Nat):bW (x ||| y) i=bW x i ||| bW y i:=by unfold bW;apply BitVec.eq_of_getLsbD_eq;intro j hj;simp[hj]
theorem Md (x:PB) {p:Nat} :qo (bW x) p=x.getLsbD p:=by unfold qo bW;rw[BitVec.getLsbD_extractLsb'];have h1:p%64<64:=Nat.mod_lt _ (by decide);rw[show 64*(p/64)+p%64=p by omega];simp[h1]
theorem Me (x:PB) {p:Nat} (hp:p<448) (i:Nat):bW (x ||| dK p) i=iH (bW x) p i:=by
 apply BitVec.eq_of_getLsbD_eq;intro j hj;have e1:(bW (x ||| dK p) i).getLsbD j=(x ||| dK p).getLsbD (64*i+j):=by unfold bW;rw[BitVec.getLsbD_extractLsb'];simp[hj]
 have e2:(bW x i).getLsbD j=x.getLsbD (64*i+j):=by unfold bW;rw[BitVec.getLsbD_extractLsb'];simp[hj]
 rw[e1,BitVec.getLsbD_or,GR];unfold iH;by_cases hi:i=p/64
 ·rw[if_pos hi,BitVec.getLsbD_or,e2]
  congr 1
  rw[BitVec.getLsbD_shiftLeft];by_cases h:64*i+j=p
  ·have iz:j=p%64:=by omega
   have h4:64*i+j<448:=by omega
   rw[decide_eq_true h4,decide_eq_true h,decide_eq_true hj,iz];simp
  ·by_cases h5:j<p%64
   ·simp[h,h5]
   ·have h6:j-p%64≠0:=by omega
    simp[h,h5,h6,hj]
 ·rw[if_neg hi,e2]
  have h:64*i+j≠p:=by omega
  simp[h]
theorem I0 (x:PB):(cO (bW x) 448).map Int.ofNat=dm x:=by unfold cO dm;congr 1;exact List.filter_congr fun p _=>Md x
def aq (a:GP):Array Value:= #[.int .u64 (bW a.fst 0).toNat,.int .u64 (bW a.fst 1).toNat,.int .u64 (bW a.fst 2).toNat,.int .u64 (bW a.fst 3).toNat,.int .u64 (bW a.fst 4).toNat,.int .u64 (bW a.fst 5).toNat,.int .u64 (bW a.fst 6).toNat,
 .int .u64 (bW a.bV 0).toNat,.int .u64 (bW a.bV 1).toNat,.int .u64 (bW a.bV 2).toNat,.int .u64 (bW a.bV 3).toNat,.int .u64 (bW a.bV 4).toNat,.int .u64 (bW a.bV 5).toNat,.int .u64 (bW a.bV 6).toNat,.bool a.emp]
theorem I5 (a:GP) {i:Nat} (hi:i<7):(aq a)[i]? =some (.int .u64 (bW a.fst i).toNat):=by
 match i,hi with
 | 0,_=>rfl
 | 1,_=>rfl
 | 2,_=>rfl
 | 3,_=>rfl
 | 4,_=>rfl
 | 5,_=>rfl
 | 6,_=>rfl
theorem I6 (a:GP) {i:Nat} (hi:i<7):(aq a)[7+i]? =some (.int .u64 (bW a.bV i).toNat):=by
 match i,hi with
 | 0,_=>rfl
 | 1,_=>rfl
 | 2,_=>rfl
 | 3,_=>rfl
 | 4,_=>rfl
 | 5,_=>rfl
 | 6,_=>rfl
theorem eR.fst {w:World} {b:Nat} {a:GP} {t:TypeId} (h:ak w b (aq a) t):eR w b 0 (bW a.fst):=⟨h.lt,fun i hi=>by rw[Nat.zero_add];exact(h.cell i).trans (I5 a hi)⟩
theorem eR.bV {w:World} {b:Nat} {a:GP} {t:TypeId} (h:ak w b (aq a) t):eR w b 7 (bW a.bV):=⟨h.lt,fun _ hi=>(h.cell _).trans (I6 a hi)⟩
theorem Mf (v0 v1 v2 v3 v4 v5 v6 v7 v8 v9 v10 v11 v12 v13 v14 u0 u1 u2 u3 u4 u5 u6:Value) {w:World} {b:Nat} {t:TypeId} (h:ak w b #[v0,v1,v2,v3,v4,v5,v6,v7,v8,v9,v10,v11,v12,v13,v14] t):ak (((((((w.setCell ⟨b,0,none⟩ u0).setCell ⟨b,1,none⟩ u1).setCell ⟨b,2,none⟩ u2).setCell ⟨b,3,none⟩ u3).setCell ⟨b,4,none⟩ u4).setCell ⟨b,5,none⟩ u5).setCell ⟨b,6,none⟩ u6) b #[u0,u1,u2,u3,u4,u5,u6,v7,v8,v9,v10,v11,v12,v13,v14] t:=by have h0:=h.pq 0 u0 (c':= #[u0,v1,v2,v3,v4,v5,v6,v7,v8,v9,v10,v11,v12,v13,v14]) rfl;have h1:=h0.pq 1 u1 (c':= #[u0,u1,v2,v3,v4,v5,v6,v7,v8,v9,v10,v11,v12,v13,v14]) rfl;have h2:=h1.pq 2 u2 (c':= #[u0,u1,u2,v3,v4,v5,v6,v7,v8,v9,v10,v11,v12,v13,v14]) rfl;have h3:=h2.pq 3 u3 (c':= #[u0,u1,u2,u3,v4,v5,v6,v7,v8,v9,v10,v11,v12,v13,v14]) rfl;have h4:=h3.pq 4 u4 (c':= #[u0,u1,u2,u3,u4,v5,v6,v7,v8,v9,v10,v11,v12,v13,v14]) rfl;have h5:=h4.pq 5 u5 (c':= #[u0,u1,u2,u3,u4,u5,v6,v7,v8,v9,v10,v11,v12,v13,v14]) rfl;have h6:=h5.pq 6 u6 (c':= #[u0,u1,u2,u3,u4,u5,u6,v7,v8,v9,v10,v11,v12,v13,v14]) rfl;exact h6
theorem Mg (v0 v1 v2 v3 v4 v5 v6 v7 v8 v9 v10 v11 v12 v13 v14 u0 u1 u2 u3 u4 u5 u6:Value) {w:World} {b:Nat} {t:TypeId} (h:ak w b #[v0,v1,v2,v3,v4,v5,v6,v7,v8,v9,v10,v11,v12,v13,v14] t):ak (((((((w.setCell ⟨b,7,none⟩ u0).setCell ⟨b,8,none⟩ u1).setCell ⟨b,9,none⟩ u2).setCell ⟨b,10,none⟩ u3).setCell ⟨b,11,none⟩ u4).setCell ⟨b,12,none⟩ u5).setCell ⟨b,13,none⟩ u6) b #[v0,v1,v2,v3,v4,v5,v6,u0,u1,u2,u3,u4,u5,u6,v14] t:=by have h0:=h.pq 7 u0 (c':= #[v0,v1,v2,v3,v4,v5,v6,u0,v8,v9,v10,v11,v12,v13,v14]) rfl;have h1:=h0.pq 8 u1 (c':= #[v0,v1,v2,v3,v4,v5,v6,u0,u1,v9,v10,v11,v12,v13,v14]) rfl;have h2:=h1.pq 9 u2 (c':= #[v0,v1,v2,v3,v4,v5,v6,u0,u1,u2,v10,v11,v12,v13,v14]) rfl;have h3:=h2.pq 10 u3 (c':= #[v0,v1,v2,v3,v4,v5,v6,u0,u1,u2,u3,v11,v12,v13,v14]) rfl;have h4:=h3.pq 11 u4 (c':= #[v0,v1,v2,v3,v4,v5,v6,u0,u1,u2,u3,u4,v12,v13,v14]) rfl;have h5:=h4.pq 12 u5 (c':= #[v0,v1,v2,v3,v4,v5,v6,u0,u1,u2,u3,u4,u5,v13,v14]) rfl;have h6:=h5.pq 13 u6 (c':= #[v0,v1,v2,v3,v4,v5,v6,u0,u1,u2,u3,u4,u5,u6,v14]) rfl;exact h6
theorem nR {w:World} {b:Nat} {a:GP} {t:TypeId} (h:ak w b (aq a) t) (x:PB) {z:Nat->BitVec 64} (hz:∀ i,i<7->z i=bW x i):ak (ey w b 0 z 7) b (aq ⟨x,a.bV,a.emp⟩) t:=by have e0:=hz 0 (by decide);have e1:=hz 1 (by decide);have e2:=hz 2 (by decide);have e3:=hz 3 (by decide);have e4:=hz 4 (by decide);have e5:=hz 5 (by decide);have e6:=hz 6 (by decide);unfold aq at h ⊢;dsimp only at h ⊢;rw[<-e0, <-e1, <-e2, <-e3, <-e4, <-e5, <-e6];clear e0 e1 e2 e3 e4 e5 e6 hz;exact Mf _ _ _ _ _ _ _ _ _ _ _ _ _ _ _ _ _ _ _ _ _ _ h
theorem nS {w:World} {b:Nat} {a:GP} {t:TypeId} (h:ak w b (aq a) t) (x:PB) {z:Nat->BitVec 64} (hz:∀ i,i<7->z i=bW x i):ak (ey w b 7 z 7) b (aq ⟨a.fst,x,a.emp⟩) t:=by have e0:=hz 0 (by decide);have e1:=hz 1 (by decide);have e2:=hz 2 (by decide);have e3:=hz 3 (by decide);have e4:=hz 4 (by decide);have e5:=hz 5 (by decide);have e6:=hz 6 (by decide);unfold aq at h ⊢;dsimp only at h ⊢;rw[<-e0, <-e1, <-e2, <-e3, <-e4, <-e5, <-e6];clear e0 e1 e2 e3 e4 e5 e6 hz;exact Mg _ _ _ _ _ _ _ _ _ _ _ _ _ _ _ _ _ _ _ _ _ _ h
def dr (l:List PB):List Value:=l.flatMap fun x=>(bK (bW x)).toList
theorem tV:∀ {l:List PB} {p i:Nat} {x:PB},l[p]? =some x->i<7->(dr l)[p*7+i]? =some (.int .u64 (bW x i).toNat)
 | y::l,0,_,x,h,hi=>by
  simp at h;subst h;unfold dr;rw[List.flatMap_cons,List.getElem?_append_left (by simp[bK];omega),Nat.zero_mul,Nat.zero_add];have:=jJ (bW y) hi;simpa using this
 | y::l,p+1,i,x,h,hi=>by
  have ih:=tV (l:=l) (p:=p) (i:=i) (x:=x) (by simpa using h) hi;unfold dr at ih ⊢;rw[List.flatMap_cons,List.getElem?_append_right (by simp[bK];omega)];rw[<-ih];congr 1;simp[bK];omega
theorem yM (a b:List PB):dr (a++b)=dr a++dr b:=by unfold dr;rw[List.flatMap_append]
attribute [local go_sem] Oper.semAt_some fk cG
structure eD (base M:Nat) (F:Nat->Prop) (w:World) (m:GM):Prop where
 fm:F M
 lt:∀ x,F x->base<=x/\x<w.heap.size
 row:∃ sv fv,ak w M #[sv,fv] 127/\w.ownsRow base 70 4 sv m.az.length (aD m.az)/\(∀ x,sv.ownBlock=some x->F x)/\w.ownsRow base 129 7 fv m.bJ.length (dr m.bJ)/\(∀ x,fv.ownBlock=some x->F x)
theorem eD.keeps {base M:Nat} {F R:Nat->Prop} {w w':World} {m:GM} (h:eD base M F w m) (hk:aa R w w') (hR:∀ x,F x->R x):eD base M F w' m:=by obtain⟨sv,fv,h1,h2,h3,h4,h5⟩:=h.row;exact⟨h.fm,fun x hx=>⟨(h.lt x hx).1,Nat.lt_of_lt_of_le (h.lt x hx).2 hk.size⟩,sv,fv,h1.keeps hk (hR M h.fm),ae h2 hk fun x e=>hR x (h3 x e),h3,ae h4 hk fun x e=>hR x (h5 x e),h5⟩
theorem xn:∀ {l:List PB} {p:Nat} (y:PB),p<l.length->((((((((dr l).set (p*7) (.int .u64 (bW y 0).toNat)).set (p*7+1) (.int .u64 (bW y 1).toNat)).set (p*7+2) (.int .u64 (bW y 2).toNat)).set (p*7+3) (.int .u64 (bW y 3).toNat)).set (p*7+4) (.int .u64 (bW y 4).toNat)).set (p*7+5) (.int .u64 (bW y 5).toNat)).set (p*7+6) (.int .u64 (bW y 6).toNat))=dr (l.set p y)
 | x::l,0,y,_=>by
  unfold dr;rw[List.set_cons_zero,List.flatMap_cons,List.flatMap_cons];simp[bK]
 | x::l,p+1,y,hp=>by
  have ih:=xn (l:=l) (p:=p) y (by simpa using hp);have e:∀ (l:List PB),dr (x::l)=(bK (bW x)).toList++dr l:=fun l=>by unfold dr;rw[List.flatMap_cons]
  rw[List.set_cons_succ,e,e, <-ih];have h7:(bK (bW x)).toList.length=7:=by simp[bK]
  have hs:∀ (ys:List Value) (j:Nat) (v:Value),((bK (bW x)).toList++ys).set (7+j) v=(bK (bW x)).toList++ys.set j v:=fun ys j v=>by
   rw[List.set_append_right _ _ (by omega),h7,Nat.add_sub_cancel_left]
  rw[show(p+1)*7=7+p*7 by omega,hs,show 7+p*7+1=7+(p*7+1) by omega,hs,show 7+p*7+2=7+(p*7+2) by omega,hs,show 7+p*7+3=7+(p*7+3) by omega,hs,show 7+p*7+4=7+(p*7+4) by omega,hs,show 7+p*7+5=7+(p*7+5) by omega,hs,show 7+p*7+6=7+(p*7+6) by omega,hs]
theorem eD.or {base M:Nat} {F:Nat->Prop} {w:World} {m:GM} (h:eD base M F w m) {sv:Value} {g n cap:Nat} (hg:ak w M #[sv,.slice (some ⟨g,0,none⟩) n cap] 127) {p:Nat} (hp:p<m.bJ.length) (y:PB) {z:Nat->BitVec 64} (hz:∀ i,i<7->z i=bW y i):eD base M F (ey w g (p*7) z 7) ⟨m.az,m.bJ.set p y⟩:=by
 obtain⟨Um,fv,h1,h2,h3,h4,h5⟩:=h.row;have e: #[Um,fv]= #[sv,.slice (some ⟨g,0,none⟩) n cap]:=by
  unfold ak at h1 hg;rw[h1]at hg;injection hg with h6
  injection h6
 have e2:fv=.slice (some ⟨g,0,none⟩) n cap:=by have:=congrArg (fun a:Array Value=>a[1]?) e;simpa using this
 subst e2;have hk:=bT w g (p*7) z 7;have hgM:g≠M:=fun e3=>by
  rcases h4.2 with⟨e4,_⟩ | ⟨g',c',cur,e4,_,h6,_⟩
  ·cases e4
  ·cases e4
   rw[e3]at h6;unfold ak at h1;rw[h1]at h6;injection h6 with h7
   injection h7 with _ h8
   exact absurd h8 (by decide)
 have hn:n=m.bJ.length:=by obtain⟨_,_,e4⟩:=ownsRow_form h4;injection e4
 have hgs:∀ x,Um.ownBlock=some x->x≠g:=fun x e3 e4=>by
  rcases ownBlock_ne (by decide) h2 h4 with h6 | h6
  ·rw[h6]at e3;cases e3
  ·exact h6 (by rw[e3,e4];rfl)
 refine⟨h.fm,fun x hx=>⟨(h.lt x hx).1,Nat.lt_of_lt_of_le (h.lt x hx).2 hk.size⟩,Um,_,h1.keeps hk (fun e3=>hgM e3.symm),ae h2 hk hgs,h3,?_,h5⟩;subst hn;rw[List.length_set, <-xn y hp];have h7:=((((((((((((((h4.stored (p*7+0) (.int .u64 (z 0).toNat)).1).stored (p*7+1) (.int .u64 (z 1).toNat)).1).stored (p*7+2) (.int .u64 (z 2).toNat)).1).stored (p*7+3) (.int .u64 (z 3).toNat)).1).stored (p*7+4) (.int .u64 (z 4).toNat)).1).stored (p*7+5) (.int .u64 (z 5).toNat)).1).stored (p*7+6) (.int .u64 (z 6).toNat)).1);rw[<-hz 0 (by decide), <-hz 1 (by decide), <-hz 2 (by decide), <-hz 3 (by decide), <-hz 4 (by decide), <-hz 5 (by decide), <-hz 6 (by decide)];exact h7
def jN (m:GM) (pre:List Nat) (first:PB):GM:=⟨m.az,m.bJ.mapIdx fun p f=>if pre.contains p then f ||| first else f⟩
theorem I7 (m:GM) (first:PB):jN m [] first=m:=by
 unfold jN;have:m.bJ.mapIdx (fun p f=>if([]:List Nat).contains p then f ||| first else f)=m.bJ:=by
  apply List.ext_getElem
  ·simp
  ·intro i h1 h2;simp
 rw[this]
theorem xo (m:GM) (pre:List Nat) (first:PB):(jN m pre first).bJ.length=m.bJ.length:=by unfold jN;simp
theorem Ff (m:GM) (pre:List Nat) (first:PB) {p:Nat} {x:PB} (hx:m.bJ[p]? =some x):(⟨(jN m pre first).az,(jN m pre first).bJ.set p (x ||| first)⟩:GM)=jN m (pre++ [p]) first:=by
 unfold jN;congr 1;apply List.ext_getElem?;intro j;rw[List.getElem?_set,List.getElem?_mapIdx,List.getElem?_mapIdx];by_cases e:p=j
 ·subst e
  rw[if_pos rfl,hx];have hl:=(List.getElem?_eq_some_iff.1 hx).1;simp[hl]
 ·rw[if_neg e]
  cases m.bJ[j]? with
  | none=>rfl
  | some f=>
   have:(pre++ [p]).contains j=pre.contains j:=by rw[Bool.eq_iff_iff];simp;intro e2;exact absurd e2.symm e
   simp only[Option.map_some,this]
theorem I8 (m:GM) (last first:PB) (hl:m.bJ.length<=448):jN m (cO (bW last) 448) first=gP m last first:=by
 unfold jN gP;congr 1;apply List.ext_getElem
 ·simp
 ·intro i h1 h2
  simp only[List.getElem_mapIdx];have hi:i<448:=by simp at h1;omega
  have:(cO (bW last) 448).contains i=last.getLsbD i:=by rw[Bool.eq_iff_iff,List.contains_iff_mem];unfold cO;rw[List.mem_filter,Md,List.mem_range];simp[hi]
  rw[this]
theorem jO (base M:Nat) (F:Nat→Prop) (m:GM) (last first:PB) (w:World) (h:eD base M F w m) (hl:cF last m.bJ.length) (hn:m.bJ.length≤448): Calls Tryz.prog 173 #[.pointer (some ⟨M,0,none⟩),.agg (bK (bW last)),.agg (bK (bW first))] w fun e w'=>(∃ u,e=.returned u)∧eD base M F w' (gP m last first)∧aa (fun x=>x<w.heap.size∧¬F x) w w':=by
  have H:=hid h;have HL:=hid hl;have Sl:M<w.heap.size:=(h.lt M h.fm).2;rw[←I8 m last first hn];clear h hl;refine bD Tryz.func173 rfl ?_;simp only[Tryz.ntmps173,List.size_toArray,List.length_cons,List.length_nil,Nat.reduceAdd,Nat.reduceSub,Array.replicate_succ,Array.replicate_zero,List.push_toArray,List.append_toArray,List.nil_append,List.cons_append];go_wp2_with (go_at_call 115;refine(tT _ 0 _).mono ?_;rintro e w1 ⟨rfl,rfl⟩);refine au ?_;intro W0 hW0;have B0:ak W0 w.heap.size #[.pointer (some ⟨M,0,none⟩)] 124:=by rw[hW0];exact(((ak.new _ _ _).alloc _).alloc _).alloc _
  have B1:ak W0 (w.heap.size+1) (bK (bW last)) 129:=by rw[hW0];exact(((ak.new _ _ _).at (by simp)).alloc _).alloc _
  have B2:ak W0 (w.heap.size+1+1) (bK (bW first)) 129:=by rw[hW0];exact((ak.new _ _ _).at (by simp)).alloc _
  have B3:ak W0 (w.heap.size+1+1+1) #[.pointer (some ⟨w.heap.size+1,0,none⟩)] 174:=by rw[hW0];exact(ak.new _ _ _).at (by simp)
  have hx:Ext w W0:=by rw[hW0];exact((((Ext.refl w).alloc _).alloc _).alloc _).alloc _
  have hsz:W0.heap.size=w.heap.size+1+1+1+1:=by rw[hW0];simp
  clear hW0;have hF:∀ x,F x→x<w.heap.size:=fun x hx=>(H.out.lt x hx).2
  have HND:Hid (∀ (pre:List Nat) (x:Nat),pre++ [x]<+:cO (bW last) 448→pre.contains x=false∧x<m.bJ.length):=hid fun pre x hp=>by
    have Tc:(cO (bW last) 448).Nodup:=List.nodup_range.filter _;have h2:=Tc.sublist hp.sublist;refine⟨?_,?_⟩
    · rw[Bool.eq_false_iff]
      intro e;rw[List.contains_iff_mem]at e;exact(List.nodup_append.1 h2).2.2 x e x (by simp) rfl
    · have hm:x∈cO (bW last) 448:=hp.subset (by simp)
      unfold cO at hm;have:=(List.mem_filter.1 hm).2;rw[Md]at this;exact HL.out x this
  have HF:=hid hF;have HMi:=hid (H.out.keeps hx.keeps hF);have Ab:aa (fun x=>x<w.heap.size∧¬F x) w W0:=hx.mono fun x hx=>hx.1
  have eg:∀ args w,(callFunc 149 args).run Tryz.prog w=.ok (.enter 149 args) w:=enters_of Tryz.func149 (by kernel_rfl) rfl
  refine fT (w:=W0) (d:=true) (xl (bW last) (w.heap.size+1+1+1) (w.heap.size+1) 0 W0 B3 (eR.Mc B1)) (by rfl) eg (by intro _;rfl) (by intro k hk;rcases hk with hk | hk<;>omega)
    (fun pre _ W=>eD base M F W (jN m pre first)∧ak W w.heap.size #[.pointer (some ⟨M,0,none⟩)] 124∧ak W (w.heap.size+1+1) (bK (bW first)) 129∧aa (fun x=>x<w.heap.size∧¬F x) w W)
    (fun _ _ _ _=>False)
    (fun ys T T' W W' ⟨h1,h2,h3,h4⟩ hT Ld hs hn hk=>⟨h1.keeps hk.1 fun x hx=>⟨(h1.lt x hx).2,fun e=>by have:=(hT x e).1;have:=HF.out x hx;omega⟩,h2.kX hT hk (by omega),h3.kX hT hk (by omega),h4.tr (hk.1.mono fun x hx=>⟨by have:=h4.size;have:=hx.1;omega,fun e=>by have:=(hT x e).1;have:=hx.1;omega⟩)⟩)
    (fun c ys T T' W W' h=>h.elim)
    ⟨by rw[I7];exact HMi.out,B0,B2,Ab⟩
    (fun x=>⟨#[.pointer (some ⟨M,0,none⟩),.agg (bK (bW last)),.agg (bK (bW first)),.pointer (some ⟨w.heap.size,0,none⟩),.pointer (some ⟨w.heap.size+1,0,none⟩),.pointer (some ⟨w.heap.size+1+1,0,none⟩),.int .i64 (x:Int),.func (.func 149) #[] #[.pointer (some ⟨w.heap.size+1+1+1,0,none⟩)],.int .i64 (x:Int),undef,undef,undef,undef,undef,undef,undef,undef],[]⟩) ?assign ?body ?done ?stop
  case assign=>
    intro l x W K hK
    gi_wp2
    exact hK
  case body=>
    rintro lr pre x T W bp hT hR vA hl ⟨i1,i2,i3,i4⟩;obtain⟨XP,sr⟩:=HND.out pre x bp;obtain⟨f,hf⟩:∃ f,m.bJ[x]? =some f:=⟨_,List.getElem?_eq_getElem sr⟩;have sW:(jN m pre first).bJ[x]? =some f:=by show(m.bJ.mapIdx _)[x]? =_;rw[List.getElem?_mapIdx,hf];simp only[Option.map_some];rw[XP];rfl
    obtain⟨sv,fv,r1,r2,r3,r4,r5⟩:=i1.row;have JX:(jN m pre first).bJ.length=m.bJ.length:=xo _ _ _;rw[JX]at r4
    obtain⟨g,cap,rfl⟩:∃ g cap,fv=.slice (some ⟨g,0,none⟩) m.bJ.length cap:=by
      rcases r4.2 with⟨_,e2⟩ | ⟨g,cap,cur,e2,_⟩
      · exfalso;omega
      · exact⟨g,cap,e2⟩
    have hFg:F g:=r5 g rfl;have hgw:g<w.heap.size:=HF.out g hFg;have hFM:F M:=i1.fm
    have hgM:M≠g:=fun e=>by
      subst e;rcases r4.2 with⟨e4,_⟩ | ⟨g',c',cur,e4,_,h6,_⟩
      · cases e4
      · cases e4
        unfold ak at r1;rw[r1]at h6;injection h6 with h7
        injection h7 with _ h8
        exact absurd h8 (by decide)
    have hwd:eR W g (x*7) (bW f):=⟨(i1.lt g hFg).2,fun i hi=>by
      have:=r4.cells (g:=g) rfl _ _ (tV sW hi);rw[Addr.add_mid]at this
      simpa using this⟩
    have JZ:∀ i,i<7→W.frozen? ⟨g,x*7+i,none⟩=false:=fun i _=>r4.frozenAt _
    have vU:w.heap.size+1+1+1+1≤W.heap.size:=by have:=hR.size;omega
    have q0:W.cell? ⟨w.heap.size,0,none⟩=some (.pointer (some ⟨M,0,none⟩)):=i2.cell 0;have q1:W.cell? ⟨M,1,none⟩=some (.slice (some ⟨g,0,none⟩) m.bJ.length cap):=r1.cell 1;have hxi:(x:Int)<m.bJ.length:=by omega
    have I1:=hid i1;have I2:=hid i2;have I3:=hid i3;have I4:=hid i4;have R1:=hid r1;have HWD:=hid hwd;have HFZ:=hid JZ;have HT:=hid hT;have ajF:=hid sW;have HFX:=hid hf;have hb3:=i3;obtain⟨nf,zP⟩:∃ n,n=m.bJ.length:=⟨_,rfl⟩;rw[←zP]at q1 hxi R1;have GQ:=hid zP;clear i1 i2 i3 i4 r1 r2 r3 r4 r5 hwd JZ hT hR vA hl bp sW hf JX zP B0 B1 B2 B3 Ab
    gi_upto_region 3 with fail
    refine pX (fun _=>trivial) rfl (fun k=>k<W.heap.size∧k≠g) (by kernel_rfl) (fun i=>i==7) (by kernel_rfl) ?_;intro C hC hne W2 hK2 hblk adr hx2;have HC:=hid hC;have f0:=cL hC (p:=⟨w.heap.size,0,none⟩) ⟨I2.out.lt,by show w.heap.size≠g;omega⟩ q0;have f1:=cL hC (p:=⟨M,1,none⟩) ⟨R1.out.lt,hgM⟩ q1;have hb2:w.heap.size+1+1<W.heap.size:=I3.out.lt;have g0:=cL hC (p:=⟨w.heap.size+1+1,0,none⟩) ⟨hb2,by show w.heap.size+1+1≠g;omega⟩ (I3.out.cell 0);have g1:=cL hC (p:=⟨w.heap.size+1+1,1,none⟩) ⟨hb2,by show w.heap.size+1+1≠g;omega⟩ (I3.out.cell 1);have g2:=cL hC (p:=⟨w.heap.size+1+1,2,none⟩) ⟨hb2,by show w.heap.size+1+1≠g;omega⟩ (I3.out.cell 2);have g3:=cL hC (p:=⟨w.heap.size+1+1,3,none⟩) ⟨hb2,by show w.heap.size+1+1≠g;omega⟩ (I3.out.cell 3);have g4:=cL hC (p:=⟨w.heap.size+1+1,4,none⟩) ⟨hb2,by show w.heap.size+1+1≠g;omega⟩ (I3.out.cell 4);have g5:=cL hC (p:=⟨w.heap.size+1+1,5,none⟩) ⟨hb2,by show w.heap.size+1+1≠g;omega⟩ (I3.out.cell 5);have g6:=cL hC (p:=⟨w.heap.size+1+1,6,none⟩) ⟨hb2,by show w.heap.size+1+1≠g;omega⟩ (I3.out.cell 6);simp only[bK,List.getElem?_toArray,List.getElem?_cons_zero,List.getElem?_cons_succ]at g0 g1 g2 g3 g4 g5 g6;have qb:=hid hK2;have HBL:=hid hblk;have eZ:=hid hx2;clear hC hK2 hblk hx2;refine dH.out ?_
    repeat (refine wD (fun K hK=>?_);first | (refine lexN rfl ?_;try go_simp;refine hK _ _ ?_;clear hK K) | (refine aco rfl rfl ?_;unfold ar;go_simp;refine hK _ _ ?_;clear hK K))
    refine wD (fun K hK=>?_);refine acp rfl rfl ?_;go_simp;have ads:eR W2 g (x*7) (bW f):=HWD.out.keeps eZ.out.keeps HWD.out.1
    have adt:∀ i,i<7→W2.frozen? ⟨g,x*7+i,none⟩=false:=fun i hi=>by
      have e3:=HFZ.out i hi;unfold World.frozen? at e3 ⊢;rw[HBL.out g];exact e3
    refine zZ ((iM (bW f) (bW first) g (x*7) W2 ads adt).mono ?_);rintro e w2 ⟨⟨u,rfl⟩,hx⟩;have Un:=eZ.out.size;have k1:aa (· ≠g) W2 (ey W2 g (x*7) (fun i=>bW f i ||| bW first i) 7):=bT _ _ _ _ _;have k2:aa (fun k=>k<W.heap.size∧k≠g) W w2:=(eZ.out.mono fun k hk=>hk.1:aa (fun k=>k<W.heap.size∧k≠g) W W2).tr ((k1.mono fun k hk=>hk.2).tr (hx.mono fun k hk=>by have:=hk.1;omega));refine⟨_,rfl,(HC.out _).2 k2,hK _ _ ?_⟩;clear hK K;refine Ks ?_;refine⟨k2.mono fun k hk=>?_,?_,?_,?_,?_⟩
    · rcases hk with(hk | hk) | hk
      · exact⟨by omega,by omega⟩
      · exact⟨by omega,by omega⟩
      · have h9:=HT.out k hk
        exact⟨h9.2,by omega⟩
    · have h9:=(I1.out.keeps eZ.out.keeps fun x hx=>(I1.out.lt x hx).2)
      have h8:=h9.or (R1.out.keeps eZ.out.keeps R1.out.lt) (p:=x) (by rw[xo];exact sr) (f ||| first) (z:=fun i=>bW f i ||| bW first i) fun i _=>(tU f first i).symm
      rw[Ff m pre first HFX.out]at h8;exact h8.keeps hx fun y hy=>by have:=(h9.lt y hy).2;omega
    · exact I2.out.keeps k2 ⟨I2.out.lt,by omega⟩
    · exact I3.out.keeps k2 ⟨I3.out.lt,by omega⟩
    · exact I4.out.tr (k2.mono fun k hk=>⟨by have:=hk.1;omega,fun e=>hk.2 (by rw[e];exact hFg)⟩)
  case done=>
    rintro D T W hD vD hT ⟨i1,i2,i3,i4⟩ kO;have I1:=hid i1;have I4:=hid i4;have HD:=hid hD;have vt:=hid kO;clear i1 i2 i3 i4 vD hT kO hD B0 B1 B2 B3 Ab;dsimp only;go_wp2;have hDw:=HD.out;refine rL rfl vt.out (results_none rfl _ _ _) ⟨⟨_,rfl⟩,?_,?_⟩
    · exact I1.out.keeps ((aa.refl (fun x=>x≠D) _).putObj (fun h=>h rfl) _) fun x hx e=>by have:=HF.out x hx;omega
    · exact I4.out.putObj (fun h=>by have:=h.1;omega) _
  case stop=>rintro D c pre T W _ _ _ _ h _;exact h.elim
end Go.Proofs.YtbiboekhakbnpaaGreatDoor
