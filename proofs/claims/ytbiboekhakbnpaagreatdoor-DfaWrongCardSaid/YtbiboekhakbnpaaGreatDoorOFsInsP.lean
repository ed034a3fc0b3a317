/- slices.Insert at parts, of one part into a row of the call's own; slices.Clone at such a row. -/
import Derived.Shelf.Spec.SlicesInsertGrow
import Derived.Test.YtbiboekhakbnpaaGreatDoorOF13
set_option maxRecDepth 100000
set_option maxHeartbeats 16000000
open Go.Lib (hid)
namespace Go.Proofs.YtbiboekhakbnpaaGreatDoor
open Go Go.RowKit Go.Shelf Go.Maps Go.Lib
theorem eJ {P:Program} (w:World) (dT sT ty elem:TypeId) (b o dLen aeZ:Nat) (a:Addr) (sLen sCap k sz:Nat) (cs:List Value) (hu:P.underlying dT=some (.slice elem)) (hs:(P.info? elem).map (·.size)=some sz) (hk:k=Nat.min sLen dLen) (hn:cs.length=k*sz) (yo:∀ j v,cs[j]? =some v->w.cell? (a.add j)=some v) (hc:∀ j,j<cs.length->(w.cell? ⟨b,o+j,none⟩).isSome=true) (hf:∀ j,j<cs.length->w.frozen? ⟨b,o+j,none⟩=false) (h1:∀ v∈cs,v.oneCell'=true): (Builtin.copy_ #[dT,sT] ty #[.slice (some ⟨b,o,none⟩) dLen aeZ,.slice (some a) sLen sCap]).run P w=.ok (goInt k) (w.setCells b o cs):=by
 have hl:=run_loadCells_list (P:=P) w a cs yo;have hst:=run_storeCells_cells (P:=P) b o cs 0 w (by simpa using hc) (by simpa using hf) h1;cases hq:P.info? elem with
 | none=>simp[hq]at hs
 | some i=>
  have hi:i.size=sz:=by simpa[hq]using hs
  simp[Builtin.copy_,run_underlying hu,Builtin.lenOf,Builtin.firstCells,sizeOf,typeInfo,hq,hi, <-hk, <-hn,hl,hst]
theorem N8 {W:World} {base size g n c:Nat} {e:TypeId} {xs ys:List Value} (h:W.ownsRow base e size (.slice (some ⟨g,0,none⟩) n c) n xs) (hl:ys.length=n*size) (hy:∀ j u,ys[j]? =some u->W.cell? ⟨g,j,none⟩=some u):W.ownsRow base e size (.slice (some ⟨g,0,none⟩) n c) n ys:=by
 have hx:=h.1;have:ys=xs:=List.ext_getElem? fun j=>by
  rcases Nat.lt_or_ge j (n*size)with hj | hj
  ·have h1:xs[j]? =some (xs[j]'(by omega)):=List.getElem?_eq_getElem (by omega)
   have h2:ys[j]? =some (ys[j]'(by omega)):=List.getElem?_eq_getElem (by omega);have h3:=h.cells (g:=g) rfl _ _ h1;rw[Addr.add_mid,Nat.zero_add,hy _ _ h2]at h3;rw[h1,h2,h3]
  ·rw[List.getElem?_eq_none (by omega),List.getElem?_eq_none (by omega)]
 rw[this];exact h
theorem uW {W:World} {base size g n c:Nat} {e:TypeId} {xs:List Value} (h:W.ownsRow base e size (.slice (some ⟨g,0,none⟩) n c) n xs) (hc:n+1<=c):∃ ys,W.ownsRow base e size (.slice (some ⟨g,0,none⟩) (n+1) c) (n+1) ys:=by
 rcases h.2 with⟨h1,_⟩ | ⟨g',cap,cur,h1,h2,h3,h4,h5,h6,h7⟩
 ·cases h1
 ·cases h1
  have hle:(n+1)*size<=c*size:=Nat.mul_le_mul_right _ hc;exact⟨cur.toList.take ((n+1)*size),by rw[List.length_take,Array.length_toList,h6];omega,.inr ⟨g,c,cur,rfl,h2,h3,hc,h5,h6,rfl⟩⟩
theorem cP {W:World} {base size g n c:Nat} {e:TypeId} {xs:List Value} (h:W.ownsRow base e size (.slice (some ⟨g,0,none⟩) n c) n xs):(∀ j u,xs[j]? =some u->W.cell? ⟨g,j,none⟩=some u)/\(∀ j,W.frozen? ⟨g,j,none⟩=false)/\∀ j,j<n*size->(W.cell? ⟨g,j,none⟩).isSome=true:=by
 have h1:∀ j u,xs[j]? =some u->W.cell? ⟨g,j,none⟩=some u:=fun j u hu=>by
  have h3:=h.cells (g:=g) rfl _ _ hu;rwa[Addr.add_mid,Nat.zero_add]at h3
 refine⟨h1,fun j=>h.frozenAt _,fun j hj=>?_⟩;rw[h1 j _ (List.getElem?_eq_getElem (by rw[h.1];exact hj))];rfl
theorem xP {W:World} {base size g n c:Nat} {e:TypeId} {xs:List Value} (h:W.ownsRow base e size (.slice (some ⟨g,0,none⟩) n c) n xs):W.shape? g=some (e,c*size):=by
 rcases h.2 with⟨h1,_⟩ | ⟨g',cap,cur,h1,h2,h3,h4,h5,h6,h7⟩
 ·cases h1
 ·cases h1
  simp[World.shape?,h3,h6]
theorem N9 (vb g o lb cb:Nat) (w:World) (hne:vb≠g) {vs:Array Value} {t:TypeId} (hv:ak w vb vs t) {base n c:Nat} {xs:List Value} (h:w.ownsRow base 46 7 (.slice (some ⟨g,0,none⟩) n c) n xs) (hc:0<c): (callFunc 61 #[.slice (some ⟨vb,0,none⟩) 1 1,.slice (some ⟨g,o,none⟩) lb cb]).run Tryz.prog w=.ok (.value (.bool false)) w:=by
 rw[run_callFunc_extern Tryz.func61 (by kernel_rfl) (by kernel_rfl) (by kernel_rfl) (e:=Extern.SlicesOverlaps.overlaps #[25,25] #[4]) (by kernel_rfl)];have hsh:w.shape? vb=some (t,vs.size):=by
  have:=hv;unfold ak at this;simp[World.shape?,this]
 rw[Lib.run_overlaps_apart w 25 4 46 Tryz.underlying25 7 Tryz.sizeOf46 ⟨vb,0,none⟩ ⟨g,o,none⟩ 1 1 lb cb hne t 46 vs.size (c*7) hsh (xP h) (by omega) (hv.frozen _) (hv.frozen _)];rfl
theorem JF (base g n c i vb:Nat) (cs vs:List Value) (w:World) (h:w.ownsRow base 46 7 (.slice (some ⟨g,0,none⟩) n c) n cs) (hi:i<n) (hn:n<=1000) (hroom:n+1<=c) (Rn:c<=9223372036854775807) (hv:ak w vb vs.toArray 46) (qL:vs.length=7) (h1c:∀ u∈cs,u.oneCell'=true) (zU:∀ u∈vs,u.oneCell'=true) (hvg:vb≠g): Calls Tryz.prog 33 #[.slice (some ⟨g,0,none⟩) n c,.int .i64 i,.slice (some ⟨vb,0,none⟩) 1 1] w fun e w'=>
   e=.returned (.slice (some ⟨g,0,none⟩) (n+1) c)/\w'=(w.drew.setCells g ((i+1)*7) (cs.drop (i*7))).setCells g (i*7) vs:=by
 have hz2:¬ ((i:Int)=(n:Int)):=by omega
 have hsz:(Tryz.prog.info? 46).map (·.size)=some 7:=by kernel_rfl
 have hov:∀ lb cb,(callFunc 61 #[.slice (some ⟨vb,0,none⟩) 1 1,.slice (some ⟨g,(i+1)*7,none⟩) lb cb]).run Tryz.prog w=.ok (.value (.bool false)) w:=fun lb cb=>N9 vb g _ lb cb w hvg hv h (by omega)
 have fw:cs.length=n*7:=h.1;have Hi:(cs.drop (i*7)).length=(n-i)*7:=by rw[List.length_drop,fw];omega
 obtain⟨ys,hy⟩:=uW h hroom;obtain⟨hcs,JZ,_⟩:=cP h;obtain⟨_,_,hsp⟩:=cP hy;have Sh:IntKind.i64.wrap ((i:Int)+1)=(i:Int)+1:=by rw[IntKind.wrap_i64];omega
 have hb1:(0:Int)<=(i:Int)+1:=by omega
 have il:i<=n:=by omega
 have sy:((i:Int)+1).toNat=i+1:=by omega
 have hb2:¬ (c=i+1):=by omega
 have hb3:(i:Int)<=(n:Int)+1:=by omega
 have hb4:¬ (c=i):=by omega
 have aaf:∀ ty dc sc,(Builtin.copy_ #[25,25] ty #[.slice (some ⟨g,(i+1)*7,none⟩) (n-i) dc,.slice (some ⟨g,i*7,none⟩) (n+1-i) sc]).run Tryz.prog w.drew=.ok (goInt ((n-i:Nat):Int)) (w.drew.setCells g ((i+1)*7) (cs.drop (i*7))):=fun ty dc sc=>
  eJ w.drew _ _ ty 46 g ((i+1)*7) (n-i) dc ⟨g,i*7,none⟩ (n+1-i) sc (n-i) 7 (cs.drop (i*7)) Tryz.underlying25 hsz (by simp only[Nat.min_def];split<;>omega) Hi
   (fun j v hj=>by rw[Addr.add_lit];exact hcs (i*7+j) v (by rwa[List.getElem?_drop]at hj))
   (fun j hj=>hsp _ (by omega)) (fun j hj=>JZ _) (fun v hv=>h1c v (List.mem_of_mem_drop hv))
 obtain⟨W1,hW1⟩:∃ W1,W1=w.drew.setCells g ((i+1)*7) (cs.drop (i*7)):=⟨_,rfl⟩;have Ro:∀ k,k<(n+1)*7->(W1.cell? ⟨g,k,none⟩).isSome=true:=fun k hk=>by
  rw[hW1];exact isSome_setCells g _ _ w.drew (fun j hj=>hsp ((i+1)*7+j) (by rw[Hi]at hj;omega)) _ (hsp k hk)
 have ae0:∀ (W:World),(∀ x,W.cell? x=W1.cell? x)->(∀ x,W.frozen? x=W1.frozen? x)->∀ ty dc,(Builtin.copy_ #[25,25] ty #[.slice (some ⟨g,i*7,none⟩) (n+1-i) dc,.slice (some ⟨vb,0,none⟩) 1 1]).run Tryz.prog W=.ok (goInt (1:Nat)) (W.setCells g (i*7) vs):=fun W S7 hWf ty dc=>
  eJ W _ _ ty 46 g (i*7) (n+1-i) dc ⟨vb,0,none⟩ 1 1 1 7 vs Tryz.underlying25 hsz (by simp only[Nat.min_def];split<;>omega) (by rw[qL])
   (fun j v hj=>by
    rw[Addr.add_lit,S7,hW1,World.cell?_setCells_out g _ _ _ _ (fun h _=>absurd h hvg),Nat.zero_add];have:=hv.cell j;rw[List.getElem?_toArray,hj]at this
    exact this)
   (fun j hj=>by rw[S7];exact Ro _ (by omega)) (fun j hj=>by rw[hWf,hW1,World.frozen?_setCells];exact JZ _) zU
 rw[<-hW1]at aaf;have mixed:Tryz.prog.follows .mixedOrders=true:=by kernel_rfl
 clear hsp hcs JZ hy hsz h h1c zU hv Hi fw Ro;go_enter Tryz.func33,Tryz.ntmps33;go_wp2_with (simp only[hov])
 go_region_law_o (refine step_copy_runI rfl _ _ 25 25 rfl _ _ (by simp[Act.eval,Act.put]) (by simp[Act.eval,Act.put]) (aaf _ _ _) ?_)
 go_wp2_with (at_builtin;refine wpList_copy_runI _ rfl _ _ 25 25 rfl _ _ rfl rfl (ae0 _ (fun _=>rfl) (fun _=>rfl) _ _) ?_)
 go_ret;first | exact⟨rfl,rfl⟩ | exact⟨rfl,by rw[hW1]⟩
theorem aah (vb:Nat) (vs:List Value) (w:World) (hv:ak w vb vs.toArray 46) (qL:vs.length=7) (zU:∀ u∈vs,u.oneCell'=true) (k:Nat) (hk:k=7):Src Tryz.prog k 25 (.slice (some ⟨vb,0,none⟩) 1 1) 1 vs w:=by
 subst hk
 exact Src.ofSlice w Tryz.underlying25 ⟨vb,0,none⟩ 1 1 vs (by omega) (fun j u hj=>by
  rw[Addr.add_lit,Nat.zero_add];have:=hv.cell j;rw[List.getElem?_toArray,hj]at this
  exact this) zU
theorem JG (base g n c vb:Nat) (cs vs:List Value) (w:World) (h:w.ownsRow base 46 7 (.slice (some ⟨g,0,none⟩) n c) n cs) (hroom:n+1<=c) (Rn:c<=9223372036854775807) (hv:ak w vb vs.toArray 46) (qL:vs.length=7) (zU:∀ u∈vs,u.oneCell'=true): Calls Tryz.prog 33 #[.slice (some ⟨g,0,none⟩) n c,.int .i64 n,.slice (some ⟨vb,0,none⟩) 1 1] w fun e w'=>
   e=.returned (.slice (some ⟨g,0,none⟩) (n+1) c)/\w'=w.setCells g (n*7) vs:=by
 have rK:(Tryz.prog.info? 46).map (fun i=>(i.zero,i.size,i.bytes))=some (some (.agg #[.slice none 0 0,.slice none 0 0,.slice none 0 0,.slice none 0 0,.bool false,.bool false,.int .i64 0]),7,120):=by kernel_rfl
 obtain⟨i0,VE,hz0,hzs,hzb⟩:=info_parts rK;have yo:=aah vb vs w hv qL zU i0.size hzs;obtain⟨ys,hy⟩:=uW h hroom;obtain⟨_,JZ,_⟩:=cP h;obtain⟨_,_,hsp⟩:=cP hy;have hc:∀ j,j<vs.length->(w.cell? ⟨g,0+n*i0.size+j,none⟩).isSome=true:=fun j hj=>by rw[hzs,Nat.zero_add];exact hsp _ (by omega)
 have hf:∀ j,j<vs.length->w.frozen? ⟨g,0+n*i0.size+j,none⟩=false:=fun j hj=>JZ _
 have HS:=hid yo;have HC:=hid hc;have HF:=hid hf;clear yo hc hf hsp JZ hy h hv zU rK;go_enter Tryz.func33,Tryz.ntmps33;go_wp2_with (at_builtin;refine wpList_append_room_src _ rfl (.tmp 23) (.tmp 24) 25 25 rfl 46 i0 Tryz.underlying25 VE g 0 n c rfl _ rfl 1 vs HS.out hroom HC.out HF.out ?_);go_ret;exact⟨rfl,rfl⟩
theorem zD (base n c vb:Nat) (ad:Option Addr) (cs vs:List Value) (w:World) (h:w.ownsRow base 46 7 (.slice ad n c) n cs) (hn:n<=1000) (hroom:c<n+1) (hv:ak w vb vs.toArray 46) (qL:vs.length=7) (zU:∀ u∈vs,u.oneCell'=true): Calls Tryz.prog 33 #[.slice ad n c,.int .i64 n,.slice (some ⟨vb,0,none⟩) 1 1] w fun e w'=>
   ∃ G,n+1<=G/\G<=maxLen/\e=.returned (.slice (some ⟨w.heap.size,0,none⟩) (n+1) G)/\∃ ROW:Array Value,ROW.size=G*7/\ROW.toList.take ((n+1)*7)=cs++vs/\w'=w.drew.alloc (.cells ROW 46):=by
 have rK:(Tryz.prog.info? 46).map (fun i=>(i.zero,i.size,i.bytes))=some (some (.agg #[.slice none 0 0,.slice none 0 0,.slice none 0 0,.slice none 0 0,.bool false,.bool false,.int .i64 0]),7,120):=by kernel_rfl
 obtain⟨i0,VE,hz0,hzs,hzb⟩:=info_parts rK;have yo:=aah vb vs w hv qL zU i0.size hzs;have fw:cs.length=n*7:=h.1;have hold:(Builtin.firstCells i0.size n (.slice ad n c)).run Tryz.prog w.drew=.ok cs.toArray w.drew:=by
  rw[hzs];rcases h.2 with⟨h1,h2⟩ | ⟨g,cap,cur,h1,_⟩
  ·cases h1
   rw[List.length_eq_zero_iff.1 fw];exact run_firstCells_none w.drew 7 0 0 0
  ·cases h1
   exact run_firstCells_some w.drew 7 n ⟨g,0,none⟩ n c cs fw fun j v hj=>by
    rw[Addr.add_lit,Nat.zero_add];exact(cP h).1 j v hj
 have hrun:∀ ty,(Builtin.append_ #[25,25] ty #[.slice ad n c,.slice (some ⟨vb,0,none⟩) 1 1]).run Tryz.prog w=_:=fun ty=>
  run_append_grow_src w 25 25 ty 46 i0 _ Tryz.underlying25 VE hz0 ad n c cs hold _ 1 vs yo hroom (by omega) (by rw[hzb];exact growslice_fits hroom (by omega))
 have VF:n+1<=grownCap w (n+1) c 46:=grownCap_ge w _ _ _;have VG:grownCap w (n+1) c 46<=maxLen:=grownCap_le_maxLen w (n+1) c _ (by unfold maxLen;omega);obtain⟨G,hG⟩:∃ G,G=grownCap w (n+1) c 46:=⟨_,rfl⟩;rw[<-hG]at hrun VF VG;obtain⟨ROW,zE⟩:∃ ROW:Array Value,ROW=(cs++vs).toArray++Builtin.zeroCells (Value.agg #[.slice none 0 0,.slice none 0 0,.slice none 0 0,.slice none 0 0,.bool false,.bool false,.int .i64 0]).cells (G-(n+1)):=⟨_,rfl⟩;rw[<-zE]at hrun;have Pg:ROW.size=G*7:=by rw[zE];simp[Builtin.zeroCells,Value.cells,fw,qL];omega
 have Rp:ROW.toList.take ((n+1)*7)=cs++vs:=by rw[zE,Array.toList_append,List.take_append_of_le_length (by simp[fw,qL];omega),List.take_of_length_le (by simp[fw,qL];omega)]
 have HR:Hid (n+1<=G/\G<=maxLen/\ROW.size=G*7/\ROW.toList.take ((n+1)*7)=cs++vs):=hid ⟨VF,VG,Pg,Rp⟩;clear hG zE Pg Rp VF VG hold yo h hv zU rK fw VE hz0 hzs hzb;go_enter Tryz.func33,Tryz.ntmps33;cases ad with
 | none=>
  go_wp2_with (at_builtin;refine Lib.wpList_append_run _ rfl _ _ _ _ rfl _ _ rfl rfl _ _ (hrun _) ?_)
  all_goals (go_ret;exact⟨G,HR.out.1,HR.out.2.1,rfl,ROW,HR.out.2.2.1,HR.out.2.2.2,rfl⟩)
 | some a=>
  obtain⟨ab,ao,asp⟩:=a;go_wp2_with (at_builtin;refine Lib.wpList_append_run _ rfl _ _ _ _ rfl _ _ rfl rfl _ _ (hrun _) ?_);all_goals (go_ret;exact⟨G,HR.out.1,HR.out.2.1,rfl,ROW,HR.out.2.2.1,HR.out.2.2.2,rfl⟩)
theorem Oa (base g n c i vb:Nat) (cs vs:List Value) (w:World) (h:w.ownsRow base 46 7 (.slice (some ⟨g,0,none⟩) n c) n cs) (hi:i<n) (hn:n<=1000) (hroom:c<n+1) (XP:n<=c) (hv:ak w vb vs.toArray 46) (qL:vs.length=7) (h1c:∀ u∈cs,u.oneCell'=true) (zU:∀ u∈vs,u.oneCell'=true): Calls Tryz.prog 33 #[.slice (some ⟨g,0,none⟩) n c,.int .i64 i,.slice (some ⟨vb,0,none⟩) 1 1] w fun e w'=>
   ∃ G,n+1<=G/\G<=maxLen/\e=.returned (.slice (some ⟨w.heap.size,0,none⟩) (n+1) G)/\∃ ROW:Array Value,ROW.size=G*7/\ROW.toList.take (i*7)=cs.take (i*7)/\
    w'=(((w.alloc (.cells ROW 46)).drew.setCells w.heap.size (i*7) vs).drew).setCells w.heap.size ((i+1)*7) (cs.drop (i*7)):=by
 have rK:(Tryz.prog.info? 46).map (fun i=>(i.zero,i.size,i.bytes))=some (some (.agg #[.slice none 0 0,.slice none 0 0,.slice none 0 0,.slice none 0 0,.bool false,.bool false,.int .i64 0]),7,120):=by kernel_rfl
 obtain⟨i0,VE,hz0,hzs,hzb⟩:=info_parts rK;have fw:cs.length=n*7:=h.1;obtain⟨hcs,_,_⟩:=cP h;have hz2:¬ ((i:Int)=(n:Int)):=by omega
 have hz3:(c:Int)<(n:Int)+1:=by omega
 have hsz:(Tryz.prog.info? 46).map (·.size)=some 7:=by kernel_rfl
 have ny:g<w.heap.size:=(h.lt g rfl).2;have hvw:vb<w.heap.size:=hv.lt;have PI:(n:Int)+1-(i:Int)=((n+1-i:Nat):Int):=by omega
 have hik:i+(n+1-i)=n+1:=by omega
 have hold:(Builtin.firstCells i0.size i (.slice (some ⟨g,0,none⟩) i c)).run Tryz.prog w.drew=.ok (cs.take (i*7)).toArray w.drew:=by
  rw[hzs]
  exact run_firstCells_some w.drew 7 i ⟨g,0,none⟩ i c (cs.take (i*7)) (by rw[List.length_take];omega) (fun j v hj=>by
   rw[Addr.add_lit,Nat.zero_add];rw[List.getElem?_take]at hj;split at hj
   ·exact hcs j v hj
   ·cases hj)
 obtain⟨Z,hZ⟩:∃ Z,Z=(Value.agg #[.slice none 0 0,.slice none 0 0,.slice none 0 0,.slice none 0 0,.bool false,.bool false,.int .i64 0]).cells:=⟨_,rfl⟩;have hZ7:Z.size=7:=by rw[hZ];rfl
 have hrz:∀ ty,(Builtin.append_ #[25,3] ty #[.slice (some ⟨g,0,none⟩) i c,.int .i64 ((n:Int)+1-(i:Int))]).run Tryz.prog w=
   .ok (.slice (some ⟨w.heap.size,0,none⟩) (n+1) (grownCap w (n+1) c 46)) (w.drew.alloc (.cells ((cs.take (i*7)).toArray++Builtin.zeroCells Z (n+1-i)++Builtin.zeroCells Z (grownCap w (n+1) c 46-(n+1))) 46)):=fun ty=>by
  have h:=Lib.run_append_grow_zeros w 25 3 ty 46 i0 _ .i64 .i64 Tryz.underlying25 Tryz.underlying3 VE hz0 (some ⟨g,0,none⟩) i c (cs.take (i*7)) hold (n+1-i) (by omega) (by omega) (by omega) (by omega) (by rw[hzb];omega) (by rw[hzb,hik];exact growslice_fits hroom (by omega));rw[hik, <-hZ]at h;rw[PI];exact h
 have hGn:n+1<=grownCap w (n+1) c 46:=grownCap_ge w _ _ _;have VH:grownCap w (n+1) c 46<=maxLen:=grownCap_le_maxLen w (n+1) c _ (by unfold maxLen;omega);obtain⟨G,hG⟩:∃ G,G=grownCap w (n+1) c 46:=⟨_,rfl⟩;obtain⟨ROW,zE⟩:∃ ROW:Array Value,ROW=(cs.take (i*7)).toArray++Builtin.zeroCells Z (n+1-i)++Builtin.zeroCells Z (G-(n+1)):=⟨_,rfl⟩;rw[<-hG]at hrz hGn VH;rw[<-zE]at hrz;have Dw:(cs.take (i*7)).length=i*7:=by rw[List.length_take];omega
 have Pg:ROW.size=G*7:=by rw[zE];simp[Builtin.zeroCells,hZ7,Dw];omega
 have Rp:ROW.toList.take (i*7)=cs.take (i*7):=by rw[zE,Array.append_assoc,Array.toList_append,List.take_append_of_le_length (by simp[Dw]),List.take_of_length_le (by simp[Dw])]
 have HR:Hid (n+1<=G/\G<=maxLen/\ROW.size=G*7/\ROW.toList.take (i*7)=cs.take (i*7)):=hid ⟨hGn,VH,Pg,Rp⟩;obtain⟨W1,hW1⟩:∃ W1,W1=w.drew.alloc (.cells ROW 46):=⟨_,rfl⟩;rw[<-hW1]at hrz;have hN:∀ j,j<(n+1)*7->(W1.cell? ⟨w.heap.size,j,none⟩).isSome=true:=fun j hj=>by
  rw[hW1,World.cell?_alloc_at (w:=w.drew) ROW _ w.heap.size j rfl,Array.getElem?_eq_getElem (by omega)];rfl
 have hNf:∀ j,W1.frozen? ⟨w.heap.size,j,none⟩=false:=fun j=>by rw[hW1];exact World.frozen?_alloc_at (w:=w.drew) ROW _ w.heap.size j rfl
 have hOb:∀ j v,w.cell? ⟨g,j,none⟩=some v->W1.cell? ⟨g,j,none⟩=some v:=fun j v h=>by rw[hW1,World.cell?_alloc_past (w:=w.drew) _ g j ny];exact h
 have hOv:∀ j v,w.cell? ⟨vb,j,none⟩=some v->W1.cell? ⟨vb,j,none⟩=some v:=fun j v h=>by rw[hW1,World.cell?_alloc_past (w:=w.drew) _ vb j hvw];exact h
 have hvs:∀ j v,vs[j]? =some v->w.cell? ⟨vb,j,none⟩=some v:=fun j v hj=>by
  have:=hv.cell j;rw[List.getElem?_toArray,hj]at this;exact this
 have ae2:∀ (W:World),(∀ x,W.cell? x=W1.cell? x)->(∀ x,W.frozen? x=W1.frozen? x)->∀ ty dc,(Builtin.copy_ #[25,25] ty #[.slice (some ⟨w.heap.size,i*7,none⟩) (n+1-i) dc,.slice (some ⟨vb,0,none⟩) 1 1]).run Tryz.prog W=.ok (goInt (1:Nat)) (W.setCells w.heap.size (i*7) vs):=fun W S7 hWf ty dc=>
  eJ W _ _ ty 46 w.heap.size (i*7) (n+1-i) dc ⟨vb,0,none⟩ 1 1 1 7 vs Tryz.underlying25 hsz (by simp only[Nat.min_def];split<;>omega) (by rw[qL])
   (fun j v hj=>by rw[Addr.add_lit,S7,Nat.zero_add];exact hOv _ v (hvs j v hj))
   (fun j hj=>by rw[S7];exact hN _ (by omega)) (fun j hj=>by rw[hWf];exact hNf _) zU
 have hGi:¬ (G=i):=by omega
 have alS:¬ (G=i+1):=by omega
 have hci:¬ (c=i):=by omega
 have hbN:g≠w.heap.size:=by omega
 have hG9:G<=9223372036854775807:=by unfold maxLen at VH;omega
 have Hi:(cs.drop (i*7)).length=(n-i)*7:=by rw[List.length_drop,fw];omega
 have aai:∀ (W:World),(∀ x,W.cell? x=(W1.setCells w.heap.size (i*7) vs).cell? x)->(∀ x,W.frozen? x=(W1.setCells w.heap.size (i*7) vs).frozen? x)->∀ ty dc sc,(Builtin.copy_ #[25,25] ty #[.slice (some ⟨w.heap.size,(i+1)*7,none⟩) (n-i) dc,.slice (some ⟨g,i*7,none⟩) (n-i) sc]).run Tryz.prog W=.ok (goInt ((n-i:Nat):Int)) (W.setCells w.heap.size ((i+1)*7) (cs.drop (i*7))):=fun W S7 hWf ty dc sc=>
  eJ W _ _ ty 46 w.heap.size ((i+1)*7) (n-i) dc ⟨g,i*7,none⟩ (n-i) sc (n-i) 7 (cs.drop (i*7)) Tryz.underlying25 hsz (by simp only[Nat.min_def];split<;>omega) Hi
   (fun j v hj=>by
    rw[Addr.add_lit,S7,World.cell?_setCells_out _ _ _ _ _ (fun h _=>absurd h hbN)]
    exact hOb _ v (hcs (i*7+j) v (by rwa[List.getElem?_drop]at hj)))
   (fun j hj=>by rw[S7];exact isSome_setCells _ _ _ W1 (fun t ht=>hN _ (by omega)) _ (hN _ (by omega)))
   (fun j hj=>by rw[hWf,World.frozen?_setCells];exact hNf _) (fun v hv=>h1c v (List.mem_of_mem_drop hv))
 subst hW1;have hE1:∀ x,((w.alloc (.cells ROW 46)).drew).cell? x=(w.drew.alloc (.cells ROW 46)).cell? x:=fun x=>rfl
 have hE2:∀ x,((w.alloc (.cells ROW 46)).drew).frozen? x=(w.drew.alloc (.cells ROW 46)).frozen? x:=fun x=>rfl
 have Fm:∀ x,(((w.alloc (.cells ROW 46)).drew.setCells w.heap.size (i*7) vs).drew).cell? x=((w.drew.alloc (.cells ROW 46)).setCells w.heap.size (i*7) vs).cell? x:=fun x=>rfl
 have hF2:∀ x,(((w.alloc (.cells ROW 46)).drew.setCells w.heap.size (i*7) vs).drew).frozen? x=((w.drew.alloc (.cells ROW 46)).setCells w.heap.size (i*7) vs).frozen? x:=fun x=>rfl
 have Sh:IntKind.i64.wrap ((i:Int)+1)=(i:Int)+1:=by rw[IntKind.wrap_i64];omega
 have hb1:(0:Int)<=(i:Int)+1:=by omega
 have il:i<=n:=by omega
 have sy:((i:Int)+1).toNat=i+1:=by omega
 have hb3:(i:Int)<=(n:Int):=by omega
 have mixed:Tryz.prog.follows .mixedOrders=true:=by kernel_rfl
 clear PI hik hold zE hG hN hNf hOb hOv hvs Hi hcs h h1c zU hv hsz fw Dw Pg Rp hZ hZ7 rK VE hz0 hzs hzb;go_enter Tryz.func33,Tryz.ntmps33
 go_wp2_with (first
  | (at_builtin;refine Lib.wpList_append_run _ rfl _ _ _ _ rfl _ _ rfl rfl _ _ (hrz _) ?_)
  | (at_builtin;refine wpList_copy_runI _ rfl _ _ 25 25 rfl _ _ rfl rfl (ae2 _ hE1 hE2 _ _) ?_)
  | (at_builtin;refine wpList_copy_runI _ rfl _ _ 25 25 rfl _ _ rfl rfl (aai _ (fun _=>rfl) (fun _=>rfl) _ _ _) ?_))
 go_region_law_o (refine step_copy_runI rfl _ _ 25 25 rfl (.slice (some ⟨w.heap.size,(i+1)*7,none⟩) (n-i) (G-(i+1))) (.slice (some ⟨g,i*7,none⟩) (n-i) (c-i)) (by simp[Act.eval,Act.put]) (by simp[Act.eval,Act.put]) (aai _ Fm hF2 46 (G-(i+1)) (c-i)) ?_)
 go_wp2;go_ret;exact⟨G,HR.out.1,HR.out.2.1,rfl,ROW,HR.out.2.2.1,HR.out.2.2.2,rfl⟩
end Go.Proofs.YtbiboekhakbnpaaGreatDoor
