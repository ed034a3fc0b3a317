/- minimal.parts: what the search has in memory. -/
import Derived.Test.YtjgccapbphadjaaGreatDoorOX14
set_option maxRecDepth 100000
set_option maxHeartbeats 16000000
open Go.Lib (hid)
open Go.Value renaming slice->An,int->AT,pointer->D0,okWide->D',tuple->Lw,bool->Ly,agg->P_,oneCell'->S_,cells->X_
open Go.Proofs.Tryz renaming prog->As,underlying22->G_,underlying39->It,underlying133->Lo,underlying24->L_,underlying5->On,underlying206->UP,underlying26->VH,results12->Zj,sizeOf3->Zm,ntmps33->ZS,ntmps67->Z_,ntmps12->Z',isAgg3->ao,func29->aE,func33->a_,func67->be,func12->b_
open List renaming getElem?_eq_some_iff->AF,getElem?_of_mem->B_,range->Cd,pairwise_iff_getElem->C',finRange->DH,take_add_one->D_,map_congr_left->EV,eq_nil_of_length_eq_zero->Ft,take_of_length_le->FF,map_map->F_,mem_singleton->GB,mem_append->GO,mem_iff_getElem?->GS,mem_range->G',mem_map->H',getElem?_cons_succ->Is,not_mem_nil->IN,map_append->I',nodup_iff_pairwise_ne->Kx,foldl_append->L7,contains_eq_any_beq->N_,length_cons->OR,take_length->O_,getElem?_cons_zero->O',getElem?_toArray->R_,length_singleton->Se,getElem?_range->S',getElem?_inj->U',length_take->V',cons_append->Wg,nodup_range->Wr,getElem_map->W_,length_nil->Y_,nil_append->Y',foldl_cons->Ze,idxOf_cons->Zf,length_set->Zg,map_cons->Zk
open Option renaming some->AI,none->AN,map_eq_some_iff->B'
open Go renaming Value->AM,World->AS,bodyPost_ret->H_,TypeId->If,run_underlying->Iv,wpList_append_own_at->IT,info_parts->TO,Reach->US,Addr->V_,MemPlace->Zi,undef->an
open Go.Ending renaming returned->A_
open Go.Lib renaming hid->A'
open Go.Proofs.YtjgccapbphadjaaGreatDoor.Rows renaming minimalGrownRow->Bm,minimalGrownSpec->Rr
open Go.IntKind renaming i64->Bs,u64->N'
open Bool renaming true->By,false->J',eq_false_iff->MY
open Go.Instr renaming lookup->C_,mapUpdate->Zh
open Go.MapKept renaming run_getObj_map->DE
open Array renaming getElem?_eq_some_iff->DS,length_toList->J_,getElem?_modify->RE,getElem_toList->St,extract_size->T_
open Go.World renaming block_lt_of_cell?->E_,ownsRow_nil->NX,ownsRow->Zl
open BitVec renaming getLsbD_and->FG
open Go.Result renaming andThen->IF
open Go.Oper renaming semAt_some->I_
open Go.RowKit.Below renaming refl->K_
open Go.RowKit renaming Hid->M_
open Nat renaming sub_self->P',eq_zero_or_pos->To,zero_add->U_,mul_one->X',le_trans->ZD
open Go.Sort renaming ahead->Q_
open Prod renaming fst->Sf
namespace Go.Proofs.YtjgccapbphadjaaGreatDoor
section
open Go Go.RowKit
end
section
open Go Go.RowKit Go.Shelf
attribute [local go_sem] encS
end
section
open Go Go.RowKit Go.Shelf
attribute [local go_sem] encS I_ gj dz
end
section
open Go Go.RowKit Go.Shelf
attribute [local go_sem] encS
end
section
open Go Go.RowKit Go.Shelf
attribute [local go_sem] encS
theorem aeT (l:List Nat) (hl:∀ c∈l,c<256) (b off cap:Nat) (w:AS) (hn:l.length<=9223372036854775807) (hb:b<w.heap.size) (hc:∀ (i:Nat) (x:Nat),l[i]? =AI x->w.cell? ⟨b,off+i,AN⟩=AI (AT .u8 x)): ah 25 #[An (AI ⟨b,off,AN⟩) l.length cap] w fun e w'=>e=A_ (P_ (encS (pK fun c=>l.contains c)))/\Ext w w':=by
 obtain⟨u,hu⟩:=ag (pK fun c=>l.contains c);rw[<-hu];have HU:=A' hu;have HC:=A' hc;have HL:=A' hl;clear hu hc;go_enter Tryz.func25,Tryz.ntmps25;go_wp2;go_loopw [8] (fun i wr=>∃ (k:Nat) (s:BS),k<=l.length/\i=AT Bs k/\(∀ c,c<256->s.getLsbD c=(l.take k).contains c)/\ar wr (w.heap.size+1) (encS s) 56/\ar wr w.heap.size #[AT N' 0,AT N' 0,AT N' 0,AT N' 0] 56/\Ext w wr) (fun i _=>l.length-(intOf i).toNat);case atStart=>
  refine⟨0,0,by omega,rfl,fun c hc=>by simp,?_,?_,((Ext.refl w).alloc _).alloc _⟩
  ·rw[fU];exact(ar.new _ _ _).at (by simp)
  ·exact(ar.new _ _ _).alloc _
 case round=>
  obtain⟨k,s,hk,rfl,hs,hB,hR,hx⟩:=hrel;have HS:=A' hs;clear hs;by_cases hlt:k<l.length
  ·obtain⟨c,od⟩:∃ c,l[k]? =AI c:=⟨l[k],aB hlt⟩
   have kP:c<256:=HL.out c (ax od);have hcc:wr.cell? ⟨b,off+k,AN⟩=AI (AT .u8 c):=(hx.cell (p:=⟨b,off+k,AN⟩) hb).trans (HC k c od);have hw:(encS s)[c/64]? =AI (AT N' (wd s (c/64)).toNat):=gu s (by omega);have hc1:wr.cell? ⟨w.heap.size+1,c/64,AN⟩=AI (AT N' (wd s (c/64)).toNat):=(hB.cell _).trans hw;have hf:=hB.frozen (c/64);have er:l.take (k+1)=l.take k++ [c]:=by rw[D_,od];rfl
   have HT:=A' er;have HB:=A' hB;have HR:=A' hR;have HX:=A' hx;have HCl:=A' od;clear hB hR hx hw er od;go_wp2;go_roundw;case rel=>
    refine⟨k+1,mP s c,by omega,by go_num,fun d hd=>?_,?_,?_,HX.setCell (by simp) _⟩
    ·rw[kO s kP,HS.out d hd,HT.out,N_,N_,List.any_append]
     simp
    ·rw[<-uU s kP];exact HB.set _ _
    ·exact HR.other (by simp) _
   case measure=>simp[intOf];omega
  ·have QT:s=u:=by rw[HU.out];exact BS.Jq fun c hc=>by rw[HS.out c hc,FF (by omega)]
   subst QT;obtain rfl:k=l.length:=by omega
   obtain⟨c0,c1,c2,c3⟩:=hB.K1;have r0:wr.cell? ⟨w.heap.size,0,AN⟩=AI (AT N' 0):=hR.cell 0;have r1:wr.cell? ⟨w.heap.size,1,AN⟩=AI (AT N' 0):=hR.cell 1;have r2:wr.cell? ⟨w.heap.size,2,AN⟩=AI (AT N' 0):=hR.cell 2;have r3:wr.cell? ⟨w.heap.size,3,AN⟩=AI (AT N' 0):=hR.cell 3;have rf:=hR.frozen;have HX:=A' hx;clear hB hR hx;go_wp2;refine H_ (v:=P_ (encS s)) ?_ rfl ⟨rfl,?_⟩
   ·simp[results,Tryz.results25,go_sem,r0,r1,r2,r3]
   ·exact(((HX.setCell (by simp<;>omega) _).setCell (by simp<;>omega) _).setCell (by simp<;>omega) _).setCell (by simp<;>omega) _
end
section
open Go Go.RowKit Go.Shelf Go.Maps
attribute [local go_sem] encS I_ gj dz
end
section
open Go Go.RowKit Go.Shelf Go.Maps
attribute [local go_sem] encS
end
section
open Go Go.RowKit Go.Shelf Go.Maps
attribute [local go_sem] encS I_ gj dz
end
section
open Go Go.RowKit Go.Shelf Go.Maps
attribute [local go_sem] encS
end
section
open Go Go.RowKit Go.Shelf Go.Maps
attribute [local go_sem] encS
end
section
open Go Go.RowKit Go.Shelf Go.Maps
attribute [local go_sem] encS
end
section
open Go Go.RowKit Go.Shelf Go.Maps
attribute [local go_sem] encS
def abf (c:Nat):BS:=pK fun d=>[c].contains d
end
section
open Go Go.RowKit Go.Shelf Go.Maps
end
section
open Go Go.RowKit Go.WideShapes Go.ChangeShapes Go.ChangeAt Go.Deep
section
variable {H:Type} {enc:If×AM→H} {P:Program}
end
section
variable {H:Type} {enc:If×AM→H} {W:AS} {base:Nat} {sp:Nat→Bool}
theorem ac5 {P:Program} {r:US} {t e:If} {a:V_} {len cap:Nat} (ht:P.underlying t=AI (.slice e)) (h:D' P W r base t (An (AI a) len cap)):a.spot=AN/\a.block<W.heap.size:=by
 simp only[D',ht,Cell.okWide,Cell.ok]at h;obtain⟨_,_,_,hs,row,cells,hsh,_⟩:=h;refine⟨hs,?_⟩;unfold World.shape? at hsh;cases hh:W.heap[a.block]? with
 | none=>simp[hh]at hsh
 | some o=>exact(DS.1 hh).1
theorem adL {k:IntKind} {t e:If} {r:US} {v:AM} {d:DataW H} {p:List Zi} {b0:Nat} (ht:As.underlying t=AI (.slice e)) (he:As.underlying e=AI (.int k)) (hc:As.cellsOf e=1) (j5:D' As W r b0 t v) (h:DataW.Trod enc As W 0 (fun _=>By) By t v d p): ∃ (l:List Int),l.length<=maxLen/\(∀ n∈l,(Lit.int k n).wf=By)/\((v=An AN 0 0/\l=[])\/∃ b off cap,v=An (AI ⟨b,off,AN⟩) l.length cap/\l.length<=cap/\b<W.heap.size/\∀ i x,l[i]? =AI x->W.cell? ⟨b,off+i,AN⟩=AI (AT k x)):=by
 obtain⟨a,len,cap,rfl⟩:=okWide_slice ht j5;obtain⟨fuel,hf⟩:=h;rcases open_ints ht he hc hf with⟨hcs,_⟩ | ⟨a',len',cap',zs,hcs,_,hl,hm,hzs,_,hi,hwf⟩
 ·have:An a len cap=An AN 0 0:=by simpa[X_]using hcs
  cases this
  exact⟨[],by simp,by simp,.inl ⟨rfl,rfl⟩⟩
 ·have:An a len cap=An (AI a') len' cap':=by simpa[X_]using hcs
  cases this
  obtain⟨hs,hb⟩:=ac5 ht j5;obtain⟨b,off,spot⟩:=a';have hs':spot=none:=hs;subst hs';rw[if_pos rfl]at hzs;have TC:∀ (o i:Nat),(⟨b,o,AN⟩:V_).add i=⟨b,o+i,AN⟩:=fun o i=>by
   unfold Addr.add;split
   ·rename_i h;subst h;rfl
   ·rfl
  have hlen:(zs.take len).length=len:=by rw[V'];omega
  refine⟨zs.take len,by rw[hlen];omega,fun n hn=>hwf n (List.mem_of_mem_take hn),.inr ⟨b,off,cap,by rw[hlen],by rw[hlen];exact hl,hb,fun i x hx=>?_⟩⟩;rw[List.getElem?_take]at hx;split at hx
  ·have hiz:i<zs.length:=(AF.1 hx).1
   have:=hi i hiz;rw[TC,bB,hx]at this;exact this
  ·cases hx
end
end
section
open Go Go.ChangeShapes Go.WideShapes Go.ChangeAt Go.RowKit
section
variable {H:Type} {enc:If×AM→H} {W:AS}
theorem acG {r:US} {v:AM} {d:DataW H} {p:List Zi} {b0:Nat} (j5:D' As W r b0 44 v) (h:DataW.Trod enc As W 0 (fun _=>By) By 44 v d p): ∃ l:List Nat,l.length<=maxLen/\(∀ c∈l,c<256)/\bw en W v l:=by
 obtain⟨l,hlen,hwf,hl⟩:=adL (e:=5) Tryz.underlying44 On (by kernel_rfl) j5 h;refine⟨l.map Int.toNat,by simpa using hlen,fun c hc=>?_,?_⟩
 ·obtain⟨n,hn,rfl⟩:=H'.1 hc
  have:=Du (hwf n hn);omega
 ·rcases hl with⟨rfl,rfl⟩ | ⟨b,off,cap,rfl,hc,hb,hcell⟩
  ·exact .inl ⟨rfl,rfl⟩
  ·refine .inr ⟨b,off,cap,by rw[aP],hb,by rw[aP];exact hc,fun i x hi=>?_⟩
   rw[aN]at hi;obtain⟨n,hn,rfl⟩:=B'.1 hi;rw[hcell i n hn];have:=Du (hwf n (ax hn));show AI (AT .u8 n)=AI (AT .u8 ((n.toNat:Nat):Int));rw[Int.toNat_of_nonneg this.1]
end
end
section
open Go Go.RowKit Go.Shelf Go.Maps
theorem adN (l:List BS) {s q:BS} (hs:s∈l) (hq:q∈partsOf l):q&&& ~~~s=0\/q&&& s=0:=by
 obtain⟨_,h1,h2,_⟩:=eh (ik l hq);cases hb:s.getLsbD (aV q).1 with
 | true=>
  left
  refine BS.ext fun c hc=>?_
  rw[mW,FG];cases Pj:q.getLsbD c with
  | false=>rfl
  | true=>
   have:=(ye l hq h1 hc h2).1 Pj s hs;rw[uA _ hc, <-this,hb];rfl
 | false=>
  right
  refine BS.ext fun c hc=>?_
  rw[mW,FG];cases Pj:q.getLsbD c with
  | false=>rfl
  | true=>
   have:=(ye l hq h1 hc h2).1 Pj s hs;rw[<-this,hb];rfl
theorem parted (l:List BS) {i j:Nat} {s t:BS} (hi:(partsOf l)[i]? =AI s) (hj:(partsOf l)[j]? =AI t) (mM:i≠j):(l.any fun x=>((s&&& ~~~x==0) != (t&&& ~~~x==0)))=true:=by
 rw[List.any_eq_true];obtain⟨_,a1,a2,_⟩:=eh (ik l (ax hi));obtain⟨_,b1,b2,_⟩:=eh (ik l (ax hj));have hno:¬Alike l (aV s).1 (aV t).1:=fun nV=>by
  have:=(ye l (ax hi) a1 b1 a2).2 nV;exact mM (s8 (kD l) hi hj this b2)
 unfold Alike at hno;simp only[Classical.not_forall]at hno;obtain⟨x,hx,hne⟩:=hno;refine⟨x,hx,?_⟩;have key:∀ {q:BS},q∈partsOf l->q.getLsbD (aV q).1=By->(aV q).1<256->(q&&& ~~~x==0)=x.getLsbD (aV q).1:=fun {q} hq h1 h3=>by
  rcases adN l hx hq with h | h
  ·rw[h]
   have:x.getLsbD (aV q).1=true:=by
    cases hb:x.getLsbD (aV q).1 with
    | true=>rfl
    | false=>
     have h2:(q&&& ~~~x).getLsbD (aV q).1=true:=by rw[FG,h1,uA _ h3,hb];rfl
     rw[h,mW]at h2;cases h2
   rw[this];simp
  ·have h4:x.getLsbD (aV q).1=false:=by
    cases hb:x.getLsbD (aV q).1 with
    | false=>rfl
    | true=>
     have h2:(q&&& x).getLsbD (aV q).1=true:=by rw[FG,h1,hb];rfl
     rw[h,mW]at h2;cases h2
   rw[h4,beq_eq_false_iff_ne];intro h5;have h2:(q&&& ~~~x).getLsbD (aV q).1=true:=by rw[FG,h1,uA _ h3,h4];rfl
   rw[h5,mW]at h2;cases h2
 rw[key (ax hi) a2 a1,key (ax hj) b2 b1];cases h1:x.getLsbD (aV s).1<;>cases h2:x.getLsbD (aV t).1<;>simp_all
theorem cq.congr {p:List BS} {R S:Nat->Nat->Prop} (h:cq p R) (hrs:∀ c d,c<256->d<256->(R c d↔S c d)):cq p S:=
 ⟨h.some,h.apart,h.ne,h.cover,fun q hq c d hc hd hb=>(h.alike q hq c d hc hd hb).trans (hrs c d hc hd),h.first⟩
theorem abv {c d:Nat} (hd:d<256):(abf c).getLsbD d=By↔d=c:=by unfold abf;rw[OJ _ hd];simp
theorem aeJ {k:Nat} (hk:k<256):abf k≠0:=fun e=>by
 have:=(abv (c:=k) hk).2 rfl;rw[e,mW]at this;cases this
attribute [local go_sem] encS
theorem gF.below {w w':AS} {v:AM} {l:List BS} (h:gF w v l) (hk:aa w w'):gF w' v l:=⟨h.1.below hk,h.2⟩
end
section
open Go Go.RowKit
theorem aeU {C:AS->Prop} {w:AS} (hC:∀ W,C W↔Move J' (fun _=>False) w W) {b:Nat} {s:BS} {t:If} (h:ar w b (encS s) t): (∀ W: {W//C W},W.1.cell? ⟨b,0,AN⟩=AI (AT N' (wd s 0).toNat))/\(∀ W: {W//C W},W.1.cell? ⟨b,1,AN⟩=AI (AT N' (wd s 1).toNat))/\ (∀ W: {W//C W},W.1.cell? ⟨b,2,AN⟩=AI (AT N' (wd s 2).toNat))/\(∀ W: {W//C W},W.1.cell? ⟨b,3,AN⟩=AI (AT N' (wd s 3).toNat)):=by
 have k:=fun (W: {W//C W})=>(h.below ((hC W.1).1 W.2).below h.lt).K1
 exact⟨fun W=>(k W).1,fun W=>(k W).2.1,fun W=>(k W).2.2.1,fun W=>(k W).2.2.2⟩
end
section
open Go Go.RowKit Go.Shelf Go.Maps
def aU.box (n:Nat) (cs:Array AM) (t:If):aU (Move J' (fun _=>False)) where
 P:=fun v=>∃ b,v=An (AI ⟨b,0,AN⟩) n n
 H:=fun v W=>∀ b,v=An (AI ⟨b,0,AN⟩) n n->ar W b cs t
 nU:=An (AI ⟨0,0,AN⟩) n n
 pw:=⟨0,rfl⟩
 st:=fun _ _ _ hm _ h b hb=>(h b hb).below hm.below (h b hb).lt
end
section
open Go Go.RowKit
theorem Rt.aec {d:DF} (h:Rt d) {s k:Nat} (hs:s<d.nx.length) (hk:k<d.cl.length):(d.nx.getD s [])[k]? =AI ((eH d s k:Nat):Int):=by have h1:=h.len s hs;rw[bn (l:=d.nx.getD s []) 0 (i:=k) (by omega)];have h2:=h.iK s hs _ (ax (bn (l:=d.nx.getD s []) 0 (i:=k) (by omega)));unfold eH;rw[Int.toNat_of_nonneg h2.1]
/-! The states of a product, found one by one. -/
section
variable {α:Type} [DecidableEq α]
end
end
section
open Go Go.RowKit Go.Shelf Go.Maps
theorem ael:∀ args w,(callFunc 33 args).run As w=.ok (.enter 33 args) w:=fun args w=>by kernel_rfl
attribute [local go_sem] encS I_ gj dz
theorem abr (s:BS):∀ n,(bK s n).length<=n
 | 0=>by simp[bK]
 | n+1=>by
  rw[gv,aJ];have:=abr s n;split<;>simp<;>omega
theorem aem (s:BS) (w:AS):ah 24 #[P_ (encS s)] w fun e w'=>e=A_ (AT Bs (bK s 256).length)/\Ext w w':=by
 have akk:=abr s 256;refine cd Tryz.func24 rfl ?_;simp only[Tryz.ntmps24,List.size_toArray,OR,Y_,Nat.reduceAdd,Nat.reduceSub,Array.replicate_succ,Array.replicate_zero,List.push_toArray,List.append_toArray,Y',Wg];have hB0:ar ((w.alloc (.cells (encS s) 56)).alloc (.cells #[AT Bs 0] 3)) w.heap.size (encS s) 56:=(ar.new w (encS s) 56).alloc _;have c0:=hB0.cell 0;have c1:=hB0.cell 1;have c2:=hB0.cell 2;have c3:=hB0.cell 3;replace c0:_=AI (AT N' (wd s 0).toNat):=c0;replace c1:_=AI (AT N' (wd s 1).toNat):=c1;replace c2:_=AI (AT N' (wd s 2).toNat):=c2;replace c3:_=AI (AT N' (wd s 3).toNat):=c3;clear hB0;go_wp2_with (go_at_call 71;refine(Df s _).mono ?_;rintro e w1 ⟨rfl,rfl⟩);clear c0 c1 c2 c3;refine aw ?_;intro W0 hW0;have h1:ar W0 (w.heap.size+1) #[AT Bs 0] 3:=by rw[hW0];repeat (first | (refine(ar.new _ _ _).at ?_;simp;done) | refine ar.alloc ?_ _)
 have h3:ar W0 (w.heap.size+1+1) (encS s) 56:=by rw[hW0];exact(ar.new _ _ _).at (by simp)
 have hx:Ext w W0:=by rw[hW0];exact(((Ext.refl w).alloc _).alloc _).alloc _
 have hsz:W0.heap.size=w.heap.size+1+1+1:=by rw[hW0];simp
 have eg:∀ args w,(callFunc 125 args).run As w=.ok (.enter 125 args) w:=enters_of Tryz.func125 (by kernel_rfl) rfl;refine ic (w:=W0) (Jr s _ W0 h3) (by rfl) eg (by intro _;rfl) (by intro k hk;rw[show k=_ from hk,hsz];omega)
  (fun xs _ W=>ar W (w.heap.size+1) #[AT Bs xs.length] 3/\Ext w W)
  (fun _ _ _ _=>False)
  (fun xs T T' W W' ⟨h1,h3⟩ hT _ _ _ hk=>⟨h1.mJ hT hk (by omega),h3.mJ hT hk (by omega)⟩)
  (fun c xs T T' W W' h=>h.elim)
  ⟨h1,hx⟩
  (fun x=>⟨#[P_ (encS s),D0 (AI ⟨w.heap.size,0,AN⟩),AT Bs 0,D0 (AI ⟨w.heap.size+1,0,AN⟩),P_ (encS s),.func (.func 125) #[] #[D0 (AI ⟨w.heap.size+1+1,0,AN⟩)],AT .u8 x,an,an,an],[]⟩) ?assign ?body ?done ?stop
 case assign=>
  intro l x W K hK
  gi_wp2
  simpa[encS]using hK
 case body=>
  rintro l pre x T W bO hT hR xO hl ⟨h1,hx⟩;have hlen:pre.length<256:=by
   have hle:=bO.length_le;rw[aJ]at hle;simp only[OR,Y_]at hle;omega
  have c1:W.cell? ⟨w.heap.size+1,0,AN⟩=AI (AT Bs pre.length):=h1.cell 0;have f1:=h1.frozen 0;have e1:Bs.wrap ((pre.length:Int)+1)=(pre.length:Int)+1:=IntWalk.i64_in _ (by omega);have H1:=A' h1;have HX:=A' hx;have HS:=A' hsz;have HT:=A' hT;clear h1 hx hR hl xO hsz hW0 hT
  gi_wp2
  refine⟨((ae.refl _ _).setCell (fun h=>?_) _),(by rw[show((pre++ [x]).length:Int)=(pre.length:Int)+1 by rw[aJ];rfl];exact H1.set 0 _),(HX.setCell (by simp<;>omega) _)⟩;have h2:=HS.out;rcases h with h | h
  ·dsimp only at h;omega
  ·have h1:=(HT.out _ h).1;dsimp only at h1;omega
 case done=>
  rintro D T W hD xR hT ⟨h1,hx⟩ mB;have c1:W.cell? ⟨w.heap.size+1,0,AN⟩=AI (AT Bs (bK s 256).length):=h1.cell 0;have HX:=A' hx;have HS:=A' hsz;have HD:=A' hD;have xF:=A' mB;clear h1 hx xR hsz hW0 hT mB hD;dsimp only;go_wp2;refine di rfl xF (results_tmp rfl _ _ _) ⟨rfl,HX.putObj (by have h1:=HD.out;have h2:=HS.out;omega) _⟩
 case stop=>rintro D c pre T W _ _ _ _ h _;exact h.elim
end
section
open Go Go.RowKit Go.Shelf Go.Maps
attribute [local go_sem] encS
def abi (w:AS) (v:AM) (ll:List (List Int)):Prop:=nh w v ll\/(ll=[]/\∃ a:V_,v=An (AI a) 0 0)
theorem abi.below {w w':AS} {v:AM} {ll:List (List Int)} (h:abi w v ll) (hk:aa w w'):abi w' v ll:=h.imp (fun h=>h.below hk) id
theorem abi.form {w:AS} {v:AM} {ll:List (List Int)} (h:abi w v ll):∃ a cap,v=An a ll.length cap:=by
 rcases h with h | ⟨rfl,a,rfl⟩
 ·exact h.form
 ·exact⟨_,_,rfl⟩
theorem abi.elem {w:AS} {a:Option V_} {n cap:Nat} {ll:List (List Int)} (h:abi w (An a n cap) ll) {i:Nat} {l:List Int} (hi:ll[i]? =AI l): ∃ b off a' c',a=AI ⟨b,off,AN⟩/\b<w.heap.size/\w.cell? ⟨b,off+i,AN⟩=AI (An a' l.length c')/\km aG w (An a' l.length c') l:=by
 rcases h with h | ⟨rfl,_⟩
 ·exact h.elem hi
 ·simp at hi
end
section
open Go Go.RowKit
theorem aeK {α:Type} {P:List α->Prop} (h0:P []) (h1:∀ l x,P l->P (l++ [x])) (l:List α):P l:=by
 have key:∀ r:List α,P r.reverse:=fun r=>by
  induction r with
  | nil=>exact h0
  | cons x r ih=>rw[List.reverse_cons];exact h1 _ _ ih
 have:=key l.reverse;rwa[List.reverse_reverse]at this
theorem aba (d:DF) (s:Nat) (b:List Nat) (c:Nat):sM d s (b++ [c])=eH d (sM d s b) (cls d.cl c):=by unfold sM;rw[L7];rfl
theorem acI {d:DF} {i:Nat} (h:Rt d) (hi:dY d i) {s t:Nat} (hs:s<d.nx.length) (ht:t<d.nx.length) (ha:wT (bI d (cR d i)) (cR d i s) (cR d i t)):cR d i s=cR d i t:=by
 have hf:=RU h hi;refine(MU h hi hs ht).2 fun w hw=>?_
 rw[<-tO h hf hs hw, <-tO h hf ht hw];exact ha w hw
set_option maxRecDepth 100000
theorem adG {d:DF} (h:Rt d) {c:Nat} (hc:c<256):cls (lZ d).cl c=cm d (cls d.cl c):=((Sa h).jh hc).2 ⟨_,RZ (jw (h.part.ft hc)),(l4 h hc).2 rfl⟩
theorem adH {d:DF} {s k:Nat} (hs:s<d.nx.length) (hk:k<d.cl.length):eH (lZ d) s (cm d k)=eH d s k:=by obtain⟨j,e,hj,hp,_⟩:=IK (oH d) (cm d k) (jw hk);have hc:=(Vn hj hk).1 hp s hs;rw[<-hc];unfold eH;rw[Ki hs,getD_some (x:=(d.nx.getD s []).getD j 0) (by rw[aN,e];rfl)]
theorem abj {d:DF} (h:Rt d):∀ (w:List Nat) {s:Nat},s<d.nx.length->(∀ c∈w,c<256)->sM (lZ d) s w=sM d s w
 | [],_,_,_=>rfl
 | c::w,s,hs,hw=>by
  have hc:=hw c bu;have hk:=h.part.ft hc;have e:eH (lZ d) s (cls (lZ d).cl c)=eH d s (cls d.cl c):=by rw[adG h hc,adH hs hk]
  have:=abj h w (h.jJ hs hk) fun x hx=>hw x (bM _ hx)
  rw[<-e]at this;refine Eq.trans (this:sM (lZ d) (eH (lZ d) s (cls (lZ d).cl c)) w=_) ?_;rw[e];rfl
structure abz (φ:Nat->Nat) (d d':DF):Prop where
 cl:d'.cl=d.cl
 zero:φ 0=0
 inj:∀ s t,s<d.nx.length->t<d.nx.length->φ s=φ t->s=t
 nx:∀ s,s<d.nx.length->zK d' (φ s)=(zK d s).map φ
 mr:∀ s,s<d.nx.length->d'.mr.getD (φ s) []=d.mr.getD s []
theorem aeq {φ:Nat->Nat} {N:Nat} (hi:∀ s t,s<N->t<N->φ s=φ t->s=t) {L:List Nat} (hL:∀ x∈L,x<N) {t:Nat} (ht:t<N):gV (L.map φ) (φ t)=(gV L t).map φ:=by
 unfold gV;have:φ t∈L.map φ↔t∈L:=by
  rw[H'];exact⟨fun ⟨x,hx,e⟩=>by rw[<-hi x t (hL x hx) ht e];exact hx,fun h=>⟨t,h,rfl⟩⟩
 simp only[this];split<;>simp
theorem fold_map {φ:Nat->Nat} {N:Nat} (hi:∀ s t,s<N->t<N->φ s=φ t->s=t):∀ (ts L:List Nat),(∀ x∈L,x<N)->(∀ x∈ts,x<N)->(ts.map φ).foldl gV (L.map φ)=(ts.foldl gV L).map φ
 | [],_,_,_=>rfl
 | t::ts,L,hL,ht=>by
  rw[Zk,Ze,Ze,aeq hi hL (ht t (bu ..))];refine fold_map hi ts _ (fun x hx=>?_) fun x hx=>ht x (bM _ hx)
  unfold gV at hx;split at hx
  ·exact hL x hx
  ·rcases GO.1 hx with hx | hx
   ·exact hL x hx
   ·simp at hx;rw[hx];exact ht t (bu ..)
theorem abz.qi {φ:Nat->Nat} {d d':DF} (h:abz φ d d') (rt:Rt d):∀ n,qi d' n=(qi d n).map φ
 | 0=>by show [0]=[φ 0];rw[h.zero]
 | n+1=>by
  have ih:=abz.qi h rt n;have kB:=Iz rt n;rw[Go.Proofs.YtjgccapbphadjaaGreatDoor.qi,Go.Proofs.YtjgccapbphadjaaGreatDoor.qi,ih,aN];rcases e:(Go.Proofs.YtjgccapbphadjaaGreatDoor.qi d n)[n]? with _ | s
  ·rfl
  ·have hs:=kB.lt s (ax e)
   show(zK d' (φ s)).foldl gV _=_;rw[h.nx s hs];exact fold_map h.inj _ _ kB.lt (Rz rt hs)
theorem abA {φ:Nat->Nat} {N:Nat} (hi:∀ s t,s<N->t<N->φ s=φ t->s=t) {t:Nat} (ht:t<N):∀ (L:List Nat),(∀ x∈L,x<N)->(L.map φ).idxOf (φ t)=L.idxOf t
 | [],_=>rfl
 | x::L,hL=>by
  rw[Zk,Zf,Zf,abA hi ht L fun y hy=>hL y (bM _ hy)];have:(φ x==φ t)=(x==t):=by
   rw[Bool.eq_iff_iff,beq_iff_eq,beq_iff_eq];exact⟨fun e=>hi x t (hL x (bu ..)) ht e,fun e=>by rw[e]⟩
  rw[this]
theorem abz.trim {φ:Nat->Nat} {d d':DF} (h:abz φ d d') (rt:Rt d) (hN:d.nx.length<=d'.nx.length):cN d'=cN d:=by
 have hr:dI d'=(dI d).map φ:=by have h1:=h.qi rt d'.nx.length;have h2:=EN (d:=d) (n:=d.nx.length) (Iz rt _).len (d'.nx.length-d.nx.length);rw[show d.nx.length+(d'.nx.length-d.nx.length)=d'.nx.length by omega]at h2;show Go.Proofs.YtjgccapbphadjaaGreatDoor.qi d' d'.nx.length=_;rw[h1,h2];rfl
 have hlt:=(jz rt).lt;unfold cN;rw[hr,h.cl];congr 1
 ·rw[F_]
  refine EV fun s hs=>?_
  show wM d' (φ s)=wM d s;unfold wM;rw[h.nx s (hlt s hs),F_];refine EV fun t ht=>?_
  show(((dI d').idxOf (φ t):Nat):Int)=_;rw[hr,abA h.inj (Rz rt (hlt s hs) t ht) _ hlt]
 ·rw[F_]
  exact EV fun s hs=>h.mr s (hlt s hs)
theorem abz.run {φ:Nat->Nat} {d d':DF} (h:abz φ d d') (rt:Rt d) (b:List Nat) (hb:∀ c∈b,c<256):sM d' 0 b=φ (sM d 0 b):=by
 revert hb;refine aeK (P:=fun b=>(∀ c∈b,c<256)->sM d' 0 b=φ (sM d 0 b)) (fun _=>h.zero.symm) (fun b c ih hb=>?_) b;have hb':∀ x∈b,x<256:=fun x hx=>hb x (List.mem_append_left _ hx)
 have ih:=ih hb';have e:∀ d:DF,sM d 0 (b++ [c])=eH d (sM d 0 b) (cls d.cl c):=fun d=>by unfold sM;rw[L7];rfl
 have e2:∀ (d:DF) (s k:Nat),k<(zK d s).length->eH d s k=(zK d s).getD k 0:=fun d s k hk=>by
  unfold eH;unfold zK at hk ⊢;rw[aP]at hk;generalize d.nx.getD s []=r at hk ⊢;rw[bB,bB,aN,aB hk];rfl
 have hs:=Vh rt rt.pos b hb';have hk:cls d.cl c<(zK d (sM d 0 b)).length:=by rw[Bq rt hs];exact rt.part.ft (hb c (by simp))
 rw[e,e,ih,h.cl,e2 d' _ _ (by rw[h.nx _ hs,aP];exact hk),e2 d _ _ hk,h.nx _ hs];rw[bB,bB,aN,aB hk];rfl
theorem abz.marks {φ:Nat->Nat} {d d':DF} (h:abz φ d d') (rt:Rt d) (b:List Nat) (hb:∀ c∈b,c<256):d'.mr.getD (sM d' 0 b) []=d.mr.getD (sM d 0 b) []:=by rw[h.run rt b hb];exact h.mr _ (Vh rt rt.pos b hb)
set_option maxRecDepth 100000
theorem aer (d:DF) (n:Nat):(qi d n)[0]? =AI 0:=by have:=wK (d:=d) (n:=0) (i:=0) (x:=0) rfl n;rwa[U_]at this
theorem abn {d:DF} (h:Rt d) {s:Nat} (hs:s<d.nx.length):zK d s=(Cd d.cl.length).map fun k=>eH d s k:=rJ h hs fun t=>t
theorem aeV {L:List Nat} {t:Nat} (h:t∈L):L[L.idxOf t]? =AI t:=by rw[aB (List.idxOf_lt_length_of_mem h),List.getElem_idxOf]
def afq (d:DF) (i:Nat):Nat:=(dI d).getD i 0
theorem abo {d:DF} (h:Rt d):abz (afq d) (cN d) d where
 cl:=rfl
 zero:=getD_some (aer d _)
 inj:=fun s t hs ht e=>by
  rw[(iw d).1]at hs ht;have e1:=bn (l:=dI d) 0 hs;have e2:=bn (l:=dI d) 0 ht;have e':(dI d).getD s 0=(dI d).getD t 0:=e;rw[e']at e1;have:=(U' hs (jz h).nodup).1 (e1.trans e2.symm);exact this
 nx:=fun s hs=>by
  rw[(iw d).1]at hs;have e:=bn (l:=dI d) 0 hs;have hm:=ax e;show zK d ((dI d).getD s 0)=(((cN d).nx.getD s []).map Int.toNat).map (afq d);rw[(wY e).1];unfold wM;rw[F_,F_];refine((EV fun x hx=>?_).trans (List.map_id _)).symm;have AH:=rG h hm hx;show(dI d).getD (((dI d).idxOf x:Int)).toNat 0=x;rw[Int.toNat_natCast];exact getD_some (aeV AH)
 mr:=fun s hs=>by
  rw[(iw d).1]at hs;exact(wY (bn (l:=dI d) 0 hs)).2.symm
theorem ac6 {d:DF} (h:Rt d) {w:List Nat} (hw:∀ c∈w,c<256):(cN d).mr.getD (sM (cN d) 0 w) []=d.mr.getD (sM d 0 w) []:=((abo h).marks (Vo h) w hw).symm
theorem ab1 {x:Nat} :∀ (ts L:List Nat),x∈ts.foldl gV L->x∈L\/x∈ts
 | [],_,h=>.inl h
 | t::ts,L,h=>by
  rcases ab1 ts (gV L t) h with h | h
  ·unfold gV at h
   split at h
   ·exact .inl h
   ·rcases GO.1 h with h | h
    ·exact .inl h
    ·exact .inr (by rw[GB.1 h];exact bu ..)
  ·exact .inr (bM _ h)
theorem abk {d:DF} (h:Rt d):∀ n,∀ s∈qi d n,∃ w:List Nat,(∀ c∈w,c<256)/\sM d 0 w=s
 | 0,s,hs=>⟨[],fun c hc=>(IN hc).elim,(GB.1 hs).symm⟩
 | n+1,s,hs=>by
  rw[qi]at hs;split at hs
  ·exact abk h n s hs
  ·rename_i u hu
   rcases ab1 _ _ hs with hs | hs
   ·exact abk h n s hs
   ·have hm:=ax hu
    obtain⟨w,hw,e⟩:=abk h n u hm;have hul:=(Iz h n).lt u hm;rw[abn h hul]at hs;obtain⟨k,hk,rfl⟩:=H'.1 hs;have hl:=Az h (G'.1 hk);refine⟨w++ [lb d.cl k],fun c hc=>?_,?_⟩
    ·rcases GO.1 hc with hc | hc
     ·exact hw c hc
     ·rw[GB.1 hc];exact hl.1
    ·rw[aba,e,hl.2.1]
theorem ada {d:DF} (h:Rt d):∀ i,i<(cN d).nx.length->∃ w:List Nat,(∀ c∈w,c<256)/\sM (cN d) 0 w=i:=fun i hi=>by
 have hi':=hi;rw[(iw d).1]at hi';obtain⟨w,hw,e⟩:=abk h _ _ (ax (bn (l:=dI d) 0 hi'));refine⟨w,hw,(abo h).inj _ _ (Vh (Vo h) (Vo h).pos w hw) hi ?_⟩;rw[<- (abo h).run (Vo h) w hw,e];rfl
theorem aa3 (d:DF) (s:Nat) (u w:List Nat):sM d s (u++w)=sM d (sM d s u) w:=by unfold sM;rw[L7]
theorem aa7 {u w:List Nat} (hu:∀ c∈u,c<256) (hw:∀ c∈w,c<256):∀ c∈u++w,c<256:=fun c hc=>(GO.1 hc).elim (hu c) (hw c)
section
variable {a b:DF} (ra:adu a) (rb:adu b) (hm:∀ w:List Nat,(∀ c∈w,c<256)→a.mr.getD (sM a 0 w) []=b.mr.getD (sM b 0 w) [])
include ra rb hm
theorem abt {c e:Nat} (hc:c<256) (he:e<256) (h:∀ s,s<a.nx.length->eH a s (cls a.cl c)=eH a s (cls a.cl e)):∀ s,s<b.nx.length->eH b s (cls b.cl c)=eH b s (cls b.cl e):=fun t ht=>by
 obtain⟨u,hu,rfl⟩:=rb.reach t ht;have hul:=Vh ra.rt ra.rt.pos u hu;refine rb.apd _ _ (rb.rt.jJ ht (rb.rt.part.ft hc)) (rb.rt.jJ ht (rb.rt.part.ft he)) fun w hw=>?_
 have h1:∀ x,x<256->b.mr.getD (sM b (eH b (sM b 0 u) (cls b.cl x)) w) []=a.mr.getD (sM a (eH a (sM a 0 u) (cls a.cl x)) w) []:=fun x hx=>by
  rw[<-aba, <-aba, <-aa3, <-aa3];refine(hm _ (aa7 (aa7 hu fun y hy=>?_) hw)).symm;rw[GB.1 hy];exact hx
 rw[h1 c hc,h1 e he,h _ hul]
end
theorem canon {a b:DF} (ra:adu a) (rb:adu b) (hm:∀ w:List Nat,(∀ c∈w,c<256)->a.mr.getD (sM a 0 w) []=b.mr.getD (sM b 0 w) []):cN a=cN b:=by
 have od:b.cl=a.cl:=cq.uniq rb.part ra.part fun c e hc he=>⟨abt rb ra (fun w hw=>(hm w hw).symm) hc he,abt ra rb hm hc he⟩
 have hch:∀ s,∃ w:List Nat,(∀ c∈w,c<256)/\(s<a.nx.length->sM a 0 w=s):=fun s=>by
  by_cases hs:s<a.nx.length
  ·obtain⟨w,h1,h2⟩:=ra.reach s hs
   exact⟨w,h1,fun _=>h2⟩
  ·exact⟨[],fun c hc=>(IN hc).elim,fun h=>absurd h hs⟩
 obtain⟨wd,hwd⟩:=Classical.axiomOfChoice hch;have key:∀ u:List Nat,(∀ c∈u,c<256)->sM b 0 (wd (sM a 0 u))=sM b 0 u:=fun u hu=>by
  have hul:=Vh ra.rt ra.rt.pos u hu;have h1:=hwd (sM a 0 u);refine rb.apd _ _ (Vh rb.rt rb.rt.pos _ h1.1) (Vh rb.rt rb.rt.pos _ hu) fun w hw=>?_
  rw[<-aa3, <-aa3, <-hm _ (aa7 h1.1 hw), <-hm _ (aa7 hu hw),aa3,aa3,h1.2 hul]
 have aeW:∀ s,s<a.nx.length->∀ w:List Nat,(∀ c∈w,c<256)->b.mr.getD (sM b (sM b 0 (wd s)) w) []=a.mr.getD (sM a s w) []:=fun s hs w hw=>by
  have h1:=hwd s;rw[<-aa3, <-hm _ (aa7 h1.1 hw),aa3,h1.2 hs]
 have B:abz (fun s=>sM b 0 (wd s)) a b:=by
  refine⟨od,?_,?_,?_,?_⟩
  ·exact key [] fun c hc=>(IN hc).elim
  ·intro s t hs ht e
   have e':sM b 0 (wd s)=sM b 0 (wd t):=e;exact ra.apd s t hs ht fun w hw=>by rw[<-aeW s hs w hw, <-aeW t ht w hw,e']
  ·intro s hs
   have h1:=hwd s;rw[abn rb.rt (Vh rb.rt rb.rt.pos _ h1.1),abn ra.rt hs,F_,od];refine EV fun k hk=>?_
   have hl:=Az ra.rt (G'.1 hk);have hb:∀ c∈wd s++ [lb a.cl k],c<256:=aa7 h1.1 fun y hy=>by rw[GB.1 hy];exact hl.1
   have:=key _ hb;rw[aba,aba,h1.2 hs,hl.2.1,od,hl.2.1]at this;exact this.symm
  ·intro s hs
   exact aeW s hs [] fun c hc=>(IN hc).elim
 have hN:a.nx.length<=b.nx.length:=by
  have:=nw (l:=(Cd a.nx.length).map fun s=>sM b 0 (wd s)) (n:=b.nx.length) (by
   rw[Kx,List.pairwise_map]
   exact(Kx.1 Wr).imp_of_mem fun {x y} hx hy hne e=>hne (B.inj x y (G'.1 hx) (G'.1 hy) e)) fun x hx=>by
   obtain⟨s,hs,rfl⟩:=H'.1 hx;exact Vh rb.rt rb.rt.pos _ (hwd s).1
  rwa[aP,List.length_range]at this
 exact(B.trim ra.rt hN).symm
theorem abl {d:DF} (h:Rt d):adu (Fj d)/\∀ w:List Nat,(∀ c∈w,c<256)->(Fj d).mr.getD (sM (Fj d) 0 w) []=d.mr.getD (sM d 0 w) []:=by
 have rt:=Vo h;have he:=(Kj (cN d)).1;have hf:=RU rt he;have rm:=RV rt hf;have rn:=ZQ rm;have z:cR (cN d) (IM (cN d)) 0=0:=Nat.le_zero.1 (hf.num 0 rt.pos);have rep:∀ m,m<(bI (cN d) (cR (cN d) (IM (cN d)))).nx.length->∃ s,s<(cN d).nx.length/\cR (cN d) (IM (cN d)) s=m:=fun m hm=>by
  rw[(fR hf).1]at hm;obtain⟨s,hs,e,_⟩:=jV (d:=cN d) hf.num m hm;exact⟨s,hs,e⟩
 unfold Fj fS;generalize hM:bI (cN d) (cR (cN d) (IM (cN d)))=M at*;have runM:∀ w:List Nat,(∀ c∈w,c<256)->sM M 0 w=cR (cN d) (IM (cN d)) (sM (cN d) 0 w):=fun w hw=>by
  have:=zP rt hf w rt.pos hw;rw[z,hM]at this;exact this
 refine⟨⟨rn,?_,?_,?_⟩,?_⟩
 ·intro s hs
  rw[lD]at hs;obtain⟨t,ht,e⟩:=rep s hs;obtain⟨w,hw,e'⟩:=ada h t ht;exact⟨w,hw,by rw[abj rm w rm.pos hw,runM w hw,e',e]⟩
 ·intro s t hs ht ha
  rw[lD]at hs ht;obtain⟨x,hx,rfl⟩:=rep s hs;obtain⟨y,hy,rfl⟩:=rep t ht;refine acI rt he hx hy fun w hw=>?_
  have:=ha w hw;rw[abj rm w hs hw,abj rm w ht hw]at this;rw[hM];exact this
 ·refine(Sa rm).congr fun c e hc he=>?_
  have conv:∀ s,s<M.nx.length->∀ x,x<256->eH (lZ M) s (cls (lZ M).cl x)=eH M s (cls M.cl x):=fun s hs x hx=>by rw[adG rm hx,adH hs (rm.part.ft hx)]
  constructor
  ·intro hh s hs
   rw[lD]at hs;rw[conv s hs c hc,conv s hs e he];exact hh s hs
  ·intro hh s hs
   have:=hh s (by rw[lD];exact hs);rwa[conv s hs c hc,conv s hs e he]at this
 ·intro w hw
  rw[abj rm w rm.pos hw,runM w hw];have h1:=qo rt hf (Vh rt rt.pos w hw);rw[hM]at h1;refine Eq.trans h1 ?_;exact ac6 h hw
theorem aes {d:DF} (h:Rt d):Rt (dJ d):=Vo (abl h).1.rt
theorem ade {a b:DF} (ha:Rt a) (hb:Rt b) (hm:∀ w:List Nat,(∀ c∈w,c<256)->a.mr.getD (sM a 0 w) []=b.mr.getD (sM b 0 w) []):dJ a=dJ b:=
 canon (abl ha).1 (abl hb).1 fun w hw=>((abl ha).2 w hw).trans ((hm w hw).trans ((abl hb).2 w hw).symm)
set_option maxRecDepth 100000
theorem adI {a b:DF} (rb:Rt b) {π:Nat->Nat} (hn:∀ i x,i<b.nx.length->x<256->π (eH b i (cls b.cl x))=eH a (π i) (cls a.cl x)):∀ (w:List Nat) {i:Nat},i<b.nx.length->(∀ c∈w,c<256)->π (sM b i w)=sM a (π i) w
 | [],_,_,_=>rfl
 | c::w,i,hi,hw=>by
  have hc:=hw c bu;have:=adI rb hn w (rb.jJ hi (rb.part.ft hc)) fun x hx=>hw x (bM _ hx)
  rw[hn i c hi hc]at this;exact this
theorem aca {a b:DF} (ra:Rt a) (rb:Rt b) {π:Nat->Nat} (h0:π 0=0) (hn:∀ i x,i<b.nx.length->x<256->π (eH b i (cls b.cl x))=eH a (π i) (cls a.cl x)) (hm:∀ i,i<b.nx.length->b.mr.getD i []=a.mr.getD (π i) []):dJ a=dJ b:=
 ade ra rb fun w hw=>by
  rw[hm _ (Vh rb rb.pos w hw),adI rb hn w rb.pos hw,h0]
end
section
open Go Go.ChangeShapes Go.WideShapes Go.ChangeAt Go.RowKit Go.Deep
section
variable {H:Type} {enc:If×AM→H} {W:AS}
theorem Fu {fuel:Nat} {a:Option V_} {len cap:Nat} {y:DataW H×List Zi} (h:DataW.trod enc As W 0 (fun _=>By) By fuel 22 [An a len cap]=AI y) (hz:∀ m∈y.1.weights As 22,m<=reachBytes): ∃ l:List (List (Nat×Nat×Nat)),Fs W (An a len cap) l/\l.length<=1000000000000000:=by
 have hb3:1<=As.bytesOf 116:=by
  have:As.bytesOf 116=24:=by kernel_rfl
  omega
 have h0:=h;have Tt:=rz G_ hb3 h0 hz;rcases open_slice G_ h with⟨hcs,_⟩ | ⟨a',len',cap',m,n,D,Pl,hcs,_,hl,hm,tX,hd,hi⟩
 ·have:An a len cap=An AN 0 0:=by simpa using hcs
  cases this
  exact⟨[],.inl ⟨AN,0,rfl,rfl⟩,by simp⟩
 ·have:An a len cap=An (AI a') len' cap':=by simpa using hcs
  cases this
  rcases To len with h1 | h1
  ·subst h1
   exact⟨[],.inl ⟨AI a',cap,rfl,rfl⟩,by simp⟩
  have hc:As.cellsOf 116=1:=by kernel_rfl
  rw[hc]at hi;rw[if_pos rfl]at tX;have hd1:y.1=.slice ((Cd len).map D) ((Cd (m-len)).map fun j=>D (len+j)):=congrArg Sf hd;have hD:∀ i,i<len->∀ w∈(D i).weights As 116,w<=reachBytes:=fun i fT w hw=>by
   refine hz w ?_;rw[hd1];simp only[DataW.weights,G_,List.mem_cons,GO];exact .inr (.inl (pq (H'.2 ⟨i,G'.2 fT,rfl⟩) w hw))
  obtain⟨b,off,spot⟩:=a';have el:∀ i,i<len->∃ s:List (Nat×Nat×Nat),s.length<=1000000000000000/\∃ u,dM W u s/\W.cell? ((⟨b,off,spot⟩:V_).add (i*1))=AI u:=fun i fT=>by
   obtain⟨cs',h2,h3⟩:=hi i (by omega);obtain⟨_,ym,hat⟩:=World.cells?_some h2;match cs',ym with
   | [c0],_=>
   obtain⟨st,s0,sl⟩:=EG h3 (hD i fT);have g0:=hat 0 (by decide);have e:∀ A:V_,A.add 0=A:=fun A=>by simp[Addr.add]
   rw[e]at g0;exact⟨st,sl,c0,s0,g0⟩
  have hspot:spot=none:=by obtain⟨s,_,u,_,g0⟩:=el 0 h1;simpa[Addr.add]using World.cell?_spot g0
  subst hspot;have hb:b<W.heap.size:=by
   obtain⟨s,_,u,_,g0⟩:=el 0 h1;rw[nC]at g0;exact vI g0
  obtain⟨L,hL⟩:=choose_lt (α:=List (Nat×Nat×Nat)) (p:=fun i s=>s.length<=1000000000000000/\∃ u,dM W u s/\W.cell? ⟨b,off+i,AN⟩=AI u) (n:=len) (fun i fT=>by
   obtain⟨s,q1,u,q2,g0⟩:=el i fT;rw[nC,X']at g0
   exact⟨s,q1,u,q2,g0⟩)
  refine⟨(Cd len).map L,.inr ⟨b,off,cap,by simp,hb,by simpa using hl,?_,fun i s hx=>?_⟩,by simpa using Tt⟩
  ·intro e
   have:=congrArg List.length e;simp at this;omega
  ·simp only[aN,B',Ob]at hx
   obtain⟨k,⟨hk,rfl⟩,rfl⟩:=hx;simp at hk ⊢;exact hL i hk
theorem yw {r:US} {b0:Nat} {v:AM} (j5:D' As W r b0 24 v):∃ a n c v1,v=P_ #[An a n c,v1]:=by
 simp only[D',L_]at j5;obtain⟨cs,rfl,hsz,ts,Lk,_,hrow⟩:=j5;have e:As.cellTypes As.depth 24=AI [22,5]:=by kernel_rfl
 rw[e]at Lk;cases Lk;have hc:As.cellsOf 24=2:=by kernel_rfl
 rw[hc]at hsz;obtain⟨l⟩:=cs;match l,hsz with
 | [v0,v1],_=>
  obtain⟨u,hu,h⟩:=hrow 0 v0 rfl;cases hu;have h5:D' As W r b0 22 v0:=by simp only[D',G_];exact h
  obtain⟨a,n,c,rfl⟩:=okWide_slice G_ h5;exact⟨a,n,c,v1,rfl⟩
theorem Sw {r:US} {v:AM} {d:DataW H} {p:List Zi} {b0:Nat} (j5:D' As W r b0 24 v) (h:DataW.Trod enc As W 0 (fun _=>By) By 24 v d p) (hz:∀ m∈d.weights As 24,m<=reachBytes): ∃ (l:List (List (Nat×Nat×Nat))) (fl:Nat),rM W v l fl/\l.length<=1000000000000000/\fl<256:=by
 obtain⟨a,n,c,v1,rfl⟩:=yw j5;obtain⟨fuel,hf⟩:=h;obtain⟨y0,y1,k,e,_,t0,t1⟩:=trod_struct2 L_ hf;replace t0:DataW.trod enc As W 0 (fun _=>By) By k 22 [An a n c]=AI y0:=t0;replace t1:DataW.trod enc As W 0 (fun _=>By) By k 5 [v1]=AI y1:=t1;have e1:d=.agg [y0.1,y1.1]:=congrArg Sf e;subst e1
 obtain⟨l,s0,g0⟩:=Fu t0 (fun m hm=>hz m (by
  simp only[DataW.weights,L_]
  exact DataW.weights_mem_each (j:=0) (ds:=[y0.1,y1.1]) rfl rfl m hm))
 obtain⟨fl,rfl,oW⟩:=rA On t1;exact⟨l,fl,⟨_,rfl,s0⟩,g0,oW⟩
end
end
section
open Go
theorem Nk {P:Program} {f:FuncId} {fn:Func} {s:ChangeSpec} {c:OpenClaim} (k1:(c.wf (OpenSpec.ofChange s))=By) (k2:(laidOutB P)=By) (k3:(mapsRowed P)=By) (k4:(fn.params.all (P.readableRec ·))=By) (k5:(namedTie P c.named s.vars)=By) (k6:(c.stops== [])=By) (k7:(P.stops== [])=By) (k8:(c.knobs== [])=By) (k9:(P.stopKnobs== [])=By) (k10:(c.inPlace==P.inPlace f)=By) (k11:(c.unfollowed==P.unfollowed f)=By) (k12:(c.recurses==P.recurses f)=By) (k13:(c.named==P.varsNamed f)=By) (k14:(c.maps==(fn.params.toList++s.plain.varTypes P).any (P.mapsRec ·))=By) (k15:(c.ifaces==(fn.params.toList++s.plain.varTypes P).any (P.ifacesRec ·))=By) (k16:(c.mapsOut==P.mapsAmong fn.resultTypes.toList)=By) (k17:(c.loops==(fn.params.toList++s.plain.varTypes P).any (P.loopsFrom ·))=By) (aiB:(c.wideKeys==(fn.params.toList++s.plain.varTypes P++fn.resultTypes.toList).any (P.wideKeysFrom ·))=By) (k18:(s.vars.all (P.varReadable ·))=By) (k19:(fn.resultTypes.all (fun t=>P.readableRec t&&decide (t<P.types.size)))=By) (k20:(c.ifacesOut==fn.resultTypes.toList.any (P.ifacesRec ·))=By) (k21:(c.loopsOut==fn.resultTypes.toList.any (P.loopsFrom ·))=By) (k22:(c.plainKeys==P.plainKeys)=By) (k23:c.shortTexts.isNone=By) (aiC:P.stopsHeard=By) (k24:P.mayEnter=By) (aiD:(c.lifted==P.liftsFinal)=By) (aiE:(P.make==AI c.make)=By) (k25:(c.kinds==(if c.domain.isEmpty then []else fn.params.toList.map fun t=>match P.underlying t with | some (.int k)=>AI k | _=>AN))=By) (k26:(c.pinned==c.pinnedBy)=By) (k27:(c.veiled==(fn.params.toList++s.plain.varTypes P++fn.resultTypes.toList).any (P.veiledRec ·))=By) (k28:(c.veiledFits P fn.params.toList (fn.params.toList++s.plain.varTypes P++fn.resultTypes.toList))=By):joinedFacts P f fn s c=true:=by unfold joinedFacts;simp only[Bool.and_eq_true];exact⟨⟨⟨⟨⟨⟨⟨⟨⟨⟨⟨⟨⟨⟨⟨⟨⟨⟨⟨⟨⟨⟨⟨⟨⟨⟨⟨⟨⟨⟨⟨k1,k2⟩,k3⟩,k4⟩,k5⟩,k6⟩,k7⟩,k8⟩,k9⟩,k10⟩,k11⟩,k12⟩,k13⟩,k14⟩,k15⟩,k16⟩,k17⟩,aiB⟩,k18⟩,k19⟩,k20⟩,k21⟩,k22⟩,k23⟩,aiC⟩,k24⟩,aiD⟩,aiE⟩,k25⟩,k26⟩,k27⟩,k28⟩
theorem adh:(Bm.wf (OpenSpec.ofChange Rr))=true:=by kernel_rfl
theorem adj:(laidOutB As)=true:=by kernel_rfl
theorem adk:(mapsRowed As)=true:=by kernel_rfl
theorem acJ:((Bm.inPlace==As.inPlace 4))=true:=by kernel_rfl
theorem acK:((Bm.unfollowed==As.unfollowed 4))=true:=by kernel_rfl
theorem acL:((Bm.recurses==As.recurses 4))=true:=by kernel_rfl
theorem acN:((Bm.named==As.varsNamed 4))=true:=by kernel_rfl
theorem ach:(As.stopsHeard)=true:=by kernel_rfl
theorem acT:(As.mayEnter)=true:=by kernel_rfl
theorem acm:((Bm.lifted==As.liftsFinal))=true:=by kernel_rfl
theorem acn:((As.make==AI Bm.make))=true:=by kernel_rfl
theorem abE:joinedFacts As 4 Tryz.f4 Rr Bm=true:=Nk adh adj adk (by kernel_rfl) (by kernel_rfl) (by kernel_rfl) (by kernel_rfl) (by kernel_rfl) (by kernel_rfl) acJ acK acL acN (by kernel_rfl) (by kernel_rfl) (by kernel_rfl) (by kernel_rfl) (by kernel_rfl) (by kernel_rfl) (by kernel_rfl) (by kernel_rfl) (by kernel_rfl) (by kernel_rfl) (by kernel_rfl) ach acT acm acn (by kernel_rfl) (by kernel_rfl) (by kernel_rfl) (by kernel_rfl)
end
section
open Go Go.RowKit
set_option maxRecDepth 100000
structure aet (a b:DF) (s:Nat):Prop where
 cl:b.cl=a.cl
 nx:b.nx.length=a.nx.length+1
 mrl:b.mr.length=a.nx.length+1
 mr:∀ i,i<a.nx.length+1->b.mr.getD i []=a.mr.getD (if i=a.nx.length then s else i) []
 len:∀ i,i<a.nx.length+1->(b.nx.getD i []).length=a.cl.length
 at':∀ i k,i<a.nx.length+1->k<a.cl.length->(b.nx.getD i []).getD k 0=(a.nx.getD (if i=a.nx.length then s else i) []).getD k 0\/(a.nx.getD (if i=a.nx.length then s else i) []).getD k 0=(s:Int)/\(b.nx.getD i []).getD k 0=(a.nx.length:Int)
theorem acX {a b:DF} {s:Nat} (h:Rt a) (hs:s<a.nx.length) (h4:a.nx.length<4000) (g:aet a b s):Rt b/\dJ a=dJ b:=by
 have src:∀ i,i<a.nx.length+1->(if i=a.nx.length then s else i)<a.nx.length:=fun i hi=>by split<;>omega
 have cell:∀ i k,i<a.nx.length+1->k<a.cl.length->0<=(b.nx.getD i []).getD k 0/\(b.nx.getD i []).getD k 0<(a.nx.length:Int)+1/\(if eH b i k=a.nx.length then s else eH b i k)=eH a (if i=a.nx.length then s else i) k:=fun i k hi hk=>by
  have hc:=h.aec (src i hi) hk;have hl:=h.jJ (src i hi) hk;have e:=getD_some (d:=(0:Int)) hc;rcases g.at' i k hi hk with e1 | ⟨e1,e2⟩
  ·have e3:eH b i k=eH a (if i=a.nx.length then s else i) k:=by unfold eH;rw[e1]
   rw[e1,e,e3];refine⟨by omega,by omega,if_neg (by omega)⟩
  ·have e3:eH b i k=a.nx.length:=by unfold eH;rw[e2];rfl
   have e4:eH a (if i=a.nx.length then s else i) k=s:=by unfold eH;rw[e1];rfl
   rw[e2,e3,e4,if_pos rfl];exact⟨by omega,by omega,rfl⟩
 have rb:Rt b:=by
  refine⟨by rw[g.nx];omega,by rw[g.nx];omega,by rw[g.nx,g.mrl],by rw[g.cl];exact h.cl,fun i hi=>by rw[g.nx]at hi;rw[g.len i hi,g.cl],fun i hi t ht=>?_,fun i hi=>?_⟩
  ·rw[g.nx]at hi ⊢
   obtain⟨k,hk⟩:=B_ ht;have Ae:=(AF.1 hk).1;rw[g.len i hi]at Ae;have:=cell i k hi Ae;rw[getD_some hk]at this;exact⟨this.1,by omega⟩
  ·rw[g.nx]at hi
   rw[g.mr i hi];exact h.Ud _ (src i hi)
 refine⟨rb,aca (π:=fun i=>if i=a.nx.length then s else i) h rb (if_neg (by have:=h.pos;omega)) (fun i x hi hx=>?_) fun i hi=>g.mr i (by rw[<-g.nx];exact hi)⟩;rw[g.nx]at hi;rw[g.cl];exact(cell i _ hi (h.part.ft hx)).2.2
theorem abu {p:List BS} (hs:p.Pairwise fun x y=>(!ltOf aW y x)=By) (ha:p.Pairwise qO) (hn:∀ q∈p,q≠0) (i j:Nat) (x y:BS) (hi:p[i]? =AI x) (hj:p[j]? =AI y) (mM:i<j):(aV x).1<(aV y).1:=by
 obtain⟨h1,h2⟩:=AF.1 hi;obtain⟨h3,h4⟩:=AF.1 hj;have hs:=C'.1 hs i j h1 h3 mM;have ha:=C'.1 ha i j h1 h3 mM;rw[h2,h4]at hs ha;obtain⟨_,x1,x2,x3⟩:=eh (hn x (ax hi));obtain⟨_,y1,y2,y3⟩:=eh (hn y (ax hj));have hne:(aV x).1≠(aV y).1:=fun e=>ha _ ⟨x2,by rw[e];exact y2⟩
 by_cases hlt:(aV x).1<(aV y).1
 ·exact hlt
 ·exfalso
  have hl:ltOf aW y x=true:=(eN _ _).2 ⟨(aV y).1,y1,fun d hd=>by rw[y3 d hd,x3 d (by omega)],y2,x3 (aV y).1 (by omega)⟩;rw[hl]at hs;cases hs
def clP (a:DF) (k:Nat) (one rest:BS) (j:Nat):BS:=if j=a.cl.length then rest else if j=k then one else a.cl.getD j 0
def abS (a:DF) (k j:Nat):Nat:=if j=a.cl.length then k else j
structure adJ (a c:DF) (k:Nat) (one rest:BS) (order:List Nat):Prop where
 perm:order.Perm (Cd (a.cl.length+1))
 sorted:(order.map (clP a k one rest)).Pairwise fun x y=>(!ltOf aW y x)=By
 cl:c.cl=order.map (clP a k one rest)
 nx:c.nx=a.nx.map fun row=>order.map fun j=>row.getD (abS a k j) 0
 mr:c.mr=a.mr
theorem acp {a c:DF} {k:Nat} {one rest:BS} {order:List Nat} (h:Rt a) (hk:k<a.cl.length) (h1:one≠0) (h2:rest≠0) (h3:qO one rest) (kA:∀ x,(a.cl.getD k 0).getLsbD x=By↔one.getLsbD x=By\/rest.getLsbD x=By) (g:adJ a c k one rest order):Rt c/\dJ a=dJ c:=by
 have mem:∀ j,j∈order↔j<a.cl.length+1:=fun j=>by rw[g.perm.mem_iff,G']
 have nodup:order.Nodup:=g.perm.nodup_iff.2 Wr;have Ya:∀ j,j<a.cl.length+1->abS a k j<a.cl.length:=fun j hj=>by unfold abS;split<;>omega
 have bit:∀ j x,j<a.cl.length+1->(clP a k one rest j).getLsbD x=By->x<256/\cls a.cl x=abS a k j:=fun j x hj hb=>by
  have hx:=ZP hb;refine⟨hx,(h.part.jh hx).2 ⟨_,bn 0 (Ya j hj),?_⟩⟩;unfold clP at hb;unfold abS;split at hb
  ·rename_i e
   rw[if_pos e];exact(kA x).2 (.inr hb)
  ·rename_i e
   rw[if_neg e];split at hb
   ·rename_i e'
    rw[e'];exact(kA x).2 (.inl hb)
   ·exact hb
 have apart:∀ i j,i<a.cl.length+1->j<a.cl.length+1->i≠j->qO (clP a k one rest i) (clP a k one rest j):=fun i j hi hj mM x hx=>by
  have e1:=(bit i x hi hx.1).2;have e2:=(bit j x hj hx.2).2;have e:abS a k i=abS a k j:=e1.symm.trans e2;unfold abS at e;unfold clP at hx;by_cases aaK:i=a.cl.length
  ·have ej:j=k:=by
    rw[if_pos aaK,if_neg (by omega)]at e;exact e.symm
   rw[if_pos aaK,if_neg (by omega),if_pos ej]at hx;exact h3 x ⟨hx.2,hx.1⟩
  ·by_cases ej:j=a.cl.length
   ·have ei':i=k:=by
     rw[if_neg aaK,if_pos ej]at e;exact e
    rw[if_neg aaK,if_pos ei',if_pos ej]at hx;exact h3 x hx
   ·rw[if_neg aaK,if_neg ej]at e
    exact mM e
 have ne:∀ j,j<a.cl.length+1->clP a k one rest j≠0:=fun j hj=>by
  unfold clP;split
  ·exact h2
  ·split
   ·exact h1
   ·rename_i e _
    have hj':j<(partsOf a.cl).length:=by rw[h.cl];omega
    have:=ik a.cl (ax (bn (l:=partsOf a.cl) 0 hj'));rwa[h.cl]at this
 have get:∀ i q,c.cl[i]? =AI q->∃ j,order[i]? =AI j/\j<a.cl.length+1/\q=clP a k one rest j:=fun i q hq=>by
  rw[g.cl,aN]at hq;obtain⟨j,hj,rfl⟩:=B'.1 hq;exact⟨j,hj,(mem j).1 (ax hj),rfl⟩
 have hap:c.cl.Pairwise qO:=by
  rw[C'];intro i j hi hj mM;obtain⟨x,ex,hx,e1⟩:=get i _ (aB hi);obtain⟨y,aaL,hy,e2⟩:=get j _ (aB hj);rw[e1,e2];refine apart x y hx hy fun e=>?_
  subst e;have:=(U' (AF.1 ex).1 nodup).1 (ex.trans aaL.symm);omega
 have hne:∀ q∈c.cl,q≠0:=fun q hq=>by
  obtain⟨i,hi⟩:=B_ hq;obtain⟨j,_,hj,rfl⟩:=get i q hi;exact ne j hj
 have cover:∀ x,x<256->∃ (i:Nat) (q:BS),c.cl[i]? =AI q/\q.getLsbD x=true:=fun x hx=>by
  have hkx:=h.part.ft hx;obtain⟨q,hq,hb⟩:=(h.part.jh hx).1 rfl;have there:∀ j,j<a.cl.length+1->(clP a k one rest j).getLsbD x=By->∃ (i:Nat) (q:BS),c.cl[i]? =AI q/\q.getLsbD x=true:=fun j hj hb=>by
   obtain⟨i,hi⟩:=B_ ((mem j).2 hj);exact⟨i,_,by rw[g.cl,aN,hi];rfl,hb⟩
  by_cases e:cls a.cl x=k
  ·have hb':(a.cl.getD k 0).getLsbD x=true:=by rw[<-e,getD_some hq];exact hb
   rcases(kA x).1 hb' with hb' | hb'
   ·exact there k (by omega) (by unfold clP;rw[if_neg (by omega),if_pos rfl];exact hb')
   ·exact there a.cl.length (by omega) (by unfold clP;rw[if_pos rfl];exact hb')
  ·exact there (cls a.cl x) (by omega) (by unfold clP;rw[if_neg (by omega),if_neg e,getD_some hq];exact hb)
 have part:cq c.cl (Alike c.cl):=by
  refine⟨?_,hap,hne,fun x hx=>?_,fun q hq x y hx hy hb=>⟨fun hb' s hs=>?_,fun ha=>(ha q hq).symm.trans hb⟩,?_⟩
  ·refine MY.2 fun e=>?_
   have e':=List.isEmpty_iff.1 e;obtain⟨i,q,hq,_⟩:=cover 0 (by omega);rw[e']at hq;cases hq
  ·obtain⟨i,q,hq,hb⟩:=cover x hx
   exact⟨i,q,hq,hb⟩
  ·by_cases e:s=q
   ·rw[e,hb,hb']
   ·have hpw:=C'.1 hap
    obtain⟨i,hi⟩:=B_ hs;obtain⟨j,hj⟩:=B_ hq;have h5:=AF.1 hi;have h6:=AF.1 hj;obtain⟨fT,e1⟩:=h5;obtain⟨FZ,e2⟩:=h6;have hA:qO s q:=by
     rcases Nat.lt_trichotomy i j with hl | hl | hl
     ·have:=hpw i j fT FZ hl;rwa[e1,e2]at this
     ·subst hl;exact absurd (e1.symm.trans e2) e
     ·have:=hpw j i FZ fT hl;rw[e1,e2]at this;exact this.symm
    have n1:s.getLsbD x=false:=MY.2 fun hh=>hA x ⟨hh,hb⟩
    have n2:s.getLsbD y=false:=MY.2 fun hh=>hA y ⟨hh,hb'⟩
    rw[n1,n2]
  ·exact abu (by rw[g.cl];exact g.sorted) hap hne
 have hrow:∀ s,s<a.nx.length->c.nx.getD s []=order.map fun j=>(a.nx.getD s []).getD (abS a k j) 0:=fun s hs=>by
  refine getD_some ?_;rw[g.nx,aN,bn (l:=a.nx) [] hs];rfl
 have qE:c.nx.length=a.nx.length:=by rw[g.nx,aP]
 have rc:Rt c:=by
  refine⟨by rw[qE];exact h.pos,by rw[qE];exact h.le,by rw[qE,g.mr];exact h.mr,MZ part,fun s hs=>?_,fun s hs t ht=>?_,fun s hs=>by rw[g.mr];exact h.Ud s (by rw[<-qE];exact hs)⟩
  ·rw[qE]at hs
   rw[hrow s hs,g.cl,aP,aP]
  ·rw[qE]at hs ⊢
   rw[hrow s hs]at ht;obtain⟨j,hj,rfl⟩:=H'.1 ht;exact h.iK s hs _ (ax (bn 0 (by rw[h.len s hs];exact Ya j ((mem j).1 hj))))
 refine⟨rc,aca (π:=fun i=>i) h rc rfl (fun i x hi hx=>?_) fun i _=>by rw[g.mr]⟩;rw[qE]at hi;show eH c i (cls c.cl x)=eH a i (cls a.cl x);obtain⟨q,hq,hb⟩:=(part.jh hx).1 rfl;obtain⟨j,hj,FZ,rfl⟩:=get _ _ hq;rw[(bit j x FZ hb).2];unfold eH;rw[hrow i hi,getD_some (l:=order.map _) (x:=(a.nx.getD i []).getD (abS a k j) 0) (by rw[aN,hj];rfl)]
end
section
open Go Go.RowKit Go.Shelf Go.Maps
def aa6 (F:Nat->Prop) (base:Nat) (W:AS) (us:List AM) (L:List (List Int)):Prop:=us.length=L.length/\∀ (i:Nat) (u:AM) (l:List Int),us[i]? =AI u->L[i]? =AI l->W.ownsRow base 3 1 u l.length (l.map aG)/\∀ x,u.ownBlock=AI x->F x
theorem aa6.keeps {F R:Nat->Prop} {base:Nat} {W W':AS} {us:List AM} {L:List (List Int)} (h:aa6 F base W us L) (hk:ae R W W') (hr:∀ x,x<W.heap.size->base<=x->F x->R x):aa6 F base W' us L:=
 ⟨h.1,fun i u l hu hl=>⟨ak (h.2 i u l hu hl).1 hk fun x e=>hr x ((h.2 i u l hu hl).1.lt x e).2 ((h.2 i u l hu hl).1.lt x e).1 ((h.2 i u l hu hl).2 x e),(h.2 i u l hu hl).2⟩⟩
theorem aa6.snoc {F F':Nat->Prop} {base:Nat} {W:AS} {us:List AM} {L:List (List Int)} (h:aa6 F base W us L) (hf:∀ x,F x->F' x) {u:AM} {l:List Int} (hu:W.ownsRow base 3 1 u l.length (l.map aG)) (hx:∀ x,u.ownBlock=AI x->F' x):aa6 F' base W (us++ [u]) (L++ [l]):=by
 refine⟨by simp[h.1],fun i u' l' h1 h2=>?_⟩;by_cases hi:i<us.length
 ·rw[bH hi]at h1
  rw[bH (by rw[<-h.1];exact hi)]at h2;exact⟨(h.2 i u' l' h1 h2).1,fun x e=>hf x ((h.2 i u' l' h1 h2).2 x e)⟩
 ·have e:i=us.length:=by have:=(AF.1 h1).1;simp at this;omega
  subst e;rw[cF (aF _),P']at h1;rw[cF (by rw[h.1];exact aF _),h.1,P']at h2;cases h1;cases h2;exact⟨hu,hx⟩
theorem aa6.set {F:Nat->Prop} {base K:Nat} {W:AS} {us:List AM} {L:List (List Int)} (h:aa6 F base W us L) (hK:∀ l∈L,l.length=K) {i g n c:Nat} {l:List Int} (hu:us[i]? =AI (An (AI ⟨g,0,AN⟩) n c)) (hl:L[i]? =AI l) (j:Nat) (z:Int): ∃ L',aa6 F base (W.setCell ⟨g,j,AN⟩ (AT Bs z)) us L'/\L'[i]? =AI (l.set j z)/\L'.length=L.length/\∀ (i':Nat) (l1 l':List Int),L[i']? =AI l1->L'[i']? =AI l'->l'=l1\/(l1=l/\l'=l.set j z):=by
 have key:∀ (i':Nat) (u:AM) (l1:List Int),us[i']? =AI u->L[i']? =AI l1->((Cd L.length).map fun i=>if(us.getD i an).ownBlock=AI g then(L.getD i []).set j z else L.getD i [])[i']? =AI (if u.ownBlock=AI g then l1.set j z else l1):=fun i' u l1 hu hl=>by
  rw[aN,S' (AF.1 hl).1];show AI (if(us.getD i' an).ownBlock=AI g then(L.getD i' []).set j z else L.getD i' [])=_;rw[getD_some hu,getD_some hl]
 have hown:=(h.2 i _ l hu hl).1;have same:∀ (i':Nat) (u:AM) (l1:List Int),us[i']? =AI u->L[i']? =AI l1->u.ownBlock=AI g->l1=l:=fun i' u l1 hu1 yE e=>by
  have ho1:=(h.2 i' u l1 hu1 yE).1;have e1:=hK l1 (ax yE);have e2:=hK l (ax hl);rcases ho1.2 with⟨h1,_⟩ | ⟨g1,c1,Yd,h1,_,f1,_,_,_,t1⟩
  ·subst h1;cases e
  ·subst h1
   injection e with e
   subst e;rcases hown.2 with⟨h2,_⟩ | ⟨g2,c2,Lm,h2,_,f2,_,_,_,t2⟩
   ·cases h2
   ·cases h2
    rw[f1]at f2;cases f2;rw[e1]at t1;rw[e2]at t2;have t3:l1.map aG=l.map aG:=t1.symm.trans t2;exact(List.map_inj_right (fun a b hab=>by unfold aG at hab;injection hab)).1 t3
 have QT:∀ i',i'<L.length->∃ u,us[i']? =AI u:=fun i' hi=>⟨_,aB (by rw[h.1];exact hi)⟩
 refine⟨(Cd L.length).map fun i=>if(us.getD i an).ownBlock=AI g then(L.getD i []).set j z else L.getD i [],⟨by simp[h.1],fun i' u l' hu1 hl'=>?_⟩,?_,by simp,fun i' l1 l' h1 h2=>?_⟩
 ·have fT:i'<L.length:=by rw[<-h.1];exact(AF.1 hu1).1
  obtain⟨l0,hl0⟩:∃ l0,L[i']? =AI l0:=⟨_,aB fT⟩;rw[key i' u l0 hu1 hl0]at hl';have hr:=h.2 i' u l0 hu1 hl0;refine⟨?_,hr.2⟩;have hr:=hr.1;by_cases e:u.ownBlock=AI g
  ·rw[if_pos e]at hl'
   cases hl'
   rcases hr.2 with⟨h1,_⟩ | ⟨g',c,cur,h1,_⟩
   ·subst h1;cases e
   ·subst h1
    injection e with e
    subst e;have:=(hr.stored j (AT Bs z)).1;rw[Zg,List.map_set];exact this
  ·rw[if_neg e]at hl'
   cases hl'
   exact ak hr ((ae.refl (· ≠g) _).setCell (p:=⟨g,j,AN⟩) (fun h=>h rfl) _) fun x hx e2=>e (by rw[hx,e2])
 ·rw[key i _ l hu hl]
  exact congrArg AI (if_pos rfl)
 ·obtain⟨u,hu1⟩:=QT i' (AF.1 h1).1
  rw[key i' u l1 hu1 h1]at h2;by_cases e:u.ownBlock=AI g
  ·rw[if_pos e]at h2
   cases h2
   have:=same i' u l1 hu1 h1 e;exact .inr ⟨this,by rw[this]⟩
  ·rw[if_neg e]at h2
   cases h2
   exact .inl rfl
def aa4 (L0:List (List Int)) (s n:Nat) (L:List (List Int)):Prop:=L.length=L0.length/\∀ (i:Nat) (l0 l:List Int),L0[i]? =AI l0->L[i]? =AI l->l.length=l0.length/\∀ (k:Nat) (x0 x:Int),l0[k]? =AI x0->l[k]? =AI x->x=x0\/(x0=(s:Int)/\x=(n:Int))
theorem aa4.refl (L0:List (List Int)) (s n:Nat):aa4 L0 s n L0:=⟨rfl,fun i l0 l h1 h2=>by rw[h1]at h2;cases h2;exact⟨rfl,fun k x0 x h3 h4=>by rw[h3]at h4;cases h4;exact .inl rfl⟩⟩
theorem aa4.step {L0 L L':List (List Int)} {s n i j:Nat} {l:List Int} (h:aa4 L0 s n L) (hl:L[i]? =AI l) (hlen:L'.length=L.length) (hs:l[j]? =AI (s:Int)) (kX:s≠n) {z:Int} (hz:z=s\/z=n) (hr:∀ (i':Nat) (l1 l':List Int),L[i']? =AI l1->L'[i']? =AI l'->l'=l1\/(l1=l/\l'=l.set j z)):aa4 L0 s n L':=by
 refine⟨hlen.trans h.1,fun i' l0 l' h0 h'=>?_⟩;obtain⟨l1,h1⟩:∃ l1,L[i']? =AI l1:=⟨_,aB (by rw[<-hlen];exact(AF.1 h').1)⟩;have h2:=h.2 i' l0 l1 h0 h1;rcases hr i' l1 l' h1 h' with e | ⟨e1,e2⟩
 ·subst e;exact h2
 ·subst e1
  subst e2;refine⟨by rw[Zg];exact h2.1,fun k x0 x h3 h4=>?_⟩;by_cases e:j=k
  ·subst e
   have h5:=h2.2 j x0 s h3 hs;rw[List.getElem?_set_self (AF.1 hs).1]at h4;cases h4;rcases h5 with h5 | ⟨h5,h6⟩
   ·rcases hz with hz | hz
    ·exact .inl (hz.trans h5)
    ·exact .inr ⟨h5.symm,hz⟩
   ·exact absurd (by omega) kX
  ·rw[List.getElem?_set_ne e]at h4
   exact h2.2 k x0 x h3 h4
theorem aa4.lens {L0 L:List (List Int)} {s n K:Nat} (h:aa4 L0 s n L) (hK:∀ l∈L0,l.length=K):∀ l∈L,l.length=K:=fun l hl=>by
 obtain⟨i,hi⟩:=B_ hl;obtain⟨l0,h0⟩:∃ l0,L0[i]? =AI l0:=⟨_,aB (by rw[<-h.1];exact(AF.1 hi).1)⟩;rw[(h.2 i l0 l h0 hi).1];exact hK l0 (ax h0)
theorem acb {α:Type} (l:List α) (x d:α) (s i:Nat) (hx:l.getD s d=x) (hi:i<l.length+1):(l++ [x]).getD i d=l.getD (if i=l.length then s else i) d:=by
 by_cases e:i=l.length
 ·subst e
  rw[if_pos rfl,hx];simp
 ·rw[if_neg e,bB,bH (by omega), <-bB]
theorem aa4.grown {a:DF} (ra:Rt a) {s:Nat} (hs:s<a.nx.length) {L:List (List Int)} (h:aa4 (a.nx++ [a.nx.getD s []]) s a.nx.length L):aet a ⟨a.cl,L,a.mr++ [a.mr.getD s []]⟩ s:=by
 have hl:L.length=a.nx.length+1:=by rw[h.1];simp
 have at0:∀ i,i<a.nx.length+1->∃ l,L[i]? =AI l/\(a.nx++ [a.nx.getD s []])[i]? =AI (a.nx.getD (if i=a.nx.length then s else i) []):=fun i hi=>by
  obtain⟨l,h1⟩:∃ l,L[i]? =AI l:=⟨_,aB (by omega)⟩;refine⟨l,h1,?_⟩;have h2:=acb a.nx (a.nx.getD s []) [] s i rfl hi;have h3:i<(a.nx++ [a.nx.getD s []]).length:=by rw[aJ];exact hi
  rw[<-h2,aB h3];exact congrArg AI (getD_some (aB h3)).symm
 have afs:∀ i,i<a.nx.length+1->(a.nx.getD (if i=a.nx.length then s else i) []).length=a.cl.length:=fun i hi=>ra.len _ (by split<;>omega)
 refine⟨rfl,hl,?_,fun i hi=>?_,fun i hi=>?_,fun i k hi hk=>?_⟩
 ·show(a.mr++ [a.mr.getD s []]).length=_
  rw[aJ,ra.mr];rfl
 ·have h2:=acb a.mr (a.mr.getD s []) [] s i rfl (by rw[ra.mr];exact hi)
  rw[ra.mr]at h2;exact h2
 ·obtain⟨l,h1,h2⟩:=at0 i hi
  show(L.getD i []).length=_;rw[getD_some h1,(h.2 i _ l h2 h1).1,afs i hi]
 ·obtain⟨l,h1,h2⟩:=at0 i hi
  have h3:=h.2 i _ l h2 h1;have h4:=afs i hi;show(L.getD i []).getD k 0=_\/_/\(L.getD i []).getD k 0=_;rw[getD_some h1];obtain⟨x,hx⟩:∃ x,l[k]? =AI x:=⟨_,aB (by rw[h3.1,h4];exact hk)⟩;obtain⟨x0,hx0⟩:∃ x,(a.nx.getD (if i=a.nx.length then s else i) [])[k]? =AI x:=⟨_,aB (by rw[h4];exact hk)⟩;rw[getD_some hx,getD_some hx0];exact h3.2 k x0 x hx0 hx
end
end Go.Proofs.YtjgccapbphadjaaGreatDoor
namespace Go.Proofs.YtjgccapbphadjaaGreatDoor.gW
open Go Go.RowKit Go.Proofs.YtjgccapbphadjaaGreatDoor
end Go.Proofs.YtjgccapbphadjaaGreatDoor.gW
namespace Go.Proofs.YtjgccapbphadjaaGreatDoor
open Go Go.RowKit Go.Shelf Go.Maps
theorem abK (b off cap n:Nat) (l:List Int) (iV:n=l.length) (hp:0<n) (w:AS) (h:bw aG w (An (AI ⟨b,off,AN⟩) n cap) l) (hn:n<=1000000): ah 22 #[An (AI ⟨b,off,AN⟩) n cap] w fun e w'=>∃ c,e=A_ (An (AI ⟨w.heap.size+1,0,AN⟩) n c)/\w'.ownsRow w.heap.size 3 1 (An (AI ⟨w.heap.size+1,0,AN⟩) n c) n (l.map aG)/\aa w w':=by
 obtain⟨i0,hi,hz0,hz1,hz2⟩:=TO Tryz.ki;obtain⟨hb,hc⟩:b<w.heap.size/\∀ i x,l[i]? =AI x->w.cell? ⟨b,off+i,AN⟩=AI (aG x):=by
  rcases h with⟨h,_⟩ | ⟨b1,o1,c1,e,hb,_,hc⟩
  ·cases h
  ·cases e;exact⟨hb,hc⟩
 have hnews:∀ o j u,(l.map aG)[j]? =AI u->(w.alloc o).cell? ((⟨b,off,AN⟩:V_).add j)=AI u:=fun o j u hj=>by
  refine(((Ext.refl w).alloc o).cell (p:=(⟨b,off,AN⟩:V_).add j) (by rw[Addr.add_mid];exact hb)).trans ?_;rw[aN]at hj;cases hx:l[j]? with
  | none=>rw[hx]at hj;cases hj
  | some x=>
   rw[hx]at hj;rw[Addr.add_mid,hc j x hx];exact hj
 have HN:=A' iV;have HNw:=A' hnews;have he:=fun W=>Lib.run_eql_slice_nil (P:=As) W 39 3 (AI ⟨b,off,AN⟩) n cap 0 0 It
 clear hnews iV h hc;go_enter Tryz.func22,Tryz.ntmps22;go_wp2_with (at_builtin;refine Hid.out ?_);refine A' ?_;refine jN rfl (.tmp 5) (.tmp 6) 39 rfl w.heap.size 3 i0 (AT Bs 0) 1 8 It hi hz0 hz1 hz2 rfl (by decide) ⟨w.heap.size,0,AN⟩ 0 [] rfl rfl (fun j u hj=>by simp at hj) ⟨b,off,AN⟩ n cap (l.map aG) rfl (fun j u hj=>HNw _ j u hj) (by rw[aP,HN.out,X']) hp (by unfold maxLen;omega) (by omega) (by simp) ?_;intro v' w2 ho hg hat;rw[U_,Y']at ho;have aew:v'.ownBlock=AI (w.heap.size+1):=hat.trans (by simp);obtain⟨a2,c2,hv2⟩:=ownsRow_form ho;obtain⟨c3,hv3⟩:∃ c,v'=An (AI ⟨w.heap.size+1,0,AN⟩) n c:=by
  rcases ho.2 with⟨h1,_⟩ | ⟨g,c,cur,h1,_⟩
  ·rw[h1]at aew;cases aew
  ·have e:g=w.heap.size+1:=by rw[h1]at aew;simpa[Value.ownBlock]using aew
   exact⟨c,by rw[h1,e]⟩
 subst hv3;have jF:=A' ho;have HX:M_ (aa w w2):=A' (((Ext.refl w).alloc _).below.trans (hg.mono (by simp)));clear ho hg hat aew hv2;go_wp2;go_ret;exact⟨_,rfl,jF,HX⟩
def abL (lo:Nat) (v:AM) (n:Nat) (us:List AM) (K:Nat) (row:List AM) (T:Nat):gW.App:=⟨39,1,v,n,us,1,lo,fun ns W=>∃ u,ns=[u]/\u.oneCell'=By/\W.ownsRow lo 3 1 u K row/\u.ownBlock=AI T,fun _ _ _ hk ⟨u,h1,h2,h3,h4⟩=>⟨u,h1,h2,ak h3 hk fun x hx=>h3.lt x hx,h4⟩⟩
def abm.app (base:Nat) (w0:AS) (PL:List gW.App) (p:gW.App) (hp:p∈PL):aU (gW.bR base w0 PL) where
 P:=fun v=>∃ a c,v=An a (p.n+p.m) c
 H:=fun v W=>gW.After base w0 p W v
 nU:=An AN (p.n+p.m) 0
 pw:=⟨AN,0,rfl⟩
 st:=fun v _ _ hm _ h=>hm.new p hp v h
def abm.Un (base:Nat) (w0:AS) (PL:List gW.App) (t:If) (H:AS->AM->Prop) (hH:∀ W W' u,gW.bR base w0 PL W W'->H W u->H W' u):aU (gW.bR base w0 PL) where
 P:=fun v=>∃ b,v=An (AI ⟨b,0,AN⟩) 1 1
 H:=fun v W=>∀ b,v=An (AI ⟨b,0,AN⟩) 1 1->(∃ u,ar W b #[u] t/\H W u)/\¬ ∃ p∈PL,p.v.ownBlock=AI b
 nU:=An (AI ⟨0,0,AN⟩) 1 1
 pw:=⟨_,rfl⟩
 st:=fun _ _ _ hm _ h b e=>by
  obtain⟨⟨u,h1,h2⟩,h3⟩:=h b e;exact⟨⟨u,h1.keeps hm.keeps ⟨h1.lt,h3⟩,hH _ _ u hm h2⟩,h3⟩
def abm.row (base:Nat) (w0:AS) (PL:List gW.App) (n:Nat) (H:AS->AM->Prop) (hH:∀ W W' u,gW.bR base w0 PL W W'->H W u->H W' u):aU (gW.bR base w0 PL) where
 P:=fun v=>∃ a c,v=An a n c
 H:=fun v W=>H W v
 nU:=An AN n 0
 pw:=⟨AN,0,rfl⟩
 st:=fun v _ _ hm _ h=>hH _ _ v hm h
structure abc (F:Nat->Prop) (base bx:Nat) (cl nxv mkv:AM) (n m:Nat) (us ms:List AM) (C:List BS) (M:List (List Int)) (W:AS) (L:List (List Int)):Prop where
 blk:ar W bx #[cl,nxv,mkv] 29
 nxo:W.ownsRow base 39 1 nxv n us
 mko:W.ownsRow base 39 1 mkv m ms
 ui:aa6 F base W us L
 tF:aa6 (fun x=>¬F x) base W ms M
 clo:W.ownsRow base 56 4 cl C.length (aL C)
theorem abc.keeps {F:Nat->Prop} {base bx n m:Nat} {cl nxv mkv:AM} {us ms:List AM} {C:List BS} {M L:List (List Int)} {W W':AS} (h:abc F base bx cl nxv mkv n m us ms C M W L) (hk:aa W W'):abc F base bx cl nxv mkv n m us ms C M W' L:=
 ⟨h.blk.below hk h.blk.lt,ai h.nxo hk,ai h.mko hk,h.ui.keeps (ae.aj hk (R:=(· <W.heap.size)) fun _ h=>h) fun _ hx _ _=>hx,h.tF.keeps (ae.aj hk (R:=(· <W.heap.size)) fun _ h=>h) fun _ hx _ _=>hx,ai h.clo hk⟩
theorem abc.set {F:Nat->Prop} {base bx n m K:Nat} {cl nxv mkv:AM} {us ms:List AM} {C:List BS} {M L:List (List Int)} {W:AS} (h:abc F base bx cl nxv mkv n m us ms C M W L) (hK:∀ l∈L,l.length=K) {i g n' c:Nat} {l:List Int} (hu:us[i]? =AI (An (AI ⟨g,0,AN⟩) n' c)) (hl:L[i]? =AI l) (j:Nat) (z:Int): ∃ L',abc F base bx cl nxv mkv n m us ms C M (W.setCell ⟨g,j,AN⟩ (AT Bs z)) L'/\L'[i]? =AI (l.set j z)/\L'.length=L.length/\∀ (i':Nat) (l1 l':List Int),L[i']? =AI l1->L'[i']? =AI l'->l'=l1\/(l1=l/\l'=l.set j z):=by
 obtain⟨L',h1,h2,h3,h4⟩:=h.ui.set hK hu hl j z;obtain⟨hr,hF⟩:=h.ui.2 i _ l hu hl;have k:ae (· ≠g) W (W.setCell ⟨g,j,AN⟩ (AT Bs z)):=(ae.refl _ _).setCell (p:=⟨g,j,AN⟩) (fun h=>h rfl) _;have far:∀ {e:If} {sz q:Nat} {v:AM} {xs:List AM},W.ownsRow base e sz v q xs->3≠e->(W.setCell ⟨g,j,AN⟩ (AT Bs z)).ownsRow base e sz v q xs:=fun ho he=>ak ho k fun x hx e2=>by
  rcases ownBlock_ne he hr ho with h5 | h5
  ·cases h5
  ·exact h5 (by rw[hx,e2];rfl)
 have yL:bx≠g:=fun e=>bZ h.blk hr (by decide) g rfl e.symm
 exact⟨L',⟨h.blk.keeps k yL,far h.nxo (by decide),far h.mko (by decide),h1,h.tF.keeps k fun x _ _ hx e=>hx (by rw[e];exact hF g rfl),far h.clo (by decide)⟩,h2,h3,h4⟩
theorem abc.df {F:Nat->Prop} {base bx n m:Nat} {nxv mkv cl:AM} {us ms:List AM} {C:List BS} {M L:List (List Int)} {W:AS} (h:abc F base bx cl nxv mkv n m us ms C M W L) (hn:n=us.length) (hm:m=ms.length):bV W (P_ #[cl,nxv,mkv]) ⟨C,L,M⟩:=by
 have ll:∀ {F:Nat->Prop} {v:AM} {q:Nat} {us:List AM} {L:List (List Int)},W.ownsRow base 39 1 v q us->aa6 F base W us L->q=us.length->fy W v L:=fun ho hr hn=>by
  refine⟨_,hr.1,bU (e:=39) (base:=base) (by rw[List.map_id'];exact ho) hn,fun i u l hu hl=>bU (hr.2 i u l hu hl).1 rfl⟩
 exact⟨_,_,_,rfl,fD h.clo,ll h.nxo h.ui hn,ll h.mko h.tF hm⟩
end Go.Proofs.YtjgccapbphadjaaGreatDoor
namespace Go.Proofs
open Go.Shelf
def Tryz.adl:Go.Shelf.Ren:=⟨fun | 6=>28 | 15=>75 | 14=>74 | 28=>134 | 29=>135 | 20=>126 | 21=>127 | 22=>128 | 23=>129 | 24=>130 | 25=>131 | 26=>132 | 27=>133 | 46=>178 | 47=>179 | 48=>180 | 49=>181 | 50=>182 | 57=>226 | n=>n,fun | 22=>39 | 24=>3 | 25=>63 | 3=>3 | 39=>122 | 0=>0 | 53=>221 | 55=>54 | 4=>4 | 46=>214 | 45=>213 | 50=>218 | 5=>5 | 9=>9 | 66=>272 | 70=>276 | 76=>302 | 77=>303 | n=>n,fun | n=>n⟩
theorem Tryz.aeY:Go.Proofs.SlLaysF.n6 As Tryz.adl:= {
 mixed:=by kernel_rfl
 f6:=⟨Tryz.f28.name,by decide,Tryz.func28.trans (congrArg AI (by kernel_rfl))⟩
 f14:=⟨Tryz.f74.name,by decide,Tryz.func74.trans (congrArg AI (by kernel_rfl))⟩
 f15:=Tryz.func75.trans (congrArg AI (by kernel_rfl))
 f20:=⟨Tryz.f126.name,by decide,Tryz.func126.trans (congrArg AI (by kernel_rfl))⟩
 f21:=⟨Tryz.f127.name,by decide,Tryz.func127.trans (congrArg AI (by kernel_rfl))⟩
 f22:=⟨Tryz.f128.name,by decide,Tryz.func128.trans (congrArg AI (by kernel_rfl))⟩
 f23:=⟨Tryz.f129.name,by decide,Tryz.func129.trans (congrArg AI (by kernel_rfl))⟩
 f24:=⟨Tryz.f130.name,by decide,Tryz.func130.trans (congrArg AI (by kernel_rfl))⟩
 f25:=⟨Tryz.f131.name,by decide,Tryz.func131.trans (congrArg AI (by kernel_rfl))⟩
 f26:=⟨Tryz.f132.name,by decide,Tryz.func132.trans (congrArg AI (by kernel_rfl))⟩
 f27:=⟨Tryz.f133.name,by decide,Tryz.func133.trans (congrArg AI (by kernel_rfl))⟩
 f28:=Tryz.func134.trans (congrArg AI (by kernel_rfl))
 f29:=Tryz.func135.trans (congrArg AI (by kernel_rfl))
 f46:=⟨Tryz.f178.name,by decide,Tryz.func178.trans (congrArg AI (by kernel_rfl))⟩
 f47:=Tryz.func179.trans (congrArg AI (by kernel_rfl))
 f48:=Tryz.func180.trans (congrArg AI (by kernel_rfl))
 f49:=⟨Tryz.f181.name,by decide,Tryz.func181.trans (congrArg AI (by kernel_rfl))⟩
 f50:=⟨Tryz.f182.name,by decide,Tryz.func182.trans (congrArg AI (by kernel_rfl))⟩
 f57:=⟨Tryz.f226.name,by decide,Tryz.func226.trans (congrArg AI (by kernel_rfl))⟩
 t0:=Tryz.underlying0
 a0:=Tryz.isAgg0
 z0:=Tryz.sizeOf0
 v0:=Tryz.zeroValue0
 t3:=Tryz.underlying3
 a3:=ao
 z3:=Zm
 v3:=Tryz.zeroValue3
 t4:=Tryz.underlying4
 a4:=Tryz.isAgg4
 z4:=Tryz.sizeOf4
 v4:=Tryz.zeroValue4
 t5:=On
 a5:=Tryz.isAgg5
 z5:=Tryz.sizeOf5
 v5:=Tryz.zeroValue5
 t9:=Tryz.underlying9
 a9:=Tryz.isAgg9
 z9:=Tryz.sizeOf9
 v9:=Tryz.zeroValue9
 t22:=It
 a22:=Tryz.isAgg39
 z22:=Tryz.sizeOf39
 v22:=Tryz.zeroValue39
 a24:=ao
 z24:=Zm
 t25:=Tryz.underlying63
 a25:=Tryz.isAgg63
 z25:=Tryz.sizeOf63
 v25:=Tryz.zeroValue63
 t39:=Tryz.underlying122
 a39:=Tryz.isAgg122
 z39:=Tryz.sizeOf122
 v39:=Tryz.zeroValue122
 t45:=Tryz.underlying213
 a45:=Tryz.isAgg213
 z45:=Tryz.sizeOf213
 v45:=Tryz.zeroValue213
 t46:=Tryz.underlying214
 a46:=Tryz.isAgg214
 z46:=Tryz.sizeOf214
 v46:=Tryz.zeroValue214
 t50:=Tryz.underlying218
 a50:=Tryz.isAgg218
 z50:=Tryz.sizeOf218
 v50:=Tryz.zeroValue218
 t53:=Tryz.underlying221
 a53:=Tryz.isAgg221
 z53:=Tryz.sizeOf221
 v53:=Tryz.zeroValue221
 t55:=Tryz.underlying54
 a55:=Tryz.isAgg54
 z55:=Tryz.sizeOf54
 v55:=Tryz.zeroValue54
 t66:=Tryz.underlying272
 a66:=Tryz.isAgg272
 z66:=Tryz.sizeOf272
 v66:=Tryz.zeroValue272
 t70:=Tryz.underlying276
 a70:=Tryz.isAgg276
 z70:=Tryz.sizeOf276
 v70:=Tryz.zeroValue276
 t76:=Tryz.underlying302
 a76:=Tryz.isAgg302
 z76:=Tryz.sizeOf302
 v76:=Tryz.zeroValue302
 t77:=Tryz.underlying303
 a77:=Tryz.isAgg303
 z77:=Tryz.sizeOf303
 v77:=Tryz.zeroValue303}
end Go.Proofs
namespace Go.Proofs.YtjgccapbphadjaaGreatDoor
section
open Go Go.RowKit Go.Shelf Go.Sort
theorem adO (i j M:Nat) (C:List BS) (s t:BS) (hi:C[i]? =AI s) (hj:C[j]? =AI t) (hM:M=C.length) (W:AS) (pb:Nat) (lG:pb<W.heap.size) (ca:Option V_) (cc:Nat) (hB:W.cell? ⟨pb,0,AN⟩=AI (An ca M cc)) (hs:cU W (An ca M cc) C): ah 29 #[AT Bs i,AT Bs j,D0 (AI ⟨pb,0,AN⟩)] W fun e w'=>e=A_ (AT Bs (aW s t))/\Ext W w':=by
 obtain⟨cb,co,rfl,hcb,d0,d1,d2,d3⟩:=hs.elem hi;obtain⟨cb2,co2,e,_,g0,g1,g2,g3⟩:=hs.elem hj;cases e;have hiM:i<M:=by rw[hM];exact(AF.1 hi).1
 have hjM:j<M:=by rw[hM];exact(AF.1 hj).1
 have hii:(i:Int)<M:=by omega
 have jA:(j:Int)<M:=by omega
 clear hi hj hM hs;go_enter aE,Tryz.ntmps29;go_upto_region 1 with fail
 refine br Ext ((Ext.refl W).drew) (fun _ _ _ h k=>h.trans k) (by kernel_rfl) 8 [0,0,3,7,0,0,48,112,255,511] (fun i=>i==8) (by kernel_rfl) (fun _=>aU.any _) ?_;intro aat hC hne;have HC:=A' hC;have cell:∀ {p:V_} {v:AM},p.block<W.heap.size->W.cell? p=AI v->∀ W': {W//aat W},W'.1.cell? p=AI v:=fun hp hv W'=>(((hC W'.1).1 W'.2).cell hp).trans hv
 have f0:=cell (p:=⟨pb,0,AN⟩) lG hB;have s0:=cell (p:=⟨cb,co+i*4,AN⟩) hcb d0;have s1:=cell (p:=⟨cb,co+i*4+1,AN⟩) hcb d1;have s2:=cell (p:=⟨cb,co+i*4+2,AN⟩) hcb d2;have s3:=cell (p:=⟨cb,co+i*4+3,AN⟩) hcb d3;have t0:=cell (p:=⟨cb,co+j*4,AN⟩) hcb g0;have t1:=cell (p:=⟨cb,co+j*4+1,AN⟩) hcb g1;have t2:=cell (p:=⟨cb,co+j*4+2,AN⟩) hcb g2;have t3:=cell (p:=⟨cb,co+j*4+3,AN⟩) hcb g3;clear hC cell d0 d1 d2 d3 g0 g1 g2 g3 hB
 repeat (refine au (fun K hK=>?_);first | (refine bL rfl ?_;try go_simp;refine hK _ _ ?_;clear hK K) | (refine bJ rfl rfl ?_;unfold az;go_simp;refine hK _ _ ?_;clear hK K))
 refine bC (fun W1 hW hH=>?_);have HX:=A' ((HC W1).1 hW);clear hW hH HC hne f0 s0 s1 s2 s3 t0 t1 t2 t3;go_wp2_with fail
 refine(Dg s t _).mono ?_;rintro e w2 ⟨rfl,hx⟩;go_wp2;go_ret;exact⟨rfl,HX.trans hx⟩
theorem abe {α:Type} [Inhabited α] {enc:α->AM} {w:AS} {g q:Nat} {os:Array Obj} (d:Array α):w.grownBy (sortWorld enc w g 0 q d os) (AI g):=by
 unfold sortWorld;refine⟨rfl,rfl,rfl,by simp[putRow,mapBlock,Q_],fun k hk hne=>?_⟩;rw[heap_grow_old _ _ (by simpa[putRow,mapBlock,Q_]using hk)];have:g≠k:=fun e=>hne (by rw[e])
 simp[putRow,mapBlock,Q_,RE,this]
theorem adp {α:Type} [Inhabited α] {enc:α->AM} {w:AS} {g q:Nat} {os:Array Obj} {cur:Array AM} {e:If} {fr:Nat×Nat} (d:Array α) (hb:w.heap[g]? =AI (.cells cur e fr)): (sortWorld enc w g 0 q d os).heap[g]? =AI (.cells (putCells enc 0 d cur) e fr):=by have hg:g<w.heap.size:=(DS.1 hb).1;unfold sortWorld;rw[heap_grow_old _ _ (by simpa[putRow,mapBlock,Q_]using hg)];simp[putRow,mapBlock,Q_,RE,hb,onCells]
theorem adW {α:Type} [Inhabited α] {enc:α->AM} (cur:Array AM) (d:List α) (h:d.length<=cur.size):(putCells enc 0 d.toArray cur).toList.take d.length=d.map enc:=by
 apply List.ext_getElem?;intro j;by_cases hj:j<d.length
 ·rw[List.getElem?_take_of_lt hj,Array.getElem?_toList]
  simp[putCells,hj,show j<cur.size by omega]
 ·rw[List.getElem?_take_eq_none (by omega),aT (by simp;omega)]
def aft (C:List BS) (M:Nat) (x y:Fin M):Int:=aW (C.getD x.val 0) (C.getD y.val 0)
theorem ag0 (C:List BS) (M:Nat):SWO (ltOf (aft C M)) where
 irrefl:=fun x=>aga.irrefl (C.getD x.val 0)
 trans:=fun x y z=>aga.trans (C.getD x.val 0) (C.getD y.val 0) (C.getD z.val 0)
 ntrans:=fun x y z=>aga.ntrans (C.getD x.val 0) (C.getD y.val 0) (C.getD z.val 0)
theorem adr (C:List BS) (M:Nat) (hM:M=C.length) (hp:0<M) (h9:M<=1000000) (w:AS) (pb:Nat) (lG:pb<w.heap.size) (ca:Option V_) (cc:Nat) (hB:w.cell? ⟨pb,0,AN⟩=AI (An ca M cc)) (hS:cU w (An ca M cc) C) (base:Nat) (ov:AM) (ho:w.ownsRow base 3 1 ov M ((Cd M).map cK)) (h1:ov.ownBlock≠AI pb) (h2:∀ b o,ca=AI ⟨b,o,AN⟩->ov.ownBlock≠AI b): ah 28 #[ov,.func (.func 29) #[] #[D0 (AI ⟨pb,0,AN⟩)]] w fun e w'=>∃ o:List Nat,e=A_ (Lw #[])/\o.Perm (Cd M)/\(o.map fun j=>C.getD j 0).Pairwise (fun x y=>(!ltOf aW y x)=By)/\w'.ownsRow base 3 1 ov M (o.map cK)/\ae (fun x=>x<w.heap.size/\ov.ownBlock≠AI x) w w':=by
 haveI:Inhabited (Fin M):=⟨⟨0,hp⟩⟩
 obtain⟨g,cap,cur,rfl,hbg,hg,hnc,hcm,hcs,er⟩:∃ g cap cur,ov=An (AI ⟨g,0,AN⟩) M cap/\base<=g/\w.heap[g]? =AI (.cells cur 3 (0,0))/\M<=cap/\cap<=maxLen/\cur.size=cap*1/\cur.toList.take (M*1)=(Cd M).map cK:=by
  rcases ho.2 with⟨rfl,h⟩ | ⟨g,c,cur,h⟩
  ·omega
  ·exact⟨g,c,cur,h⟩
 have hgw:g<w.heap.size:=(DS.1 hg).1;have YP:pb≠g:=fun e=>h1 (by rw[e];rfl)
 have eg:∀ args w,(callFunc 29 args).run As w=.ok (.enter 29 args) w:=enters_of aE (by kernel_rfl) rfl;have hdz:(DH M).toArray.size=M:=by simp
 have hH:Holds (fun x:Fin M=>AT Bs x.val) w g 0 (DH M).toArray:=fun j hj=>by
  have hj':j<M:=by rw[hdz]at hj;exact hj
  refine⟨?_,by simp[World.frozen?,hg]⟩;rw[U_,ho.cellAt j (by simpa using hj'),aN,S' hj',getElem!_pos (DH M).toArray j hj];simp[cK]
 have hcon:=Any.slices_SortFunc Tryz.aeY (fun x:Fin M=>AT Bs x.val) (fun _=>rfl) (aft C M) (ag0 C M) 29 #[D0 (AI ⟨pb,0,AN⟩)] g 0 cap (DH M).toArray w eg
  (fun m os dk _ x y=>by
   have hgr:=abe (enc:=fun x:Fin M=>AT Bs x.val) (w:=w) (g:=g) (q:=m) (os:=os) dk;have hk:ae (fun k=>k<w.heap.size/\k≠g) w (sortWorld (fun x:Fin M=>AT Bs x.val) w g 0 m dk os):=ae.aZ hgr fun k hk=>⟨hk.1,fun e=>hk.2 (by injection e)⟩
   have hx:C[x.val]? =AI (C.getD x.val 0):=by rw[bB,aB (by rw[<-hM];exact x.isLt)];rfl
   have hy:C[y.val]? =AI (C.getD y.val 0):=by rw[bB,aB (by rw[<-hM];exact y.isLt)];rfl
   refine(adO x.val y.val M C _ _ hx hy hM _ pb (ay lG hk.size) ca cc ((hk.cell (p:=⟨pb,0,AN⟩) ⟨lG,YP⟩).trans hB) ?_).mono fun e w' ⟨he,hx⟩=>⟨he,hx.grow⟩
   rcases hS with⟨h3,h4⟩ | ⟨b,o,c,h3,h4,h5⟩
   ·exact .inl ⟨h3,h4⟩
   ·cases h3
    have hbg:b≠g:=fun e=>h2 b o rfl (by rw[e];rfl)
    exact .inr ⟨b,o,cc,by rw[hM],ay h4 hk.size,fun i s hi j hj=>(hk.cell (p:=⟨b,o+i*4+j,AN⟩) ⟨h4,hbg⟩).trans (h5 i s hi j hj)⟩)
  hH hgw (by rw[hdz];omega)
 rw[hdz]at hcon;refine hcon.mono ?_;rintro e w' ⟨rfl,d',n,os,⟨hz,_,hperm⟩,hsort,rfl⟩;rw[hdz]at hz;have hdl:d'.toList.length=M:=by rw[J_];exact hz
 have Wi:d'.toList.Perm (DH M):=by
  have e1:d'.extract 0 M=d':=by have:=T_ (xs:=d');rwa[hz]at this
  have e2:(DH M).toArray.extract 0 M=(DH M).toArray:=by have:=T_ (xs:=(DH M).toArray);rwa[hdz]at this
  rw[e1,e2]at hperm;exact hperm
 have hgr:=abe (enc:=fun x:Fin M=>AT Bs x.val) (w:=w) (g:=g) (q:=n) (os:=os) d';refine⟨d'.toList.map Fin.val,rfl,?_,?_,?_,ae.aZ hgr fun k hk=>⟨hk.1,fun e=>hk.2 (by injection e with e;rw[e];rfl)⟩⟩
 ·have h5:=Wi.map Fin.val
  rwa[show(DH M).map Fin.val=Cd M from List.ext_getElem (by simp) fun i h1 h2=>by simp]at h5
 ·rw[F_,C']
  intro i j hi hj mM;rw[aP,hdl]at hi hj;have h5:=hsort i j (Nat.zero_le _) mM hj;rw[getElem!_pos d' j (by omega),getElem!_pos d' i (by omega)]at h5;rw[W_,W_];show(!ltOf aW (C.getD (d'.toList[j]).val 0) (C.getD (d'.toList[i]).val 0))=By;rw[St,St];have h6:ltOf aW (C.getD (d'[j]).val 0) (C.getD (d'[i]).val 0)=false:=h5;rw[h6];rfl
 ·refine⟨by simp[hdl],.inr ⟨g,cap,_,rfl,hbg,adp _ hg,hnc,hcm,by simp[putCells,hcs],?_⟩⟩
  have h5:=adW (enc:=fun x:Fin M=>AT Bs x.val) cur d'.toList (by rw[hdl,hcs];omega);rw[hdl]at h5;rw[X',F_];exact h5
end
section
open Go Go.RowKit Go.Shelf Go.Maps
def rowP (K k:Nat) (o:List Nat) (row:List Int):List Int:=o.map fun j=>row.getD (if j=K then k else j) 0
def aeL (d:DF) (C:List BS) (o:List Nat) (k:Nat):DF:=⟨o.map fun j=>C.getD j 0,d.nx.map (rowP d.cl.length k o),d.mr⟩
def aeZ (m n1:Nat) (mv:AM) (cl:List BS) (nx:List (List Int)) (W:AS) (e:Ending) (w':AS):Prop:=
 ∃ a0 c0 a1 c1,e=A_ (P_ #[An a0 m c0,An a1 n1 c1,mv])/\w'.ownsRow W.heap.size 56 4 (An a0 m c0) m (aL cl)/\aS W.heap.size w' (An a1 n1 c1) nx/\aa W w'
theorem acr (d:DF) (rt:Rt d) (C:List BS) (o:List Nat) (k:Nat) {K M m n1 n2:Nat} (hK:K=d.cl.length) (hM:M=C.length) (hm:m=o.length) (cM:n1=d.nx.length) (dP:n2=d.mr.length) (hMK:M=K+1) (hk:k<K) (hm9:m<=1000000) (hO:∀ j∈o,j<M) (w:AS) (x0 x1 mv cv ov:AM) (hv:bV w (P_ #[x0,x1,mv]) d) (hc:gF w cv C) (ho:bw cK w ov o): ah 31 #[P_ #[x0,x1,mv],cv,ov,AT Bs k] w (aeZ m n1 mv (o.map fun j=>C.getD j 0) (d.nx.map (rowP K k o)) w):=by
 show ah 31 #[P_ #[x0,x1,mv],cv,ov,AT Bs k] w fun e w'=>∃ a0 c0 a1 c1,e=A_ (P_ #[An a0 m c0,An a1 n1 c1,mv])/\w'.ownsRow w.heap.size 56 4 (An a0 m c0) m (aL (o.map fun j=>C.getD j 0))/\aS w.heap.size w' (An a1 n1 c1) (d.nx.map (rowP K k o))/\aa w w'
 obtain⟨iI,uD,jl,jm,jn⟩:=TO Tryz.ki;obtain⟨iS,hiS,Mg,Mh,Mi⟩:=TO Tryz.yM;obtain⟨iL,uC,j6,j7,j8⟩:=TO Tryz.pd;have hd8:=rt.Rh;have akO:n1<=1000000:=by rw[cM];exact hd8.nx
 have hK9:K<=1000000:=by rw[hK];exact hd8.cl
 have hrow:M_ (∀ row∈d.nx,row.length=K):=A' fun row hr=>by
  obtain⟨i,hi⟩:=B_ hr;have:=rt.len i (AF.1 hi).1;rw[getD_some hi]at this;rw[hK];exact this
 obtain⟨v0,v1,v2,ev,hs0,hs1,hs2⟩:=hv;cases ev;obtain⟨a0,c0,rfl⟩:=hs0.1.form;obtain⟨a1,c1,rfl⟩:=hs1.form;obtain⟨a2,c2,rfl⟩:=hs2.form;obtain⟨ca,cc,rfl⟩:=hc.1.form;obtain⟨oa,oc,rfl⟩:=ho.form;rw[<-hK]at hs0;rw[<-cM]at hs1;rw[<-hM]at hc;rw[<-hm]at ho;rw[<-hK, <-cM, <-dP, <-hM, <-hm];have HK:=A' hK;have HM:=A' hM;have XC:=A' hm;have gS:=A' cM;have HO:=A' hO;have aaF:=A' hs1;have SC:=A' hc;have SO:=A' ho;have hwr:Bs.wrap ((M:Int)-1)=(K:Int):=by rw[show(M:Int)-1=(K:Int) by omega];exact IntWalk.i64_in _ (by omega)
 have HMK:=A' hMK;clear hs0 hs1 hs2 hc ho hK hM hm cM dP hO hd8 rt hMK;go_enter Tryz.func31,Tryz.ntmps31;go_upto_region 2 with fail
 refine aw ?_;intro V hV;have B0:M_ (ar V w.heap.size #[An a0 K c0,An a1 n1 c1,An a2 n2 c2] 29):=by rw[hV];exact A' (((ar.new w _ _).alloc _).alloc _)
 have B1:M_ (ar V (w.heap.size+1) #[An AN 0 0,An AN 0 0,An AN 0 0] 29):=by rw[hV];exact A' (((ar.new (w.alloc _) _ _).alloc _).at (by simp))
 have BD:M_ (ar V (w.heap.size+1+1) #[An AN 0 0,An AN 0 0,An a2 n2 c2] 29):=by rw[hV];exact A' ((ar.new ((w.alloc _).alloc _) _ _).at (by simp))
 have HX:M_ (aa w V):=by rw[hV];exact A' ((((Ext.refl w).alloc _).alloc _).alloc _).below
 clear hV;go_upto_region 3 with fail
 go_loopw [11,22] (fun _ iv wr=>∃ (j:Nat) (cx aaJ:_),j<=m/\iv=AT Bs j/\ar wr (w.heap.size+1+1) #[An cx j aaJ,An AN 0 0,An a2 n2 c2] 29/\wr.ownsRow V.heap.size 56 4 (An cx j aaJ) j (aL ((o.take j).map fun i=>C.getD i 0))/\ae (fun x=>x<V.heap.size/\x≠(w.heap.size+1+1)) V wr) (fun _ iv _=>m-(intOf iv).toNat)
 case atStart=>exact⟨0,AN,0,by omega,rfl,BD,NX _ _ _ _,ae.refl _ _⟩
 case round=>
  obtain⟨j,cx,aaJ,hj,rfl,hb,hw5,hx⟩:=hrel;obtain⟨wo,rfl⟩:=ag (wr:AS);have Mj:aa w wo:=HX.trans (hx.mono fun x (AH:x<w.heap.size)=>⟨ay AH HX.size,by omega⟩:ae (· <w.heap.size) V wo).below;by_cases hlt:j<m
  ·obtain⟨i,hi⟩:∃ i,o[j]? =AI i:=⟨_,aB (by rw[<-XC.out];exact hlt)⟩
   have Xm:i<M:=HO.out i (ax hi);obtain⟨s,hs⟩:∃ s,C[i]? =AI s:=⟨_,aB (by rw[<-HM.out];exact Xm)⟩;obtain⟨ob,aaQ,rfl,hob,e0⟩:=(SO.below Mj).elem hi;obtain⟨cb,co,rfl,hcb,d0,d1,d2,d3⟩:=(SC.below Mj).1.elem hs;have HT:M_ (aL ((o.take (j+1)).map fun i=>C.getD i 0)=aL ((o.take j).map fun i=>C.getD i 0)++(encS s).toList):=A' (by rw[D_,hi,I',gy, <-Lf];show _=_++aL [s];rw[show s=C.getD i 0 from(getD_some hs).symm];rfl);have HB:=A' hb;have HW:=A' hw5;have UJ:=A' hx;have jA:(j:Int)<m:=by omega
   have hii:(i:Int)<M:=by omega
   have e0':wo.cell? ⟨ob,aaQ+j,AN⟩=AI (AT Bs i):=e0;clear hi hs hb hw5 hx Mj e0;go_upto_region 5 with fail
   clear e0';refine aI J' (fun _=>False) (by kernel_rfl) 7 [0,1,0,0,12,28,60,127,255,511] (fun i=>i==6 || i==7 || i==9) (by kernel_rfl) (fun i=>if i=6 then aU.box 1 (encS s) 56 else aU.any _) ?_;intro C hC hne;have HC:=A' hC;have f0:=aD hC (p:=⟨(w.heap.size+1+1),0,AN⟩) (by have:=HB.lt;exact this) (fun h=>h) (HB.cell 0);have s0:=aD hC (p:=⟨cb,co+i*4,AN⟩) hcb (fun h=>h) d0;have s1:=aD hC (p:=⟨cb,co+i*4+1,AN⟩) hcb (fun h=>h) d1;have s2:=aD hC (p:=⟨cb,co+i*4+2,AN⟩) hcb (fun h=>h) d2;have s3:=aD hC (p:=⟨cb,co+i*4+3,AN⟩) hcb (fun h=>h) d3;clear hC d0 d1 d2 d3
   repeat (refine au (fun K hK=>?_);first | (refine bL rfl ?_;try go_simp;refine hK _ _ ?_;clear hK K) | (refine bJ rfl rfl ?_;unfold az;go_simp;refine hK _ _ ?_;clear hK K))
   refine au (fun K0 yJ=>?_);refine bS rfl rfl (aU.box 1 (encS s) 56) rfl (fun W hW hN=>?_) (fun v hv=>?_)
   ·clear hW hN yJ K0
    exact DG 26 56 _ rfl VH hiS Mg Mh (by decide) (by decide) (encS s) rfl (jy _) ⟨Move.ext ((Ext.refl _).alloc _),⟨_,rfl⟩,fun b hb=>by cases hb;exact ar.new _ _ _⟩
   obtain⟨bz,rfl⟩:=hv;go_simp;refine yJ _ _ ?_;clear yJ K0;refine bC (fun W hW hH=>?_);have hM:=(HC.out W).1 hW;have Za:ar W bz (encS s) 56:=hH _ (bu ..) bz rfl;have HBX:=A' Za;have YB:=A' (HB.below hM.below HB.lt);have YO:=A' (ai HW hM.below);have YK:=A' (UJ.tr (ae.aj hM.below fun x hx=>ay hx.1 UJ.size));have yg:V.heap.size<=W.heap.size:=ZD UJ.size hM.size;have hb3:(w.heap.size+1+1)<V.heap.size:=BD.lt;clear hM hW hH f0 s0 s1 s2 s3 HC HB HW UJ Za;go_wp2_with (at_builtin;refine Hid.out ?_);refine A' ?_;refine IT _ rfl (.tmp 27) (.tmp 32) 26 rfl V.heap.size 56 iS (P_ #[AT N' 0,AT N' 0,AT N' 0,AT N' 0]) 4 32 VH hiS Mg Mh Mi rfl (by decide) _ _ _ rfl YO ⟨bz,0,AN⟩ 1 1 (encS s).toList rfl (by rw[J_,jy]) (cC HBX) (by simp[encS,S_]) (by unfold maxLen;omega) (by omega) yg ?_;intro v' w3 hown' hgrow hh hat;have Wx:=A' hown';obtain⟨ua3,uc3,rfl⟩:=ownsRow_form hown';have Zb:∀ x,(An cx j aaJ).ownBlock=AI x->V.heap.size<=x:=(fun x e=>(YO.lt x e).1);have ZB:=A' (YB.grown hgrow (fun e=>by have:=Zb _ e.symm;omega));have ZK:=A' (YK.tr (ae.aZ hgrow fun x hx=>⟨ay hx.1 yg,fun e=>by have:=Zb x e.symm;omega⟩));obtain⟨⟨p0,p1,p2⟩,q0,q1,q2⟩:=ZB.three;clear hown' hgrow hh hat Zb;go_wp2;go_roundw;case rel=>
    refine⟨j+1,_,_,by omega,by go_num,ZB.set 0 _,?_,ZK.setCell (p:=⟨(w.heap.size+1+1),0,AN⟩) (fun h=>h.2 rfl) _⟩;rw[HT.out];exact cV Wx ((ae.refl (· ≠(w.heap.size+1+1)) _).setCell (p:=⟨(w.heap.size+1+1),0,AN⟩) (fun h=>h rfl) _) (fun x h1 _ e=>by omega)
   case measure=>simp[intOf];omega
  ·obtain rfl:j=m:=by omega
   have jA:¬ ((j:Int)<j):=by omega
   have er:o.take j=o:=by rw[XC.out];exact O_
   rw[er]at hw5;have CB:=A' hb;have CW:=A' hw5;have CK:=A' hx;have XA:=A' Mj;have Wn:(w.heap.size+1+1)<V.heap.size:=BD.lt;have hb1:=B1.lt;have C1:=A' (B1.keeps hx ⟨B1.lt,by omega⟩);have aat:=A' (B0.keeps hx ⟨B0.lt,by omega⟩);clear hb hw5 hx Mj er B0 B1 BD hlt hj;obtain⟨⟨p0,p1,p2⟩,_⟩:=aat.three;go_upto_region 8 with fail
   clear p0 p1 p2;have hbo:(w.heap.size+1+1)<wo.heap.size:=CB.lt;go_loopw [13,14,16,39] (fun _ _ _ iv wr=>∃ (t:Nat) (nx:AM),t<=n1/\iv=AT Bs t/\ar wr (w.heap.size+1+1) #[An cx j aaJ,nx,An a2 n2 c2] 29/\aS wo.heap.size wr nx ((d.nx.take t).map (rowP K k o))/\ae (fun x=>x<wo.heap.size/\x≠(w.heap.size+1+1)) wo wr) (fun _ _ _ iv _=>n1-(intOf iv).toNat);case atStart=>exact⟨0,_,by omega,rfl,CB,aS.nil _ _,ae.refl _ _⟩
   case round=>
    obtain⟨t,nx,ht,rfl,hb,hl,hx⟩:=hrel;obtain⟨wp,rfl⟩:=ag (wr:AS);have hXp:aa w wp:=XA.trans (hx.mono fun x (AH:x<w.heap.size)=>⟨ay AH XA.size,by omega⟩:ae (· <w.heap.size) wo wp).below;by_cases hlq:t<n1
    ·obtain⟨row,hr⟩:∃ l,d.nx[t]? =AI l:=⟨_,aB (by rw[<-gS.out];exact hlq)⟩
     have yF:row.length=K:=hrow.out row (ax hr);obtain⟨rb,ro,ra,rc,rfl,hrb,g0,g1⟩:=(aaF.below hXp).elem hr;rw[yF]at g0 g1;have HT:M_ ((d.nx.take (t+1)).map (rowP K k o)=(d.nx.take t).map (rowP K k o)++ [rowP K k o row]):=A' (by rw[D_,hr,I'];rfl);have RW:=A' g1;have Yy:=A' yF;have HB:=A' hb;have HL:=A' hl;have UJ:=A' hx;have XP:=A' hXp;have hti:(t:Int)<n1:=by omega
     have F8:wo.heap.size<=wp.heap.size:=hx.size;clear hr yF hb hl hx hXp g1;go_upto_region 12 with fail
     clear g0;go_loopw [14,16,45] (fun lv _ iv wr=>∃ q:Nat,q<=j/\iv=AT Bs q/\(∃ la lc,lv=An la q lc)/\wr.ownsRow wp.heap.size 3 1 lv q ((rowP K k (o.take q) row).map aG)/\aa wp wr) (fun _ _ iv _=>j-(intOf iv).toNat);case atStart=>exact⟨0,by omega,rfl,⟨_,_,rfl⟩,NX _ _ _ _,K_ _ _⟩
     case round=>
      obtain⟨q,hq,rfl,⟨la,lc,rfl⟩,hlw,hx⟩:=hrel;obtain⟨wq,rfl⟩:=ag (wr:AS);by_cases hlz:q<j
      ·obtain⟨i,hi⟩:∃ i,o[q]? =AI i:=⟨_,aB (by rw[<-XC.out];exact hlz)⟩
       have Xm:i<M:=HO.out i (ax hi);obtain⟨ob,aaQ,rfl,hob,e0⟩:=(SO.below (XP.trans (hx.mono XP.size))).elem hi;obtain⟨aaV,hsq⟩:=ag (if i=K then k else i);have hsK:aaV<K:=by rw[hsq];have:=HMK.out;split<;>omega
       obtain⟨z,hz⟩:∃ z,row[aaV]? =AI z:=⟨_,aB (by rw[Yy.out];exact hsK)⟩;obtain⟨aa1,aa2,rfl,hzb,e1⟩:=(RW.below hx).elem hz
       have HT2:M_ ((rowP K k (o.take (q+1)) row).map aG=(rowP K k (o.take q) row).map aG++ [AT Bs z]):=A' (by
        have h9:row.getD (if i=K then k else i) 0=z:=by rw[<-hsq];exact getD_some hz
        unfold rowP;rw[D_,hi,I',I'];show _++ [aG (row.getD (if i=K then k else i) 0)]=_;rw[h9]
        rfl)
       have e0':wq.cell? ⟨ob,aaQ+q,AN⟩=AI (AT Bs i):=e0;have e1':wq.cell? ⟨aa1,aa2+aaV,AN⟩=AI (AT Bs z):=e1;have HW:=A' hlw;have HKq:=A' hx;have HSQ:=A' hsq;have hqi:(q:Int)<j:=by omega
       have Gi:(aaV:Int)<K:=by omega
       have ag6:wp.heap.size<=wq.heap.size:=hx.size;clear hi hz e0 e1 hlw hx hsq
       go_upto_if 53 with fail
       go_cut [16] from 53 to 54 (fun x wx=>x=AT Bs aaV/\wx=wq)
       case first=>
        by_cases e:i=K
        ·have d1:((i:Int)==K)=true:=by simp;omega
         have e2:aaV=k:=by rw[HSQ.out,if_pos e]
         clear e;go_wp2_with fail
         go_meet
         exact⟨by rw[e2],rfl⟩
        ·have d1:((i:Int)==K)=false:=by simp;omega
         have e2:aaV=i:=by rw[HSQ.out,if_neg e]
         clear e;go_wp2_with fail
         go_meet
         exact⟨by rw[e2],rfl⟩
       case rest=>
       obtain⟨rfl,hwc⟩:=hcut;replace hwc:=hwc.symm;subst hwc;go_wp2_with (at_builtin;refine Hid.out ?_);refine A' ?_;refine IT _ rfl (.tmp 55) (.tmp 60) 39 rfl wp.heap.size 3 iI (AT Bs 0) 1 8 It uD jl jm jn rfl (by decide) (An la q lc) q _ rfl (HW.alloc _) ⟨wq.heap.size,0,AN⟩ 1 1 [AT Bs z] rfl rfl (dO _ _ _) (by simp[S_]) (by unfold maxLen;omega) (by omega) (by simp;omega) ?_;intro v' w5 hown' hgrow hh hat;have Iw:=A' hown';have lB:=A' hgrow;clear hown' hgrow hh hat;go_wp2;go_roundw;case rel=>
        have h5:=Iw.out;rw[<-HT2.out]at h5;refine⟨q+1,by omega,by go_num,ownsRow_form h5,h5,?_⟩;exact(HKq.trans (((Ext.refl wq).alloc _).below.mono ag6)).trans (((K_ _ _).grown lB (by simp;omega) fun x e=>(HW.lt x e).1))
       case measure=>simp[intOf];omega
      ·obtain rfl:q=j:=by omega
       have hqi:¬ ((q:Int)<q):=by omega
       have er:o.take q=o:=by rw[XC.out];exact O_
       rw[er]at hlw;have HW:=A' hlw;have HQ:=A' hx;have hx9:=hx;obtain⟨us,u1,u2,u3⟩:=HL.out;obtain⟨tt,htt⟩:=ag us.length;have akY:tt<=1000000:=by rw[htt,u1,aP,V'];omega
       have u2':=u2;rw[<-htt]at u2;obtain⟨na,nc,rfl⟩:=ownsRow_form u2;have gR:=A' (HB.below hx HB.lt);have U2:=A' (ai u2 hx);have U3:=A' fun i u l hu hl=>ai (u3 i u l hu hl) hx
       have U1:=A' u1;have UY:=A' htt;have hbp:(w.heap.size+1+1)<wp.heap.size:=HB.lt;have ak0:wp.heap.size<=wq.heap.size:=hx.size;have aaA:=A' (UJ.tr (ae.aj hx fun x hx=>ay hx.1 UJ.size));obtain⟨⟨p0,p1,p2⟩,z0,z1,z2⟩:=gR.three;have hLW:M_ (wq.ownsRow wo.heap.size 3 1 (An la q lc) q ((rowP K k o row).map aG)):=A' (aC HW F8);clear hlw hx u1 u2 u3 u2' htt hx9 er;go_wp2_with (at_builtin;refine Hid.out ?_);refine A' ?_;refine IT _ rfl (.tmp 64) (.tmp 66) 27 rfl wo.heap.size 39 iL (An AN 0 0) 1 24 Tryz.underlying27 uC j6 j7 j8 rfl (by decide) _ _ _ rfl (U2.alloc _) ⟨wq.heap.size,0,AN⟩ 1 1 [An la q lc] rfl rfl (dO _ _ _) (by simp[S_]) (by unfold maxLen;omega) (by omega) (by simp;omega) ?_;intro v' w5 hown' hgrow hh hat;have Iw:=A' hown';have lB:=A' hgrow;obtain⟨na2,nc2,rfl⟩:=ownsRow_form hown';have Zb:∀ x,(An na tt nc).ownBlock=AI x->wo.heap.size<=x:=(fun x e=>(U2.lt x e).1);have ZB:=A' ((gR.alloc (.cells #[An la q lc] 39)).grown hgrow (fun e=>by have:=Zb _ e.symm;omega));have ZK:=A' ((aaA.tr (ae.aj ((Ext.refl wq).alloc (.cells #[An la q lc] 39)).below fun x hx=>ay hx.1 aaA.size)).tr (ae.aZ hgrow fun x hx=>⟨by have:=hx.1;have:=aaA.size;simp;omega,fun e=>by have:=Zb x e.symm;have:=hx.1;omega⟩))
       have aaB:M_ (aS wo.heap.size w5 (An na2 (tt+1) nc2) ((d.nx.take t).map (rowP K k o)++ [rowP K k o row])):=A' (by
        have iE:(rowP K k o row).length=q:=by unfold rowP;rw[aP, <-XC.out]
        refine aS.snoc (w:=wq.alloc (.cells #[An la q lc] 39)) (v:=An na tt nc) U1 (by rw[<-UY.out];exact U2.alloc _) (fun i u l hu hl=>(U3 i u l hu hl).alloc _) (by rw[iE];exact hLW.alloc _) lB (by rw[<-UY.out];exact Iw))
       obtain⟨⟨y0,y1,y2⟩,x0,x1,x2⟩:=ZB.three;clear hown' hgrow hh hat Zb p0 p1 p2 z0 z1 z2;go_wp2;go_roundw;case rel=>
        refine⟨t+1,_,by omega,by go_num,ZB.set 1 _,?_,ZK.setCell (p:=⟨(w.heap.size+1+1),1,AN⟩) (fun h=>h.2 rfl) _⟩;rw[HT.out];exact aaB.keeps ((ae.refl (· ≠(w.heap.size+1+1)) _).setCell (p:=⟨(w.heap.size+1+1),1,AN⟩) (fun h=>h rfl) _) (fun x h1 _ e=>by omega)
       case measure=>simp[intOf];omega
    ·obtain rfl:t=n1:=by omega
     have hti:¬ ((t:Int)<t):=by omega
     have er:d.nx.take t=d.nx:=by rw[gS.out];exact O_
     rw[er]at hl;have XP:=A' hXp;have HL:=A' hl;have HB:=A' hb;have UJ:=A' hx;obtain⟨na,nc,rfl⟩:=hl.form;have Yf:(d.nx.map (rowP K k o)).length=t:=by rw[aP, <-gS.out]
     rw[Yf]at HL HB;have D1:=A' (C1.keeps hx ⟨C1.lt,by omega⟩);have W5:=A' (cV CW hx fun x h1 h2=>⟨h2,by omega⟩);obtain⟨⟨p0,p1,p2⟩,_⟩:=HB.three;obtain⟨⟨y0,y1,y2⟩,z0,z1,z2⟩:=D1.three;clear hl hb hx hXp er Yf;go_wp2;refine aQ ?_;intro W9 dG;have E9:M_ (ar W9 (w.heap.size+1) #[An cx j aaJ,An na t nc,An a2 n2 c2] 29/\ae (· ≠w.heap.size+1) wp W9):=by
      rw[dG];exact A' ⟨D1.vy,((((ae.refl _ _).setCell (p:=⟨w.heap.size+1,0,AN⟩) (fun h=>h rfl) _).setCell (p:=⟨w.heap.size+1,1,AN⟩) (fun h=>h rfl) _).setCell (p:=⟨w.heap.size+1,2,AN⟩) (fun h=>h rfl) _)⟩
     clear dG z0 z1 z2 y0 y1 y2 p0 p1 p2;obtain⟨⟨m0,m1,m2⟩,_⟩:=E9.1.three;have X9:aa w W9:=XP.trans (E9.2.mono fun x (hx:x<w.heap.size)=>by show x≠w.heap.size+1;omega:ae (· <w.heap.size) wp W9).below;refine H_ (v:=P_ #[An cx j aaJ,An na t nc,An a2 n2 c2]) (by simp[results,Tryz.results31,go_sem,m0,m1,m2]) rfl ⟨_,_,_,_,rfl,?_,?_,X9⟩
     ·exact aC (cV W5 E9.2 fun x h1 _=>by show x≠w.heap.size+1;omega) (by omega)
     ·exact(HL.keeps E9.2 fun x h1 _=>by show x≠w.heap.size+1;omega).base (by omega)
theorem Sx (a1 a2:Option V_) (c1 c2:Nat) (w:AS):ah 33 #[An a1 0 c1,An a2 0 c2] w fun e w'=>e=A_ (Ly By)/\Ext w w':=by
 go_enter a_,ZS
 go_wp2;go_loopw [13] (fun i wr=>i=AT Bs 0/\Ext w wr) (fun _ _=>0);case atStart=>exact⟨rfl,Ext.refl _⟩
 case round=>
  obtain⟨rfl,hx⟩:=hrel;obtain⟨wo,rfl⟩:=ag (wr:AS);have HX:=A' hx;clear hx;go_wp2;go_ret;exact⟨rfl,HX⟩
theorem take_eq_all {α:Type} {l1 l2:List α} {n:Nat} (h1:n=l1.length) (h2:n=l2.length) (h:l1.take n=l2.take n):l1=l2:=by rw[FF (by omega),FF (by omega)]at h;exact h
theorem adZ {α:Type} {l1 l2:List α} {k:Nat} {x:α} (h:l1.take k=l2.take k) (h1:l1[k]? =AI x) (h2:l2[k]? =AI x):l1.take (k+1)=l2.take (k+1):=by rw[D_,D_,h,h1,h2]
theorem Vx {α:Type} [BEq α] [LawfulBEq α] {l1 l2:List α} (h:l1.length≠l2.length):(l1==l2)=false:=by rw[beq_eq_false_iff_ne];intro e;exact h (by rw[e])
theorem ae0 {α:Type} [BEq α] [LawfulBEq α] {l1 l2:List α} {k:Nat} {x y:α} (h1:l1[k]? =AI x) (h2:l2[k]? =AI y) (h:x≠y):(l1==l2)=false:=by rw[beq_eq_false_iff_ne];intro e;rw[e,h2]at h1;exact h (Option.some.inj h1).symm
theorem Sy (a1 a2:Option V_) (n m c1 c2:Nat) (h:n≠m) (w:AS):ah 33 #[An a1 n c1,An a2 m c2] w fun e w'=>e=A_ (Ly J')/\Ext w w':=by
 have d1:((n:Int)==m)=false:=by rw[beq_eq_false_iff_ne];omega
 have d2:((n:Int) != m)=true:=by rw[bne_iff_ne];omega
 have d3:¬ (n:Int)=m:=by omega
 go_enter a_,ZS
 go_wp2;go_ret;exact⟨rfl,Ext.refl _⟩
theorem zV (v1 v2:AM) (l1 l2:List Int) (w:AS) (h1:km aG w v1 l1) (h2:km aG w v2 l2) (hn:l1.length<=1000000): ah 33 #[v1,v2] w fun e w'=>e=A_ (Ly (l1==l2))/\Ext w w':=by
 by_cases hl:l1.length=l2.length
 ·rcases To l1.length with h0 | h0
  ·have e1:=Ft h0
   have e2:=Ft (hl▸h0);subst e1 e2;obtain⟨a1,c1,rfl⟩:=h1.form;obtain⟨a2,c2,rfl⟩:=h2.form;exact Sx a1 a2 c1 c2 w
  ·have g1:bw aG w v1 l1:=by
    rcases h1 with h | ⟨h,_⟩
    ·exact h
    ·rw[h]at h0;exact absurd h0 (by simp)
   have g2:bw aG w v2 l2:=by
    rcases h2 with h | ⟨h,_⟩
    ·exact h
    ·rw[h]at hl;simp at hl;rw[hl]at h0;exact absurd h0 (by simp)
   exact s6 v1 v2 l1 l2 w g1 g2 hn
 ·rw[Vx hl]
  obtain⟨a1,c1,rfl⟩:=h1.form;obtain⟨a2,c2,rfl⟩:=h2.form;exact Sy _ _ _ _ _ _ hl w
theorem acg (v1 v2:AM) (l1 l2:List (List Int)) (w:AS) (h1:abi w v1 l1) (h2:abi w v2 l2) (hn:l1.length<=1000000) (hs:∀ l∈l1,l.length<=1000000): ah 67 #[v1,v2,.func (.func 33) #[] #[]] w fun e w'=>e=A_ (Ly (l1==l2))/\aa w w':=by
 obtain⟨a1,c1,rfl⟩:=h1.form;obtain⟨a2,c2,rfl⟩:=h2.form;obtain⟨n,iV⟩:=ag l1.length;obtain⟨m,tX⟩:=ag l2.length;rw[<-iV]at h1 hn ⊢;rw[<-tX]at h2 ⊢;obtain⟨r,hr⟩:=ag ((l1==l2));rw[<-hr];have HN:=A' iV;have HM:=A' tX;have HR:=A' hr;have H1:=A' h1;have H2:=A' h2;have HS:=A' hs;have eg:=ael;clear h1 h2 iV tX hr hs;by_cases hnm:n=m
 ·subst hnm
  go_enter be,Z_
  go_wp2;go_loopw [17] (fun i wr=>∃ k:Nat,k<=n/\i=AT Bs k/\l1.take k=l2.take k/\aa w wr) (fun i _=>n-(intOf i).toNat);case atStart=>exact⟨0,by omega,rfl,rfl,K_ _ _⟩
  case round=>
   obtain⟨k,hk,rfl,ht,hx⟩:=hrel;obtain⟨wo,rfl⟩:=ag (wr:AS);have HX:=A' hx;have HT:=A' ht;by_cases hlt:k<n
   ·obtain⟨l,hl⟩:∃ l,l1[k]? =AI l:=⟨_,aB (by have:=HN.out;omega)⟩
    obtain⟨l',hl'⟩:∃ l,l2[k]? =AI l:=⟨_,aB (by have:=HM.out;omega)⟩;obtain⟨b,off,e1,k1,rfl,hb,x1,y1⟩:=(H1.below hx).elem hl;obtain⟨b',off',e2,k2,rfl,hb',x2,y2⟩:=(H2.below hx).elem hl';have ed:(k:Int)<n:=by omega
    obtain⟨q,hq⟩:=ag ((l==l'))
    have CE:M_ (ah 33 #[An e1 l.length k1,An e2 l'.length k2] wo fun e w'=>e=A_ (Ly q)/\Ext wo w'):=A' (by
     rw[hq];exact zV _ _ l l' wo y1 y2 (HS l (ax hl)))
    obtain⟨j,hj⟩:=ag l.length;obtain⟨j',hj'⟩:=ag l'.length;rw[<-hj]at x1 CE;rw[<-hj']at x2 CE;have HQ:=A' hq;have NL:=A' hl;have HYL:=A' hl';clear hl hl' y1 y2 hx hj hj' ht hq;go_wp2_with fail
    refine(CE).mono ?_;rintro e w2 ⟨rfl,hx⟩;have XX:=A' (HX.trans (hx.below.mono HX.size));clear hx x1 x2;cases q with
    | true=>
     go_wp2;go_roundw;case rel=>exact⟨k+1,by omega,by go_num,adZ HT NL (by rw[HYL.out,eq_of_beq HQ.symm]),XX⟩
     case measure=>simp[intOf];omega
    | false=>
     have hf:r=false:=by rw[HR.out];exact ae0 NL HYL (by intro e;have:=HQ.out;rw[e]at this;simp at this)
     go_wp2;go_ret;exact⟨by rw[hf];rfl,XX⟩
   ·obtain rfl:k=n:=by omega
    have hf:r=true:=by rw[HR.out,take_eq_all HN.out HM.out HT.out];simp
    clear hx ht;go_wp2;go_ret;exact⟨by rw[hf];rfl,HX⟩
 ·have hf:r=false:=by
   rw[HR.out];exact Vx (by have:=HN.out;have:=HM.out;omega)
  have d1:((n:Int)==m)=false:=by rw[beq_eq_false_iff_ne];omega
  have d2:((n:Int) != m)=true:=by rw[bne_iff_ne];omega
  have d3:¬ (n:Int)=m:=by omega
  go_enter be,Z_
  go_wp2;go_ret;exact⟨by rw[hf];rfl,K_ _ _⟩
def eqD (a b:DF):Bool:=a.cl==b.cl&&a.nx==b.nx&&a.mr==b.mr
theorem aeN {a b:DF} :eqD a b=By↔a=b:=by obtain⟨a0,a1,a2⟩:=a;obtain⟨b0,b1,b2⟩:=b;unfold eqD;simp[and_assoc]
theorem acY (v v':AM) (d x:DF) (w:AS) (h:VX w v d) (h':VX w v' x) (sm:Sm d): ah 17 #[v,v'] w fun e w'=>e=A_ (Ly (eqD d x))/\aa w w':=by
 obtain⟨v0,v1,v2,rfl,h0,h1,h2⟩:=h;obtain⟨a0,c0,rfl⟩:=h0.1.form;obtain⟨a1,c1,rfl⟩:=h1.form;obtain⟨a2,c2,rfl⟩:=h2.form;obtain⟨u0,u1,u2,rfl,g0,g1,g2⟩:=h';obtain⟨b0,e0,rfl⟩:=g0.1.form;obtain⟨b1,e1,rfl⟩:=g1.form;obtain⟨b2,e2,rfl⟩:=g2.form;have SM:=A' sm;have eg:=ael;have H0:=A' h0.1;have H1:=A' h1;have H2:=A' h2;have G0:=A' g0.1;have G1:=A' g1;have G2:=A' g2;clear h0 h1 h2 g0 g1 g2 sm;obtain⟨r,hr⟩:=ag (eqD d x);rw[<-hr];have HR:M_ (r=(d.cl==x.cl&&d.nx==x.nx&&d.mr==x.mr)):=A' hr;clear hr;generalize d.cl.length=n0 at*;generalize d.nx.length=n1 at*;generalize d.mr.length=n2 at*;generalize x.cl.length=m0 at*;generalize x.nx.length=m1 at*;generalize x.mr.length=m2 at*;go_enter Tryz.func17,Tryz.ntmps17;go_wp2_with fail
 refine aK ?_;intro V hV;have B3:M_ (ar V w.heap.size #[An a0 n0 c0,An a1 n1 c1,An a2 n2 c2] 29):=by rw[hV];exact(ar.new _ _ _).alloc _
 have B4:M_ (ar V (w.heap.size+1) #[An b0 m0 e0,An b1 m1 e1,An b2 m2 e2] 29):=by rw[hV];exact(ar.new (w.alloc _) _ _).at (by simp)
 have HX:M_ (aa w V):=by rw[hV];exact(((Ext.refl w).alloc _).alloc _).below
 clear hV;refine(G5 _ _ d.cl x.cl V (H0.below HX) (G0.below HX) SM.cl).mono ?_;rintro e w3 ⟨rfl,hx⟩;have X3:=A' (HX.trans (hx.below.mono HX.size));have D3:=A' (B3.ext hx);have D5:=A' (B4.ext hx);clear hx B3 B4 HX;obtain⟨⟨k0,k1,k2⟩,_⟩:=D3.three;obtain⟨⟨l0,l1,l2⟩,_⟩:=D5.three;obtain⟨q,hq⟩:=ag ((d.cl==x.cl));rw[<-hq]at HR ⊢;clear hq;cases q with
 | false=>
  go_wp2;go_ret;exact⟨by rw[HR.out];rfl,X3⟩
 | true=>
  go_wp2_with fail
  refine(acg _ _ d.nx x.nx _ (.inl (H1.below X3)) (.inl (G1.below X3)) SM.nx SM.xG).mono ?_;rintro e w4 ⟨rfl,hx⟩;have X4:=A' (X3.trans (hx.mono X3.size));have E3:=A' (D3.below hx D3.lt);have E5:=A' (D5.below hx D5.lt);clear hx k0 k1 k2 l0 l1 l2;obtain⟨⟨k0,k1,k2⟩,_⟩:=E3.three;obtain⟨⟨l0,l1,l2⟩,_⟩:=E5.three;obtain⟨q,hq⟩:=ag ((d.nx==x.nx));rw[<-hq]at HR ⊢;clear hq;cases q with
  | false=>
   go_wp2;go_ret;exact⟨by rw[HR.out];rfl,X4⟩
  | true=>
   go_wp2_with fail
   refine(acg _ _ d.mr x.mr _ (.inl (H2.below X4)) (.inl (G2.below X4)) SM.mr SM.Ug).mono ?_;rintro e w5 ⟨rfl,hx⟩;have X5:=A' (X4.trans (hx.mono X4.size));clear hx k0 k1 k2 l0 l1 l2;rw[show(d.mr==x.mr)=r from HR.symm];go_wp2;go_ret;exact⟨rfl,X5⟩
theorem eW {d:DF} (rt:Rt d) (v:AM) (W:AS) (h:bV W v d):ah 16 #[v] W fun e w'=>e=A_ (Ly By)/\aa W w':=by have:=r9 v d W h rt.Rh;rwa[(cX d).2 rt]at this
theorem eA {d:DF} (sm:Sm d) (hr:d.right=J') (v:AM) (W:AS) (h:bV W v d):ah 16 #[v] W fun e w'=>e=A_ (Ly J')/\aa W w':=by have:=r9 v d W h sm;rwa[hr]at this
theorem Nl {d:DF} (sm:Sm d) (hr:d.right=J') (w:AS) (v:AM) (h:bV w v d): ah 12 #[v] w fun e w'=>e=A_ (Lw #[P_ #[An AN 0 0,An AN 0 0,An AN 0 0],AT Bs 182])/\aa w w':=by
 have CR:M_ (∀ W,aa w W->ah 16 #[v] W fun e w'=>e=A_ (Ly J')/\aa W w'):=A' fun W hW=>eA sm hr v W (h.below hW)
 obtain⟨n0,bX⟩:=ag d.cl.length;obtain⟨n1,cM⟩:=ag d.nx.length;obtain⟨n2,dP⟩:=ag d.mr.length;obtain⟨a0,c0,a1,c1,a2,c2,rfl⟩:=h.form;rw[<-bX, <-cM, <-dP]at h CR ⊢;have H:=A' h;have gS:=A' cM;clear h bX cM dP;go_enter b_,Z';go_upto_region 1 with fail
 refine aw ?_;intro V hV;have B0:M_ (ar V w.heap.size #[An a0 n0 c0,An a1 n1 c1,An a2 n2 c2] 29):=A' (by rw[hV];exact(ar.new w _ _).alloc _);have R0:M_ (ar V (w.heap.size+1) #[An AN 0 0,An AN 0 0,An AN 0 0] 29):=A' (by rw[hV];exact(ar.new (w.alloc _) _ _).at (by simp));have X0:M_ (aa w V):=A' (by rw[hV];exact(((Ext.refl w).alloc _).alloc _).below);clear hV;obtain⟨p0,p1,p2⟩:=aM.fj B0;go_wp2_with fail
 refine(CR V X0).mono ?_;rintro e w1 ⟨rfl,hx⟩;have B1:=A' (B0.below hx B0.lt);have R1:=A' (R0.below hx R0.lt);have hV1:w.heap.size+1<V.heap.size:=R0.lt;have hW1:V.heap.size<=w1.heap.size:=hx.size;have X1:=A' (X0.trans (hx.mono X0.size));clear hx p0 p1 p2 B0 X0 CR R0;obtain⟨⟨l0,l1,l2⟩,z0,z1,z2⟩:=R1.three;go_wp2;refine aQ ?_;intro W9 dG;have E9:M_ (ar W9 (w.heap.size+1) #[An AN 0 0,An AN 0 0,An AN 0 0] 29/\ae (· ≠w.heap.size+1) w1 W9):=by rw[dG];exact A' ⟨R1.mG,cY _ _ _ _ _⟩
 clear dG z0 z1 z2 l0 l1 l2;obtain⟨m0,m1,m2⟩:=aM.fj E9.1;refine H_ (v:=Lw #[P_ #[An AN 0 0,An AN 0 0,An AN 0 0],AT Bs 182]) (by simp[results,Zj,go_sem,m0,m1,m2]) rfl ⟨rfl,X1.trans (E9.2.mono fun x (hx:x<w.heap.size)=>by show x≠w.heap.size+1;omega:ae (· <w.heap.size) w1 W9).below⟩
theorem Nn {d:DF} (rt:Rt d) {k0 k1 k2:Nat} (rS:k0=(dJ d).cl.length) (mj:k1=(dJ d).nx.length) (hk2:k2=(dJ d).mr.length) (w:AS) (v:AM) (h:bV w v d): ah 12 #[v] w (rD k0 k1 k2 0 (dJ d) w):=by
 have CR:M_ (∀ W,aa w W->ah 16 #[v] W fun e w'=>e=A_ (Ly By)/\aa W w'):=A' fun W hW=>eW rt v W (h.below hW)
 have CL:M_ (∀ W,aa w W->ah 62 #[v] W (zT k0 k1 k2 (dJ d) W)):=A' fun W hW=>xj rt rS mj hk2 W v (h.below hW)
 obtain⟨n0,bX⟩:=ag d.cl.length;obtain⟨n1,cM⟩:=ag d.nx.length;obtain⟨n2,dP⟩:=ag d.mr.length;obtain⟨a0,c0,a1,c1,a2,c2,rfl⟩:=h.form;rw[<-bX, <-cM, <-dP]at h CR CL ⊢;have H:=A' h;have gS:=A' cM;clear h bX cM dP rS mj hk2;go_enter b_,Z';go_upto_region 1 with fail
 refine aw ?_;intro V hV;have B0:M_ (ar V w.heap.size #[An a0 n0 c0,An a1 n1 c1,An a2 n2 c2] 29):=A' (by rw[hV];exact(ar.new w _ _).alloc _);have R0:M_ (ar V (w.heap.size+1) #[An AN 0 0,An AN 0 0,An AN 0 0] 29):=A' (by rw[hV];exact(ar.new (w.alloc _) _ _).at (by simp));have X0:M_ (aa w V):=A' (by rw[hV];exact(((Ext.refl w).alloc _).alloc _).below);clear hV;obtain⟨p0,p1,p2⟩:=aM.fj B0;go_wp2_with fail
 refine(CR V X0).mono ?_;rintro e w1 ⟨rfl,hx⟩;have B1:=A' (B0.below hx B0.lt);have R1:=A' (R0.below hx R0.lt);have hV1:w.heap.size+1<V.heap.size:=R0.lt;have hW1:V.heap.size<=w1.heap.size:=hx.size;have X1:=A' (X0.trans (hx.mono X0.size));clear hx p0 p1 p2 B0 X0 CR R0;obtain⟨p0,p1,p2⟩:=aM.fj B1;go_wp2_with fail
 refine(CL w1 X1).mono ?_;rintro e w2 ⟨x0,y0,x1,y1,x2,y2,rfl,ho,hx⟩;have O2:=A' ho;have R2:=A' (R1.below hx R1.lt);have X2:=A' (X1.trans (hx.mono X1.size));clear ho hx p0 p1 p2 B1 R1 X1 CL;obtain⟨⟨l0,l1,l2⟩,z0,z1,z2⟩:=R2.three;go_wp2;refine aQ ?_;intro W9 dG;have E9:M_ (ar W9 (w.heap.size+1) #[An x0 k0 y0,An x1 k1 y1,An x2 k2 y2] 29/\ae (· ≠w.heap.size+1) w2 W9):=by
  rw[dG];exact A' ⟨R2.mG,cY _ _ _ _ _⟩
 clear dG z0 z1 z2 l0 l1 l2;obtain⟨m0,m1,m2⟩:=aM.fj E9.1;refine H_ (v:=Lw #[P_ #[An x0 k0 y0,An x1 k1 y1,An x2 k2 y2],AT Bs 0]) (by simp[results,Zj,go_sem,m0,m1,m2]) rfl ⟨x0,y0,x1,y1,x2,y2,rfl,(O2.keeps E9.2 fun x h1 _=>by show x≠_;omega).base (by omega),X2.trans (E9.2.mono fun x (hx:x<w.heap.size)=>by show x≠w.heap.size+1;omega:ae (· <w.heap.size) w2 W9).below⟩
theorem SF {d:DF} (rt:Rt d) {k0 k1 k2:Nat} (rS:k0=(dJ d).cl.length) (mj:k1=(dJ d).nx.length) (hk2:k2=(dJ d).mr.length) (w:AS) (v:AM) (h:bV w v d): ah 14 #[v] w fun e w'=>e=A_ (Lw #[AT Bs k1,AT Bs k0,AT Bs 0])/\aa w w':=by
 have CR:M_ (∀ W,aa w W->ah 16 #[v] W fun e w'=>e=A_ (Ly By)/\aa W w'):=A' fun W hW=>eW rt v W (h.below hW)
 have CL:M_ (∀ W,aa w W->ah 62 #[v] W (zT k0 k1 k2 (dJ d) W)):=A' fun W hW=>xj rt rS mj hk2 W v (h.below hW)
 obtain⟨n0,bX⟩:=ag d.cl.length;obtain⟨n1,cM⟩:=ag d.nx.length;obtain⟨n2,dP⟩:=ag d.mr.length;obtain⟨a0,c0,a1,c1,a2,c2,rfl⟩:=h.form;rw[<-bX, <-cM, <-dP]at h CR CL ⊢;have H:=A' h;have gS:=A' cM;clear h bX cM dP rS mj hk2;go_enter Tryz.func14,Tryz.ntmps14;go_upto_region 1 with fail
 refine aw ?_;intro V hV;have B0:M_ (ar V w.heap.size #[An a0 n0 c0,An a1 n1 c1,An a2 n2 c2] 29):=A' (by rw[hV];exact ar.new w _ _);have X0:M_ (aa w V):=A' (by rw[hV];exact((Ext.refl w).alloc _).below);clear hV;obtain⟨p0,p1,p2⟩:=aM.fj B0;go_wp2_with fail
 refine(CR V X0).mono ?_;rintro e w1 ⟨rfl,hx⟩;have B1:=A' (B0.below hx B0.lt);have X1:=A' (X0.trans (hx.mono X0.size));clear hx p0 p1 p2 B0 X0 CR;obtain⟨⟨p0,p1,p2⟩,z0,z1,z2⟩:=B1.three;go_wp2_with fail
 refine(CL w1 X1).mono ?_;rintro e w2 ⟨x0,y0,x1,y1,x2,y2,rfl,ho,hx⟩;have B2:=A' (B1.below hx B1.lt);have X2:=A' (X1.trans (hx.mono X1.size));clear ho hx p0 p1 p2 z0 z1 z2 B1 X1 CL;obtain⟨⟨p0,p1,p2⟩,z0,z1,z2⟩:=B2.three;go_upto_region 4 with fail
 refine aw ?_;intro V3 hV;have KV:M_ (ae (· ≠w.heap.size) w2 V3):=A' (by rw[hV];exact cY _ _ _ _ _);have B3:M_ (ar V3 w.heap.size #[An x0 k0 y0,An x1 k1 y1,An x2 k2 y2] 29):=A' (by rw[hV];exact B2.mG);clear hV p0 p1 p2 z0 z1 z2;have X3:M_ (aa w V3):=A' (X2.trans (KV.mono fun x (hx:x<w.heap.size)=>by show x≠w.heap.size;omega:ae (· <w.heap.size) w2 V3).below);obtain⟨p0,p1,p2⟩:=aM.fj B3
 go_quiet (fail)
 go_wp2;exact H_ (v:=Lw #[AT Bs k1,AT Bs k0,AT Bs 0]) (by simp[results,Tryz.results14,go_sem]) rfl ⟨rfl,((ae.aj X3 fun _ h=>h:ae (· <w.heap.size) w V3).drewN _).below⟩
theorem xp {d:DF} (rt:Rt d) (w:AS) (v:AM) (h:bV w v d): ah 36 #[v] w fun e w'=>∃ a c,e=A_ (Lw #[An a d.nx.length c,AT Bs 0])/\w'.ownsRow w.heap.size 3 1 (An a d.nx.length c) d.nx.length ((Cd d.nx.length).map fun s=>cK (fS d s))/\aa w w':=by
 have CR:M_ (∀ W,aa w W->ah 16 #[v] W fun e w'=>e=A_ (Ly By)/\aa W w'):=A' fun W hW=>eW rt v W (h.below hW)
 have CL:M_ (∀ W,aa w W->ah 79 #[v] W fun e w'=>∃ u,e=A_ u/\w'.ownsRow W.heap.size 3 1 u d.nx.length ((Cd d.nx.length).map fun s=>cK (fS d s))/\aa W w'):=A' fun W hW=>xd v d rt W (h.below hW)
 obtain⟨n0,bX⟩:=ag d.cl.length;obtain⟨n1,cM⟩:=ag d.nx.length;obtain⟨n2,dP⟩:=ag d.mr.length;obtain⟨a0,c0,a1,c1,a2,c2,rfl⟩:=h.form;rw[<-bX, <-cM, <-dP]at h CR CL ⊢;have H:=A' h;have gS:=A' cM;obtain⟨R,hR⟩:=ag ((Cd n1).map fun s=>cK (fS d s));rw[<-hR]at CL ⊢;clear h bX cM dP hR;go_enter Tryz.func36,Tryz.ntmps36;go_upto_region 1 with fail
 refine aw ?_;intro V hV;have B0:M_ (ar V w.heap.size #[An a0 n0 c0,An a1 n1 c1,An a2 n2 c2] 29):=A' (by rw[hV];exact ar.new w _ _);have X0:M_ (aa w V):=A' (by rw[hV];exact((Ext.refl w).alloc _).below);clear hV;obtain⟨p0,p1,p2⟩:=aM.fj B0;go_wp2_with fail
 refine(CR V X0).mono ?_;rintro e w1 ⟨rfl,hx⟩;have B1:=A' (B0.below hx B0.lt);have X1:=A' (X0.trans (hx.mono X0.size));clear hx p0 p1 p2 B0 X0 CR;obtain⟨p0,p1,p2⟩:=aM.fj B1;go_wp2_with fail
 refine(CL w1 X1).mono ?_;rintro e w2 ⟨u,rfl,ho,hx⟩;obtain⟨ua,uc,rfl⟩:=ownsRow_form ho;have O2:=A' (aC ho X1.size);have X2:=A' (X1.trans (hx.mono X1.size));clear ho hx p0 p1 p2 B1 X1 CL;go_wp2;exact H_ (v:=Lw #[An ua n1 uc,AT Bs 0]) (by simp[results,Tryz.results36,go_sem]) rfl ⟨ua,uc,rfl,O2,X2⟩
open Go.ChangeMaps (setBlock heap_setBlock_same)
def oT:Nat->List (AM×AM)->List MapEntry
 | _,[]=>[]
 | n,p::l=>⟨p.1,p.2,n⟩::oT (n+1) l
theorem nQ:∀ (l:List (AM×AM)) (n i:Nat),(oT n l)[i]? =(l[i]?).map fun p=>⟨p.1,p.2,n+i⟩
 | [],_,_=>by simp[oT]
 | p::l,n,0=>by simp[oT]
 | p::l,n,i+1=>by
  simp only[oT,Is,nQ l];rw[show n+1+i=n+(i+1) by omega]
theorem tR:∀ (l:List (AM×AM)) (n:Nat) (q:AM×AM),oT n (l++ [q])=oT n l++ [⟨q.1,q.2,n+l.length⟩]
 | [],n,q=>by simp[oT]
 | p::l,n,q=>by
  simp only[Wg,oT,tR l,OR];rw[show n+1+l.length=n+(l.length+1) by omega]
def qq (w:AS) (b:Nat) (l:List (AM×AM)):Prop:=w.heap[b]? =AI (.map (oT 0 l).toArray l.length)
theorem qq.keeps {w w':AS} {b:Nat} {l:List (AM×AM)} (h:qq w b l) {R:Nat->Prop} (hk:ae R w w') (hb:R b):qq w' b l:=(hk.keep b hb).trans h
theorem qq.lt {w:AS} {b:Nat} {l:List (AM×AM)} (h:qq w b l):b<w.heap.size:=(DS.1 h).1
theorem qq.below {w w':AS} {b:Nat} {l:List (AM×AM)} (h:qq w b l) (hk:aa w w'):qq w' b l:=(hk.block b h.lt).trans h
theorem FH {kt:If} {l:List (AM×AM)} (hl:∀ p∈l,∃ k,keyOf As kt p.1=AI k):∀ e∈oT 0 l,∃ k,keyOf As kt e.key=AI k:=fun e he=>by
 obtain⟨i,hi⟩:=GS.1 he;rw[nQ]at hi;obtain⟨p,hp,rfl⟩:=B'.1 hi;exact hl p (ax hp)
theorem Ks {mt kt vt:If} (K:Keyed As kt) (hu:As.underlying mt=AI (.map kt vt)) {w:AS} {z:AM} (hz:(zeroValue vt).run As w=.ok z w) {b:Nat} {l:List (AM×AM)} (h:qq w b l) (hl:∀ p∈l,∃ k,keyOf As kt p.1=AI k) (q:AM) (hq:∃ k,keyOf As kt q=AI k): ((∀ p∈l,p.1≠q)/\(C_ mt (.map (AI b)) q By).run As w=.ok (Lw #[z,Ly J']) w/\(C_ mt (.map (AI b)) q J').run As w=.ok z w)\/ (∃ (i:Nat) (v:AM),l[i]? =AI (q,v)/\(C_ mt (.map (AI b)) q By).run As w=.ok (Lw #[v,Ly By]) w/\(C_ mt (.map (AI b)) q J').run As w=.ok v w):=by
 obtain⟨kl,hk⟩:=hq;have hb:w.heap[b]? =AI (.map (oT 0 l).toArray l.length):=h;rcases K.find w hk (oT 0 l) (FH hl)with⟨f1,f2⟩ | ⟨j,e0,f1,f2,f3⟩
 ·refine .inl ⟨fun p hp e=>?_,?_,?_⟩
  ·obtain⟨i,hi⟩:=GS.1 hp
   have:=nQ l 0 i;rw[hi]at this;exact f2 _ (ax this) e
  ·simp[C_,Iv hu,DE hb,K.check w _ hk,f1,hz,IF]
  ·simp[C_,Iv hu,DE hb,K.check w _ hk,f1,hz,IF]
 ·rw[nQ]at f2
  obtain⟨p,hp,rfl⟩:=B'.1 f2;obtain⟨p1,p2⟩:=p;cases f3;refine .inr ⟨j,p2,hp,?_,?_⟩
  ·simp[C_,Iv hu,DE hb,K.check w _ hk,f1,IF]
  ·simp[C_,Iv hu,DE hb,K.check w _ hk,f1,IF]
theorem SH {mt kt vt:If} (K:Keyed As kt) (hu:As.underlying mt=AI (.map kt vt)) {w:AS} {b:Nat} {l:List (AM×AM)} (h:qq w b l) (hl:∀ p∈l,∃ k,keyOf As kt p.1=AI k) (q:AM) (hq:∃ k,keyOf As kt q=AI k) (hno:∀ p∈l,p.1≠q) (v:AM): ∃ w',(Zh mt (.map (AI b)) q v).run As w=.ok () w'/\qq w' b (l++ [(q,v)])/\ae (· ≠b) w w'/\w'.heap.size=w.heap.size:=by
 obtain⟨kl,hk⟩:=hq;have hb:w.heap[b]? =AI (.map (oT 0 l).toArray l.length):=h;rcases K.find w hk (oT 0 l) (FH hl)with⟨f1,f2⟩ | ⟨j,e0,f1,f2,f3⟩
 ·refine⟨setBlock w b (.map (oT 0 (l++ [(q,v)])).toArray (l++ [(q,v)]).length),?_,heap_setBlock_same hb _,⟨rfl,rfl,rfl,by simp[setBlock],fun i hi=>by show(w.heap.setIfInBounds b _)[i]? =_;exact Array.getElem?_setIfInBounds_ne (Ne.symm hi)⟩,by simp[setBlock]⟩
  rw[tR];simp[Zh,Iv hu,DE hb,K.check w J' hk,f1,MapKept.run_setObj_map _ hb,IF,setBlock]
 ·rw[nQ]at f2
  obtain⟨p,hp,rfl⟩:=B'.1 f2;exact absurd f3 (hno p (ax hp))
end
section
open Go Go.RowKit Go.Shelf Go.Maps
theorem Tryz.adT:(133:If)<As.types.size:=of_decide_eq_true (by kernel_rfl)
theorem Tryz.aai:(match As.underlying 133 with | some (.array _ _) | some (.struct _)=>By | _=>J')=true:=by kernel_rfl
theorem Tryz.uI:Keyed As 133:=Keyed.of_law (deep_law_laid Tryz.laidOut (m:=2) (by omega) Tryz.adT (by kernel_rfl) Tryz.aai)
theorem Tryz.Nr:As.keyType 133=true:=by kernel_rfl
theorem Tryz.Kt:As.cellsOf 133=2:=by kernel_rfl
theorem FJ (p:Nat×Nat) (h1:p.1<=4000) (h2:p.2<=4000):∃ l,keyOf As 133 (ei p)=AI l:=by
 obtain⟨n,hn⟩:=Tryz.Pr;have hf:(ei p).formed As 133=true:=by simp[ei,Value.formed,Lo,Tryz.Kt]
 unfold keyOf;rw[Lo];simp only[Tryz.Nr,hf,Bool.and_self,if_true];have hk:∃ ls,As.keyLits (As.types.size+1) 133 (ei p).cells.toList=AI ls:=by
  rw[hn];unfold Program.keyLits;rw[Lo];simp[ei,X_,Tryz.Kt,Tryz.Pq,Yk,h1,h2]
 obtain⟨ls,h⟩:=hk;rw[h];exact⟨_,rfl⟩
def xr (n0 K:Nat) (L1:List AM) (c:AM):Nat->AM->AS->Prop
 | 0,v,W=>W.ownsRow n0 5 1 v K L1
 | 1,v,W=>W.ownsRow n0 5 1 v (K+1) (L1++ [c])
 | 2,v,W=>∀ b,v=An (AI ⟨b,0,AN⟩) 1 1->ar W b #[c] 5
 | _,_,_=>True
theorem oJ (n0 K:Nat) (L1:List AM) (c:AM):∀ i v A B,aa A B->xr n0 K L1 c i v A->xr n0 K L1 c i v B
 | 0,_,_,_,hb,h=>ai (show Zl _ _ _ _ _ _ _ from h) hb
 | 1,_,_,_,hb,h=>ai (show Zl _ _ _ _ _ _ _ from h) hb
 | 2,_,_,_,hb,h=>fun b e=>(h b e).below hb (h b e).lt
 | _+3,_,_,_,_,_=>trivial
theorem Ce {n0 K g cap:Nat} {L1:List AM} {c:AM} {W W':AS} (ho:W.ownsRow n0 5 1 (An (AI ⟨g,0,AN⟩) K cap) K L1) (mL:W'.ownsRow n0 5 1 (An (AI ⟨g,0,AN⟩) (K+1) cap) (K+1) (L1++ [c])) (hg:W.grownBy W' (AI g)):∀ i v,xr n0 K L1 c i v W->xr n0 K L1 c i v W'
 | 0,v,h=>by
  have:=lJ (Kb:=1) (L2:=[c]) (by decide) ho mL hg 0 v h;exact this
 | 1,v,h=>by
  have:=lJ (Kb:=1) (L2:=[c]) (by decide) ho mL hg 1 v h;exact this
 | 2,v,h=>fun b e=>by
  have hb:=h b e;by_cases e2:b=g
  ·subst e2
   rcases ho.2 with⟨h1,_⟩ | ⟨g1,c1,Yd,h1,_,f1,_,_,s1,_⟩
   ·cases h1
   ·cases h1
    rcases mL.2 with⟨h2,_⟩ | ⟨g2,c2,Lm,h2,_,f2,k2,_,s2,t2⟩
    ·cases h2
    ·cases h2
     unfold ar at hb;rw[hb]at f1;cases f1;have hc1:cap=1:=by simpa using s1.symm
     subst hc1;have hK:K=0:=by omega
     subst hK;have hL:L1=[]:=Ft (by have:=ho.1;omega);subst hL;have e3:Lm= #[c]:=by
      apply Array.toList_inj.1;have e4:Lm.toList.length=1:=by rw[J_];omega
      have t3:Lm.toList.take 1=[c]:=by simpa using t2
      rw[FF (by omega)]at t3;exact t3
     unfold ar;rw[f2,e3]
  ·unfold ar
   rw[hg.block b hb.lt (fun e3=>e2 (by cases e3;rfl))];exact hb
 | _+3,_,_=>trivial
theorem Jd {a b:DF} (ra:Rt a) (rb:Rt b) (s t c:Nat) (hs:s<a.nx.length) (ht:t<b.nx.length) (hc:c<256) (ab xb bb yb xa ya base base':Nat) (va vb:AM) (W:AS) (h1:W.cell? ⟨ab,1,AN⟩=AI va) (h2:fy W va a.nx) (h3:W.cell? ⟨bb,1,AN⟩=AI vb) (h4:fy W vb b.nx) (h5:W.cell? ⟨xb,0,AN⟩=AI (D0 (AI ⟨xa,0,AN⟩))) (h6:cQ W base (D0 (AI ⟨xa,0,AN⟩)) a.cl) (h7:W.cell? ⟨yb,0,AN⟩=AI (D0 (AI ⟨ya,0,AN⟩))) (h8:cQ W base' (D0 (AI ⟨ya,0,AN⟩)) b.cl): ah 122 #[P_ #[AT Bs s,AT Bs t],AT .u8 c,D0 (AI ⟨ab,0,AN⟩),D0 (AI ⟨xb,0,AN⟩),D0 (AI ⟨bb,0,AN⟩),D0 (AI ⟨yb,0,AN⟩)] W fun e w'=>e=A_ (P_ #[AT Bs (eH a s (cls a.cl c):Nat),AT Bs (eH b t (cls b.cl c):Nat)])/\aa W w':=by
 have hka:cls a.cl c<a.cl.length:=ra.part.ft hc;have hkb:cls b.cl c<b.cl.length:=rb.part.ft hc;obtain⟨e1,e2⟩:=nP ra hs hka;obtain⟨e3,e4⟩:=nP rb ht hkb;obtain⟨a1,c1,rfl⟩:=h2.form;obtain⟨b1,d1,rfl⟩:=h4.form;obtain⟨g1,o1,ad1,cp1,rfl,hg1,hc1,yE⟩:=h2.elem (i:=s) (l:=a.nx.getD s []) (bn [] hs);obtain⟨g2,o2,Tw,Tx,rfl,hg2,hc2,hl2⟩:=h4.elem (i:=t) (l:=b.nx.getD t []) (bn [] ht);obtain⟨g3,o3,rfl,hg3,hc3⟩:=yE.elem e2;obtain⟨g4,o4,rfl,hg4,N8⟩:=hl2.elem e4;rw[ra.len s hs]at hc1;rw[rb.len t ht]at hc2;obtain⟨k,hk⟩:=ag (cls a.cl c);obtain⟨l,hl⟩:=ag (cls b.cl c);obtain⟨x,hx⟩:=ag (eH a s (cls a.cl c));obtain⟨y,hy⟩:=ag (eH b t (cls b.cl c));obtain⟨n0,bX⟩:=ag a.cl.length;obtain⟨n1,cM⟩:=ag a.nx.length;obtain⟨m0,nZ⟩:=ag b.cl.length;obtain⟨m1,lA⟩:=ag b.nx.length;replace hc3:W.cell? ⟨g3,o3+cls a.cl c,AN⟩=AI (AT Bs (eH a s (cls a.cl c):Nat)):=hc3;replace N8:W.cell? ⟨g4,o4+cls b.cl c,AN⟩=AI (AT Bs (eH b t (cls b.cl c):Nat)):=N8;rw[<-hx, <-hk]at hc3;rw[<-hy, <-hl]at N8;rw[<-hx, <-hy];rw[<-bX]at hc1 hka;rw[<-nZ]at hc2 hkb;rw[<-cM]at h1 hs;rw[<-lA]at h3 ht;rw[<-hk]at hka;rw[<-hl]at hkb;have CA:M_ (∀ W',aa W W'->ah 123 #[D0 (AI ⟨xa,0,AN⟩),AT .u8 c] W' fun e w'=>e=A_ (AT Bs k)/\w'=W'):=A' fun W' hW=>by rw[hk];exact yP _ base a.cl c hc W' (h6.below hW)
 have CB:M_ (∀ W',aa W W'->ah 123 #[D0 (AI ⟨ya,0,AN⟩),AT .u8 c] W' fun e w'=>e=A_ (AT Bs l)/\w'=W'):=A' fun W' hW=>by rw[hl];exact yP _ base' b.cl c hc W' (h8.below hW)
 have Gi:(s:Int)<n1:=by omega
 have hti:(t:Int)<m1:=by omega
 have ed:(k:Int)<n0:=by omega
 have hli:(l:Int)<m0:=by omega
 have l1:ab<W.heap.size:=E_ _ _ h1;have l3:bb<W.heap.size:=E_ _ _ h3;have l5:xb<W.heap.size:=E_ _ _ h5;have l7:yb<W.heap.size:=E_ _ _ h7;clear h2 h4 h6 h8 e1 e2 e3 e4 yE hl2 hk hl hx hy bX cM nZ lA ra rb;go_enter Tryz.func122,Tryz.ntmps122;go_upto_region 1 with fail
 refine aw ?_;intro V hV;have P0:M_ (ar V W.heap.size #[AT Bs s,AT Bs t] 133):=A' (by rw[hV];exact(ar.new W _ _).alloc _);have R0:M_ (ar V (W.heap.size+1) #[AT Bs 0,AT Bs 0] 133):=A' (by rw[hV];exact(ar.new (W.alloc _) _ _).at (by simp));have X0:M_ (aa W V):=A' (by rw[hV];exact(((Ext.refl W).alloc _).alloc _).below);clear hV;have tI:∀ b o u,b<W.heap.size->W.cell? ⟨b,o,AN⟩=AI u->V.cell? ⟨b,o,AN⟩=AI u:=fun b o u hb h=>((ae.aj X0 fun _ h=>h:ae (· <W.heap.size) W V).cell (p:=⟨b,o,AN⟩) hb).trans h
 have hWV:W.heap.size<=V.heap.size:=X0.size;replace h1:=tI _ _ _ l1 h1;replace h3:=tI _ _ _ l3 h3;replace h5:=tI _ _ _ l5 h5;replace h7:=tI _ _ _ l7 h7;replace hc1:=tI _ _ _ hg1 hc1;replace hc2:=tI _ _ _ hg2 hc2;replace hc3:=tI _ _ _ hg3 hc3;replace N8:=tI _ _ _ hg4 N8;have p0:V.cell? ⟨W.heap.size,0,AN⟩=AI (AT Bs s):=P0.cell 0;have p1:V.cell? ⟨W.heap.size,1,AN⟩=AI (AT Bs t):=P0.cell 1;clear tI;refine aI J' (fun _=>False) (by kernel_rfl) 22 [0,1,0,4,15,31,0,0,192,511,1023,0,2048,0,8192,30720,63488,0,0,393664,1046976,2095552,4194303,8388607] (fun i=>i==8 || i==19) (by kernel_rfl) (fun i=>if i=8 then aU.Cm _ (AT Bs k)else if i=19 then aU.Cm _ (AT Bs l)else aU.any _) ?_;intro C hC hne;have HC:=A' hC;have f1:=aD hC (p:=⟨ab,1,AN⟩) (by show ab<V.heap.size;omega) (fun h=>h) h1;have f2:=aD hC (p:=⟨g1,o1+s,AN⟩) (by show g1<V.heap.size;omega) (fun h=>h) hc1;have f3:=aD hC (p:=⟨g3,o3+k,AN⟩) (by show g3<V.heap.size;omega) (fun h=>h) hc3;have f4:=aD hC (p:=⟨bb,1,AN⟩) (by show bb<V.heap.size;omega) (fun h=>h) h3;have f5:=aD hC (p:=⟨g2,o2+t,AN⟩) (by show g2<V.heap.size;omega) (fun h=>h) hc2;have f6:=aD hC (p:=⟨g4,o4+l,AN⟩) (by show g4<V.heap.size;omega) (fun h=>h) N8;have f7:=aD hC (p:=⟨xb,0,AN⟩) (by show xb<V.heap.size;omega) (fun h=>h) h5;have f8:=aD hC (p:=⟨yb,0,AN⟩) (by show yb<V.heap.size;omega) (fun h=>h) h7;have f9:=aD hC (p:=⟨W.heap.size,0,AN⟩) P0.lt (fun h=>h) p0;have f10:=aD hC (p:=⟨W.heap.size,1,AN⟩) P0.lt (fun h=>h) p1;clear hC h1 h3 h5 h7 hc1 hc2 hc3 N8 p0 p1
 repeat (refine au (fun K hK=>?_);first | (refine bL rfl ?_;try go_simp;refine hK _ _ ?_;clear hK K) | (refine bJ rfl rfl ?_;unfold az;go_simp;refine hK _ _ ?_;clear hK K))
 refine au (fun K hK=>?_);refine bS rfl rfl (aU.Cm _ (AT Bs k)) rfl (fun W hW hN=>?_) (fun v hv=>?_)
 ·have hM:=(HC.out W).1 hW
  clear hW;go_simp;refine bA ((CA W (X0.trans (hM.below.mono hWV))).mono ?_);rintro e w2 ⟨rfl,rfl⟩;exact⟨_,rfl,Move.aj (K_ _ _),rfl,trivial⟩
 replace hv:v=_:=hv;subst hv;go_simp;refine hK _ _ ?_;clear hK K
 repeat (refine au (fun K hK=>?_);first | (refine bL rfl ?_;try go_simp;refine hK _ _ ?_;clear hK K) | (refine bJ rfl rfl ?_;unfold az;go_simp;refine hK _ _ ?_;clear hK K))
 refine au (fun K hK=>?_);refine bS rfl rfl (aU.Cm _ (AT Bs l)) rfl (fun W hW hN=>?_) (fun v hv=>?_)
 ·have hM:=(HC.out W).1 hW
  clear hW;go_simp;refine bA ((CB W (X0.trans (hM.below.mono hWV))).mono ?_);rintro e w2 ⟨rfl,rfl⟩;exact⟨_,rfl,Move.aj (K_ _ _),rfl,trivial⟩
 replace hv:v=_:=hv;subst hv;go_simp;refine hK _ _ ?_;clear hK K
 repeat (refine au (fun K hK=>?_);first | (refine bL rfl ?_;try go_simp;refine hK _ _ ?_;clear hK K) | (refine bJ rfl rfl ?_;unfold az;go_simp;refine hK _ _ ?_;clear hK K))
 refine bC (fun W2 hW hH=>?_);have hM:=(HC.out W2).1 hW;have R2:=A' (R0.below hM.below R0.lt);have X2:=A' (X0.trans (hM.below.mono hWV));clear hM hW hH HC hne f1 f2 f3 f4 f5 f6 f7 f8 f9 f10;have r0:=R2.cell 0;have r1:=R2.cell 1;have z0:=R2.frozen 0;have z1:=R2.frozen 1;simp only[R_,O',Is]at r0 r1;go_wp2;refine aQ ?_;intro W9 dG;have E9:M_ (ar W9 (W.heap.size+1) #[AT Bs x,AT Bs y] 133/\ae (· ≠W.heap.size+1) W2 W9):=by
  rw[dG];exact A' ⟨(R2.set 0 _).set 1 _,((ae.refl _ _).setCell (p:=⟨W.heap.size+1,0,AN⟩) (fun h=>h rfl) _).setCell (p:=⟨W.heap.size+1,1,AN⟩) (fun h=>h rfl) _⟩
 clear dG r0 r1 z0 z1;have q0:=E9.1.cell 0;have q1:=E9.1.cell 1;simp only[R_,O',Is]at q0 q1;refine H_ (v:=P_ #[AT Bs x,AT Bs y]) (by simp[results,Tryz.results122,go_sem,q0,q1]) rfl ⟨rfl,X2.trans (E9.2.mono fun z (hz:z<W.heap.size)=>by show z≠W.heap.size+1;omega:ae (· <W.heap.size) W2 W9).below⟩
structure yx (W:AS) (base mp:Nat) (E:List ((Nat×Nat)×List Nat)) (es:List (AM×AM)):Prop where
 len:es.length=E.length
 map:qq W mp es
 WY:∀ (i:Nat) (x:(Nat×Nat)×List Nat),E[i]? =AI x->∃ v,es[i]? =AI (ei x.1,v)/\W.ownsRow base 5 1 v x.2.length (x.2.map en)
theorem yx.below {W W':AS} {base mp:Nat} {E:List ((Nat×Nat)×List Nat)} {es:List (AM×AM)} (h:yx W base mp E es) (hk:aa W W'):yx W' base mp E es:=
 ⟨h.len,h.map.below hk,fun i x hx=>by
  obtain⟨v,h1,h2⟩:=h.WY i x hx
  exact⟨v,h1,ai h2 hk⟩⟩
theorem yx.kept {W W':AS} {base mp b2 n size:Nat} {e:If} {v:AM} {xs:List AM} {E:List ((Nat×Nat)×List Nat)} {es:List (AM×AM)} (h:yx W base mp E es) (ho:W.ownsRow b2 e size v n xs) (he:5≠e) (hg:W.grownBy W' v.ownBlock):yx W' base mp E es:=
 ⟨h.len,(hg.block mp h.map.lt (fun e2=>lS ho h.map (fun c fz e=>by cases e) mp e2.symm rfl)).trans h.map,fun i x hx=>by
  obtain⟨v,h1,h2⟩:=h.WY i x hx
  exact⟨v,h1,h2.kept hg (ownBlock_ne he h2 ho)⟩⟩
theorem yx.put {W W':AS} {base mp:Nat} {E:List ((Nat×Nat)×List Nat)} {es:List (AM×AM)} {q:Nat×Nat} {wd:List Nat} {v:AM} (h:yx W base mp E es) (hv:W.ownsRow base 5 1 v wd.length (wd.map en)) (hm:qq W' mp (es++ [(ei q,v)])) (hk:ae (· ≠mp) W W'):yx W' base mp (E++ [(q,wd)]) (es++ [(ei q,v)]):=by
 have hrow:∀ (u:AM) (n:Nat) (xs:List AM),W.ownsRow base 5 1 u n xs->W'.ownsRow base 5 1 u n xs:=fun u n xs ho=>ak ho hk fun x hx=>lS ho h.map (fun c fz e=>by cases e) x hx
 refine⟨by rw[aJ,aJ,h.len];rfl,hm,fun i x hx=>?_⟩;by_cases hi:i<E.length
 ·rw[bH hi]at hx
  obtain⟨u,h1,h2⟩:=h.WY i x hx;exact⟨u,by rw[bH (by rw[h.len];exact hi)];exact h1,hrow _ _ _ h2⟩
 ·have fT:=(AF.1 hx).1
  rw[aJ,Se]at fT;obtain rfl:i=E.length:=by omega
  rw[cF (aF _),P']at hx;cases hx;exact⟨v,by rw[cF (by rw[h.len];exact aF _),h.len,P'];rfl,hrow _ _ _ hv⟩
theorem yx.keys {W:AS} {base mp:Nat} {E:List ((Nat×Nat)×List Nat)} {es:List (AM×AM)} (h:yx W base mp E es) (hE:∀ y∈E,y.1.1<=4000/\y.1.2<=4000):∀ p∈es,∃ k,keyOf As 133 p.1=AI k:=fun p hp=>by
 obtain⟨i,hi⟩:=GS.1 hp;have fT:=(AF.1 hi).1;have hx:E[i]? =AI (E[i]'(by rw[<-h.len];exact fT)):=aB _;obtain⟨v,h1,_⟩:=h.WY i _ hx;rw[hi]at h1;cases h1;obtain⟨h2,h3⟩:=hE _ (ax hx);exact FJ _ h2 h3
set_option maxRecDepth 100000
theorem yx.look {W:AS} {base mp:Nat} {E:List ((Nat×Nat)×List Nat)} {es:List (AM×AM)} (h:yx W base mp E es) (hE:∀ y∈E,y.1.1<=4000/\y.1.2<=4000) (q:Nat×Nat) (h1:q.1<=4000) (h2:q.2<=4000): (q∉E.map Sf/\(∀ p∈es,p.1≠ei q)/\(C_ 206 (.map (AI mp)) (ei q) By).run As W=.ok (Lw #[An AN 0 0,Ly J']) W)\/ (∃ (i:Nat) (wd:List Nat) (v:AM),E[i]? =AI (q,wd)/\W.ownsRow base 5 1 v wd.length (wd.map en)/\(C_ 206 (.map (AI mp)) (ei q) By).run As W=.ok (Lw #[v,Ly By]) W/\(C_ 206 (.map (AI mp)) (ei q) J').run As W=.ok v W):=by
 have hz:(zeroValue 44).run As W=.ok (An AN 0 0) W:=by kernel_rfl
 rcases Ks Tryz.uI UP hz h.map (h.keys hE) (ei q) (FJ q h1 h2)with⟨g1,g2,_⟩ | ⟨i,v,g1,g2,g3⟩
 ·refine .inl ⟨fun hm=>?_,g1,g2⟩
  obtain⟨y,hy,rfl⟩:=H'.1 hm;obtain⟨i,hi⟩:=GS.1 hy;obtain⟨v,h3,_⟩:=h.WY i y hi;exact g1 _ (ax h3) rfl
 ·have fT:=(AF.1 g1).1
  have hx:E[i]? =AI (E[i]'(by rw[<-h.len];exact fT)):=aB _;obtain⟨u,h3,h4⟩:=h.WY i _ hx;rw[g1]at h3;injection h3 with h3
  injection h3 with h5 h6
  subst h6;have h7:=yY h5;refine .inr ⟨i,_,v,?_,h4,g2,g3⟩;rw[hx];congr 1;exact Prod.ext h7.symm rfl
theorem yx.val {W:AS} {base mp:Nat} {E:List ((Nat×Nat)×List Nat)} {es:List (AM×AM)} (h:yx W base mp E es) (hE:∀ y∈E,y.1.1<=4000/\y.1.2<=4000) (hn:(E.map Sf).Nodup) {i:Nat} {x:(Nat×Nat)×List Nat} (hx:E[i]? =AI x): ∃ a c,W.ownsRow base 5 1 (An a x.2.length c) x.2.length (x.2.map en)/\∀ W',qq W' mp es->(C_ 206 (.map (AI mp)) (ei x.1) J').run As W'=.ok (An a x.2.length c) W':=by
 obtain⟨v,h1,h2⟩:=h.WY i x hx;obtain⟨a,c,rfl⟩:=ownsRow_form h2;refine⟨a,c,h2,fun W' Ll=>?_⟩;obtain⟨b1,b2⟩:=hE x (ax hx);have hz:(zeroValue 44).run As W'=.ok (An AN 0 0) W':=by kernel_rfl
 rcases Ks Tryz.uI UP hz Ll (h.keys hE) (ei x.1) (FJ x.1 b1 b2)with⟨g1,_,_⟩ | ⟨j,v,g1,_,g3⟩
 ·exact absurd rfl (g1 _ (ax h1))
 ·have FZ:=(AF.1 g1).1
  have hy:E[j]? =AI (E[j]'(by rw[<-h.len];exact FZ)):=aB _;obtain⟨u,h3,_⟩:=h.WY j _ hy;rw[g1]at h3;injection h3 with h3
  injection h3 with h5 _
  have e1:(E.map Sf)[j]? =AI x.1:=by rw[aN,hy];exact congrArg AI (yY h5).symm
  have e2:(E.map Sf)[i]? =AI x.1:=by rw[aN,hx];rfl
  have e3:j=i:=(jM hn e1).symm.trans (jM hn e2);subst e3;rw[h1]at g1;injection g1 with g1
  injection g1 with _ g4
  rw[<-g4]at g3;exact g3
theorem yx.one {W:AS} {base mp:Nat} {q:Nat×Nat} (h:qq W mp [(ei q,An AN 0 0)]):yx W base mp [(q,[])] [(ei q,An AN 0 0)]:=⟨rfl,h,fun i x hx=>by
 cases i with
 | zero=>cases hx;exact⟨_,rfl,NX _ _ _ _⟩
 | succ i=>simp at hx⟩
section
variable {α:Type} [DecidableEq α]
theorem xw {F:α->Nat->α} {lt:Nat->Nat} {x:α×List Nat} {E:List (α×List Nat)} :∀ k,∀ y∈iu F lt x E k,y∈E\/∃ j,j<k/\y=(F x.1 j,x.2++ [lt j])
 | 0,y,hy=>.inl hy
 | k+1,y,hy=>by
  rw[iu,Bx]at hy;split at hy
  ·rcases xw k y hy with h | ⟨j,h1,h2⟩
   ·exact .inl h
   ·exact .inr ⟨j,by omega,h2⟩
  ·rcases GO.1 hy with hy | hy
   ·rcases xw k y hy with h | ⟨j,h1,h2⟩
    ·exact .inl h
    ·exact .inr ⟨j,by omega,h2⟩
   ·exact .inr ⟨k,by omega,by simpa using hy⟩
theorem oK {F:α->Nat->α} {lt:Nat->Nat} {K:Nat} {p0:α} :∀ n,∀ y∈iG F lt K p0 n,y.2.length<=n
 | 0,y,hy=>by
  have:y=(p0,[]):=by simpa[iG]using hy
  rw[this];exact aF _
 | n+1,y,hy=>by
  rw[iG]at hy;split at hy
  ·have:=oK n y hy;omega
  ·rename_i x hx
   rcases xw K y hy with h | ⟨j,_,h2⟩
   ·have:=oK n y h;omega
   ·have:=oK n x (ax hx)
    rw[h2,aJ,Se];show x.2.length+1<=n+1;omega
end
theorem FK {F:Nat×Nat->Nat->Nat×Nat} {lt:Nat->Nat} {x:(Nat×Nat)×List Nat} {E:List ((Nat×Nat)×List Nat)} :∀ k,E.length<=(iu F lt x E k).length
 | 0=>aF _
 | k+1=>by
  have h:=FK (F:=F) (lt:=lt) (x:=x) (E:=E) k;rw[iu,Bx];split
  ·exact h
  ·rw[aJ];omega
theorem FM {F:Nat×Nat→Nat→Nat×Nat} {lt:Nat→Nat} {x:(Nat×Nat)×List Nat} {E:List ((Nat×Nat)×List Nat)} {k m:Nat} (h:k≤m):(iu F lt x E k).length≤ (iu F lt x E m).length:=by
  induction m with
  | zero =>
    obtain rfl : k = 0 := by omega
    exact aF _
  | succ m ih =>
    by_cases e : k = m + 1
    · subst e; exact aF _
    · refine ZD (ih (by omega)) ?_
      rw[iu,Bx];split
      · exact aF _
      · rw[aJ];omega
end
end Go.Proofs.YtjgccapbphadjaaGreatDoor
