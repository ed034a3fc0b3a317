/- (*maker).step: what a row of state sets leads to by a byte. -/
import Derived.Shelf.Sort.Plain
import Derived.Shelf.Slices.In.SortNone
import Derived.Shelf.Slices.Turned
import Derived.Shelf.Slices.Cells
import Derived.Laws.AppendOwnNone
import Derived.Test.YtjgccapbphadjaaGreatDoorOX04
import Derived.Shelf.Strings.BuilderK
import Derived.Shelf.Strconv.Itoa3
import Derived.Lib.ItoaLen
set_option maxRecDepth 100000
set_option maxHeartbeats 16000000
open Go.Lib (hid)
open Option renaming some->An,none->As,map_eq_some_iff->EV
open Go.Ending renaming returned->AF
open Go.Value renaming slice->AI,int->AM,pointer->Bm,bool->By,tuple->GS,oneCell'->RC,agg->j_,string->me,ownBlock->m_
open Go.Proofs.Tryz renaming prog->AN,underlying9->C',underlying0->DQ,underlying5->DS,zeroValue0->Ft,zeroValue5->FF,underlying3->GW,underlying4->G_,zeroValue3->Is,zeroValue4->It,zeroValue9->Iv,underlying193->IT,sizeOf0->I',sizeOf5->J_,underlying39->J',underlying44->Ly,zeroValue44->M_,isAgg0->NX,isAgg5->N_,sizeOf3->O_,sizeOf4->O',sizeOf9->P_,underlying312->R_,underlying314->Se,isAgg3->St,isAgg4->SO,isAgg9->S_,zeroValue312->TO,zeroValue314->T_,underlying20->UP,sizeOf44->U_,zeroValue20->VH,isAgg44->W_,sizeOf312->Zg,sizeOf314->Zh,ntmps109->ZD,ntmps230->ZS,isAgg312->Z_,isAgg314->Z',sizeOf20->an,underlying122->ao,underlying221->aE,underlying316->be,underlying334->b_,zeroValue122->da,zeroValue221->dd,underlying54->de,func109->eS,func230->ff,isAgg20->f_,zeroValue316->gd,zeroValue334->gk,underlying27->g_,zeroValue39->hU,zeroValue54->h_,sizeOf122->mu,sizeOf221->mw,sizeOf316->nn,sizeOf334->nF,sizeOf39->n_,isAgg122->oe,isAgg221->oE,sizeOf54->oR,isAgg316->ph,isAgg334->pr,func135->pt,isAgg39->p_,isAgg54->qe,func209->qt,func248->qS,func261->q_
open Go.Lib renaming hid->AS,byteCells->B_,IsBuilderF->DE,decDigits->F_,itoa->K_,BuilderAtF->L7,byteCells_length->Zi,itoa_length_le->c_,strCells->gx
open Go renaming World->AT,run_underlying->RE,bodyPost_ret->Wr,wpList_append_own_at->Zj,TypeId->a_,callsIn_wide->fs,info_parts->mT,undef->rm
open List renaming mem_map->A_,contains_iff_mem->Bs,take_length->B',take_add_one->Cd,append_nil->DH,flatMap_append->DP,length_cons->D',append_assoc->GO,cons_append->H_,mem_filter->IF,mem_range->Kx,mem_iff_getElem?->L_,eq_nil_of_length_eq_zero->N',nil_append->OR,filter_append->Rr,getElem?_eq_some_iff->Sf,pairwise_map->S',size_toArray->To,range->V_,pairwise_lt_range->V',map_append->X',length_filter_le->Y',take_append_drop->Ze,take_zero->Zf,map_congr_left->Zk,append_toArray->Zl,map_map->dq,filter_congr->du,foldl_append->e_,push_toArray->fi,length_take->i_,any_eq_true->i',mem_flatMap->jj,prefix_rfl->ke,length_nil->k_,filter_nil->lk,mem_append->lP,nodup_cons->l_,map_nil->qv,map_id->re,zip->r'
open Go.IntKind renaming i64->A',u64->C_
open Bool renaming and_eq_true->D0,false->If,true->On,eq_iff_iff->X_,eq_false_iff->d_,true_and->oS
open Go.IntWalk renaming i64_in->D_
open Go.MapKept renaming run_getObj_map->E_
open Int renaming toNat->FG,toNat_natCast->GB,toNat_of_nonneg->H',tdiv_eq_ediv_of_nonneg->P',tmod_eq_emod_of_nonneg->Q_,ofNat->U'
open Nat renaming le_trans->G',lt_or_ge->Wg,mul_le_mul_left->Zm,strongRecOn->lE,reduceAdd->o_,reduceSub->pf,zero_add->qk,mul_one->rn,mod_lt->r_
open Go.RowKit renaming Hid->IN
open Go.Shelf renaming Ren->I_
open Go.Instr renaming lookup->Lo,mapUpdate->Y_
open Go.Result renaming andThen->Lw
open Go.Sort renaming grow->MY
open List.cons renaming inj->US
open List
namespace Go.Proofs.YtjgccapbphadjaaGreatDoor
open Go Go.RowKit Go.Shelf Go.Maps
theorem Yo {b o j:Nat} {vs:List Value} {w:AT} (h:∀ k,k<vs.length->(w.cell? ⟨b,o+k,As⟩).isSome=On) (hj:j<vs.length):(w.setCells b o vs).cell? ⟨b,o+j,As⟩=vs[j]? :=by rw[World.cell?_setCells_in b vs o w h j hj,aB hj]
section
variable {g i n:Nat} {l:List Int} {z:Int} {w0:AT}
end
end Go.Proofs.YtjgccapbphadjaaGreatDoor
namespace Go.Proofs
open Go.Shelf
def Tryz.LD:I_:=⟨fun | 189=>214 | 125=>75 | 257=>242 | 128=>134 | 129=>135 | 294=>250 | 295=>251 | 296=>252 | 297=>253 | 298=>254 | 299=>255 | 216=>256 | 300=>257 | 301=>258 | 328=>263 | 329=>179 | 330=>180 | 331=>264 | 332=>265 | 215=>266 | 343=>271 | n=>n,fun | 28=>39 | 3=>3 | 46=>122 | 0=>0 | 51=>221 | 53=>54 | 4=>4 | 183=>214 | 182=>213 | 131=>218 | 5=>5 | 9=>9 | 218=>272 | 222=>276 | 228=>302 | 229=>303 | n=>n,fun | n=>n⟩
theorem Tryz.Wh:Go.Proofs.Lays.n189 AN Tryz.LD:= {
 mixed:=by kernel_rfl
 f125:=Tryz.func75.trans (congrArg An (by kernel_rfl))
 f128:=Tryz.func134.trans (congrArg An (by kernel_rfl))
 f129:=pt.trans (congrArg An (by kernel_rfl))
 f189:=Tryz.func214.trans (congrArg An (by kernel_rfl))
 f215:=Tryz.func266.trans (congrArg An (by kernel_rfl))
 f216:=Tryz.func256.trans (congrArg An (by kernel_rfl))
 f257:=Tryz.func242.trans (congrArg An (by kernel_rfl))
 f294:=Tryz.func250.trans (congrArg An (by kernel_rfl))
 f295:=Tryz.func251.trans (congrArg An (by kernel_rfl))
 f296:=Tryz.func252.trans (congrArg An (by kernel_rfl))
 f297:=Tryz.func253.trans (congrArg An (by kernel_rfl))
 f298:=Tryz.func254.trans (congrArg An (by kernel_rfl))
 f299:=Tryz.func255.trans (congrArg An (by kernel_rfl))
 f300:=Tryz.func257.trans (congrArg An (by kernel_rfl))
 f301:=Tryz.func258.trans (congrArg An (by kernel_rfl))
 f328:=Tryz.func263.trans (congrArg An (by kernel_rfl))
 f329:=Tryz.func179.trans (congrArg An (by kernel_rfl))
 f330:=Tryz.func180.trans (congrArg An (by kernel_rfl))
 f331:=Tryz.func264.trans (congrArg An (by kernel_rfl))
 f332:=Tryz.func265.trans (congrArg An (by kernel_rfl))
 f343:=Tryz.func271.trans (congrArg An (by kernel_rfl))
 t0:=DQ
 a0:=NX
 z0:=I'
 v0:=Ft
 t3:=GW
 a3:=St
 z3:=O_
 v3:=Is
 t4:=G_
 a4:=SO
 z4:=O'
 v4:=It
 t5:=DS
 a5:=N_
 z5:=J_
 v5:=FF
 t9:=C'
 a9:=S_
 z9:=P_
 v9:=Iv
 t28:=J'
 a28:=p_
 z28:=n_
 v28:=hU
 t46:=ao
 a46:=oe
 z46:=mu
 v46:=da
 t51:=aE
 a51:=oE
 z51:=mw
 v51:=dd
 t53:=de
 a53:=qe
 z53:=oR
 v53:=h_
 t131:=Tryz.underlying218
 a131:=Tryz.isAgg218
 z131:=Tryz.sizeOf218
 v131:=Tryz.zeroValue218
 t182:=Tryz.underlying213
 a182:=Tryz.isAgg213
 z182:=Tryz.sizeOf213
 v182:=Tryz.zeroValue213
 t183:=Tryz.underlying214
 a183:=Tryz.isAgg214
 z183:=Tryz.sizeOf214
 v183:=Tryz.zeroValue214
 t218:=Tryz.underlying272
 a218:=Tryz.isAgg272
 z218:=Tryz.sizeOf272
 v218:=Tryz.zeroValue272
 t222:=Tryz.underlying276
 a222:=Tryz.isAgg276
 z222:=Tryz.sizeOf276
 v222:=Tryz.zeroValue276
 t228:=Tryz.underlying302
 a228:=Tryz.isAgg302
 z228:=Tryz.sizeOf302
 v228:=Tryz.zeroValue302
 t229:=Tryz.underlying303
 a229:=Tryz.isAgg303
 z229:=Tryz.sizeOf303
 v229:=Tryz.zeroValue303}
def Tryz.AD:I_:=⟨fun | 20=>215 | n=>n,fun | 22=>39 | 3=>3 | 4=>4 | 0=>0 | n=>n,fun | n=>n⟩
theorem Tryz.DN:Go.Proofs.Lays2.n20 AN Tryz.AD:= {
 mixed:=by kernel_rfl
 f20:=Tryz.func215.trans (congrArg An (by kernel_rfl))
 t0:=DQ
 a0:=NX
 z0:=I'
 v0:=Ft
 t3:=GW
 a3:=St
 z3:=O_
 v3:=Is
 t4:=G_
 a4:=SO
 z4:=O'
 v4:=It
 t22:=J'
 a22:=p_
 z22:=n_
 v22:=hU
 i3:=by kernel_rfl}
end Go.Proofs
namespace Go.Proofs.YtjgccapbphadjaaGreatDoor
section
open Go Go.RowKit Go.Shelf Go.Maps
theorem Hc (R:Nat->Prop) (w:AT) (os:Array Obj) (hR:∀ k,R k->k<w.heap.size):ae R w (MY w os) where
 os:=rfl
 tape:=rfl
 output:=rfl
 size:=by unfold MY;simp
 keep:=fun k hk=>by unfold MY;exact Array.getElem?_append_left (hR k hk)
theorem pA {base g n cap:Nat} {xs ys:List Value} {w:AT} (h:w.ownsRow base 3 1 (AI (An ⟨g,0,As⟩) n cap) n xs) (hy:ys.length=n): (w.setCells g 0 ys).ownsRow base 3 1 (AI (An ⟨g,0,As⟩) n cap) n ys/\ae (· ≠g) w (w.setCells g 0 ys):=by
 obtain⟨zs,h1,h2⟩:=kQ 0 ys 0 w xs (aF _) h;have hl:zs.length=n:=by have:=h1.1;omega
 have hx:xs.length=n:=by have:=h.1;omega
 have:zs=ys:=by
  apply List.ext_getElem?;intro j;by_cases hj:j<n
  ·have e1:=h1.cellAt j (by omega)
   have e2:=Yo (b:=g) (o:=0) (j:=j) (vs:=ys) (w:=w) (fun k hk=>by
    rw[h.cellAt _ (by omega),aB (by omega)];rfl) (by omega)
   rw[qk]at e2;exact e1.symm.trans e2
  ·rw[aT (by omega),aT (by omega)]
 rw[this]at h1;exact⟨h1,h2⟩
theorem DO {base g n cap m:Nat} {xs:List Value} {w:AT} (h:w.ownsRow base 3 1 (AI (An ⟨g,0,As⟩) n cap) n xs) (hm:m<=n): w.ownsRow base 3 1 (AI (An ⟨g,0,As⟩) m cap) m (xs.take m):=by
 have hl:=h.1;refine⟨by rw[i_];omega,?_⟩;rcases h.2 with⟨hv,_⟩ | ⟨g',cap',cur,hv,h1,h2,h3,h4,h5,h6⟩
 ·cases hv
 ·cases hv
  exact .inr ⟨g,cap,cur,rfl,h1,h2,by omega,h4,h5,by rw[<-h6,List.take_take];congr 1;omega⟩
def fk (l:List Int):List Int:=l.mergeSort fun x y=>decide (x<=y)
theorem kS (l:List Int):(fk l).length=l.length:=by unfold fk;exact List.length_mergeSort _
theorem LG {base g n cap:Nat} {l:List Int} {w:AT} (h:w.ownsRow base 3 1 (AI (An ⟨g,0,As⟩) n cap) n (l.map aG)):Sort.Holds (AM A') w g 0 l.toArray:=by
 intro j hj;have hl:l.length=n:=by have:=h.1;simpa using this
 have hj':j<l.length:=by simpa using hj
 refine⟨?_,h.frozenAt _⟩;rw[qk,h.cellAt j (by omega),aN,aB hj',Array.getElem!_eq_getD];simp[aG,hj']
theorem LH (base:Nat) (v:Value) (n:Nat) (l:List Int) (w:AT) (ho:w.ownsRow base 3 1 v n (l.map aG)) (hn:n<=1000000): ah 214 #[v] w fun e w'=>e=AF (GS #[])/\w'.ownsRow base 3 1 v n ((fk l).map aG)/\ae (fun x=>x<w.heap.size/\v.ownBlock≠An x) w w':=by
 have hl:l.length=n:=by have:=ho.1;simpa using this
 rcases ho.2 with⟨rfl,rfl⟩ | ⟨g,cap,cur,rfl,hbg,hg,_⟩
 ·have hl0:l=[]:=N' hl
  subst hl0;exact(Any.slices_Sort_int_none Tryz.Wh As 0 w).mono fun e w' ⟨he,hw⟩=>⟨he,by rw[hw,show fk []=[] from N' (kS _)];exact ho,by rw[hw];exact ae.refl _ _⟩
 ·have hH:=LG ho
  have hblk:ar w g cur 3:=hg;have:=Any.slices_Sort_int Tryz.Wh g 0 cap l w hH hblk.lt (by omega);rw[hl]at this;refine this.mono fun e w' ⟨he,q,os,hw⟩=>⟨he,?_⟩
  have e1:=Lib.putRow_eq_setCells (AM A') w g 0 l.toArray (fk l) q hH (by rw[kS];simp);have hw':w'=MY ((w.drewN q).setCells g 0 ((fk l).map (AM A'))) os:=by rw[hw, <-e1];rfl
  have hd:(w.drewN q).ownsRow base 3 1 (AI (An ⟨g,0,As⟩) n cap) n (l.map aG):=ho;obtain⟨a1,a2⟩:=pA hd (ys:=(fk l).map aG) (by rw[aP,kS];exact hl);have Yp:ae (· ≠g) w (w.drewN q):=⟨rfl,rfl,rfl,aF _,fun _ _=>rfl⟩;have hk:=Yp.tr a2;rw[hw'];have hgk:∀ R:Nat->Prop,(∀ k,R k->k<((w.drewN q).setCells g 0 ((fk l).map (AM A'))).heap.size)->ae R ((w.drewN q).setCells g 0 ((fk l).map (AM A'))) (MY ((w.drewN q).setCells g 0 ((fk l).map (AM A'))) os):=fun R hR=>Hc R _ os hR
  refine⟨ak a1 (hgk (· <_) fun _ h=>h) (fun k e=>(a1.lt k e).2),?_⟩;exact(hk.mono fun x hx e=>hx.2 (by rw[e];rfl)).tr (hgk _ fun x hx=>ay hx.1 hk.size)
/-! A list, sorted and compacted. -/
theorem AE (l:List Int):(fk l).Pairwise (· <= ·):=by have:=List.pairwise_mergeSort (le:=fun x y:Int=>decide (x<=y)) (fun a b c h1 h2=>by simp at*;omega) (fun a b=>by simp;omega) l;exact this.imp fun h=>by simpa using h
theorem LI {l:List Int} {x:Int} :x∈fk l↔x∈l:=(List.mergeSort_perm _ _).mem_iff
theorem gM (l:List Int) {i:Nat} (hi:i<l.length):l.toArray[i]! =l[i]:=by simp[hi]
theorem DR {l:List Int} {x:Int} :x∈Lib.compact l↔x∈l:=by
 unfold Lib.compact Lib.compactUpTo;simp only[A_,IF,Kx];constructor
 ·rintro⟨i,⟨hi,_⟩,rfl⟩
  rw[gM l hi];exact List.getElem_mem _
 ·intro hx
  obtain⟨i,hi,rfl⟩:=List.getElem_of_mem hx;suffices ∀ i,(hi:i<l.length)->∃ j,(j<l.length/\Lib.keeps l.toArray j=On)/\l.toArray[j]! =l[i] from this i hi;intro i;induction i with
  | zero=>intro hi;exact⟨0,⟨hi,by simp[Lib.keeps]⟩,gM l hi⟩
  | succ i ih=>
   intro hi;by_cases h:l.toArray[i+1]! =l.toArray[i]!
   ·obtain⟨j,h1,h2⟩:=ih (by omega)
    refine⟨j,h1,?_⟩;rw[gM l hi,gM l (by omega)]at h;rw[h2,h]
   ·exact⟨i+1,⟨hi,by simp only[Lib.keeps,decide_eq_true_eq];exact .inr (by simpa using h)⟩,gM l hi⟩
theorem vA {l:List Int} (h:l.Pairwise (· <= ·)):(Lib.compact l).Pairwise (· < ·):=by
 unfold Lib.compact Lib.compactUpTo;rw[S'];have hr:((V_ l.length).filter (Lib.keeps l.toArray)).Pairwise (· < ·):=V'.filter _;refine Pairwise.imp_of_mem (fun {i j} hi hj mM=>?_) hr;rw[IF,Kx]at hi hj;have hk:=hj.2;simp only[Lib.keeps,decide_eq_true_eq]at hk;rcases hk with hk | hk
 ·omega
 ·have h1:=List.pairwise_iff_getElem.1 h
  rw[gM l hj.1,gM l (by omega)]at hk;rw[gM l hi.1,gM l hj.1];have h2:=h1 (j-1) j (by omega) hj.1 (by omega);by_cases e:i=j-1
  ·subst e;omega
  ·have h3:=h1 i (j-1) hi.1 (by omega) (by omega)
   omega
theorem AG {gn:List Nat} {n:Nat} (h:∀ k∈gn,k<n):Lib.compact (fk (gn.map U'))=((V_ n).filter fun k=>gn.contains k).map U':=by
 obtain⟨C,hC⟩:=ag (Lib.compact (fk (gn.map U')));have hs:C.Pairwise (· < ·):=by rw[hC];exact vA (AE _)
 have hm:∀ x,x∈C↔ ∃ k∈gn,(k:Int)=x:=fun x=>by
  rw[hC,DR,LI,A_];rfl
 rw[<-hC];have hp:∀ x∈C,0<=x:=fun x hx=>by obtain⟨k,_,rfl⟩:=(hm x).1 hx;omega
 have e1:(C.map FG).map U'=C:=by rw[dq];exact(Zk fun x hx=>H' (hp x hx)).trans (re _)
 rw[<-e1];congr 1;refine vr _ _ ?_ (V'.filter _) fun k=>?_
 ·rw[S']
  exact Pairwise.imp_of_mem (fun {a b} ha hb hab=>by have:=hp a ha;have:=hp b hb;omega) hs
 ·rw[IF,Kx,Bs,A_]
  constructor
  ·rintro⟨x,hx,rfl⟩
   obtain⟨k,hk,rfl⟩:=(hm x).1 hx;exact⟨h k hk,hk⟩
  ·rintro⟨_,hk⟩
   exact⟨k,(hm _).2 ⟨k,hk,rfl⟩,GB k⟩
section
variable {p:List BS} {R:Nat→Nat→Prop} (hp:cq p R)
include hp
end
def gN (ps:List PT) (row:List (List Int)):List Int:=(r' ps row).filterMap fun y=>if y.1.nf.acc y.2 then An y.1.mark else As
theorem lL {ps:List PT} {row:List (List Int)} {m:Int} :m∈gN ps row↔ ∃ y∈r' ps row,y.1.nf.acc y.2=On/\y.1.mark=m:=by
 unfold gN;rw[List.mem_filterMap];constructor
 ·rintro⟨y,hy,h⟩
  split at h
  ·rename_i ha
   exact⟨y,hy,ha,Option.some.inj h⟩
  ·cases h
 ·rintro⟨y,hy,ha,rfl⟩
  exact⟨y,hy,by rw[if_pos ha]⟩
theorem yf {ps:List PT} {row:List (List Int)} (h:∀ x∈ps,0<=x.mark/\x.mark<=255):Lib.compact (fk (gN ps row))=dH ps row:=by
 have hm:∀ m∈gN ps row,0<=m/\m<=255:=fun m hm=>by
  obtain⟨y,hy,_,rfl⟩:=lL.1 hm;exact h _ (List.of_mem_zip (a:=y.1) (b:=y.2) hy).1
 have e:gN ps row=((gN ps row).map FG).map U':=by rw[dq];exact((Zk fun x hx=>H' (hm x hx).1).trans (re _)).symm
 rw[e,AG (n:=256) (fun k hk=>by
  obtain⟨x,hx,rfl⟩:=A_.1 hk;have:=hm x hx
  omega)]
 unfold dH;congr 1;refine du fun m _=>?_
 rw[X_,Bs,A_,i'];constructor
 ·rintro⟨x,hx,rfl⟩
  obtain⟨y,hy,ha,rfl⟩:=lL.1 hx;refine⟨y,hy,?_⟩;have:=hm _ hx;simp only[D0,beq_iff_eq];exact⟨ha,by omega⟩
 ·rintro⟨y,hy,h1⟩
  simp only[D0,beq_iff_eq]at h1;exact⟨y.1.mark,lL.2 ⟨y,hy,h1.1,rfl⟩,by omega⟩
theorem tj (v:Value) (l:List Int) (low high:Int) (am4:low=0\/low= -1) (w:AT) (h:bw aG w v l) (hn:l.length<=1000000): ah 166 #[v,AM A' low,AM A' high] w fun e w'=>e=AF (By (dQ low high l))/\w'=w:=by
 obtain⟨a,cap,rfl⟩:=h.form;obtain⟨n,iV⟩:=ag l.length;obtain⟨r,hr⟩:=ag (dQ low high l);rw[<-iV]at h hn ⊢;rw[<-hr];have H:=AS h;have HN:=AS iV;have HR:=AS hr;have w0:A'.wrap (low-1)=low-1:=D_ _ (by omega);clear h iV hr;go_enter Tryz.func166,Tryz.ntmps166;go_wp2;clear w0;go_loopw [7,14] (fun lv iv wr=>∃ k:Nat,k<=n/\iv=AM A' k/\lv=AM A' (kp low l k)/\(∀ i,i<k->gL low high l i=On)/\wr=w) (fun _ iv _=>n-(intOf iv).toNat);case atStart=>exact⟨0,by omega,rfl,by simp[kp],fun i hi=>by omega,rfl⟩
 case round=>
  obtain⟨k,hk,rfl,rfl,ha,rfl⟩:=hrel;have HA:=AS ha;clear ha;obtain⟨q,hq⟩:=ag (kp low l k);rw[<-hq];have HQ:=AS hq;clear hq;by_cases hlt:k<n
  ·obtain⟨x,yR⟩:∃ x,l[k]? =An x:=⟨_,aB (by have:=HN.out;omega)⟩
   obtain⟨g,off,rfl,hg,c1⟩:=H.elem yR;replace c1:wr.cell? ⟨g,off+k,As⟩=An (AM A' x):=c1;have ed:(k:Int)<n:=by omega
   have NL:=AS yR;have VY:IN (gL low high l k=(decide (q<x)&&decide (x<=high))):=AS (by rw[sf yR,HQ.out]);clear yR;by_cases h1:x<=q
   ·have d1:decide (x<=q)=true:=decide_eq_true h1
    have iz:=AS (HR.trans (JI (by rw[<-HN.out];exact hlt) (by rw[VY.out,show decide (q<x)=If from decide_eq_false (by omega)];rfl)));go_wp2;go_ret;exact⟨by rw[iz.out];rfl,rfl⟩
   ·have d1:decide (x<=q)=false:=decide_eq_false h1
    by_cases h2:high<x
    ·have d2:decide (high<x)=true:=decide_eq_true h2
     have d3:decide (x>high)=true:=d2;have iz:=AS (HR.trans (JI (by rw[<-HN.out];exact hlt) (by rw[VY.out,show decide (x<=high)=If from decide_eq_false (by omega)];simp)));go_wp2;go_ret;exact⟨by rw[iz.out];rfl,rfl⟩
    ·have d2:decide (high<x)=false:=decide_eq_false h2
     have d3:decide (x>high)=false:=d2;go_wp2
     exact⟨⟨k+1,by omega,by go_num,by rw[G9 NL.out],fun i hi=>by
      rcases Wg i k with h3 | h3
      ·exact HA i h3
      ·obtain rfl:i=k:=by omega
       rw[VY.out];simp only[D0,decide_eq_true_eq]
       omega,by trivial⟩,by simp[intOf];omega⟩
  ·have sU:k=n:=by omega
   have iz:=AS (HR.trans (DL fun i hi=>HA i (by rw[sU,HN.out];exact hi)));have Cq:¬ ((k:Int)<n):=by omega
   go_wp2;go_ret;exact⟨by rw[iz.out];rfl,rfl⟩
attribute [local go_sem] encS
def kT (w:AT) (v:Value) (a:NF):Prop:=∃ v0 v1 v2 v3,v=j_ #[v0,v1,v2,v3,By a.emp]/\gF w v0 a.aO/\fy w v1 a.cB/\bw aG w v2 a.fst/\bw aG w v3 a.cL
theorem kT.below {w w':AT} {v:Value} {a:NF} (h:kT w v a) (hk:aa w w'):kT w' v a:=by obtain⟨v0,v1,v2,v3,e,h0,h1,h2,h3⟩:=h;exact⟨v0,v1,v2,v3,e,⟨h0.1.below hk,h0.2⟩,h1.below hk,h2.below hk,h3.below hk⟩
structure Py (a:NF):Prop where
 aO:a.aO.length<=1000000
 cB:a.cB.length<=1000000
 fst:a.fst.length<=1000000
 cL:a.cL.length<=1000000
 row:∀ l∈a.cB,l.length<=1000000
theorem ar.five {w:AT} {b:Nat} {x y z u t:Value} {ty:a_} (h:ar w b #[x,y,z,u,t] ty):w.cell? ⟨b,0,As⟩=An x/\w.cell? ⟨b,1,As⟩=An y/\w.cell? ⟨b,2,As⟩=An z/\w.cell? ⟨b,3,As⟩=An u/\w.cell? ⟨b,4,As⟩=An t:=
 ⟨h.cell 0,h.cell 1,h.cell 2,h.cell 3,h.cell 4⟩
theorem oq {a:NF} (h:400<a.aO.length\/a.cB.length≠a.aO.length\/dQ 0 ((a.aO.length:Int)-1) a.fst=If\/dQ 0 ((a.aO.length:Int)-1) a.cL=If):a.right=false:=by
 rw[d_];intro hr;have h1:=(eP a).1 hr;rcases h with h | h | h | h
 ·have:=h1.le;omega
 ·exact h h1.cB
 ·rw[h1.fst]at h;cases h
 ·rw[h1.cL]at h;cases h
theorem vB {a:NF} {p:Nat} (hp:p<a.aO.length) (h:dQ 0 ((a.aO.length:Int)-1) (a.cB.getD p [])=If\/a.aO.getD p 0=0):a.right=false:=by
 rw[d_];intro hr;have h1:=(eP a).1 hr;rcases h with h | h
 ·rw[h1.row p hp]at h;cases h
 ·exact h1.ne p hp h
theorem Hd {a:NF} (h1:a.aO.length<=400) (h2:a.cB.length=a.aO.length) (h3:dQ 0 ((a.aO.length:Int)-1) a.fst=On) (h4:dQ 0 ((a.aO.length:Int)-1) a.cL=On) (h5:∀ p,p<a.aO.length->dQ 0 ((a.aO.length:Int)-1) (a.cB.getD p [])=On/\a.aO.getD p 0≠0):a.right=true:=(eP a).2 ⟨h1,h2,h3,h4,fun p hp=>(h5 p hp).1,fun p hp=>(h5 p hp).2⟩
theorem vC (v:Value) (a:NF) (w:AT) (h:kT w v a) (sm:Py a): ah 109 #[v] w fun e w'=>e=AF (By a.right)/\aa w w':=by
 obtain⟨v0,v1,v2,v3,rfl,h0,h1,h2,h3⟩:=h;obtain⟨a0,c0,rfl⟩:=h0.1.form;obtain⟨a1,c1,rfl⟩:=h1.form;obtain⟨a2,c2,rfl⟩:=h2.form;obtain⟨a3,c3,rfl⟩:=h3.form;have CN:IN (∀ (W:AT) (v:Value) (l:List Int) (high:Int),bw aG W v l->l.length<=1000000->ah 166 #[v,AM A' 0,AM A' high] W fun e w'=>e=AF (By (dQ 0 high l))/\w'=W):=AS fun W v l high h hn=>tj v l 0 high (.inl rfl) W h hn
 obtain⟨n0,bX⟩:=ag a.aO.length;obtain⟨n1,cM⟩:=ag a.cB.length;obtain⟨n2,dP⟩:=ag a.fst.length;obtain⟨n3,Ga⟩:=ag a.cL.length;obtain⟨R,hR⟩:=ag a.right;have SM:=AS sm;have m0:n0<=1000000:=by rw[bX];exact sm.aO
 have m1:n1<=1000000:=by rw[cM];exact sm.cB
 rw[<-bX]at h0 ⊢;rw[<-cM]at h1 ⊢;rw[<-dP]at h2 ⊢;rw[<-Ga]at h3 ⊢;rw[<-hR];have HR:=AS hR;have pS:=AS bX;have gS:=AS cM;have pO:=AS dP;have HN3:=AS Ga;have H0:=AS h0;have H1:=AS h1;have H2:=AS h2;have H3:=AS h3;clear h0 h1 h2 h3 bX cM dP Ga hR sm;by_cases g1:400<n0
 ·have RR:=AS (HR.trans (oq (.inl (by rw[<-pS.out];exact g1))))
  have g1i:(400:Int)<n0:=by omega
  go_enter eS,ZD
  go_wp2;go_ret;exact⟨by rw[RR.out];rfl,((Ext.refl _).alloc _).below⟩
 by_cases g2:n1≠n0
 ·have RR:=AS (HR.trans (oq (.inr (.inl (by rw[<-pS.out, <-gS.out];exact g2)))))
  have g1i:¬ ((400:Int)<n0):=by omega
  have g2i:((n1:Int) != (n0:Int))=true:=by rw[bne_iff_ne];omega
  go_enter eS,ZD
  go_wp2;go_ret;exact⟨by rw[RR.out];rfl,((Ext.refl _).alloc _).below⟩
 replace g2:n1=n0:=Decidable.not_not.1 g2;subst g2;have g1i:¬ ((400:Int)<n1):=by omega
 have wn:A'.wrap ((n1:Int)-1)=(n1:Int)-1:=D_ _ (by omega);go_enter eS,ZD;go_wp2_with fail
 refine aK ?_;intro V hV;have B1:IN (ar V w.heap.size #[AI a0 n1 c0,AI a1 n1 c1,AI a2 n2 c2,AI a3 n3 c3,By a.emp] 118):=AS (by rw[hV];exact ar.new w _ _);have X1:IN (aa w V):=AS (by rw[hV];exact((Ext.refl w).alloc _).below);clear hV;refine(CN V _ a.fst _ (H2.below X1) SM.fst).mono ?_;rintro e w1 ⟨rfl,hw⟩;replace hw:=hw.symm;subst hw;cases r1:dQ 0 ((n1:Int)-1) a.fst
 ·have RR:=AS (HR.trans (oq (.inr (.inr (.inl (by rw[<-pS.out];exact r1))))))
  clear r1;go_wp2;go_ret;exact⟨by rw[RR.out];rfl,X1⟩
 have R1:=AS r1;clear r1;obtain⟨i0,i1,i2,i3,i4⟩:=B1.five;go_wp2_with fail
 clear i0 i1 i2 i3 i4;refine(CN V _ a.cL _ (H3.below X1) SM.cL).mono ?_;rintro e w2 ⟨rfl,hw⟩;replace hw:=hw.symm;subst hw;cases r2:dQ 0 ((n1:Int)-1) a.cL
 ·have RR:=AS (HR.trans (oq (.inr (.inr (.inr (by rw[<-pS.out];exact r2))))))
  clear r2;go_wp2;go_ret;exact⟨by rw[RR.out];rfl,X1⟩
 have R2:=AS r2;clear r2;obtain⟨i0,i1,i2,i3,i4⟩:=B1.five;go_wp2;clear i0 i1 i2 i3 i4;go_loopw [37] (fun iv wr=>∃ k:Nat,k<=n1/\iv=AM A' k/\(∀ p,p<k->dQ 0 ((n1:Int)-1) (a.cB.getD p [])=On/\a.aO.getD p 0≠0)/\wr=V) (fun iv _=>n1-(intOf iv).toNat);case atStart=>exact⟨0,by omega,rfl,fun p hp=>by omega,rfl⟩
 case round=>
  obtain⟨k,hk,rfl,ha,rfl⟩:=hrel;have HA:=AS ha;clear ha;by_cases hlt:k<n1
  ·have ed:(k:Int)<n1:=by omega
   obtain⟨l,hl⟩:∃ l,a.cB[k]? =An l:=⟨_,aB (by have:=gS.out;omega)⟩;obtain⟨s,hs⟩:∃ s,a.aO[k]? =An s:=⟨_,aB (by have:=pS.out;omega)⟩;obtain⟨b,off,a',c',rfl,hb,cl,mm⟩:=(H1.below X1).elem hl;have yV:=AS mm;have HL:=AS hl;have HS:=AS hs;have Cr:l.length<=1000000:=SM.row l (ax hl);clear mm hl hs;go_wp2_with fail
   clear cl;refine(CN wr _ l _ yV Cr).mono ?_;rintro e w3 ⟨rfl,hw⟩;replace hw:=hw.symm;subst hw;cases r3:dQ 0 ((n1:Int)-1) l
   ·have RR:=AS (HR.trans (vB (p:=k) (by rw[<-pS.out];exact hlt) (.inl (by rw[getD_some HL.out, <-pS.out];exact r3))))
    clear r3;go_wp2;go_ret;exact⟨by rw[RR.out];rfl,X1⟩
   have R3:=AS r3;clear r3;obtain⟨i0,i1,i2,i3,i4⟩:=B1.five;obtain⟨b2,fL,rfl,hb2,d0,d1,d2,d3⟩:=(H0.1.below X1).elem HS;by_cases hz:s=0#256
   ·have he:∀ W,(Op.equalIn 10000 56 (j_ #[AM C_ (wd s 0).toNat,AM C_ (wd s 1).toNat,AM C_ (wd s 2).toNat,AM C_ (wd s 3).toNat]) (j_ #[AM C_ 0,AM C_ 0,AM C_ 0,AM C_ 0])).run AN W=.ok On W:=fun W=>by
     have h1:=ie s 0 W;rw[fU,hz]at h1;rw[hz];exact h1
    have RR:=AS (HR.trans (vB (p:=k) (by rw[<-pS.out];exact hlt) (.inr (by rw[getD_some HS.out];exact hz))));clear hz;go_wp2;go_ret;exact⟨by rw[RR.out];rfl,X1⟩
   ·have he:∀ W,(Op.equalIn 10000 56 (j_ #[AM C_ (wd s 0).toNat,AM C_ (wd s 1).toNat,AM C_ (wd s 2).toNat,AM C_ (wd s 3).toNat]) (j_ #[AM C_ 0,AM C_ 0,AM C_ 0,AM C_ 0])).run AN W=.ok If W:=fun W=>by
     have h1:=ie s 0 W;rw[fU,show(s==0)=If from by simpa using hz]at h1;exact h1
    have HZ:=AS hz;clear hz;go_wp2
    exact⟨⟨k+1,by omega,by go_num,fun p hp=>by
     rcases Wg p k with h3 | h3
     ·exact HA p h3
     ·obtain rfl:p=k:=by omega
      rw[getD_some HL.out,getD_some HS.out]
      exact⟨R3,HZ⟩,by trivial⟩,by simp[intOf];omega⟩
  ·have sU:k=n1:=by omega
   have RR:=AS (HR.trans (Hd (by rw[<-pS.out];omega) (by rw[<-pS.out, <-gS.out]) (by rw[<-pS.out];exact R1) (by rw[<-pS.out];exact R2) (by rw[<-pS.out];exact fun p hp=>HA p (by omega))));go_wp2;go_ret;exact⟨by rw[RR.out];rfl,X1⟩
end
section
open Go Go.RowKit Go.Shelf Go.Maps
attribute [local go_sem] encS
def aU.Up (base n:Nat) (xs:List Value):aU (Move If (fun _=>False)) where
 P:=fun v=>∃ a c,v=AI a n c
 H:=fun v W=>W.ownsRow base 3 1 v n xs
 nU:=AI As n 0
 pw:=⟨As,0,rfl⟩
 st:=fun _ _ _ hm _ h=>ai h hm.below
theorem ar.ab0 {w:AT} {b:Nat} {x y z u t x' y' z' u' t':Value} {ty:a_} (h:ar w b #[x,y,z,u,t] ty):ar (((((w.setCell ⟨b,0,As⟩ x').setCell ⟨b,1,As⟩ y').setCell ⟨b,2,As⟩ z').setCell ⟨b,3,As⟩ u').setCell ⟨b,4,As⟩ t') b #[x',y',z',u',t'] ty:=((((h.set 0 x').set 1 y').set 2 z').set 3 u').set 4 t'
theorem vD (W:AT) (b:Nat) (x y z u t:Value):ae (· ≠b) W (((((W.setCell ⟨b,0,As⟩ x).setCell ⟨b,1,As⟩ y).setCell ⟨b,2,As⟩ z).setCell ⟨b,3,As⟩ u).setCell ⟨b,4,As⟩ t):=
 (((((ae.refl _ W).setCell (p:=⟨b,0,As⟩) (fun h=>h rfl) _).setCell (p:=⟨b,1,As⟩) (fun h=>h rfl) _).setCell (p:=⟨b,2,As⟩) (fun h=>h rfl) _).setCell (p:=⟨b,3,As⟩) (fun h=>h rfl) _).setCell (p:=⟨b,4,As⟩) (fun h=>h rfl) _
end
section
open Go Go.RowKit Go.Shelf Go.Maps
attribute [local go_sem] encS
def gX (base:Nat) (w:AT) (v:Value) (a:NF):Prop:=∃ v0 v1 v2 v3,v=j_ #[v0,v1,v2,v3,By a.emp]/\w.ownsRow base 56 4 v0 a.aO.length (aL a.aO)/\aS base w v1 a.cB/\w.ownsRow base 3 1 v2 a.fst.length (a.fst.map aG)/\w.ownsRow base 3 1 v3 a.cL.length (a.cL.map aG)
theorem gX.nf {base:Nat} {w:AT} {v:Value} {a:NF} (h:gX base w v a):kT w v a:=by obtain⟨v0,v1,v2,v3,e,h0,h1,h2,h3⟩:=h;exact⟨v0,v1,v2,v3,e,fD h0,h1.ll,bU h2 rfl,bU h3 rfl⟩
end
section
open Go Go.RowKit Go.Shelf Go.Maps
def NF.Yq (a:NF) (l:List Int):Int:=if a.right=If then 171 else if a.st l=If then 172 else 0
theorem kT.Pz {w:AT} {v:Value} {a:NF} (h:kT w v a):∃ a0 c0 a1 n1 c1 a2 n2 c2 a3 n3 c3,v=j_ #[AI a0 a.aO.length c0,AI a1 n1 c1,AI a2 n2 c2,AI a3 n3 c3,By a.emp]:=by obtain⟨v0,v1,v2,v3,rfl,h0,h1,h2,h3⟩:=h;obtain⟨a0,c0,rfl⟩:=h0.1.form;obtain⟨a1,c1,rfl⟩:=h1.form;obtain⟨a2,c2,rfl⟩:=h2.form;obtain⟨a3,c3,rfl⟩:=h3.form;exact⟨_,_,_,_,_,_,_,_,_,_,_,rfl⟩
theorem vE (v u:Value) (a:NF) (l:List Int) (w:AT) (h:kT w v a) (sm:Py a) (hu:bw aG w u l) (hl:l.length<=1000000): ah 241 #[v,u] w fun e w'=>e=AF (AM A' (a.Yq l))/\aa w w':=by
 have CR:IN (∀ W,aa w W->ah 109 #[v] W fun e w'=>e=AF (By a.right)/\aa W w'):=AS fun W hW=>vC v a W (h.below hW) sm
 have CN:IN (∀ W,aa w W->ah 166 #[u,AM A' (-1),AM A' ((a.aO.length:Int)-1)] W fun e w'=>e=AF (By (a.st l))/\w'=W):=AS fun W hW=>tj u l (-1) _ (.inr rfl) W (hu.below hW) hl
 have HS:=AS sm.aO;obtain⟨a0,c0,a1,n1,c1,a2,n2,c2,a3,n3,c3,rfl⟩:=h.Pz;obtain⟨ua,uc,rfl⟩:=hu.form;obtain⟨n0,bX⟩:=ag a.aO.length;obtain⟨m,hm⟩:=ag l.length;obtain⟨r1,hr1⟩:=ag a.right;obtain⟨r2,hr2⟩:=ag (a.st l);have hc:a.Yq l=if r1=If then 171 else if r2=If then 172 else 0:=by unfold NF.Yq;rw[hr1,hr2]
 rw[hc];rw[<-bX]at CR CN HS ⊢;rw[<-hm]at CN ⊢;rw[<-hr1]at CR;rw[<-hr2]at CN;have m0:n0<=1000000:=HS.out;have wn:A'.wrap ((n0:Int)-1)=(n0:Int)-1:=D_ _ (by omega);clear h hu hl sm bX hm hr1 hr2 hc HS;go_enter Tryz.func241,Tryz.ntmps241;go_wp2_with fail
 refine aK ?_;intro V hV;have B1:IN (ar V w.heap.size #[AI a0 n0 c0,AI a1 n1 c1,AI a2 n2 c2,AI a3 n3 c3,By a.emp] 118):=AS (by rw[hV];exact ar.new w _ _);have X1:IN (aa w V):=AS (by rw[hV];exact((Ext.refl w).alloc _).below);clear hV;refine(CR V X1).mono ?_;rintro e w1 ⟨rfl,hx⟩;have B2:=AS (B1.below hx B1.lt);have X2:=AS (X1.trans (hx.mono X1.size));clear hx B1 X1 CR;cases r1
 ·go_wp2
  go_ret;exact⟨rfl,X2⟩
 obtain⟨i0,i1,i2,i3,i4⟩:=B2.five;go_wp2_with fail
 refine(CN w1 X2).mono ?_;rintro e w2 ⟨rfl,hw⟩;replace hw:=hw.symm;subst hw;clear i0 i1 i2 i3 i4 CN;cases r2
 ·go_wp2
  go_ret;exact⟨rfl,X2⟩
 ·go_wp2
  go_ret;exact⟨rfl,X2⟩
def cA (s:Nat->BitVec 64):Array Value:= #[AM C_ (s 0).toNat,AM C_ (s 1).toNat,AM C_ (s 2).toNat,AM C_ (s 3).toNat,AM C_ (s 4).toNat,AM C_ (s 5).toNat,AM C_ (s 6).toNat]
theorem kU (s:Nat->BitVec 64) {i:Nat} (hi:i<7):(cA s)[i]? =An (AM C_ (s i).toNat):=by
 match i,hi with
 | 0,_=>rfl
 | 1,_=>rfl
 | 2,_=>rfl
 | 3,_=>rfl
 | 4,_=>rfl
 | 5,_=>rfl
 | 6,_=>rfl
def sj (s:Nat->BitVec 64) (p:Nat):Bool:=(s (p/64)).getLsbD (p%64)
theorem PC (x:BitVec 64) (n:Nat):x.toNat/2^n%2=(x.getLsbD n).toNat:=by have h:x.getLsbD n=decide (x.toNat/2^n%2=1):=Nat.testBit_eq_decide_div_mod_eq;rw[h];rcases Nat.mod_two_eq_zero_or_one (x.toNat/2^n)with e | e<;>simp[e]
theorem zb (x:BitVec 64) (n:Nat):(bits .and C_ ((x.toNat:Int)/2^n) 1==1)=x.getLsbD n:=by
 have h:((x.toNat:Int)/2^n)=((x.toNat/2^n:Nat):Int):=by simp
 rw[h,Dd _ (Nat.lt_of_le_of_lt (Nat.div_le_self _ _) x.isLt),PC];cases x.getLsbD n<;>rfl
theorem tk (s:Nat->BitVec 64) (b p:Nat) (hp:p<448) (w:AT) (h:ar w b (cA s) 179): ah 210 #[Bm (An ⟨b,0,As⟩),AM A' p] w fun e w'=>e=AF (By (sj s p))/\w'=w:=by
 obtain⟨q,hq⟩:=ag (p/64);obtain⟨r,hr⟩:=ag (p%64);have PE:q<7:=by omega
 have PF:r<64:=by omega
 have c1:w.cell? ⟨b,q,As⟩=An (AM C_ (s q).toNat):=(h.cell q).trans (kU s PE);have e1:(p:Int).tdiv 64=(q:Int):=by rw[P' (by omega)];omega
 have e2:(p:Int).tmod 64=(r:Int):=by rw[Q_ (by omega)];omega
 have w1:A'.wrap (q:Int)=q:=D_ _ (by omega);have w2:A'.wrap (r:Int)=r:=D_ _ (by omega);have q7i:(q:Int)<7:=by omega
 have r0i:¬ ((r:Int)<0):=by omega
 have kB:sj s p=(s q).getLsbD r:=by unfold sj;rw[<-hq, <-hr]
 rw[kB];clear kB hq hr h;go_enter Tryz.func210,Tryz.ntmps210;go_wp2;go_ret;exact⟨congrArg (fun b=>AF (By b)) (zb (s q) r),rfl⟩
def jK (s:Nat->BitVec 64) (p:Nat):Nat->BitVec 64:=fun i=>if i=p/64 then s i ||| (1#64 <<< (p%64))else s i
theorem Uq (s:Nat->BitVec 64) (p:Nat) {x:Nat} :sj (jK s p) x=(sj s x || (x==p)):=by
 unfold sj jK;by_cases h:x/64=p/64
 ·rw[if_pos h,BitVec.getLsbD_or]
  congr 1
  rw[BitVec.getLsbD_shiftLeft];have hx:x%64<64:=by omega
  by_cases e:x=p
  ·subst e;simp[hx]
  ·have h1:x%64≠p%64:=by omega
   rw[show(x==p)=If from by simpa using e];simp only[hx,decide_true,oS];by_cases h2:x%64<p%64
   ·simp[h2]
   ·simp[h2,show x%64-p%64≠0 by omega]
 ·rw[if_neg h,show(x==p)=If from by rw[beq_eq_false_iff_ne];intro e;subst e;exact h rfl,Bool.or_false]
theorem PH (s:Nat->BitVec 64) {p:Nat} (hp:p<448):(cA s).setIfInBounds (p/64) (AM C_ (s (p/64) ||| (1#64 <<< (p%64))).toNat)=cA (jK s p):=by
 obtain⟨q,hq⟩:=ag (p/64);have h7:q<7:=by omega
 unfold jK;rw[<-hq];match q,h7 with
 | 0,_=>rfl
 | 1,_=>rfl
 | 2,_=>rfl
 | 3,_=>rfl
 | 4,_=>rfl
 | 5,_=>rfl
 | 6,_=>rfl
theorem He (n:Nat):(1#64 <<< n)=BitVec.twoPow 64 n:=rfl
theorem nz (s:Nat->BitVec 64) (b p:Nat) (hp:p<448) (w:AT) (h:ar w b (cA s) 179): ah 201 #[Bm (An ⟨b,0,As⟩),AM A' p] w fun e w'=>(∃ u,e=AF u)/\ar w' b (cA (jK s p)) 179/\ae (fun x=>x<w.heap.size/\x≠b) w w':=by
 have hput:=PH s hp;obtain⟨q,hq⟩:=ag (p/64);obtain⟨r,hr⟩:=ag (p%64);have PE:q<7:=by omega
 have PF:r<64:=by omega
 have c1:w.cell? ⟨b,q,As⟩=An (AM C_ (s q).toNat):=(h.cell q).trans (kU s PE);have z1:w.frozen? ⟨b,q,As⟩=false:=h.frozen q;have e1:(p:Int).tdiv 64=(q:Int):=by rw[P' (by omega)];omega
 have e2:(p:Int).tmod 64=(r:Int):=by rw[Q_ (by omega)];omega
 have w1:A'.wrap (q:Int)=q:=D_ _ (by omega);have w2:A'.wrap (r:Int)=r:=D_ _ (by omega);have q7i:(q:Int)<7:=by omega
 have r0i:¬ ((r:Int)<0):=by omega
 have q0i:¬ ((q:Int)<0):=by omega
 rw[<-hq, <-hr]at hput;rw[He]at hput;have kA:=Gx (s q) PF;have HP:=AS hput;have H:=AS h;clear hq hr h hput;go_enter Tryz.func201,Tryz.ntmps201;go_wp2;refine aI If (fun _=>False) (by kernel_rfl) 11 [0,0,2,1,15,31,0,64,192,511,1,2047,4095] (fun i=>i==12) (by kernel_rfl) (fun _=>aU.any _) ?_;intro C hC hne;have HC:=AS hC;have hbl:=H.lt;have f1:=aD hC (p:=⟨b,q,As⟩) hbl (fun h=>h) c1;clear hC c1
 repeat (refine au (fun K hK=>?_);first | (refine bL rfl ?_;try go_simp;refine hK _ _ ?_;clear hK K) | (refine bJ rfl rfl ?_;unfold az;go_simp;refine hK _ _ ?_;clear hK K))
 refine bC (fun W hW hH=>?_);have hM:=((HC W).1 hW);have HB:=AS (H.below hM.below H.lt);have HX:=AS hM.below;have c2:W.cell? ⟨b,q,As⟩=An (AM C_ (s q).toNat):=(HB.cell q).trans (kU s PE);have z2:W.frozen? ⟨b,q,As⟩=false:=HB.frozen q;clear hM hW hH HC hne f1 z1;go_wp2;have hval:((s q).toNat ||| 2^r%18446744073709551616)=(s q ||| BitVec.twoPow 64 r).toNat:=by rw[BitVec.toNat_or,BitVec.toNat_twoPow]
 refine bodyPost_end (v:=GS #[]) (by simp[results,Tryz.results201,go_sem]) rfl ⟨⟨_,rfl⟩,?_,?_⟩
 ·rw[hval]
  have hb:=HB.set q (AM C_ (s q ||| BitVec.twoPow 64 r).toNat);rw[HP.out]at hb;exact hb
 ·exact(ae.aj HX fun _ hx=>hx.1:ae (fun x=>x<w.heap.size/\x≠b) w W).setCell (p:=⟨b,q,As⟩) (fun h=>h.2 rfl) _
attribute [local go_sem] cA
def setW (l:List Nat):Nat->BitVec 64:=l.foldl jK fun _=>0
theorem sq (l:List Nat) (p:Nat):setW (l++ [p])=jK (setW l) p:=by unfold setW;rw[e_];rfl
theorem JL (l:List Nat) (x:Nat):sj (setW l) x=l.contains x:=by
 have h:∀ (l:List Nat) (s:Nat->BitVec 64),sj (l.foldl jK s) x=(sj s x || l.contains x):=by
  intro l;induction l with
  | nil=>intro s;simp
  | cons p l ih=>
   intro s;rw[List.foldl_cons,ih,Uq,List.contains_cons,Bool.or_assoc]
 unfold setW;rw[h];simp[sj]
theorem DT (v:Value) (l:List Nat) (w:AT) (h:bw (fun p:Nat=>AM A' p) w v l) (hl:∀ p∈l,p<448) (hn:l.length<=1000000): ah 229 #[v] w fun e w'=>e=AF (j_ (cA (setW l)))/\aa w w':=by
 obtain⟨a,cap,rfl⟩:=h.form;obtain⟨n,iV⟩:=ag l.length;rw[<-iV]at h hn ⊢;have H:=AS h;have HN:=AS iV;have HL:=AS hl;clear h iV hl;go_enter Tryz.func229,Tryz.ntmps229;go_wp2;refine aw ?_;intro V hV;have B1:IN (ar V w.heap.size (cA fun _=>0) 179):=AS (by rw[hV];exact(ar.new w _ _).alloc _);have B2:IN (ar V (w.heap.size+1) (cA fun _=>0) 179):=AS (by rw[hV];exact(ar.new _ _ _).at (by simp));have X1:IN (aa w V):=AS (by rw[hV];exact(((Ext.refl w).alloc _).alloc _).below);clear hV;go_loopw [8] (fun iv wr=>∃ k:Nat,k<=n/\iv=AM A' k/\ar wr (w.heap.size+1) (cA (setW (l.take k))) 179/\ae (fun x=>x<V.heap.size/\x≠w.heap.size+1) V wr) (fun iv _=>n-(intOf iv).toNat);case atStart=>exact⟨0,by omega,rfl,B2,ae.refl _ _⟩
 case round=>
  obtain⟨k,hk,rfl,hb,hx⟩:=hrel;have HB:=AS hb;have HX:=AS hx;have XX:IN (aa w wr):=AS (X1.trans (hx.mono fun x AH=>⟨ay AH X1.size,by have:x<w.heap.size:=AH;omega⟩:ae (· <w.heap.size) V wr).below);clear hb hx;by_cases hlt:k<n
  ·obtain⟨p,hp⟩:∃ p,l[k]? =An p:=⟨_,aB (by have:=HN.out;omega)⟩
   obtain⟨g,off,rfl,hg,c1⟩:=(H.below XX).elem hp;replace c1:wr.cell? ⟨g,off+k,As⟩=An (AM A' p):=c1;have ed:(k:Int)<n:=by omega
   have HP:=AS hp;have hp4:=HL.out p (ax hp);clear hp;go_wp2_with fail
   clear c1;refine(nz _ _ p hp4 wr HB).mono ?_;rintro e w2 ⟨⟨u,rfl⟩,hb2,hx2⟩;have gR:=AS hb2;have gh:=AS (HX.trans hx2 fun x AH=>⟨ay AH.1 HX.size,AH.2⟩);clear hb2 hx2;go_wp2;exact⟨⟨k+1,by omega,by go_num,by rw[Cd,HP.out];show ar _ _ (cA (setW (l.take k++ [p]))) _;rw[sq];exact gR,gh⟩,by simp[intOf];omega⟩
  ·have sU:k=n:=by omega
   have Cq:¬ ((k:Int)<n):=by omega
   have er:l.take k=l:=by rw[sU,HN.out,B']
   rw[er]at HB;obtain⟨S,hS⟩:=ag (setW l);rw[<-hS]at HB;have HS:=AS hS;have R0:=AS (B1.keeps HX ⟨B1.lt,by omega⟩);have c0:wr.cell? ⟨w.heap.size+1,0,As⟩=An (AM C_ (S 0).toNat):=HB.cell 0;have r0:wr.cell? ⟨w.heap.size,0,As⟩=An (AM C_ 0):=R0.cell 0;have c1:wr.cell? ⟨w.heap.size+1,1,As⟩=An (AM C_ (S 1).toNat):=HB.cell 1;have r1:wr.cell? ⟨w.heap.size,1,As⟩=An (AM C_ 0):=R0.cell 1;have c2:wr.cell? ⟨w.heap.size+1,2,As⟩=An (AM C_ (S 2).toNat):=HB.cell 2;have r2:wr.cell? ⟨w.heap.size,2,As⟩=An (AM C_ 0):=R0.cell 2;have c3:wr.cell? ⟨w.heap.size+1,3,As⟩=An (AM C_ (S 3).toNat):=HB.cell 3;have r3:wr.cell? ⟨w.heap.size,3,As⟩=An (AM C_ 0):=R0.cell 3;have c4:wr.cell? ⟨w.heap.size+1,4,As⟩=An (AM C_ (S 4).toNat):=HB.cell 4;have r4:wr.cell? ⟨w.heap.size,4,As⟩=An (AM C_ 0):=R0.cell 4;have c5:wr.cell? ⟨w.heap.size+1,5,As⟩=An (AM C_ (S 5).toNat):=HB.cell 5;have r5:wr.cell? ⟨w.heap.size,5,As⟩=An (AM C_ 0):=R0.cell 5;have c6:wr.cell? ⟨w.heap.size+1,6,As⟩=An (AM C_ (S 6).toNat):=HB.cell 6;have r6:wr.cell? ⟨w.heap.size,6,As⟩=An (AM C_ 0):=R0.cell 6;have rf:=fun i=>R0.frozen i
   clear hS er HL HN H;go_wp2;refine Wr (v:=j_ (cA S)) ?_ rfl ⟨by rw[HS.out];rfl,?_⟩
   ·simp[results,Tryz.results229,go_sem,r0,r1,r2,r3,r4,r5,r6]
   ·refine XX.trans (ae.below (((((((ae.refl (· <w.heap.size) _).setCell ?_ _).setCell ?_ _).setCell ?_ _).setCell ?_ _).setCell ?_ _).setCell ?_ _ |>.setCell ?_ _))<;>(intro h;simp at h)
end
section
open Go Go.RowKit Go.Shelf Go.Maps
theorem AK (x:Int) (em:Bool) (s:Nat->BitVec 64) (B b:Nat) (W:AT) (hB:W.cell? ⟨B,4,As⟩=An (By em)) (hb:ar W b (cA s) 179) (hx:x= -1\/(0<=x/\x<448)): ah 230 #[AM A' x,Bm (An ⟨B,0,As⟩),Bm (An ⟨b,0,As⟩)] W fun e w'=>e=AF (By (if x= -1 then em else sj s x.toNat))/\w'=W:=by
 by_cases h1:x= -1
 ·subst h1
  rw[if_pos rfl];cases em
  ·go_enter ff,ZS
   go_wp2;go_ret;exact⟨rfl,rfl⟩
  ·go_enter ff,ZS
   go_wp2;go_ret;exact⟨rfl,rfl⟩
 ·rw[if_neg h1]
  obtain⟨p,rfl⟩:∃ p:Nat,x=p:=⟨x.toNat,by omega⟩;have hp:p<448:=by omega
  have d1:((p:Int)== -1)=false:=by rw[beq_eq_false_iff_ne];omega
  have d2:((p:Int) != -1)=true:=by rw[bne_iff_ne];omega
  have CH:=AS (tk s b p hp W hb);rw[GB];clear h1 hx hb;go_enter ff,ZS;go_wp2_with fail
  refine CH.mono ?_;rintro e w2 ⟨rfl,hw⟩;replace hw:=hw.symm;subst hw;go_wp2;go_ret;exact⟨rfl,rfl⟩
theorem vF (g:Nat) (lb:Array Value) (f:Int->Bool) (v:Value) (l:List Int) (w:AT) (h:bw aG w v l) (hn:l.length<=1000000) (eg:∀ args w,(callFunc g args).run AN w=.ok (.enter g args) w) (hf:∀ s∈l,∀ W,aa w W->ah g (#[AM A' s]++lb) W fun e w'=>e=AF (By (f s))/\w'=W): ah 120 #[v,.func (.func g) #[] lb] w fun e w'=>e=AF (AM A' (fK f l))/\w'=w:=by
 obtain⟨a,cap,rfl⟩:=h.form;obtain⟨n,iV⟩:=ag l.length;rw[<-iV]at h hn ⊢;have H:=AS h;have HN:=AS iV;have HF:=AS fun s hs=>hf s hs w (Below.refl _ _)
 obtain⟨r,hr⟩:=ag (fK f l);rw[<-hr];have HR:=AS hr;clear h iV hf hr;go_enter Tryz.func120,Tryz.ntmps120;go_wp2
 go_loop [8] (fun i=>∃ k:Nat,k<=n/\i=AM A' k/\(∀ s∈l.take k,f s=If)) (fun i=>n-(intOf i).toNat)
 case atStart=>exact⟨0,by omega,rfl,fun s hs=>by simp at hs⟩
 case round=>
  obtain⟨k,hk,rfl,ha⟩:=hrel;by_cases hlt:k<n
  ·obtain⟨s,hs⟩:∃ s,l[k]? =An s:=⟨_,aB (by have:=HN.out;omega)⟩
   obtain⟨b,off,rfl,hb,d0⟩:=H.elem hs;have d0':w.cell? ⟨b,off+k,As⟩=An (AM A' s):=d0;have Th:=AS (HF.out s (ax hs));have HA:=AS ha;have HS:=AS hs;clear ha hs d0;obtain⟨b1,hb1⟩:=ag (f s);rw[<-hb1]at Th;have mC:=AS hb1;clear hb1;cases b1 with
   | true=>
    have iz:=AS (HR.trans (np HS mC.symm HA));go_wp2;refine Th.mono ?_;rintro e w2 ⟨rfl,hw⟩;replace hw:=hw.symm;subst hw;go_wp2;go_ret;exact⟨by rw[iz.out];rfl,rfl⟩
   | false=>
    go_wp2;refine Th.mono ?_;rintro e w2 ⟨rfl,hw⟩;replace hw:=hw.symm;subst hw;go_wp2
    go_round
    case rel=>exact⟨k+1,by omega,by go_num,r8 HS mC.symm HA⟩
    case measure=>simp[intOf];omega
  ·obtain rfl:k=n:=by omega
   have iz:=AS (HR.trans (nr fun y hy=>ha y (by rw[HN.out,B'];exact hy)));clear ha;go_wp2;go_ret;exact⟨by rw[iz.out];rfl,rfl⟩
theorem qX (g:Nat) (lb:Array Value) (f:Int->Bool) (v:Value) (l:List Int) (w:AT) (h:bw aG w v l) (hn:l.length<=1000000) (eg:∀ args w,(callFunc g args).run AN w=.ok (.enter g args) w) (hf:∀ s∈l,∀ W,aa w W->ah g (#[AM A' s]++lb) W fun e w'=>e=AF (By (f s))/\w'=W): ah 65 #[v,.func (.func g) #[] lb] w fun e w'=>e=AF (By (l.any f))/\w'=w:=by have HI:=AS (vF g lb f v l w h hn eg hf);rw[<-pR];obtain⟨a,cap,rfl⟩:=h.form;clear h hf eg;generalize fK f l=z at HI ⊢;go_enter Tryz.func65,Tryz.ntmps65;go_wp2_with (go_at_call 120;refine HI.mono ?_;rintro e w2 ⟨rfl,hw⟩;replace hw:=hw.symm;subst hw);go_ret;exact⟨rfl,rfl⟩
def dF (s:Nat->BitVec 64) (n:Nat):List Nat:=(V_ n).filter (sj s)
theorem sr (s:Nat->BitVec 64) (k:Nat):dF s (k+1)=dF s k++if sj s k then [k]else []:=by unfold dF;rw[List.range_succ,Rr];by_cases h:sj s k=On<;>simp[h]
theorem tq (s:Nat->BitVec 64) {k n:Nat} (h:k<=n):dF s k<+:dF s n:=by
 induction n with
 | zero=>rw[show k=0 from by omega];exact ke
 | succ n ih=>
  by_cases hk:k=n+1
  ·subst hk;exact ke
  ·exact(ih (by omega)).trans (by rw[sr];exact List.prefix_append _ _)
theorem DU (s:Nat->BitVec 64) (n:Nat):(dF s n).length<=n:=by unfold dF;exact G' (Y' _ _) (by simp)
def NF.on (a:NF) (c q:Nat):Bool:=(a.aO.getD q 0).getLsbD c
def lM (a:NF) (c:Nat) (l:List Int):List Nat:=(l.map FG).filter (a.on c)
theorem ze (a:NF) (c:Nat) (l:List Int) (q:Int):lM a c (l++ [q])=lM a c l++if a.on c q.toNat then [q.toNat]else []:=by unfold lM;rw[X',Rr];by_cases h:a.on c q.toNat=On<;>simp[h]
def fp (a:NF) (c:Nat) (l:List Int):List Nat:=l.flatMap fun p=>lM a c (a.pT p)
theorem Hf (a:NF) (c:Nat) (l:List Int) (p:Int):fp a c (l++ [p])=fp a c l++lM a c (a.pT p):=by unfold fp;rw[DP];simp
theorem Nt.PM {a:NF} (h:Nt a) {l:List Int} (hl:a.st l=On) {p:Int} (hp:p∈l):dQ 0 ((a.aO.length:Int)-1) (a.pT p)=true:=by
 have h1:=(dR hl).2 p hp;unfold NF.pT;split
 ·exact h.fst
 ·exact h.row _ (by omega)
theorem LJ {a:NF} (h:Nt a) {l:List Int} (hl:a.st l=On) (c:Nat):(dF (setW (fp a c l)) 448).map U'=a.step l c:=by
 have kB:∀ q,sj (setW (fp a c l)) q=(decide (q<a.aO.length)&&a.hit l c q):=by
  intro q;rw[JL,X_,Bs,D0,decide_eq_true_eq];unfold fp NF.hit lM;rw[jj,i'];constructor
  ·rintro⟨p,hp,hq⟩
   rw[IF,A_]at hq;obtain⟨⟨x,hx,rfl⟩,hon⟩:=hq;have h2:=(dR (h.PM hl hp)).2 x hx;refine⟨by omega,p,hp,?_⟩;rw[D0,Bs,H' h2.1];exact⟨hx,hon⟩
  ·rintro⟨hq,p,hp,h3⟩
   rw[D0,Bs]at h3;exact⟨p,hp,IF.2 ⟨A_.2 ⟨_,h3.1,by simp⟩,h3.2⟩⟩
 have hle:=h.le;unfold NF.step dF;congr 1;obtain⟨m,hm⟩:∃ m,448=a.aO.length+m:=⟨448-a.aO.length,by omega⟩;rw[hm,List.range_add,Rr];have e2:(List.map (fun x=>a.aO.length+x) (V_ m)).filter (sj (setW (fp a c l)))=[]:=by rw[List.filter_eq_nil_iff];intro x hx;obtain⟨y,_,rfl⟩:=A_.1 hx;rw[kB,decide_eq_false (show ¬a.aO.length+y<a.aO.length by omega)];simp
 rw[e2,DH];refine du fun q hq=>?_
 rw[kB,decide_eq_true (Kx.1 hq),oS]
attribute [local go_sem] encS Oper.semAt_some gj dz
def vG (p:Nat):Value:=AM A' (p:Int)
theorem vH {d:Bool} {gf:Nat} {lb:Array Value} {R:Nat->Prop} (xs:List Nat) (w:AT) (hseq:Seq d AN gf lb (fun c:Nat=> #[AM A' (c:Int)]) R xs w) (eg:∀ args w,(callFunc gf args).run AN w=.ok (.enter gf args) w) (hR:∀ k,R k->k<w.heap.size) (hn:xs.length<=1000000): ah 208 #[AI As 0 0,.func (.func gf) #[] lb] w fun e w'=>∃ v,e=AF v/\w'.ownsRow w.heap.size 3 1 v xs.length (xs.map vG)/\aa w w':=by
 obtain⟨i0,hi,hz0,hz1,hz2⟩:=mT Tryz.ki;refine cd Tryz.func208 rfl ?_;simp only[Tryz.ntmps208,To,D',k_,o_,pf,Array.replicate_succ,Array.replicate_zero,fi,Zl,OR,H_];go_wp2;refine aw ?_;intro W0 hW0;have h1:ar W0 w.heap.size #[AI As 0 0] 39:=by rw[hW0];exact ar.new _ _ _
 have hx:Ext w W0:=by rw[hW0];exact(Ext.refl w).alloc _
 have hsz:W0.heap.size=w.heap.size+1:=by rw[hW0];simp
 refine ic (w:=W0) (hseq.at hx.keeps) (by rfl) eg (by intro _;rfl) (by intro k hk;have:=hR k hk;omega)
  (fun xs T W=>∃ v,ar W w.heap.size #[v] 39/\W.ownsRow (w.heap.size+1) 3 1 v xs.length (xs.map vG)/\(∀ k,v.ownBlock=An k->¬T k)/\aa w W)
  (fun _ _ _ _=>False)
  ?_
  (fun c xs T T' W W' h=>h.elim)
  ⟨_,h1,World.ownsRow_nil _ _ _ _,fun _ _ h=>h,hx.below⟩
  (fun x=>⟨#[AI As 0 0,.func (.func gf) #[] lb,Bm (An ⟨w.heap.size,0,As⟩),rm,AI As 0 0,AM A' (x:Int),.func (.func gf) #[] lb,AM A' (x:Int),rm,rm,rm,rm,rm],[]⟩) ?assign ?body ?done ?stop
 ·intro xs T T' W W' ⟨v,g1,g2,g3,g4⟩ hT OT hs hn hk
  refine⟨v,g1.mJ hT hk (by omega),ak g2 hk.1 (fun k e=>⟨(g2.lt k e).2,g3 k e⟩),fun k e ht=>?_,ib g4 hT hk (aF _) (by omega)⟩;rcases hn k ht with h | h
  ·exact g3 k e h
  ·have:=(g2.lt k e).2;omega
 case assign=>
  intro l x W K hK
  gi_wp2
  exact hK
 case body=>
  rintro l pre x T W bO hT _ xO hl ⟨v,g1,g2,g3,g4⟩;have c1:W.cell? ⟨w.heap.size,0,As⟩=An v:=g1.cell 0;have f1:=g1.frozen 0;have hlen:pre.length<xs.length:=by obtain⟨r,hr⟩:=bO;rw[<-hr];simp
  have G1:=AS g1;have G3:=AS g3;have G4:=AS g4;have lF:=AS hsz;have HT:=AS hT;clear g1 g3 g4 hsz hW0 hT hl xO
  gi_wp2_with (gi_at_builtin;refine wpListIn_append_own_at _ rfl _ _ 39 rfl (w.heap.size+1) 3 i0 (AM A' 0) 1 8 J' hi hz0 hz1 hz2 rfl (by decide) _ _ _ rfl (g2.alloc _) ⟨W.heap.size,0,As⟩ 1 1 [vG x] rfl rfl (cell_one_new _ _ _) (by simp[RC,vG]) (by unfold maxLen;omega) (by omega) (by have h1:=G4.size;have h2:=lF.out;have h3:=G1.lt;simp;omega) ?_;intro v' w1 hown' hgrow hh hat;obtain⟨g',cap',rfl⟩:=ownsRow_succ hown';have hb1:=(G1.alloc (.cells #[AM A' (x:Int)] 3 (0,0))).grown hgrow (fun e=>by have:=(g2.lt _ e.symm).1;omega);have c2:=hb1.cell 0;have f2:=hb1.frozen 0;have HB:=AS hb1;have HO:=AS hown';have HG:=AS hgrow;have H2:=AS g2;have Ld:=AS hat;clear hown' hgrow hb1 g2 hh hat)
  have hgT:¬T g':=fun ht=>by
   rcases Ld.out with h | h
   ·exact G3 g' h.symm ht
   ·have h1:=(HT.out g' ht).2;simp[m_]at h;omega
  have Xy:∀ k,(R k\/T k)->k<W.heap.size/\An k≠v.ownBlock:=fun k hk=>by
   refine⟨?_,fun e=>?_⟩
   ·rcases hk with hk | hk
    ·have h1:=hR k hk;have h2:=G4.size;omega
    ·exact(HT k hk).2
   ·rcases hk with hk | hk
    ·have h1:=hR k hk;have h2:=(H2.lt k e.symm).1;omega
    ·exact G3 k e.symm hk
  have mj:ae (fun k=>R k\/T k) W w1:=(((ae.refl _ W).alloc (fun k hk=>(Xy k hk).1) _)).tr (ae.aZ HG fun k hk=>⟨by have:=(Xy k hk).1;simp;omega,(Xy k hk).2⟩);have yL:∀ k,(R k\/T k)->k≠w.heap.size:=fun k hk=>by
   rcases hk with hk | hk
   ·have h1:=hR k hk;omega
   ·have h1:=(HT.out k hk).1;have h2:=lF.out;omega
  refine⟨mj.setCell (fun h=>yL _ h rfl) _,_,HB.set 0 _,?_,fun k e=>?_,?_⟩
  ·rw[aJ,X']
   exact ak HO ((ae.refl (fun k=>k≠w.heap.size) _).setCell (by simp) _) (fun k e=>by have:=(HO.lt k e).1;omega)
  ·simp[m_]at e;subst e;exact hgT
  ·exact((G4.alloc (by exact G4.size) _).grown HG (by have:=G4.size;simp;omega) (fun k e=>by have:=(H2.lt k e).1;omega)).setCell (aF _) _
 case done=>
  rintro D T W hD xR hT ⟨v,g1,g2,g3,g4⟩ mB;have c1:W.cell? ⟨w.heap.size,0,As⟩=An v:=g1.cell 0;have G2:=AS g2;have G4:=AS g4;have HD:=AS hD;have lF:=AS hsz;have xF:=AS mB;clear g1 g2 g3 g4 hsz hW0 hT xR mB hD;dsimp only;go_wp2;refine di rfl xF (results_tmp rfl _ _ _) ⟨v,rfl,ownsRow_putObj (aC G2 (by omega)) _ xF rfl,((ae.aj G4 (fun _ h=>h)).putObj (by have:=HD.out;have:=lF.out;omega) _).below⟩
 case stop=>rintro D c pre T W _ _ _ _ h _;exact h.elim
theorem qY {d:Bool} {gf:Nat} {lb:Array Value} {R:Nat->Prop} (xs:List Nat) (w:AT) (hseq:Seq d AN gf lb (fun c:Nat=> #[AM A' (c:Int)]) R xs w) (eg:∀ args w,(callFunc gf args).run AN w=.ok (.enter gf args) w) (hR:∀ k,R k->k<w.heap.size) (hn:xs.length<=1000000): ah 164 #[.func (.func gf) #[] lb] w fun e w'=>∃ v,e=AF v/\w'.ownsRow w.heap.size 3 1 v xs.length (xs.map vG)/\aa w w':=by have H:=AS (vH xs w hseq eg hR hn);clear hseq eg;go_enter Tryz.func164,Tryz.ntmps164;go_wp2_with (go_at_call 208;refine H.mono ?_;rintro e w1 ⟨v,rfl,h1,h2⟩;have H1:=AS h1;have H2:=AS h2;clear h1 h2);go_ret;exact⟨v,rfl,H1,H2⟩
end
section
open Go Go.RowKit Go.Shelf Go.Maps
attribute [local go_sem] Oper.semAt_some gj dz
theorem DV (s:Nat->BitVec 64) (B b:Nat) (w:AT) (hB:ar w B #[Bm (An ⟨b,0,As⟩)] 255) (hb0:ar w b (cA s) 179):Seq On AN 209 #[Bm (An ⟨B,0,As⟩)] (fun p:Nat=> #[AM A' (p:Int)]) (fun k=>k=B\/k=b) (dF s 448) w:=by
 intro l J Jx W hK hJ Xw hY h0;have HY:=AS hY;have HH:=AS (tk s b);clear hY;have B0:=hB.keeps hK hB.lt;have B1:=hb0.keeps hK hb0.lt;clear hB hb0;refine fs (n:=0).1 ?_;refine callsIn_of_wp qt rfl trivial ?_ rfl;simp only[Tryz.ntmps209,To,D',k_,o_,pf,Array.replicate_succ,Array.replicate_zero,fi,Zl,OR,H_]
 gi_wp2
 gi_loopw [4] (fun i wr=>∃ (k:Nat) (T:Nat->Prop),k<=448/\i=AM A' k/\ar wr B #[Bm (An ⟨b,0,As⟩)] 255/\ar wr b (cA s) 179/\J (dF s k) T wr/\(∀ k,T k->W.heap.size<=k/\k<wr.heap.size)/\ae (fun k=>k=B\/k=b) W wr)
  (fun i _=>448-(intOf i).toNat)
 case atStart=>
  exact⟨0,fun _=>False,by omega,rfl,B0,B1,h0,fun _ h=>h.elim,ae.refl _ _⟩
 case round=>
  obtain⟨k,T,hk,rfl,hB,hb,hj,hT,hR⟩:=hrel;by_cases hlt:k<448
  ·have c0:wr.cell? ⟨B,0,As⟩=An (Bm (An ⟨b,0,As⟩)):=hB.cell 0
   have Ur:=AS hB;have HB:=AS hb;have HJ:=AS hj;have HT:=AS hT;have HR:=AS hR;clear hB hb hj hT hR B0 B1;have bO:=sr s k;by_cases iC:sj s k=On
   ·rw[if_pos iC]at bO
    have HP:=AS bO;have NH:dF s k++ [k]<+:dF s 448:=by rw[<-bO];exact tq s (by omega)
    have OS:=AS NH;have h1:ah 210 #[Bm (An ⟨b,0,As⟩),AM A' k] wr fun e w'=>e=AF (By On)/\w'=wr:=by have:=HH.out k hlt wr HB;rwa[iC]at this
    have H1:=AS h1;clear bO NH h1 iC HH
    gi_wp2_with (gi_at_call 210;refine(fs.2 H1).mono ?_;rintro e w1 ⟨rfl,hw⟩;replace hw:=hw.symm;subst hw;obtain⟨fn,tm,Cv,bd,hy,De⟩:=HY.out (dF s k) k T _ OS HT HR HJ;have NI:=AS De;clear De)
    refine NI.mono ?_;rintro e W2 (⟨rfl,kN,hk2⟩ | ⟨rfl,kN,hk2⟩)
    ·have uz:=AS kN
     have pL:=AS hk2;clear kN hk2 hy
     gi_wp2
     go_roundw
     case rel=>
      refine⟨k+1,T,by omega,by go_num,?_,?_,?_,?_,?_⟩
      ·exact Ur.keeps pL (.inl (.inl rfl))
      ·exact HB.keeps pL (.inl (.inr rfl))
      ·rw[HP.out];exact uz
      ·exact fun j hj=>⟨(HT j hj).1,ay (HT j hj).2 pL.size⟩
      ·exact HR.tr (pL.mono fun j hj=>.inl hj)
     case measure=>simp[intOf];omega
    ·have uz:=AS kN
     have pL:=AS hk2;clear kN hk2 hy
     gi_wp2
     refine Wr (results_none rfl _ _ _) rfl ?_;exact⟨⟨_,rfl⟩,T,fun j hj=>⟨(HT j hj).1,ay (HT j hj).2 pL.size⟩,.inr ⟨_,OS,uz⟩⟩
   ·have sX:sj s k=false:=by simpa using iC
    rw[if_neg iC,DH]at bO;have HP:=AS bO;have h1:ah 210 #[Bm (An ⟨b,0,As⟩),AM A' k] wr fun e w'=>e=AF (By If)/\w'=wr:=by have:=HH.out k hlt wr HB;rwa[sX]at this
    have H1:=AS h1;clear bO h1 iC sX HH
    gi_wp2_with (gi_at_call 210;refine(fs.2 H1).mono ?_;rintro e w1 ⟨rfl,hw⟩;replace hw:=hw.symm;subst hw)
    go_roundw
    case rel=>
     refine⟨k+1,T,by omega,by go_num,Ur,HB,?_,HT,HR⟩;rw[HP.out];exact HJ
    case measure=>simp[intOf];omega
  ·obtain rfl:k=448:=by omega
   gi_wp2
   refine bodyPost_end (results_none rfl _ _ _) rfl ?_;exact⟨⟨_,rfl⟩,T,hT,.inl hj⟩
theorem AO (b:Nat) (w:AT):ah 165 #[Bm (An ⟨b,0,As⟩)] w fun e w'=>e=AF (.func (.func 209) #[] #[Bm (An ⟨w.heap.size,0,As⟩)])/\w'=w.alloc (.cells #[Bm (An ⟨b,0,As⟩)] 255 (0,0)):=by
 go_enter Tryz.func165,Tryz.ntmps165
 go_wp2;go_ret;exact⟨rfl,rfl⟩
theorem AP (s:Nat->BitVec 64) (b:Nat) (w:AT) (hb:ar w b (cA s) 179): ah 103 #[Bm (An ⟨b,0,As⟩)] w fun e w'=>∃ v,e=AF v/\w'.ownsRow w.heap.size 3 1 v (dF s 448).length ((dF s 448).map vG)/\aa w w':=by
 have eg:∀ args w,(callFunc 209 args).run AN w=.ok (.enter 209 args) w:=enters_of qt (by kernel_rfl) rfl;have hlen:(dF s 448).length<=1000000:=G' (DU _ _) (by decide);have H:IN (∀ (W:AT) (B:Nat),ar W B #[Bm (An ⟨b,0,As⟩)] 255->ar W b (cA s) 179->ah 164 #[.func (.func 209) #[] #[Bm (An ⟨B,0,As⟩)]] W fun e w'=>∃ v,e=AF v/\w'.ownsRow W.heap.size 3 1 v (dF s 448).length ((dF s 448).map vG)/\aa W w'):=
  fun W B hB hb=>qY _ W (DV s B b W hB hb) eg (fun k hk=>hk.elim (fun e=>by rw[e];exact hB.lt) (fun e=>by rw[e];exact hb.lt)) hlen
 have HB:=AS hb;clear eg hlen hb;generalize dF s 448=xs at H ⊢;go_enter Tryz.func103,Tryz.ntmps103;go_wp2_with (first | (go_at_call 165;refine(AO b _).mono ?_;rintro e w1 ⟨rfl,rfl⟩) | (go_at_call 164;refine(H _ _ ((ar.new _ _ _).at (by simp)) (HB.alloc _)).mono ?_;rintro e w1 ⟨v,rfl,h1,h2⟩;have H1:=AS h1;have H2:=AS h2;clear h1 h2));go_ret;refine⟨v,rfl,aC H1 (by simp),?_⟩;exact((Ext.refl w).alloc _).below.trans (H2.mono (by simp))
end
section
open Go Go.RowKit Go.Shelf Go.Maps
theorem bw.pos {w:AT} {v:Value} {l:List Int} (h:bw aG w v l) (hp:∀ x∈l,0<=x):bw (fun p:Nat=>AM A' p) w v (l.map FG):=by
 rcases h with⟨rfl,rfl⟩ | ⟨b,off,cap,rfl,hb,hc,h⟩
 ·exact .inl ⟨rfl,rfl⟩
 ·refine .inr ⟨b,off,cap,by rw[aP],hb,by rw[aP];exact hc,fun i p hi=>?_⟩
  rw[aN]at hi;obtain⟨x,hx,rfl⟩:=EV.1 hi;have e:=H' (hp x (ax hx));rw[h i x hx];show An (AM A' x)=An (AM A' (x.toNat:Int));rw[e]
theorem Us:∀ args w,(callFunc 230 args).run AN w=.ok (.enter 230 args) w:=fun args w=>by kernel_rfl
theorem AQ (v u:Value) (a:NF) (rt:Nt a) (l:List Int) (hst:a.st l=On) (w:AT) (h:kT w v a) (sm:Py a) (hu:bw aG w u l) (hl:l.length<=1000000): ah 190 #[v,u] w fun e w'=>e=AF (By (a.acc l))/\aa w w':=by
 have Ut:=(dR rt.cL).2;have hle:=rt.le;have CS:IN (∀ W v,bw aG W v a.cL->ah 229 #[v] W fun e w'=>e=AF (j_ (cA (setW (a.cL.map FG))))/\aa W w'):=AS fun W v h=>DT v (a.cL.map FG) W (h.pos fun x hx=>(Ut x hx).1) (fun p hp=>by obtain⟨x,hx,rfl⟩:=A_.1 hp;have:=Ut x hx;omega) (by rw[aP];exact sm.cL)
 have oM:∀ x:Int,0<=x->sj (setW (a.cL.map FG)) x.toNat=a.cL.contains x:=fun x hx=>by
  rw[JL,X_,Bs,Bs,A_];constructor
  ·rintro⟨y,hy,e⟩
   have:=(Ut y hy).1;obtain rfl:y=x:=by omega
   exact hy
  ·exact fun h=>⟨x,h,rfl⟩
 have CC:IN (∀ W v' B b,bw aG W v' l->W.cell? ⟨B,4,As⟩=An (By a.emp)->B<W.heap.size->ar W b (cA (setW (a.cL.map FG))) 179->ah 65 #[v',.func (.func 230) #[] #[Bm (An ⟨B,0,As⟩),Bm (An ⟨b,0,As⟩)]] W fun e w'=>e=AF (By (a.acc l))/\w'=W):=AS fun W v' B b hv' hB hBl hb=>by
  refine qX 230 #[Bm (An ⟨B,0,As⟩),Bm (An ⟨b,0,As⟩)] a.Uo v' l W hv' hl Us fun x hx W' hk=>?_
  have Uu:=(dR hst).2 x hx
  have:=AK x a.emp (setW (a.cL.map FG)) B b W' ((ae.aj hk (R:=(· <W.heap.size)) fun _ h=>h).cell (p:=⟨B,4,As⟩) hBl |>.trans hB) (hb.below hk hb.lt) (by
   rcases Int.lt_or_le x 0 with h1 | h1
   ·exact .inl (by omega)
   ·exact .inr ⟨h1,by omega⟩)
  have e:(if x= -1 then a.emp else sj (setW (a.cL.map FG)) x.toNat)=a.Uo x:=by
   unfold NF.Uo;split
   ·rfl
   ·exact oM x (by omega)
  rw[e]at this;exact this
 obtain⟨v0,v1,v2,v3,rfl,h0,h1,h2,h3⟩:=h;obtain⟨a3,c3,rfl⟩:=h3.form;obtain⟨ua,uc,rfl⟩:=hu.form;obtain⟨R,hR⟩:=ag (a.acc l);obtain⟨S,hS⟩:=ag (setW (a.cL.map FG));obtain⟨n3,Ga⟩:=ag a.cL.length;obtain⟨m,hm⟩:=ag l.length;rw[<-hS]at CS CC;rw[<-hR]at CC ⊢;rw[<-Ga]at h3 ⊢;rw[<-hm]at hu ⊢;have H3:=AS h3;have HU:=AS hu;clear h0 h1 h2 h3 hu hR hS Ga hm sm rt Ut oM hst hle;go_enter Tryz.func190,Tryz.ntmps190;go_wp2_with fail
 refine aK ?_;intro V hV;have B1:IN (ar V w.heap.size #[v0,v1,v2,AI a3 n3 c3,By a.emp] 118):=AS (by rw[hV];exact ar.new w _ _);have X1:IN (aa w V):=AS (by rw[hV];exact((Ext.refl w).alloc _).below);clear hV;refine(CS V _ (H3.below X1)).mono ?_;rintro e w1 ⟨rfl,hx⟩;have B2:=AS (B1.below hx B1.lt);have X2:=AS (X1.trans (hx.mono X1.size));clear hx B1 X1 CS;have hst:=run_storeCells_new (P:=AN) w1 179 #[AM C_ 0,AM C_ 0,AM C_ 0,AM C_ 0,AM C_ 0,AM C_ 0,AM C_ 0] (cA S) (by kernel_rfl) rfl (by simp[cA,RC]);go_wp2_with fail
 refine aK ?_;intro V2 hV2;have b6:IN (ar V2 w1.heap.size (cA S) 179):=AS (by rw[hV2];exact ar.new _ _ _);have XV:IN (aa w1 V2):=AS (by rw[hV2];exact((Ext.refl w1).alloc _).below);clear hV2 hst;have i4:=(B2.below XV B2.lt).five.2.2.2.2;have hl:=(B2.below XV B2.lt).lt;refine(CC V2 _ _ _ (HU.below (X2.trans (XV.mono X2.size))) i4 hl b6).mono ?_;rintro e w' ⟨rfl,hw⟩;replace hw:=hw.symm;subst hw;go_wp2;go_ret;exact⟨rfl,X2.trans (XV.mono X2.size)⟩
theorem AR (v u:Value) (a:NF) (rt:Nt a) (l:List Int) (hst:a.st l=On) (w:AT) (h:kT w v a) (sm:Py a) (hu:bw aG w u l) (hl:l.length<=1000000): ah 213 #[v,u] w fun e w'=>e=AF (GS #[By (a.acc l),AM A' 0])/\aa w w':=by
 have CK:IN (∀ W,aa w W->ah 241 #[v,u] W fun e w'=>e=AF (AM A' 0)/\aa W w'):=AS fun W hW=>by
  have:=vE v u a l W (h.below hW) sm (hu.below hW) hl;have e:a.Yq l=0:=by unfold NF.Yq;rw[(eP a).2 rt,hst];rfl
  rwa[e]at this
 have CA:IN (∀ W,aa w W->ah 190 #[v,u] W fun e w'=>e=AF (By (a.acc l))/\aa W w'):=AS fun W hW=>AQ v u a rt l hst W (h.below hW) sm (hu.below hW) hl
 obtain⟨a0,c0,a1,n1,c1,a2,n2,c2,a3,n3,c3,rfl⟩:=h.Pz;generalize a.aO.length=n0 at*;generalize a.acc l=R at*;obtain⟨ua,uc,rfl⟩:=hu.form;generalize l.length=m at*;clear h hu sm rt hst hl;go_enter Tryz.func213,Tryz.ntmps213;go_wp2_with fail
 refine aK ?_;intro V hV;have B1:IN (ar V w.heap.size #[AI a0 n0 c0,AI a1 n1 c1,AI a2 n2 c2,AI a3 n3 c3,By a.emp] 118):=AS (by rw[hV];exact ar.new w _ _);have X1:IN (aa w V):=AS (by rw[hV];exact((Ext.refl w).alloc _).below);clear hV;refine(CK V X1).mono ?_;rintro e w1 ⟨rfl,hx⟩;have B2:=AS (B1.below hx B1.lt);have X2:=AS (X1.trans (hx.mono X1.size));clear hx B1 X1;obtain⟨i0,i1,i2,i3,i4⟩:=B2.five;go_wp2_with fail
 refine(CA w1 X2).mono ?_;rintro e w2 ⟨rfl,hx⟩;have X3:=AS (X2.trans (hx.mono X2.size));clear hx i0 i1 i2 i3 i4;go_wp2;refine Wr (v:=GS #[By R,AM A' 0]) (by simp[results,Tryz.results213,go_sem]) rfl ⟨rfl,X3⟩
attribute [local go_sem] encS
theorem LK (v u:Value) (a:NF) (rt:Nt a) (l:List Int) (hst:a.st l=On) (c:Nat) (hc:c<256) (w:AT) (h:kT w v a) (sm:Py a) (hu:bw aG w u l) (hl:l.length<=1000000): ah 231 #[v,u,AM .u8 c] w fun e w'=>∃ r,e=AF r/\w'.ownsRow w.heap.size 3 1 r (a.step l c).length ((a.step l c).map aG)/\aa w w':=by
 have HSt:=AS (LJ rt hst c);have FR:IN (∀ p∈l,∀ q∈a.pT p,0<=q/\q<a.aO.length):=AS fun p hp q hq=>by have:=(dR (rt.PM hst hp)).2 q hq;omega
 have FL:IN (∀ p,(a.pT p).length<=1000000):=AS fun p=>by
  unfold NF.pT;split
  ·exact sm.fst
  ·rcases Wg p.toNat a.cB.length with h1 | h1
   ·exact sm.row _ (ax (bn [] h1))
   ·rw[bB,aT h1];exact Nat.zero_le _
 have ST:IN (∀ p∈l, -1<=p/\p<a.aO.length):=AS fun p hp=>by have:=(dR hst).2 p hp;omega
 have hle:=rt.le;have Uv:=rt.cB;obtain⟨v0,v1,v2,v3,rfl,h0,h1,h2,h3⟩:=h;obtain⟨a0,c0,rfl⟩:=h0.1.form;obtain⟨a1,c1,rfl⟩:=h1.form;obtain⟨a2,c2,rfl⟩:=h2.form;obtain⟨ua,uc,rfl⟩:=hu.form;obtain⟨n0,bX⟩:=ag a.aO.length;obtain⟨n2,dP⟩:=ag a.fst.length;obtain⟨m,hm⟩:=ag l.length;rw[Uv]at h1;rw[<-bX]at h0 h1 hle ST FR ⊢;rw[<-dP]at h2 ⊢;rw[<-hm]at hu hl ⊢;rw[Uv, <-bX];have pS:=AS bX;have pO:=AS dP;have HM:=AS hm;have agE:=AS Uv;have H0:=AS h0;have H1:=AS h1;have H2:=AS h2;have HU:=AS hu;have CH:IN (∀ s W,ah 77 #[j_ (encS s),AM .u8 c] W fun e w'=>e=AF (By (s.getLsbD c))/\Ext W w'):=AS fun s W=>qH s c hc W
 clear h0 h1 h2 h3 hu bX dP hm Uv sm rt hst;go_enter Tryz.func231,Tryz.ntmps231;go_wp2;refine aw ?_;intro V hV;have B1:IN (ar V w.heap.size #[AI a0 n0 c0,AI a1 n0 c1,AI a2 n2 c2,v3,By a.emp] 118):=AS (by rw[hV];exact(ar.new w _ _).alloc _);have B2:IN (ar V (w.heap.size+1) (cA fun _=>0) 179):=AS (by rw[hV];exact(ar.new _ _ _).at (by simp));have X1:IN (aa w V):=AS (by rw[hV];exact(((Ext.refl w).alloc _).alloc _).below);have yg:V.heap.size=w.heap.size+2:=by rw[hV];simp
 have qu:=AS yg;clear hV yg;go_loopw [15] (fun iv wr=>∃ k:Nat,k<=m/\iv=AM A' k/\ar wr (w.heap.size+1) (cA (setW (fp a c (l.take k)))) 179/\ae (fun x=>x<w.heap.size+1) V wr) (fun iv _=>m-(intOf iv).toNat);case atStart=>exact⟨0,by omega,rfl,B2,ae.refl _ _⟩
 case round=>
  obtain⟨k,hk,rfl,hb,hx⟩:=hrel;obtain⟨wo,rfl⟩:=ag (wr:AT);have HB:=AS hb;have HX:=AS hx;have XX:IN (aa w wo):=AS (X1.trans (hx.mono fun x AH=>by have:x<w.heap.size:=AH;show x<w.heap.size+1;omega:ae (· <w.heap.size) V wo).below);have BN:=AS (B1.keeps hx (by show w.heap.size<w.heap.size+1;omega));clear hb hx;by_cases hlt:k<m
  ·obtain⟨p,hp⟩:∃ p,l[k]? =An p:=⟨_,aB (by have:=HM.out;omega)⟩
   obtain⟨g,off,rfl,hg,q1⟩:=(HU.below XX).elem hp;replace q1:wo.cell? ⟨g,off+k,As⟩=An (AM A' p):=q1;have JA:=ax hp;have JM:=ST.out p JA;have FRp:=AS (FR.out p JA);have HP:=AS hp;have ed:(k:Int)<m:=by omega
   clear hp JA;obtain⟨fl,oW⟩:=ag ((a.pT p).length);have flm:fl<=1000000:=by rw[oW];exact FL p
   have pM:IN (fp a c (l.take (k+1))=fp a c (l.take k)++lM a c (a.pT p)):=AS (by
    rw[Cd,HP.out]
    exact Hf a c _ p)
   have JN:=AS oW;clear oW;rcases Decidable.em (p= -1)with h1 | h1
   ·subst h1
    obtain rfl:fl=n2:=by rw[JN.out,show a.pT (-1)=a.fst from rfl,pO.out]
    have HF:IN (∀ W,aa w W->bw aG W (AI a2 fl c2) (a.pT (-1))):=AS fun W hW=>H2.below hW
    obtain⟨i0,i1,i2,i3,i4⟩:=BN.five;go_wp2;clear JM q1 i0 i1 i2 i3 i4;go_loopw [30] (fun iv wi=>∃ j:Nat,j<=fl/\iv=AM A' j/\ar wi (w.heap.size+1) (cA (setW (fp a c (l.take k)++lM a c ((a.pT (-1)).take j)))) 179/\ae (fun x=>x<w.heap.size+1) wo wi) (fun iv _=>fl-(intOf iv).toNat);case atStart=>exact⟨0,by omega,rfl,by rw[Zf];simp only[lM,qv,lk,DH];exact HB,ae.refl _ _⟩
    case round=>
     obtain⟨j,hj,rfl,hb,hx⟩:=hrel;have gR:=AS hb;have gh:=AS hx;have XI:IN (aa w wr):=AS (XX.trans (hx.mono fun x AH=>by have:x<w.heap.size:=AH;show x<w.heap.size+1;omega:ae (· <w.heap.size) wo wr).below);have BI:=AS (BN.keeps hx (by show w.heap.size<w.heap.size+1;omega));clear hb hx;by_cases kN:j<fl
     ·obtain⟨q,hq⟩:∃ q,(a.pT (-1))[j]? =An q:=⟨_,aB (by have:=JN.out;omega)⟩
      have hqr:=FRp.out q (ax hq);obtain⟨qn,rfl⟩:∃ qn:Nat,q=qn:=⟨q.toNat,by omega⟩;have hqn:(qn:Int)<n0:=by omega
      have jA:(j:Int)<fl:=by omega
      obtain⟨s,hs⟩:∃ s,a.aO[qn]? =An s:=⟨_,aB (by have:=pS.out;omega)⟩;obtain⟨g2,o2,rfl,_,q2⟩:=(HF.out wr XI).elem hq;replace q2:wr.cell? ⟨g2,o2+j,As⟩=An (AM A' (qn:Int)):=q2;obtain⟨b3,o3,rfl,hb3,s0,s1,s2,s3⟩:=(H0.1.below XI).elem hs;obtain⟨i0,i1,i2,i3,i4⟩:=BI.five
      have HQ:IN (fp a c (l.take k)++lM a c ((a.pT (-1)).take (j+1))=if s.getLsbD c then(fp a c (l.take k)++lM a c ((a.pT (-1)).take j))++ [qn]else fp a c (l.take k)++lM a c ((a.pT (-1)).take j)):=AS (by
       rw[Cd,hq];show fp a c (l.take k)++lM a c ((a.pT (-1)).take j++ [(qn:Int)])=_;rw[ze,GB,show a.on c qn=s.getLsbD c from by unfold NF.on;rw[getD_some hs]];split
       ·rw[GO]
       ·rw[DH])
      obtain⟨bt,PN⟩:=ag (s.getLsbD c);have Yr:=AS (CH.out s);rw[<-PN]at HQ Yr;clear hq hs PN;cases bt
      ·go_wp2_with fail
       refine(Yr _).mono ?_;rintro e w1 ⟨rfl,hx⟩;have nX:=AS hx;clear hx;go_wp2;exact⟨⟨j+1,by omega,by go_num,by rw[HQ.out];exact gR.ext nX,gh.tr (nX.mono fun x hx=>by have:x<w.heap.size+1:=hx;have:=gR.lt;omega)⟩,by simp[intOf];omega⟩
      ·go_wp2_with fail
       refine(Yr _).mono ?_;rintro e w1 ⟨rfl,hx⟩;have nX:=AS hx;clear hx;go_wp2_with fail
       refine(nz _ _ qn (by omega) w1 (gR.ext nX)).mono ?_;rintro e w2 ⟨⟨u,rfl⟩,hb4,hx4⟩;have Ys:=AS hb4;have Dh:=AS hx4;clear hb4 hx4;go_wp2;exact⟨⟨j+1,by omega,by go_num,by rw[HQ.out,if_pos trivial,sq];exact Ys,(gh.tr (nX.mono fun x hx=>by have:x<w.heap.size+1:=hx;have:=gR.lt;omega)).tr (Dh.mono fun x hx=>by have h5:x<w.heap.size+1:=hx;have:=gR.lt;have:=nX.size;exact⟨by omega,by omega⟩)⟩,by simp[intOf];omega⟩
     ·obtain rfl:j=fl:=by omega
      have jA:¬ ((j:Int)<j):=by omega
      have er:(a.pT (-1)).take j=a.pT (-1):=by rw[JN.out,B']
      rw[er, <-pM.out]at gR;go_wp2;exact⟨⟨k+1,by omega,by go_num,gR,HX.tr gh⟩,by simp[intOf];omega⟩
   ·obtain⟨pn,rfl⟩:∃ pn:Nat,p=pn:=⟨p.toNat,by omega⟩
    have d1:((pn:Int) != -1)=true:=by rw[bne_iff_ne];omega
    have JO:(pn:Int)<n0:=by omega
    obtain⟨b1,o1,fa,fc,ea1,hb1,cl1,h4⟩:=H1.elem (bn (l:=a.cB) [] (by rw[agE.out, <-pS.out];omega:pn<a.cB.length));have e:a.pT (pn:Int)=a.cB.getD pn []:=by unfold NF.pT;rw[if_neg h1,GB]
    rw[<-e, <-JN.out]at cl1 h4;have HF:IN (∀ W,aa w W->bw aG W (AI fa fl fc) (a.pT (pn:Int))):=AS fun W hW=>h4.below hW
    have DW:wo.cell? ⟨b1,o1+pn,As⟩=An (AI fa fl fc):=((ae.aj XX fun _ h=>h:ae (· <w.heap.size) w wo).cell (p:=⟨b1,o1+pn,As⟩) hb1).trans cl1;subst ea1;clear cl1 h4 e;obtain⟨i0,i1,i2,i3,i4⟩:=BN.five;go_wp2;clear JM q1 i0 i1 i2 i3 i4;go_loopw [30] (fun iv wi=>∃ j:Nat,j<=fl/\iv=AM A' j/\ar wi (w.heap.size+1) (cA (setW (fp a c (l.take k)++lM a c ((a.pT (pn:Int)).take j)))) 179/\ae (fun x=>x<w.heap.size+1) wo wi) (fun iv _=>fl-(intOf iv).toNat);case atStart=>exact⟨0,by omega,rfl,by rw[Zf];simp only[lM,qv,lk,DH];exact HB,ae.refl _ _⟩
    case round=>
     obtain⟨j,hj,rfl,hb,hx⟩:=hrel;have gR:=AS hb;have gh:=AS hx;have XI:IN (aa w wr):=AS (XX.trans (hx.mono fun x AH=>by have:x<w.heap.size:=AH;show x<w.heap.size+1;omega:ae (· <w.heap.size) wo wr).below);have BI:=AS (BN.keeps hx (by show w.heap.size<w.heap.size+1;omega));clear hb hx;by_cases kN:j<fl
     ·obtain⟨q,hq⟩:∃ q,(a.pT (pn:Int))[j]? =An q:=⟨_,aB (by have:=JN.out;omega)⟩
      have hqr:=FRp.out q (ax hq);obtain⟨qn,rfl⟩:∃ qn:Nat,q=qn:=⟨q.toNat,by omega⟩;have hqn:(qn:Int)<n0:=by omega
      have jA:(j:Int)<fl:=by omega
      obtain⟨s,hs⟩:∃ s,a.aO[qn]? =An s:=⟨_,aB (by have:=pS.out;omega)⟩;obtain⟨g2,o2,rfl,_,q2⟩:=(HF.out wr XI).elem hq;replace q2:wr.cell? ⟨g2,o2+j,As⟩=An (AM A' (qn:Int)):=q2;obtain⟨b3,o3,rfl,hb3,s0,s1,s2,s3⟩:=(H0.1.below XI).elem hs;obtain⟨i0,i1,i2,i3,i4⟩:=BI.five
      have HQ:IN (fp a c (l.take k)++lM a c ((a.pT (pn:Int)).take (j+1))=if s.getLsbD c then(fp a c (l.take k)++lM a c ((a.pT (pn:Int)).take j))++ [qn]else fp a c (l.take k)++lM a c ((a.pT (pn:Int)).take j)):=AS (by
       rw[Cd,hq];show fp a c (l.take k)++lM a c ((a.pT (pn:Int)).take j++ [(qn:Int)])=_;rw[ze,GB,show a.on c qn=s.getLsbD c from by unfold NF.on;rw[getD_some hs]];split
       ·rw[GO]
       ·rw[DH])
      obtain⟨bt,PN⟩:=ag (s.getLsbD c);have Yr:=AS (CH.out s);rw[<-PN]at HQ Yr;clear hq hs PN;cases bt
      ·go_wp2_with fail
       refine(Yr _).mono ?_;rintro e w1 ⟨rfl,hx⟩;have nX:=AS hx;clear hx;go_wp2;exact⟨⟨j+1,by omega,by go_num,by rw[HQ.out];exact gR.ext nX,gh.tr (nX.mono fun x hx=>by have:x<w.heap.size+1:=hx;have:=gR.lt;omega)⟩,by simp[intOf];omega⟩
      ·go_wp2_with fail
       refine(Yr _).mono ?_;rintro e w1 ⟨rfl,hx⟩;have nX:=AS hx;clear hx;go_wp2_with fail
       refine(nz _ _ qn (by omega) w1 (gR.ext nX)).mono ?_;rintro e w2 ⟨⟨u,rfl⟩,hb4,hx4⟩;have Ys:=AS hb4;have Dh:=AS hx4;clear hb4 hx4;go_wp2;exact⟨⟨j+1,by omega,by go_num,by rw[HQ.out,if_pos trivial,sq];exact Ys,(gh.tr (nX.mono fun x hx=>by have:x<w.heap.size+1:=hx;have:=gR.lt;omega)).tr (Dh.mono fun x hx=>by have h5:x<w.heap.size+1:=hx;have:=gR.lt;have:=nX.size;exact⟨by omega,by omega⟩)⟩,by simp[intOf];omega⟩
     ·obtain rfl:j=fl:=by omega
      have jA:¬ ((j:Int)<j):=by omega
      have er:(a.pT (pn:Int)).take j=a.pT (pn:Int):=by rw[JN.out,B']
      rw[er, <-pM.out]at gR;go_wp2;exact⟨⟨k+1,by omega,by go_num,gR,HX.tr gh⟩,by simp[intOf];omega⟩
  ·obtain rfl:k=m:=by omega
   have Cq:¬ ((k:Int)<k):=by omega
   have er:l.take k=l:=by rw[HM.out,B']
   rw[er]at HB;go_wp2_with fail
   refine(AP _ _ wo HB).mono ?_;rintro e w2 ⟨v,rfl,ho,hx⟩;have HO:=AS ho;have gh:=AS hx;clear ho hx;go_wp2;go_ret;refine⟨_,rfl,?_,XX.trans (gh.mono XX.size)⟩;have h:=aC HO XX.size;have e:(dF (setW (fp a c l)) 448).map vG=(a.step l c).map aG:=by rw[<-HSt.out,dq];rfl
   have e2:(dF (setW (fp a c l)) 448).length=(a.step l c).length:=by rw[<-HSt.out,aP]
   rwa[e,e2]at h
theorem LL (v u:Value) (a:NF) (rt:Nt a) (l:List Int) (hst:a.st l=On) (c:Nat) (hc:c<256) (w:AT) (h:kT w v a) (sm:Py a) (hu:bw aG w u l) (hl:l.length<=1000000): ah 216 #[v,u,AM .u8 c] w fun e w'=>∃ r,e=AF (GS #[r,AM A' 0])/\w'.ownsRow w.heap.size 3 1 r (a.step l c).length ((a.step l c).map aG)/\aa w w':=by
 have CK:IN (∀ W,aa w W->ah 241 #[v,u] W fun e w'=>e=AF (AM A' 0)/\aa W w'):=AS fun W hW=>by
  have:=vE v u a l W (h.below hW) sm (hu.below hW) hl;have e:a.Yq l=0:=by unfold NF.Yq;rw[(eP a).2 rt,hst];rfl
  rwa[e]at this
 have CA:IN (∀ W,aa w W->ah 231 #[v,u,AM .u8 c] W fun e w'=>∃ r,e=AF r/\w'.ownsRow W.heap.size 3 1 r (a.step l c).length ((a.step l c).map aG)/\aa W w'):=AS fun W hW=>LK v u a rt l hst c hc W (h.below hW) sm (hu.below hW) hl
 obtain⟨a0,c0,a1,n1,c1,a2,n2,c2,a3,n3,c3,rfl⟩:=h.Pz;generalize a.aO.length=n0 at*;generalize a.step l c=R at*;obtain⟨ua,uc,rfl⟩:=hu.form;generalize l.length=m at*;clear h hu sm rt hst hl;go_enter Tryz.func216,Tryz.ntmps216;go_wp2_with fail
 refine aK ?_;intro V hV;have B1:IN (ar V w.heap.size #[AI a0 n0 c0,AI a1 n1 c1,AI a2 n2 c2,AI a3 n3 c3,By a.emp] 118):=AS (by rw[hV];exact ar.new w _ _);have X1:IN (aa w V):=AS (by rw[hV];exact((Ext.refl w).alloc _).below);clear hV;refine(CK V X1).mono ?_;rintro e w1 ⟨rfl,hx⟩;have B2:=AS (B1.below hx B1.lt);have X2:=AS (X1.trans (hx.mono X1.size));clear hx B1 X1;obtain⟨i0,i1,i2,i3,i4⟩:=B2.five;go_wp2_with fail
 refine(CA w1 X2).mono ?_;rintro e w2 ⟨r,rfl,ho,hx⟩;have X3:=AS (X2.trans (hx.mono X2.size));have HO:=AS (aC ho X2.size);clear ho hx i0 i1 i2 i3 i4;go_wp2;refine Wr (v:=GS #[r,AM A' 0]) (by simp[results,Tryz.results216,go_sem]) rfl ⟨_,rfl,HO,X3⟩
end
section
open Go Go.RowKit Go.Shelf Go.Maps
theorem sw (u:Nat):∀ c∈F_ u,48<=c.toNat/\c.toNat<=57:=by
 induction u using lE with
 | _ u ih=>
  intro c hc;rw[F_]at hc;split at hc
  ·rename_i h
   simp at hc;subst hc;simp;omega
  ·rename_i h
   rcases lP.1 hc with hc | hc
   ·exact ih (u/10) (by omega) c hc
   ·simp at hc
    subst hc;have:u%10<10:=r_ _ (by decide);simp;omega
def numOf (l:List UInt8):Nat:=l.foldl (fun a c=>a*10+(c.toNat-48)) 0
theorem zf (u:Nat):numOf (F_ u)=u:=by
 induction u using lE with
 | _ u ih=>
  rw[F_];split
  ·rename_i h
   simp[numOf];omega
  ·rename_i h
   unfold numOf at ih ⊢;rw[e_,ih (u/10) (by omega)];have:u%10<10:=r_ _ (by decide);simp;omega
theorem JP {u v:Nat} (h:F_ u=F_ v):u=v:=by rw[<-zf u, <-zf v,h]
theorem pU (x:Int):∀ c∈K_ x,c≠44/\c≠59:=by
 have key:∀ c:UInt8,(48<=c.toNat/\c.toNat<=57)->c≠44/\c≠59:=fun c h=>⟨fun e=>by subst e;simp at h,fun e=>by subst e;simp at h⟩
 intro c hc;rw[K_]at hc;split at hc
 ·rcases List.mem_cons.1 hc with rfl | hc
  ·decide
  ·exact key c (sw _ c hc)
 ·exact key c (sw _ c hc)
theorem PQ {x y:Int} (h:K_ x=K_ y):x=y:=by
 have hne:∀ u (t:List UInt8),F_ u≠45::t:=fun u t e=>by
  have:=sw u 45 (by rw[e];exact bu ..);simp at this
 unfold K_ at h;split at h<;>split at h
 ·have:=JP (US h).2
  omega
 ·exact absurd h.symm (hne _ _)
 ·exact absurd h (hne _ _)
 ·have:=JP h
  omega
theorem Hg {α:Type} {s:α} :∀ {a b c d:List α},(∀ x∈a,x≠s)->(∀ x∈b,x≠s)->a++s::c=b++s::d->a=b/\c=d
 | [],[],c,d,_,_,h=>⟨rfl,by simpa using h⟩
 | [],y::b,c,d,_,hb,h=>by
  have:s=y:=by simpa using(US (by simpa using h)).1
  exact absurd this.symm (hb y (bu ..))
 | x::a,[],c,d,ha,_,h=>by
  have:x=s:=by simpa using(US (by simpa using h)).1
  exact absurd this (ha x (bu ..))
 | x::a,y::b,c,d,ha,hb,h=>by
  have h':=US (by simpa using h:x::(a++s::c)=y::(b++s::d));obtain⟨e1,e2⟩:=Hg (fun z hz=>ha z (bM _ hz)) (fun z hz=>hb z (bM _ hz)) h'.2;exact⟨by rw[h'.1,e1],e2⟩
def sy (p:Int):List UInt8:=K_ p++ [44]
def eF (l:List Int):List UInt8:=l.flatMap sy
def tu (l:List Int):List UInt8:=eF l++ [59]
def fh (row:List (List Int)):List UInt8:=row.flatMap tu
theorem jL (p:Int) (l:List Int):eF (p::l)=sy p++eF l:=rfl
theorem DY (l:List Int):∀ c∈eF l,c≠59:=by
 intro c hc;obtain⟨p,_,hp⟩:=jj.1 hc;rcases lP.1 hp with h | h
 ·exact(pU p c h).2
 ·simp at h;subst h;decide
theorem zg:∀ {l m:List Int},eF l=eF m->l=m
 | [],[],_=>rfl
 | [],y::m,h=>by
  have:(eF (y::m)).length=0:=by rw[<-h];rfl
  rw[jL]at this;simp[sy]at this
 | x::l,[],h=>by
  have:(eF (x::l)).length=0:=by rw[h];rfl
  rw[jL]at this;simp[sy]at this
 | x::l,y::m,h=>by
  rw[jL,jL]at h;unfold sy at h;simp only[GO,H_,OR]at h;obtain⟨e1,e2⟩:=Hg (fun c hc=>(pU x c hc).1) (fun c hc=>(pU y c hc).1) h;rw[PQ e1,zg e2]
theorem kV (l:List Int) (row:List (List Int)):fh (l::row)=tu l++fh row:=rfl
theorem qZ:∀ {r s:List (List Int)},fh r=fh s->r=s
 | [],[],_=>rfl
 | [],y::s,h=>by
  have:(fh (y::s)).length=0:=by rw[<-h];rfl
  rw[kV]at this;simp[tu]at this
 | x::r,[],h=>by
  have:(fh (x::r)).length=0:=by rw[h];rfl
  rw[kV]at this;simp[tu]at this
 | x::r,y::s,h=>by
  rw[kV,kV]at h;unfold tu at h;simp only[GO,H_,OR]at h;obtain⟨e1,e2⟩:=Hg (DY x) (DY y) h;rw[zg e1,qZ e2]
open Go.ChangeMaps (setBlock heap_setBlock_same)
open Go.WideMaps (keyOf_string_mk)
def iR (l:List UInt8):Value:=me ⟨l.toArray⟩
theorem DZ {a b:List UInt8} (h:iR a=iR b):a=b:=by
 unfold iR at h;injection h with h
 injection h with h
 simpa using h
def lN:Nat->List (List UInt8)->List MapEntry
 | _,[]=>[]
 | n,p::l=>⟨iR p,AM A' n,n⟩::lN (n+1) l
theorem D7:∀ (l:List (List UInt8)) (n:Nat),(lN n l).length=l.length
 | [],_=>rfl
 | _::l,n=>by simp[lN,D7 l]
theorem nA:∀ (l:List (List UInt8)) (n i:Nat),(lN n l)[i]? =(l[i]?).map fun p=>⟨iR p,AM A' (n+i:Nat),n+i⟩
 | [],_,_=>by simp[lN]
 | p::l,n,0=>by simp[lN]
 | p::l,n,i+1=>by
  simp only[lN,List.getElem?_cons_succ,nA l];rw[show n+1+i=n+(i+1) by omega]
theorem tz:∀ (l:List (List UInt8)) (n:Nat) (q:List UInt8),lN n (l++ [q])=lN n l++ [⟨iR q,AM A' (n+l.length:Nat),n+l.length⟩]
 | [],n,q=>by simp[lN]
 | p::l,n,q=>by
  simp only[H_,lN,tz l,D'];rw[show n+1+l.length=n+(l.length+1) by omega]
def lO (w:AT) (b:Nat) (l:List (List UInt8)):Prop:=w.heap[b]? =An (.map (lN 0 l).toArray l.length)
theorem lO.keeps {w w':AT} {b:Nat} {l:List (List UInt8)} (h:lO w b l) {R:Nat->Prop} (hk:ae R w w') (hb:R b):lO w' b l:=(hk.keep b hb).trans h
theorem lO.lt {w:AT} {b:Nat} {l:List (List UInt8)} (h:lO w b l):b<w.heap.size:=(Array.getElem?_eq_some_iff.1 h).1
theorem lO.below {w w':AT} {b:Nat} {l:List (List UInt8)} (h:lO w b l) (hk:aa w w'):lO w' b l:=(hk.block b h.lt).trans h
def yh (r:List UInt8):Prop:=r.length<=maxLen
theorem Tryz.D8:Keyed AN 9:=string_keyed C'
theorem AU (r:List UInt8) (h:yh r):∃ l,keyOf AN 9 (iR r)=An l:=⟨_,keyOf_string_mk C' (by show r.toArray.size<=maxLen;rw[To];exact h)⟩
theorem D9 {l:List (List UInt8)} (hl:∀ p∈l,yh p):∀ e∈lN 0 l,∃ k,keyOf AN 9 e.key=An k:=fun e he=>by
 obtain⟨i,hi⟩:=L_.1 he;rw[nA]at hi;obtain⟨p,hp,rfl⟩:=EV.1 hi;exact AU p (hl p (ax hp))
theorem jM {α:Type} [DecidableEq α] {l:List α} (hn:l.Nodup) {i:Nat} {q:α} (h:l[i]? =An q):l.idxOf q=i:=by obtain⟨h1,h2⟩:=Sf.1 h;subst h2;exact Nodup.idxOf_getElem hn i h1
def ixU (l:List (List UInt8)) (q:List UInt8):Nat:= @List.idxOf _ instBEqOfDecidableEq q l
theorem JQ {w:AT} {b:Nat} {l:List (List UInt8)} (h:lO w b l) (hn:l.Nodup) (hl:∀ p∈l,yh p) (q:List UInt8) (hq:yh q): (q∉l/\(Lo 193 (.map (An b)) (iR q) On).run AN w=.ok (GS #[AM A' 0,By If]) w)\/ (q∈l/\(Lo 193 (.map (An b)) (iR q) On).run AN w=.ok (GS #[AM A' (ixU l q),By On]) w):=by
 have K:=Tryz.D8;obtain⟨kl,hk⟩:=AU q hq;have hz:(zeroValue 3).run AN w=.ok (AM A' 0) w:=by kernel_rfl
 have hb:w.heap[b]? =An (.map (lN 0 l).toArray l.length):=h;rcases K.find w hk (lN 0 l) (D9 hl)with⟨f1,f2⟩ | ⟨j,e0,f1,f2,f3⟩
 ·refine .inl ⟨fun hm=>?_,?_⟩
  ·obtain⟨i,hi⟩:=L_.1 hm
   have:=nA l 0 i;rw[hi]at this;exact f2 _ (ax this) rfl
  ·simp[Lo,RE IT,E_ hb,K.check w _ hk,f1,hz,Lw]
 ·rw[nA]at f2
  obtain⟨p,hp,rfl⟩:=EV.1 f2;have e:p=q:=DZ f3;subst e;refine .inr ⟨ax hp,?_⟩;rw[show ixU l p=j from jM hn hp];simp[Lo,RE IT,E_ hb,K.check w _ hk,f1,Lw]
theorem PU {w:AT} {b:Nat} {l:List (List UInt8)} (h:lO w b l) (hl:∀ p∈l,yh p) (q:List UInt8) (hqk:yh q) (hq:q∉l): ∃ w',(Y_ 193 (.map (An b)) (iR q) (AM A' l.length)).run AN w=.ok () w'/\lO w' b (l++ [q])/\ae (· ≠b) w w'/\w'.heap.size=w.heap.size:=by
 have K:=Tryz.D8;obtain⟨kl,hk⟩:=AU q hqk;have hb:w.heap[b]? =An (.map (lN 0 l).toArray l.length):=h;rcases K.find w hk (lN 0 l) (D9 hl)with⟨f1,f2⟩ | ⟨j,e0,f1,f2,f3⟩
 ·refine⟨setBlock w b (.map (lN 0 (l++ [q])).toArray (l++ [q]).length),?_,heap_setBlock_same hb _,⟨rfl,rfl,rfl,by simp[setBlock],fun i hi=>by show(w.heap.setIfInBounds b _)[i]? =_;exact Array.getElem?_setIfInBounds_ne (Ne.symm hi)⟩,by simp[setBlock]⟩
  rw[tz];simp[Y_,RE IT,E_ hb,K.check w If hk,f1,MapKept.run_setObj_map _ hb,Lw,setBlock]
 ·rw[nA]at f2
  obtain⟨p,hp,rfl⟩:=EV.1 f2;have e:p=q:=DZ f3;subst e;exact absurd (ax hp) hq
theorem Yt {w:AT} {b:Nat} {l:List (List UInt8)} (h:lO w b l) (ty:a_):(Builtin.len_ #[193] ty #[.map (An b)]).run AN w=.ok (AM A' l.length) w:=by have hb:w.heap[b]? =An (.map (lN 0 l).toArray l.length):=h;simp[Builtin.len_,RE IT,E_ hb,goInt,Lw,D7]
theorem pB {w:AT} {ops:Array Oper} {rest:List Oper} {o:Oper} {a:Act} {Q:Exit->Act->AT->Prop} (hg:o.guard=As) (m:Operand) (hop:o.op=Op.call {callee:=Callee.builtin Builtin.len,args:= #[m],argTypes:= #[193]}) (b:Nat) (l:List (List UInt8)) (hm:a.eval m=.map (An b)) (h:lO w b l) (hK:wpList AN ops Q rest (a.put o.dst (AM A' l.length)) w):wpList AN ops Q (o::rest) a w:=by
 refine wpList_plain hg fun K' hK'=>?_
 unfold Oper.wp;simp[execOp,hop,resolve,invoke,builtin,hm,Yt h o.type,Lw];exact hK' _ _ hK
end
section
open Go Go.RowKit Go.Shelf Go.Maps
def Hh (r:List (List Int)):Value:=iR (fh r)
def kW (w:AT) (b:Nat) (l:List (List (List Int))):Prop:=lO w b (l.map fh)
theorem kW.keeps {w w':AT} {b:Nat} {l:List (List (List Int))} (h:kW w b l) {R:Nat->Prop} (hk:ae R w w') (hb:R b):kW w' b l:=lO.keeps h hk hb
theorem kW.lt {w:AT} {b:Nat} {l:List (List (List Int))} (h:kW w b l):b<w.heap.size:=lO.lt h
theorem kW.below {w w':AT} {b:Nat} {l:List (List (List Int))} (h:kW w b l) (hk:aa w w'):kW w' b l:=lO.below h hk
def tA (r:List (List Int)):Prop:=(fh r).length<=maxLen
def Yu (l:List (List (List Int))) (q:List (List Int)):Nat:= @List.idxOf _ instBEqOfDecidableEq q l
theorem Ea:∀ {l:List (List (List Int))},l.Nodup->(l.map fh).Nodup
 | [],_=>List.nodup_nil
 | a::l,h=>by
  rw[l_]at h;rw[List.map_cons,l_];refine⟨fun hm=>?_,Ea (l:=l) h.2⟩;obtain⟨b,hb,e⟩:=A_.1 hm;exact h.1 (qZ e▸hb)
theorem Uw {w:AT} {b:Nat} {l:List (List (List Int))} (h:kW w b l) (hn:l.Nodup) (hl:∀ p∈l,tA p) (q:List (List Int)) (hq:tA q): (q∉l/\(Lo 193 (.map (An b)) (Hh q) On).run AN w=.ok (GS #[AM A' 0,By If]) w)\/ (q∈l/\(Lo 193 (.map (An b)) (Hh q) On).run AN w=.ok (GS #[AM A' (Yu l q),By On]) w):=by
 have hN:=Ea (l:=l) hn;rcases JQ h hN (fun p hp=>by obtain⟨x,hx,rfl⟩:=A_.1 hp;exact hl x hx) (fh q) hq with⟨h1,h2⟩ | ⟨h1,h2⟩
 ·exact .inl ⟨fun hm=>h1 (A_.2 ⟨q,hm,rfl⟩),h2⟩
 ·obtain⟨x,hx,e⟩:=A_.1 h1
  obtain rfl:=qZ e;obtain⟨i,hi⟩:=L_.1 hx;have e1:Yu l x=i:=jM hn hi;have e2:ixU (l.map fh) (fh x)=i:=jM hN (by rw[aN,hi];rfl);rw[e2]at h2;rw[e1];exact .inr ⟨hx,h2⟩
theorem Yv {w:AT} {b:Nat} {l:List (List (List Int))} (h:kW w b l) (hl:∀ p∈l,tA p) (q:List (List Int)) (hqk:tA q) (hq:q∉l): ∃ w',(Y_ 193 (.map (An b)) (Hh q) (AM A' l.length)).run AN w=.ok () w'/\kW w' b (l++ [q])/\ae (· ≠b) w w'/\w'.heap.size=w.heap.size:=by obtain⟨w',h1,h2,h3,h4⟩:=PU h (fun p hp=>by obtain⟨x,hx,rfl⟩:=A_.1 hp;exact hl x hx) (fh q) hqk (fun hm=>by obtain⟨x,hx,e⟩:=A_.1 hm;exact hq (qZ e▸hx));rw[aP]at h1;refine⟨w',h1,?_,h3,h4⟩;unfold kW;rw[X'];exact h2
end
end Go.Proofs.YtjgccapbphadjaaGreatDoor
namespace Go.Proofs
open Go.Shelf
def Tryz.zi:I_:=⟨fun | 169=>240 | n=>n,fun | 70=>312 | 9=>9 | 0=>0 | 72=>314 | 37=>44 | 127=>327 | 3=>3 | 5=>5 | n=>n,fun | n=>n⟩
theorem Tryz.ab2:Go.Proofs.Lays.n169 AN Tryz.zi:= {
 mixed:=by kernel_rfl
 f169:=Tryz.func240.trans (congrArg An (by kernel_rfl))
 t0:=DQ
 a0:=NX
 z0:=I'
 v0:=Ft
 t3:=GW
 a3:=St
 z3:=O_
 v3:=Is
 t9:=C'
 a9:=S_
 z9:=P_
 v9:=Iv
 t37:=Ly
 a37:=W_
 z37:=U_
 v37:=M_
 t70:=R_
 a70:=Z_
 z70:=Zg
 v70:=TO
 t72:=Se
 a72:=Z'
 z72:=Zh
 v72:=T_
 t127:=Tryz.underlying327
 a127:=Tryz.isAgg327
 z127:=Tryz.sizeOf327
 v127:=Tryz.zeroValue327}
theorem Tryz.ab3:Builder.Extra AN Tryz.zi:= {
 sizeBuilder:=by kernel_rfl
 liesBuilder:=by kernel_rfl
 t5:=DS
 a5:=N_
 z5:=J_
 v5:=FF
 infoByte:=by kernel_rfl
 cellsByte:=by kernel_rfl
 sizeByte:=by kernel_rfl
 neB5:=by decide}
def Tryz.LM:I_:=⟨fun | 171=>238 | 243=>249 | 246=>262 | 283=>267 | 284=>268 | 285=>269 | 286=>270 | 129=>135 | 317=>272 | 318=>273 | 319=>274 | 320=>275 | 337=>276 | 338=>277 | n=>n,fun | 3=>3 | 9=>9 | 2=>2 | 4=>4 | 171=>339 | 0=>0 | 53=>54 | 37=>44 | 5=>5 | 173=>341 | 212=>346 | 51=>221 | 20=>20 | 213=>347 | 46=>122 | 232=>348 | 233=>349 | n=>n,fun | 17=>0 | 18=>1 | 19=>2 | n=>n⟩
theorem Tryz.ab4:Go.Proofs.LaysM.n171 AN Tryz.LM:= {
 mixed:=by kernel_rfl
 f129:=pt.trans (congrArg An (by kernel_rfl))
 f171:=Tryz.func238.trans (congrArg An (by kernel_rfl))
 f243:=Tryz.func249.trans (congrArg An (by kernel_rfl))
 f246:=Tryz.func262.trans (congrArg An (by kernel_rfl))
 f283:=Tryz.func267.trans (congrArg An (by kernel_rfl))
 f284:=Tryz.func268.trans (congrArg An (by kernel_rfl))
 f285:=Tryz.func269.trans (congrArg An (by kernel_rfl))
 f286:=Tryz.func270.trans (congrArg An (by kernel_rfl))
 f317:=Tryz.func272.trans (congrArg An (by kernel_rfl))
 f318:=Tryz.func273.trans (congrArg An (by kernel_rfl))
 f319:=Tryz.func274.trans (congrArg An (by kernel_rfl))
 f320:=Tryz.func275.trans (congrArg An (by kernel_rfl))
 f337:=Tryz.func276.trans (congrArg An (by kernel_rfl))
 f338:=Tryz.func277.trans (congrArg An (by kernel_rfl))
 t0:=DQ
 a0:=NX
 z0:=I'
 v0:=Ft
 t2:=Tryz.underlying2
 a2:=Tryz.isAgg2
 z2:=Tryz.sizeOf2
 v2:=Tryz.zeroValue2
 t3:=GW
 a3:=St
 z3:=O_
 v3:=Is
 t4:=G_
 a4:=SO
 z4:=O'
 v4:=It
 t5:=DS
 a5:=N_
 z5:=J_
 v5:=FF
 t9:=C'
 a9:=S_
 z9:=P_
 v9:=Iv
 t20:=UP
 a20:=f_
 z20:=an
 v20:=VH
 t37:=Ly
 a37:=W_
 z37:=U_
 v37:=M_
 t46:=ao
 a46:=oe
 z46:=mu
 v46:=da
 t51:=aE
 a51:=oE
 z51:=mw
 v51:=dd
 t53:=de
 a53:=qe
 z53:=oR
 v53:=h_
 t171:=Tryz.underlying339
 a171:=Tryz.isAgg339
 z171:=Tryz.sizeOf339
 v171:=Tryz.zeroValue339
 t173:=Tryz.underlying341
 a173:=Tryz.isAgg341
 z173:=Tryz.sizeOf341
 v173:=Tryz.zeroValue341
 t212:=Tryz.underlying346
 a212:=Tryz.isAgg346
 z212:=Tryz.sizeOf346
 v212:=Tryz.zeroValue346
 t213:=Tryz.underlying347
 a213:=Tryz.isAgg347
 z213:=Tryz.sizeOf347
 t232:=Tryz.underlying348
 a232:=Tryz.isAgg348
 z232:=Tryz.sizeOf348
 v232:=Tryz.zeroValue348
 t233:=Tryz.underlying349
 a233:=Tryz.isAgg349
 z233:=Tryz.sizeOf349
 v233:=Tryz.zeroValue349
 g17:=by kernel_rfl
 g18:=by kernel_rfl
 g19:=by kernel_rfl
 i0:=by kernel_rfl
 i2:=by kernel_rfl
 i3:=by kernel_rfl
 i4:=by kernel_rfl
 i5:=by kernel_rfl
 i9:=by kernel_rfl
 i20:=by kernel_rfl
 i37:=by kernel_rfl
 i46:=by kernel_rfl
 i51:=by kernel_rfl
 i53:=by kernel_rfl
 i171:=by kernel_rfl
 i173:=by kernel_rfl
 i212:=by kernel_rfl
 i232:=by kernel_rfl
 i233:=by kernel_rfl
 m17:=by kernel_rfl
 m18:=by kernel_rfl
 m19:=by kernel_rfl}
def Tryz.zj:I_:=⟨fun | 166=>237 | 240=>248 | 276=>261 | n=>n,fun | 0=>0 | 3=>3 | 4=>4 | 5=>5 | 9=>9 | 20=>20 | 37=>44 | 70=>312 | 72=>314 | 75=>316 | 80=>320 | 164=>334 | n=>n,fun | n=>n⟩
theorem Tryz.ab5:Go.Proofs.Lays.n166 AN Tryz.zj:= {
 mixed:=by kernel_rfl
 f166:=Tryz.func237.trans (congrArg An (by kernel_rfl))
 f240:=qS.trans (congrArg An (by kernel_rfl))
 f276:=q_.trans (congrArg An (by kernel_rfl))
 t0:=DQ
 a0:=NX
 z0:=I'
 v0:=Ft
 t3:=GW
 a3:=St
 z3:=O_
 v3:=Is
 t4:=G_
 a4:=SO
 z4:=O'
 v4:=It
 t9:=C'
 a9:=S_
 z9:=P_
 v9:=Iv
 t20:=UP
 a20:=f_
 z20:=an
 v20:=VH
 t37:=Ly
 a37:=W_
 z37:=U_
 v37:=M_
 t70:=R_
 a70:=Z_
 z70:=Zg
 v70:=TO
 t72:=Se
 a72:=Z'
 z72:=Zh
 v72:=T_
 t75:=be
 a75:=ph
 z75:=nn
 v75:=gd
 t164:=b_
 a164:=pr
 z164:=nF
 v164:=gk}
theorem Tryz.ab6:Builder.Extra AN Tryz.zj:= {
 sizeBuilder:=by kernel_rfl
 liesBuilder:=by kernel_rfl
 t5:=DS
 a5:=N_
 z5:=J_
 v5:=FF
 infoByte:=by kernel_rfl
 cellsByte:=by kernel_rfl
 sizeByte:=by kernel_rfl
 neB5:=by decide}
def Tryz.zk:I_:=⟨fun | 167=>239 | 240=>248 | 276=>261 | n=>n,fun | 0=>0 | 3=>3 | 4=>4 | 5=>5 | 9=>9 | 20=>20 | 37=>44 | 70=>312 | 72=>314 | 75=>316 | 80=>320 | 164=>334 | n=>n,fun | n=>n⟩
theorem Tryz.ab7:Go.Proofs.Lays.n167 AN Tryz.zk:= {
 mixed:=by kernel_rfl
 f167:=Tryz.func239.trans (congrArg An (by kernel_rfl))
 f240:=qS.trans (congrArg An (by kernel_rfl))
 f276:=q_.trans (congrArg An (by kernel_rfl))
 t0:=DQ
 a0:=NX
 z0:=I'
 v0:=Ft
 t4:=G_
 a4:=SO
 z4:=O'
 v4:=It
 t5:=DS
 a5:=N_
 z5:=J_
 v5:=FF
 t9:=C'
 a9:=S_
 z9:=P_
 v9:=Iv
 t20:=UP
 a20:=f_
 z20:=an
 v20:=VH
 t37:=Ly
 a37:=W_
 z37:=U_
 v37:=M_
 t70:=R_
 a70:=Z_
 z70:=Zg
 v70:=TO
 t72:=Se
 a72:=Z'
 z72:=Zh
 v72:=T_
 t75:=be
 a75:=ph
 z75:=nn
 v75:=gd
 t164:=b_
 a164:=pr
 z164:=nF
 v164:=gk}
theorem Tryz.ab8:Builder.Extra AN Tryz.zk:= {
 sizeBuilder:=by kernel_rfl
 liesBuilder:=by kernel_rfl
 t5:=DS
 a5:=N_
 z5:=J_
 v5:=FF
 infoByte:=by kernel_rfl
 cellsByte:=by kernel_rfl
 sizeByte:=by kernel_rfl
 neB5:=by decide}
end Go.Proofs
namespace Go.Proofs.YtjgccapbphadjaaGreatDoor
open Go Go.RowKit Go.Shelf Go.Maps
def nB (W:AT):Prop:=Lib.TabIs AN W "internal/strconv.uint64pow10" C_ Lib.pow10Tab
theorem LP {P:Program} {w w':AT} {name:String} (hk:∀ b,b<w.heap.size->w'.heap[b]? =w.heap[b]?) {x:Array Value} (h:w.var? P name=An x):w'.var? P name=An x:=by
 unfold World.var? at*;cases hg:P.globalNamed name with
 | none=>rw[hg]at h;cases h
 | some g=>
  rw[hg]at h;simp only[Option.bind_some]at h ⊢;rcases Wg g w.heap.size with h1 | h1
  ·rw[hk g h1];exact h
  ·rw[Array.getElem?_eq_none h1]at h;cases h
theorem nB.below {w w':AT} (h:nB w) (hk:aa w w'):nB w':=LP (fun b hb=>hk.block b hb) h
theorem Eb (x:Int) (h0: -9223372036854775808<=x) (h1:x<=9223372036854775807):(sy x).length<=22:=by unfold sy;rw[aJ];have:=c_ x h0 h1;simp;omega
def RowK (row:List (List Int)):Prop:=row.length<=64/\∀ l∈row,l.length<=401/\∀ x∈l, -1<=x/\x<=400
theorem LQ {l:List Int} (h:∀ x∈l, -1<=x/\x<=400):(eF l).length<=22*l.length:=by
 induction l with
 | nil=>simp[eF]
 | cons p l ih=>
  rw[jL,aJ,D'];have h1:=Eb p (by have:=(h p (bu ..)).1;omega) (by have:=(h p (bu ..)).2;omega);have h2:=ih fun x hx=>h x (bM _ hx)
  omega
theorem PX {row:List (List Int)} {N:Nat} (h:∀ l∈row,l.length<=N/\∀ x∈l, -1<=x/\x<=400):(fh row).length<=(22*N+1)*row.length:=by
 induction row with
 | nil=>simp[fh]
 | cons l row ih=>
  rw[kV,aJ,D'];have h1:=h l (bu ..);have h2:=LQ h1.2;have h3:=ih fun x hx=>h x (bM _ hx)
  have h4:(tu l).length=(eF l).length+1:=by unfold tu;simp
  have h5:22*l.length<=22*N:=Zm _ h1.1;rw[Nat.mul_add,rn];omega
theorem RowK.len {row:List (List Int)} (h:RowK row):(fh row).length<=564672:=by have h1:=PX h.2;have h2:(22*401+1)*row.length<=(22*401+1)*64:=Zm _ h.1;omega
theorem RowK.in {row:List (List Int)} (h:RowK row):tA row:=by have:=h.len;unfold tA maxLen;omega
theorem rh (row:List (List Int)) (k:Nat):(fh (row.take k)).length<=(fh row).length:=by
 conv=>rhs;rw[<-Ze k row]
 unfold fh;rw[DP,aJ];omega
theorem LS (row:List (List Int)) (l:List Int):fh (row++ [l])=fh row++eF l++ [59]:=by unfold fh;rw[DP];simp[tu]
theorem Hi (l:List Int) (p:Int):eF (l++ [p])=eF l++sy p:=by unfold eF;rw[DP];simp
theorem Hj (n:Nat) (w:AT) (k:Nat) (os:Array Obj) (hn:n<=w.heap.size):Below n w (MY (w.drewN k) os) where
 os:=rfl
 tape:=rfl
 output:=rfl
 size:=by unfold MY;simp[World.drewN]
 block:=fun b hb=>by unfold MY;show((w.drewN k).heap++os)[b]? =_;rw[Array.getElem?_append_left (by show b<w.heap.size;omega)];rfl
theorem ug {T e:a_} {B b:Nat} {bs:List Value} {w w':AT} (h:DE T e B b bs w) (hk:aa w w'):DE T e B b bs w':=by
 have key:∀ p,L7 T e B b p bs w->L7 T e B b p bs w':=fun p h=>by
  have hlt:=h.lt;obtain⟨h1,v,h2,⟨h3,h4⟩,h5⟩:=h;refine⟨h1,v,(hk.block b hlt).trans h2,⟨h3,?_⟩,h5⟩;rcases h4 with h4 | ⟨g,cap,cur,fz,e1,e2,e3,rest⟩
  ·exact .inl h4
  ·exact .inr ⟨g,cap,cur,fz,e1,e2,(hk.block g (Array.getElem?_eq_some_iff.1 e3).1).trans e3,rest⟩
 exact h.imp (key _) (key _)
theorem yi (l m:List UInt8):B_ l++gx ⟨m.toArray⟩=B_ (l++m):=by unfold B_ gx;simp
theorem byteCells_one (l:List UInt8) (c:UInt8):B_ l++ [AM .u8 c.toNat]=B_ (l++ [c]):=by unfold B_;simp
theorem Ux (v:Value) (row:List (List Int)) (rk:RowK row) (w:AT) (h:fy w v row) (Yw:∀ W,aa w W->nB W): ah 212 #[v] w fun e w'=>e=AF (Hh row)/\aa w w':=by
 obtain⟨a,c,rfl⟩:=h.form;obtain⟨n,hn⟩:=ag row.length;obtain⟨R,hR⟩:=ag (Hh row);rw[<-hn]at h ⊢;rw[<-hR];have sA:n<=64:=by rw[hn];exact rk.1
 have KL:=AS rk.len;have H:=AS h;have HN:=AS hn;have HR:=AS hR;have HT:=AS Yw;have RK:=AS rk.2;have CI:IN (∀ (x:Int) (W:AT), -1<=x->x<=400->aa w W->ah 238 #[AM A' x] W fun e w'=>e=AF (me ⟨(K_ x).toArray⟩)/\aa W w'):=AS fun x W h0 h1 hW=>(Any.strconv_Itoa Tryz.ab4 x (by omega) (by omega) W (Yw W hW)).mono fun e w' ⟨he,k,os,hw⟩=>⟨he,by rw[hw];exact Hj _ _ _ _ (aF _)⟩
 have CW:IN (∀ (B b:Nat) (bs:List Value) (s:ByteArray) (W:AT),DE 314 5 B b bs W->bs.length+s.size<=140737488355328->B<=W.heap.size->ah 237 #[Bm (An ⟨b,0,As⟩),me s] W fun e w'=>e=AF (GS #[AM A' s.size,.nilIface])/\(L7 314 5 B b (Bm (An ⟨b,0,As⟩)) (bs++gx s) w'/\Below B W w')):=AS fun B b bs s W h1 h2 h3=>(Any.Builder_WriteString_k Tryz.ab5 Tryz.ab6 B b bs s W h1 h2 h3).mono fun e w' ⟨he,h4,h5,_⟩=>⟨he,h4,h5⟩
 have CB:IN (∀ (B b:Nat) (bs:List Value) (x:Int) (W:AT),DE 314 5 B b bs W->bs.length+1<=140737488355328->B<=W.heap.size->ah 239 #[Bm (An ⟨b,0,As⟩),AM .u8 x] W fun e w'=>e=AF .nilIface/\(L7 314 5 B b (Bm (An ⟨b,0,As⟩)) (bs++ [AM .u8 x]) w'/\Below B W w')):=AS fun B b bs x W h1 h2 h3=>(Any.Builder_WriteByte_k Tryz.ab7 Tryz.ab8 B b bs x W h1 h2 h3).mono fun e w' ⟨he,h4,h5,_⟩=>⟨he,h4,h5⟩
 have CS:IN (∀ (B b:Nat) (l:List UInt8) (W:AT),DE 314 5 B b (B_ l) W->B<=W.heap.size->ah 240 #[Bm (An ⟨b,0,As⟩)] W fun e w'=>e=AF (me ⟨l.toArray⟩)/\Below B W w'):=AS fun B b l W h1 h3=>(Any.Builder_String_any_k Tryz.ab2 Tryz.ab3 B b l W h1 h3).mono fun e w' ⟨he,_,h5,_⟩=>⟨he,h5⟩
 clear h hn hR Yw rk;go_enter Tryz.func212,Tryz.ntmps212;go_wp2;go_loopw [10] (fun iv wr=>∃ k:Nat,k<=n/\iv=AM A' k/\DE 314 5 w.heap.size w.heap.size (B_ (fh (row.take k))) wr/\aa w wr) (fun iv _=>n-(intOf iv).toNat);case atStart=>
  exact⟨0,by omega,rfl,Lib.IsBuilderF.of (Lib.fresh_isBuilder 314 5 w),((Ext.refl w).alloc _).below⟩
 case round=>
  obtain⟨k,hk,rfl,hb,hx⟩:=hrel;have HB:=AS hb;have HX:=AS hx;have hle:=rh row k;have HLE:=AS hle;clear hb hx hle;obtain⟨wo,rfl⟩:=ag (wr:AT);by_cases hlt:k<n
  ·have ed:(k:Int)<n:=by omega
   obtain⟨l,hl⟩:∃ l,row[k]? =An l:=⟨_,aB (by have:=HN.out;omega)⟩;obtain⟨b,off,a',c',rfl,hbl,cl,mm⟩:=H.elem hl;have DW:wo.cell? ⟨b,off+k,As⟩=An (AI a' l.length c'):=((ae.aj HX fun _ h=>h:ae (· <w.heap.size) w wo).cell (p:=⟨b,off+k,As⟩) hbl).trans cl;have yV:=AS mm;have RL:=AS (RK.out l (ax hl));have pM:IN (fh (row.take (k+1))=fh (row.take k)++eF l++ [59]):=AS (by rw[Cd,hl];exact LS _ _);have LEN:IN ((fh (row.take (k+1))).length<=564672):=AS (G' (rh row (k+1)) KL);obtain⟨m,hm⟩:=ag l.length;have ajO:m<=401:=by rw[hm];exact RL.1
   have HM:=AS hm;rw[<-hm]at DW yV;clear mm hl hm cl;go_wp2;clear DW;go_loopw [16] (fun iv wi=>∃ j:Nat,j<=m/\iv=AM A' j/\DE 314 5 w.heap.size w.heap.size (B_ (fh (row.take k)++eF (l.take j))) wi/\aa w wi) (fun iv _=>m-(intOf iv).toNat);case atStart=>
    exact⟨0,by omega,rfl,by rw[Zf];show DE _ _ _ _ (B_ (fh (row.take k)++ [])) _;rw[DH];exact HB,HX⟩
   case round=>
    obtain⟨j,hj,rfl,hb,hx⟩:=hrel;have gR:=AS hb;have gh:=AS hx;clear hb hx;have qE:(eF (l.take j)).length<=(eF l).length:=by
     conv=>rhs;rw[<-Ze j l]
     unfold eF;rw[DP,aJ];omega
    have Yx:IN ((fh (row.take k)++eF (l.take j)).length<=564672):=AS (by have h5:=LEN.out;rw[pM.out,aJ,aJ]at h5;rw[aJ];omega);clear qE;by_cases kN:j<m
    ·have jA:(j:Int)<m:=by omega
     obtain⟨x,yR⟩:∃ x,l[j]? =An x:=⟨_,aB (by have:=HM.out;omega)⟩;obtain⟨g2,o2,rfl,_,q2⟩:=(yV.below gh).elem yR;replace q2:wr.cell? ⟨g2,o2+j,As⟩=An (AM A' x):=q2;have Uu:=RL.2 x (ax yR);have HTJ:IN (fh (row.take k)++eF (l.take (j+1))=fh (row.take k)++eF (l.take j)++sy x):=AS (by rw[Cd,yR];show fh (row.take k)++eF (l.take j++ [x])=_;rw[Hi,GO]);clear yR;go_wp2_with fail
     clear q2;refine(CI x wr Uu.1 Uu.2 gh).mono ?_;rintro e w1 ⟨rfl,hx⟩;have HB3:=AS (ug gR hx);have nX:=AS (gh.trans (hx.mono gh.size));clear hx;have hlen:=c_ x (by have:=Uu.1;omega) (by have:=Uu.2;omega);have yE:(K_ x).length+1<=9223372036854775807:=by omega
     have TC:∀ W,(Op.stringOp .add ⟨(K_ x).toArray⟩ ⟨#[44]⟩).run AN W=.ok (me ⟨(sy x).toArray⟩) W:=fun W=>by
      rw[run_string_add_lists (P:=AN) W (K_ x) [44] (by omega) (by decide)];rfl
     have hnk:(sy x).length<=22:=Eb x (by have:=Uu.1;omega) (by have:=Uu.2;omega);go_wp2_with fail
     clear TC;refine(CW _ _ _ _ _ HB3 (by rw[Zi];have h6:=Yx.out;have:(⟨(sy x).toArray⟩:ByteArray).size=(sy x).length:=(by simp[ByteArray.size]);omega) nX.size).mono ?_;rintro e w2 ⟨rfl,hb,hx⟩;rw[yi, <-HTJ.out]at hb;have Ys:=AS hb;have Dh:=AS (nX.trans hx);clear hb hx;go_wp2;exact⟨⟨j+1,by omega,by go_num,.inr Ys,Dh⟩,by simp[intOf];omega⟩
    ·obtain rfl:j=m:=by omega
     have jA:¬ ((j:Int)<j):=by omega
     have er:l.take j=l:=by rw[HM.out,B']
     rw[er]at gR Yx;go_wp2_with fail
     refine(CB _ _ _ _ _ gR (by rw[Zi];have h6:=Yx.out;omega) gh.size).mono ?_;rintro e w2 ⟨rfl,hb,hx⟩;have hb2:L7 314 5 w.heap.size w.heap.size (Bm (An ⟨w.heap.size,0,As⟩)) (B_ (fh (row.take (k+1)))) w2:=by rw[pM.out, <-byteCells_one];exact hb
     have Ys:=AS hb2;have Dh:=AS (gh.trans hx);clear hb hb2 hx;go_wp2;exact⟨⟨k+1,by omega,by go_num,.inr Ys,Dh⟩,by simp[intOf];omega⟩
  ·obtain rfl:k=n:=by omega
   have jA:¬ ((k:Int)<k):=by omega
   have er:row.take k=row:=by rw[HN.out,B']
   rw[er]at HB;go_wp2_with fail
   refine(CS _ _ _ _ HB HX.size).mono ?_;rintro e w2 ⟨rfl,hx⟩;have Dh:=AS (HX.trans hx);clear hx;go_wp2;go_ret;exact⟨by rw[HR.out];rfl,Dh⟩
theorem kT.PY {w:AT} {v0 v1 v2 v3 e:Value} {a:NF} (h:kT w (j_ #[v0,v1,v2,v3,e]) a):∃ a0 n0 c0 a1 n1 c1 a2 n2 c2 a3 n3 c3,v0=AI a0 n0 c0/\v1=AI a1 n1 c1/\v2=AI a2 n2 c2/\v3=AI a3 n3 c3:=by obtain⟨u0,u1,u2,u3,e,h0,h1,h2,h3⟩:=h;obtain⟨a0,c0,rfl⟩:=h0.1.form;obtain⟨a1,c1,rfl⟩:=h1.form;obtain⟨a2,c2,rfl⟩:=h2.form;obtain⟨a3,c3,rfl⟩:=h3.form;cases e;exact⟨_,_,_,_,_,_,_,_,_,_,_,_,rfl,rfl,rfl,rfl⟩
def iX (w:AT) (v:Value) (ps:List PT):Prop:=(v=AI As 0 0/\ps=[])\/∃ b off cap,v=AI (An ⟨b,off,As⟩) ps.length cap/\b<w.heap.size/\∀ (i:Nat) (x:PT),ps[i]? =An x->
 ∃ v0 v1 v2 v3,kT w (j_ #[v0,v1,v2,v3,By x.nf.emp]) x.nf/\w.cell? ⟨b,off+i*7,As⟩=An v0/\w.cell? ⟨b,off+i*7+1,As⟩=An v1/\w.cell? ⟨b,off+i*7+2,As⟩=An v2/\w.cell? ⟨b,off+i*7+3,As⟩=An v3/\
  w.cell? ⟨b,off+i*7+4,As⟩=An (By x.nf.emp)/\w.cell? ⟨b,off+i*7+5,As⟩=An (By x.za)/\w.cell? ⟨b,off+i*7+6,As⟩=An (AM A' x.mark)
theorem iX.below {w w':AT} {v:Value} {ps:List PT} (h:iX w v ps) (hk:aa w w'):iX w' v ps:=by
 rcases h with h | ⟨b,off,cap,hv,hb,h⟩
 ·exact .inl h
 ·have hc:∀ j,w'.cell? ⟨b,j,As⟩=w.cell? ⟨b,j,As⟩:=fun j=>(ae.aj hk fun _ h=>h:ae (· <w.heap.size) w w').cell (p:=⟨b,j,As⟩) hb
  refine .inr ⟨b,off,cap,hv,ay hb hk.size,fun i x hx=>?_⟩;obtain⟨v0,v1,v2,v3,h0,h1,h2,h3,h4,h5,h6,h7⟩:=h i x hx;exact⟨v0,v1,v2,v3,h0.below hk,(hc _).trans h1,(hc _).trans h2,(hc _).trans h3,(hc _).trans h4,(hc _).trans h5,(hc _).trans h6,(hc _).trans h7⟩
theorem iX.form {w:AT} {v:Value} {ps:List PT} (h:iX w v ps):∃ a cap,v=AI a ps.length cap:=by
 rcases h with⟨rfl,rfl⟩ | ⟨b,off,cap,rfl,_⟩
 ·exact⟨_,_,rfl⟩
 ·exact⟨_,_,rfl⟩
theorem iX.elem {w:AT} {a:Option Addr} {n cap:Nat} {ps:List PT} (h:iX w (AI a n cap) ps) {i:Nat} {x:PT} (hi:ps[i]? =An x): ∃ b off v0 v1 v2 v3,a=An ⟨b,off,As⟩/\b<w.heap.size/\kT w (j_ #[v0,v1,v2,v3,By x.nf.emp]) x.nf/\w.cell? ⟨b,off+i*7,As⟩=An v0/\w.cell? ⟨b,off+i*7+1,As⟩=An v1/\w.cell? ⟨b,off+i*7+2,As⟩=An v2/\w.cell? ⟨b,off+i*7+3,As⟩=An v3/\ w.cell? ⟨b,off+i*7+4,As⟩=An (By x.nf.emp)/\w.cell? ⟨b,off+i*7+5,As⟩=An (By x.za)/\w.cell? ⟨b,off+i*7+6,As⟩=An (AM A' x.mark):=by
 rcases h with⟨_,rfl⟩ | ⟨b,off,c,hv,hb,h⟩
 ·simp at hi
 ·cases hv
  obtain⟨v0,v1,v2,v3,h0,rest⟩:=h i x hi;exact⟨b,off,v0,v1,v2,v3,rfl,hb,h0,rest⟩
def Uy (ps:List PT):Prop:=ps.length<=64/\∀ x∈ps,Nt x.nf/\Py x.nf/\0<=x.mark/\x.mark<=255
theorem ar.seven {w:AT} {b:Nat} {x y z u t p q:Value} {ty:a_} (h:ar w b #[x,y,z,u,t,p,q] ty):w.cell? ⟨b,0,As⟩=An x/\w.cell? ⟨b,1,As⟩=An y/\w.cell? ⟨b,2,As⟩=An z/\w.cell? ⟨b,3,As⟩=An u/\w.cell? ⟨b,4,As⟩=An t/\w.cell? ⟨b,5,As⟩=An p/\w.cell? ⟨b,6,As⟩=An q:=
 ⟨h.cell 0,h.cell 1,h.cell 2,h.cell 3,h.cell 4,h.cell 5,h.cell 6⟩
def aU.ab9 (base:Nat) (e:a_) (size n:Nat) (xs:List Value) (x:Value):aU (Move If (fun _=>False)) where
 P:=fun v=>∃ a c,v=GS #[AI a n c,x]
 H:=fun v W=>∀ u,v=GS #[u,x]->W.ownsRow base e size u n xs
 nU:=GS #[AI As n 0,x]
 pw:=⟨As,0,rfl⟩
 st:=fun _ _ _ hm _ h u hu=>ai (h u hu) hm.below
theorem LU {base:Nat} {e:a_} {size n:Nat} {xs:List Value} {x u:Value} {W:AT} (h:W.ownsRow base e size u n xs):∃ a c,(GS #[u,x])=GS #[AI a n c,x]:=by obtain⟨a,c,rfl⟩:=ownsRow_form h;exact⟨a,c,rfl⟩
theorem LV {base:Nat} {e:a_} {size n:Nat} {xs:List Value} {x u:Value} {W:AT} (h:W.ownsRow base e size u n xs):∀ u',(GS #[u,x])=GS #[u',x]->W.ownsRow base e size u' n xs:=fun u' e=>by cases e;exact h
theorem LX {ps:List PT} {row:List (List Int)} {c i:Nat} {x:PT} {l:List Int} (hx:ps[i]? =An x) (hl:row[i]? =An l):(eQ ps row c)[i]? =An (x.step l c):=by unfold eQ;rw[List.getElem?_zipWith,hx,hl]
theorem LY {ps:List PT} {row:List (List Int)} (h:row.length=ps.length) (c:Nat):(eQ ps row c).length=ps.length:=by simp[eQ,h]
theorem Hk {a:NF} (rt:Nt a) {l:List Int} (h:a.st l=On):l.length<=401:=by
 obtain⟨h1,h2⟩:=dR h;have hle:=rt.le;have hn:(l.map fun x=>(x+1).toNat).Nodup:=by rw[List.nodup_iff_pairwise_ne,S'];exact h1.imp_of_mem fun {a b} ha hb hab=>by have:=h2 a ha;have:=h2 b hb;omega
 have:=Nodup.length_le_of_subset hn (l₂:=V_ 401) fun x hx=>by
  obtain⟨y,hy,rfl⟩:=A_.1 hx;have:=h2 y hy;exact Kx.2 (by omega)
 simpa using this
theorem AW {ps:List PT} (ok:Uy ps) {row:List (List Int)} (h:py ps row):RowK row:=by refine⟨by rw[h.1];exact ok.1,fun l hl=>?_⟩;obtain⟨i,hi⟩:=List.getElem?_of_mem hl;have fT:=(Sf.1 hi).1;have hx:ps[i]? =An (ps[i]'(by rw[<-h.1];exact fT)):=aB _;have rt:=(ok.2 _ (ax hx)).1;have hst:=h.2 i _ l hx hi;refine⟨Hk rt hst,fun x hx=>?_⟩;have:=(dR hst).2 x hx;have:=rt.le;omega
theorem LZ (mb:Nat) (pv lv:Value) (ps:List PT) (ok:Uy ps) (row:List (List Int)) (hr:py ps row) (c:Nat) (hc:c<256) (w:AT) (hm:w.cell? ⟨mb,0,As⟩=An pv) (h:iX w pv ps) (hl:fy w lv row): ah 173 #[Bm (An ⟨mb,0,As⟩),lv,AM .u8 c] w fun e w'=>∃ u,e=AF u/\aS w.heap.size w' u (eQ ps row c)/\aa w w':=by
 obtain⟨iL,uC,j6,j7,j8⟩:=mT Tryz.pd;obtain⟨iI,uD,jl,jm,jn⟩:=mT Tryz.ki;obtain⟨pa,pc,rfl⟩:=h.form;obtain⟨la,lc,rfl⟩:=hl.form;obtain⟨n,hn⟩:=ag ps.length;have yF:=hr.1;rw[<-hn]at h hm yF;rw[yF]at hl ⊢;have sA:n<=64:=by rw[hn];exact ok.1
 have CS:IN (∀ (i:Nat) (x:PT) (l:List Int) (v u:Value) (W:AT),ps[i]? =An x->row[i]? =An l->kT W v x.nf->bw aG W u l->ah 216 #[v,u,AM .u8 c] W fun e w'=>∃ r,e=AF (GS #[r,AM A' 0])/\w'.ownsRow W.heap.size 3 1 r (x.nf.step l c).length ((x.nf.step l c).map aG)/\aa W w'):=AS fun i x l v u W hx hl hv hu=>by
  have h2:=ok.2 x (ax hx);have hst:=hr.2 i x l hx hl;exact LL v u x.nf h2.1 l hst c hc W hv h2.2.1 hu (G' (Hk h2.1 hst) (by decide))
 have SL:IN (∀ (i:Nat) (x:PT) (l:List Int),ps[i]? =An x->(x.nf.step l c).length<=400):=AS fun i x l hx=>by
  have h2:=(ok.2 x (ax hx)).1.le;unfold NF.step;rw[aP];exact G' (Y' _ _) (by simpa using h2)
 have H:=AS h;have HL:=AS hl;have HN:=AS hn;have Yy:=AS yF;have SLn:IN ((eQ ps row c).length=n):=AS (by rw[LY hr.1, <-hn]);have pC:mb<w.heap.size:=World.block_lt_of_cell? _ _ hm;clear h hl hr hn yF ok;go_enter Tryz.func173,Tryz.ntmps173;go_wp2;clear hm;go_loopw [7,17] (fun ov iv wr=>∃ k:Nat,k<=n/\iv=AM A' k/\aS w.heap.size wr ov ((eQ ps row c).take k)/\aa w wr) (fun _ iv _=>n-(intOf iv).toNat);case atStart=>exact⟨0,by omega,rfl,aS.nil _ _,Below.refl _ _⟩
 case round=>
  obtain⟨k,hk,rfl,ho,hx⟩:=hrel;obtain⟨wo,rfl⟩:=ag (wr:AT);have HO:=AS ho;have HX:=AS hx;clear ho hx;by_cases hlt:k<n
  ·have ed:(k:Int)<n:=by omega
   obtain⟨x,hx⟩:∃ x,ps[k]? =An x:=⟨_,aB (by have:=HN.out;omega)⟩;obtain⟨l,hl⟩:∃ l,row[k]? =An l:=⟨_,aB (by have:=Yy.out;omega)⟩;obtain⟨b,off,v0,v1,v2,v3,rfl,hb,Cs,q0,q1,q2,q3,q4,q5,q6⟩:=(H.below HX).elem hx;obtain⟨b2,fL,a',c',rfl,hb2,cl,mm⟩:=(HL.below HX).elem hl;have Uz:=AS hx;have Yz:=AS hl;obtain⟨x0,n0,c0,x1,n1,c1,x2,n2,c2,x3,n3,c3,rfl,rfl,rfl,rfl⟩:=Cs.PY;have JS:=AS Cs;have yV:=AS mm;have pM:IN ((eQ ps row c).take (k+1)=(eQ ps row c).take k++ [x.step l c]):=AS (by rw[Cd,LX hx hl];rfl);clear hx hl Cs mm;obtain⟨sn,kX⟩:=ag ((x.nf.step l c).length);obtain⟨sx,NP⟩:=ag ((x.nf.step l c).map aG);have CS1:IN (∀ (v u:Value) (W:AT),kT W v x.nf->bw aG W u l->ah 216 #[v,u,AM .u8 c] W fun e w'=>∃ r,e=AF (GS #[r,AM A' 0])/\w'.ownsRow W.heap.size 3 1 r sn sx/\aa W w'):=AS fun v u W hv hu=>by rw[kX,NP];exact CS k x l v u W Uz Yz hv hu
   have ajQ:sn<=400:=by rw[kX];exact SL k x l Uz
   have HSN:=AS kX;have HSX:=AS NP;obtain⟨ln,Cr⟩:=ag l.length;rw[<-Cr]at cl yV;clear kX NP Cr;go_wp2;refine aw ?_;intro V hV;have BX:IN (ar V wo.heap.size #[AI x0 n0 c0,AI x1 n1 c1,AI x2 n2 c2,AI x3 n3 c3,By x.nf.emp,By x.za,AM A' x.mark] 124):=AS (by rw[hV];exact ar.new wo _ _);have XV:IN (aa wo V):=AS (by rw[hV];exact((Ext.refl wo).alloc _).below);have DW:V.cell? ⟨b2,fL+k,As⟩=An (AI a' ln c'):=((ae.aj XV fun _ h=>h:ae (· <wo.heap.size) wo V).cell (p:=⟨b2,fL+k,As⟩) hb2).trans cl;clear hV q0 q1 q2 q3 q4 q5 q6 cl;refine aI If (fun _=>False) (by kernel_rfl) 12 [0,1,0,0,12,28,0,127,255,511,511,1023,4095] (fun i=>i==7) (by kernel_rfl) (fun i=>if i=7 then aU.ab9 V.heap.size 3 1 sn sx (AM A' 0)else aU.any _) ?_;intro C hC hne;have HC:=AS hC;have f0:=aD hC (p:=⟨wo.heap.size,0,As⟩) BX.lt (fun h=>h) (BX.cell 0);have f1:=aD hC (p:=⟨wo.heap.size,1,As⟩) BX.lt (fun h=>h) (BX.cell 1);have f2:=aD hC (p:=⟨wo.heap.size,2,As⟩) BX.lt (fun h=>h) (BX.cell 2);have f3:=aD hC (p:=⟨wo.heap.size,3,As⟩) BX.lt (fun h=>h) (BX.cell 3);have f4:=aD hC (p:=⟨wo.heap.size,4,As⟩) BX.lt (fun h=>h) (BX.cell 4);have f5:=aD hC (p:=⟨b2,fL+k,As⟩) (World.block_lt_of_cell? _ _ DW) (fun h=>h) DW;clear hC DW
   repeat (refine au (fun K hK=>?_);first | (refine bL rfl ?_;try go_simp;refine hK _ _ ?_;clear hK K) | (refine bJ rfl rfl ?_;unfold az;go_simp;refine hK _ _ ?_;clear hK K))
   refine au (fun K hK=>?_);refine bS rfl rfl (aU.ab9 V.heap.size 3 1 sn sx (AM A' 0)) rfl (fun W hW hN=>?_) (fun v hv=>?_)
   ·have hM:=(HC.out W).1 hW
    clear hW;go_simp;refine bA ((CS1 _ _ _ ((JS.below XV).below hM.below) ((yV.below XV).below hM.below)).mono ?_);rintro e w2 ⟨vp,rfl,ho,hx⟩;exact⟨_,rfl,Move.aj hx,LU ho,LV (aC ho hM.size)⟩
   obtain⟨ra,rc,rfl⟩:=hv;go_simp;refine hK _ _ ?_;clear hK K
   repeat (refine au (fun K hK=>?_);first | (refine bL rfl ?_;try go_simp;refine hK _ _ ?_;clear hK K) | (refine bJ rfl rfl ?_;unfold az;go_simp;refine hK _ _ ?_;clear hK K))
   refine bC (fun W hW hH=>?_);have hM:=(HC.out W).1 hW;have R0:IN (W.ownsRow V.heap.size 3 1 (AI ra sn rc) sn sx):=AS ((hH _ (ax (show _=An _ from rfl:_[0]? =An _))) _ rfl);have BW:=AS (BX.below hM.below BX.lt);have XW:=AS (XV.trans (hM.below.mono XV.size));have hVW:=hM.size;clear hM hW hH HC hne f0 f1 f2 f3 f4 f5;obtain⟨i0,i1,i2,i3,i4,i5,i6⟩:=BW.seven;have UB:w.heap.size<=wo.heap.size:=HX.size;have UC:wo.heap.size<W.heap.size:=BW.lt;obtain⟨us,u1,u2,u3⟩:=HO.out;obtain⟨m,hm⟩:=ag us.length;have ane:m<=64:=by rw[hm,u1,i_,SLn.out];omega
   rw[<-hm]at u2;have HM:=AS hm;obtain⟨a5,c5,rfl⟩:=ownsRow_form u2;have U1:=AS u1;have V2:=AS (ai u2 XW);have V3:=AS fun i u l hu hl=>ai (u3 i u l hu hl) XW
   clear u1 u2 u3 hm;cases hbg:x.za with
   | true=>
    rw[hbg]at i5;have HE:IN (x.step l c=x.nf.step l c):=AS (by unfold PT.step;rw[hbg];rfl);clear hbg
    have RN:IN (W.ownsRow w.heap.size 3 1 (AI ra sn rc) (x.step l c).length ((x.step l c).map aG)):=AS (by
     rw[HE.out, <-HSN.out, <-HSX.out]
     exact aC R0 (G' UB XV.size))
    go_wp2_with (at_builtin;refine Zj _ rfl (.tmp 39) (.tmp 41) 27 rfl w.heap.size 39 iL (AI As 0 0) 1 24 g_ uC j6 j7 j8 rfl (by decide) _ _ _ rfl (V2.alloc _) ⟨W.heap.size,0,As⟩ 1 1 [AI ra sn rc] rfl rfl (dO _ _ _) (by simp[RC]) (by unfold maxLen;omega) (by omega) (by simp;omega) ?_;intro v' w2 hown' hgrow hh hat;have jF:=AS hown';have HG:=AS hgrow;clear hown' hgrow hh hat)
    go_roundw
    case rel=>
     refine⟨k+1,by omega,by go_num,?_,?_⟩
     ·rw[pM.out]
      refine aS.snoc (w:=W.alloc (.cells #[AI ra sn rc] 39)) (v:=AI a5 m c5) (by rw[<-HM.out];exact HM.trans U1) (by rw[<-HM.out];exact V2.alloc _) (fun i u l hu hl=>(V3 i u l hu hl).alloc _) (RN.alloc _) HG (by rw[<-HM.out];exact jF)
     ·have XX:=HX.trans (XW.mono HX.size)
      exact(XX.alloc XX.size _).grown HG (by have:=XX.size;simp;omega) (fun c e=>(V2.lt c e).1)
    case measure=>simp[intOf];omega
   | false=>
    rw[hbg]at i5;have HE:IN (x.step l c= -1::x.nf.step l c):=AS (by unfold PT.step;rw[hbg];rfl);clear hbg;have O1:IN ((W.alloc (.cells #[AM A' (-1)] 3)).ownsRow W.heap.size 3 1 (AI (An ⟨W.heap.size,0,As⟩) 1 1) 1 [AM A' (-1)]):=AS ⟨rfl,.inr ⟨W.heap.size,1, #[AM A' (-1)],rfl,aF _,World.alloc_heap_new _ _,aF _,by unfold maxLen;omega,rfl,rfl⟩⟩;go_wp2_with (at_builtin;refine Hid.out ?_);refine AS ?_;refine mU rfl (.tmp 36) (.tmp 37) 39 rfl W.heap.size 3 iI (AM A' 0) 1 8 J' uD jl jm jn rfl (by decide) _ 1 _ rfl O1 _ sn sx rfl (s7.own (R0.alloc _)) (by rw[HSX.out,aP,rn];exact HSN.symm) (fun u hu=>by rw[HSX.out]at hu;obtain⟨y,_,rfl⟩:=A_.1 hu;rfl) (by unfold maxLen;omega) (by omega) (by simp) ?_;intro v1 w1 hown1 PZ;have XB:IN (aa W w1):=AS (((Below.refl _ W).alloc (aF _) _).grown PZ (by simp) (fun c e=>by have e2:An W.heap.size=An c:=e;injection e2 with e2;omega));have hN:1+sn=(x.step l c).length:=by rw[HE.out,D', <-HSN.out];omega
    have hX:[AM A' (-1)]++sx=(x.step l c).map aG:=by rw[HE.out,HSX.out];rfl
    rw[hN,hX]at hown1;obtain⟨sm,hsm⟩:=ag ((x.step l c).length);rw[<-hsm]at hown1;obtain⟨a6,c6,rfl⟩:=ownsRow_form hown1;have RN:IN (w1.ownsRow w.heap.size 3 1 (AI a6 sm c6) (x.step l c).length ((x.step l c).map aG)):=AS (by rw[<-hsm];exact aC hown1 (by omega));have Z2:=AS (ai V2 XB);have Z3:=AS fun i u l hu hl=>ai (V3 i u l hu hl) XB
    have hw1:=XB.size;clear hown1 PZ hN hX hsm V2 V3 O1;go_wp2_with (at_builtin;refine Zj _ rfl (.tmp 39) (.tmp 41) 27 rfl w.heap.size 39 iL (AI As 0 0) 1 24 g_ uC j6 j7 j8 rfl (by decide) _ _ _ rfl (Z2.alloc _) ⟨w1.heap.size,0,As⟩ 1 1 [AI a6 sm c6] rfl rfl (dO _ _ _) (by simp[RC]) (by unfold maxLen;omega) (by omega) (by simp;omega) ?_;intro v' w2 hown' hgrow hh hat;have jF:=AS hown';have HG:=AS hgrow;clear hown' hgrow hh hat);go_roundw;case rel=>
     refine⟨k+1,by omega,by go_num,?_,?_⟩
     ·rw[pM.out]
      refine aS.snoc (w:=w1.alloc (.cells #[AI a6 sm c6] 39)) (v:=AI a5 m c5) (by rw[<-HM.out];exact HM.trans U1) (by rw[<-HM.out];exact Z2.alloc _) (fun i u l hu hl=>(Z3 i u l hu hl).alloc _) (RN.alloc _) HG (by rw[<-HM.out];exact jF)
     ·have XX:=(HX.trans (XW.mono HX.size)).trans (XB.mono (G' HX.size XW.size))
      exact(XX.alloc XX.size _).grown HG (by have:=XX.size;simp;omega) (fun c e=>(Z2.lt c e).1)
    case measure=>simp[intOf];omega
  ·obtain rfl:k=n:=by omega
   have Cq:¬ ((k:Int)<k):=by omega
   have er:(eQ ps row c).take k=eQ ps row c:=by rw[<-SLn.out];exact B'
   rw[er]at HO;go_wp2;go_ret;exact⟨_,rfl,HO,HX⟩
end Go.Proofs.YtjgccapbphadjaaGreatDoor
