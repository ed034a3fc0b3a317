/- Walks of package alphabet: Join. -/
import Derived.Test.YtjgccapbphadjaaGreatDoorOX01
import Derived.WalkSpells
import Derived.WalkLawsBesides
import Derived.TacticsInMore
import Derived.LoopNIn
import Derived.LoopIn
import Derived.Shelf.AbstractIn
import Derived.Maps.OwnIn
import Derived.Shelf.SlSortCmp.NoneTotal
import Derived.Deep.WholeRow
set_option maxRecDepth 100000
set_option maxHeartbeats 16000000
open Go.Lib (hid)
open Option renaming some->An,none->AF
open Go.Value renaming int->As,pointer->AS,slice->Bs,agg->DH,bool->EV,tuple->P',ownBlock->ZS
open Go.Ending renaming returned->AI
open Go.Lib renaming hid->AM
open Go.IntKind renaming u64->AN,i64->Kx,u8->K_,bits->OR,signed->Zi,wrap->da
open Go renaming World->AT,bodyPost_ret->B',callsIn_wide->IN,undef->J',results_none->O_,TypeId->S',info_parts->ZD,ownsRow_putObj->Z_,callsIn_of_wp->ao,Addr->gd
open List renaming getElem?_eq_some_iff->A_,eq_nil_of_length_eq_zero->Cd,length_cons->DE,append_toArray->D0,getElem?_take->D_,nil_append->D',length_filter_le->E_,getElem?_toArray->Ft,size_toArray->FF,push_toArray->FG,take_add_one->F_,cons_append->GB,length_nil->GS,range->GW,flatMap_cons->G',take_length->Is,append_nil->IF,filter_append->J_,foldl_append->Ly,append_assoc->L_,mem_flatMap->N_,getElem?_replicate->On,length_mergeSort->RC,countP_eq_zero->R_,prefix_append->TO,zipIdx_append->UP,countP_congr->VH,getElem?_set->V',range_succ->X',foldl_cons->Y_,prefix_rfl->Y',map_append->Ze,mem_append->Zf,replicate->Z',map_cons->aE,sum_cons->a_,map_nil->d_
open Array renaming getElem?_eq_some_iff->A',replicate_succ->DP,replicate_zero->DQ,getElem?_modify->Rr,ext_getElem?->To
open Go.Proofs.Tryz renaming prog->Bm,underlying26->H_,ntmps169->M_,func169->P_,ntmps168->Se,ntmps111->Sf,ntmps123->St,ntmps121->SO,underlying54->US,func125->U_,func168->Wg,func111->Wr,func123->W_,func121->X_,results112->Zg,results113->Zh,results23->Zm,sizeOf54->an,ntmps112->be,ntmps113->b_,func136->dd,func176->de,func217->dq,isAgg54->du,func112->eS,func113->e_,func235->ff,func73->fs,func30->f_
open BitVec renaming eq_of_getLsbD_eq->By,getLsbD_extractLsb'->B_,eq_of_toNat_eq->H',getLsbD_not->I_,getLsbD_or->Lw,twoPow->MY,getLsbD_twoPow->Q_,toNat_ofNat->S_,getLsbD_and->T_,getLsbD->Zk,ofInt->c_
open Bool renaming true_and->C_,false->C',eq_iff_iff->GO,false_eq_true->IT,true->Lo,not_eq_true->N',false_and->Zj
open Nat renaming le_trans->DS,reduceAdd->It,reduceSub->Iv,mod_eq_of_lt->NX,zero_add->V_,mod_lt->Zl,mul_one->fi
open Go.Result renaming andThen_ok->G_
open Go.Proofs renaming enters_of->If
open Go.Op renaming equalIn->I'
open Go.World renaming cell?->L7,alloc_heap_new->RE,ownsRow_nil->U'
open Go.Sort renaming ahead->O'
namespace Go.Proofs.YtjgccapbphadjaaGreatDoor
section
open Go Go.RowKit
abbrev BS:=BitVec 256
def wd (s:BS) (i:Nat):BitVec 64:=s.extractLsb' (64*i) 64
def encS (s:BS):Array Value:= #[As AN (wd s 0).toNat,As AN (wd s 1).toNat,As AN (wd s 2).toNat,As AN (wd s 3).toNat]
theorem jy (s:BS):(encS s).size=4:=rfl
theorem gu (s:BS) {k:Nat} (hk:k<4):(encS s)[k]? =An (As AN (wd s k).toNat):=by
 match k,hk with
 | 0,_=>rfl
 | 1,_=>rfl
 | 2,_=>rfl
 | 3,_=>rfl
theorem uy (op:BinOp) (x y:BitVec 64):bits op AN x.toNat y.toNat=((match op with | .and=>x&&& y | .or=>x ||| y | .xor=>x ^^^ y | _=>x&&& ~~~y).toNat:Int):=by
 have hx:c_ (AN).bits (x.toNat:Int)=x:=by apply H';simp[OR]
 have hy:c_ (AN).bits (y.toNat:Int)=y:=by apply H';simp[OR]
 have hw:∀ z:BitVec 64,AN.wrap (z.toNat:Int)=z.toNat:=fun z=>by
  have:=z.isLt;simp only[da,OR,Zi,Zj,IT,if_false];omega
 unfold bits;simp only[hx,hy];cases op<;>exact hw _
theorem Ag (x y:BitVec 64):bits .or AN x.toNat y.toNat=((x ||| y).toNat:Int):=uy .or x y
theorem Dc (x y:BitVec 64):bits .and AN x.toNat y.toNat=((x&&& y).toNat:Int):=uy .and x y
theorem Oz (x y:BitVec 64):bits .xor AN x.toNat y.toNat=((x ^^^ y).toNat:Int):=uy .xor x y
theorem KZ (x y:BitVec 64):bits .andNot AN x.toNat y.toNat=((x&&& ~~~y).toNat:Int):=uy .andNot x y
theorem OA (x:BitVec 64):bits .xor AN AN.max x.toNat=((~~~x).toNat:Int):=by
 have h:AN.max=((BitVec.allOnes 64).toNat:Int):=by decide
 rw[h,Oz,BitVec.allOnes_xor]
theorem Dd (n:Nat) (h:n<2^64):bits .and AN (n:Int) 1=((n%2:Nat):Int):=by
 have e1:((BitVec.ofNat 64 n).toNat:Int)=n:=by rw[S_,NX h]
 have e2:(((1:BitVec 64)).toNat:Int)=1:=rfl;rw[<-e1, <-e2,Dc];congr 1;rw[BitVec.toNat_and,S_,NX h];exact Nat.and_one_is_mod n
theorem abH (s t:BS) (i:Nat):wd (s ||| t) i=wd s i ||| wd t i:=by unfold wd;exact BitVec.extractLsb'_or ..
theorem OC (s t:BS) (i:Nat):wd (s&&& t) i=wd s i&&& wd t i:=by unfold wd;exact BitVec.extractLsb'_and ..
theorem OD (s:BS) {i:Nat} (hi:i<4):wd (~~~s) i= ~~~(wd s i):=by
 unfold wd;apply By;intro k hk;simp only[B_,I_,hk,decide_true,C_];have:64*i+k<256:=by omega
 simp[this]
theorem TQ (i:Nat):wd 0 i=0:=by unfold wd;exact BitVec.extractLsb'_zero ..
theorem BS.Xu {s t:BS} (h:∀ i,i<4->wd s i=wd t i):s=t:=by apply By;intro k hk;have h1:=congrArg (fun b:BitVec 64=>b.getLsbD (k%64)) (h (k/64) (by omega));simp only[wd,B_,show k%64<64 from by omega,decide_true,C_]at h1;rwa[show 64*(k/64)+k%64=k from by omega]at h1
theorem Xv (s:BS) (c:Nat):(wd s (c/64)).toNat/2^ (c%64)%2=(s.getLsbD c).toNat:=by
 have h:(wd s (c/64)).getLsbD (c%64)=s.getLsbD c:=by simp only[wd,B_,show c%64<64 from by omega,decide_true,C_];rw[show 64*(c/64)+c%64=c from by omega]
 rw[<-h,Zk,Nat.testBit_eq_decide_div_mod_eq];have:=Zl ((wd s (c/64)).toNat/2^ (c%64)) (show 0<2 by decide);generalize (wd s (c/64)).toNat/2^ (c%64)%2=z at*;match z,this with
 | 0,_=>rfl
 | 1,_=>rfl
theorem OE (s:BS) (c:Nat):(bits .and AN (((wd s (c/64)).toNat:Int)/2^ (c%64)) 1==1)=s.getLsbD c:=by
 have h:(((wd s (c/64)).toNat:Int)/2^ (c%64))=((((wd s (c/64)).toNat/2^ (c%64):Nat)):Int):=by simp
 rw[h,Dd _ (Nat.lt_of_le_of_lt (Nat.div_le_self _ _) (wd s (c/64)).isLt),Xv];cases s.getLsbD c<;>rfl
/-! '==' on arrays of whole numbers. -/
theorem qG {P:Program} {w:AT} {e:S'} {cs:Array Value} {i:Nat} {v:Value} (ha:∀ w,(isAgg e).run P w=.ok C' w) (h:cs[i]? =An v):(part e cs i).run P w=.ok v w:=by unfold part;simp[Sem.run_bind,ha,h]
theorem run_equalIn_array {P:Program} (w:AT) (d:Nat) {t e:S'} {len:Nat} {k:IntKind} (xs ys:Array Value) (x y:Nat->Int) (ht:P.underlying t=An (.array len e)) (he:P.underlying e=An (.int k)) (ha:∀ w,(isAgg e).run P w=.ok C' w) (hz:∀ w,(sizeOf e).run P w=.ok 1 w) (hx:∀ i,i<len->xs[i]? =An (As k (x i))) (hy:∀ i,i<len->ys[i]? =An (As k (y i))): (I' (d+2) t (DH xs) (DH ys)).run P w=.ok ((GW len).all fun i=>x i==y i) w:=by
 rw[show d+2=(d+1)+1 from rfl,I'];simp only[Sem.run_bind,run_underlying ht,G_,hz];simp only[Std.Legacy.Range.forIn_eq_forIn_range',Std.Legacy.Range.size,Nat.sub_zero,Nat.add_one_sub_one,Nat.div_one]
 have key:∀ (l:List Nat),(∀ i∈l,i<len)->(Sem.run P (forIn (m:=Sem) l ((AF,()):Option Bool×Unit) fun i (_:Option Bool×Unit)=>do
   let a <-part e xs (i*1)
   let b <-part e ys (i*1)
   let r <-I' (d+1) e a b
   if(!r)=Lo then pure (ForInStep.done (An C',()))else pure (ForInStep.yield (AF,()))) w)=.ok (if(l.all fun i=>x i==y i)then AF else An C',()) w:=by
  intro l;induction l with
  | nil=>intro _;simp
  | cons i l ih=>
   intro hl;have hi:=hl i (by simp);simp only[List.forIn_cons,Sem.run_bind,fi,qG ha (hx i hi),qG ha (hy i hi),G_,run_equalIn_int w d e k k _ _ he];by_cases h:x i=y i
   ·have h':(x i==y i)=true:=by simpa using h
    have:=ih (fun j hj=>hl j (by simp[hj]));simp only[fi]at this;simp only[h',Bool.not_true,IT,if_false,Sem.run_pure,G_,List.all_cons,C_];exact this
   ·have h':(x i==y i)=false:=by simpa using h
    simp[h']
 rw[key (List.range' 0 len) (fun i hi=>by simpa[List.mem_range']using hi)];simp only[G_];rw[List.range_eq_range'];split<;>simp_all
theorem OG (s t:BS):((GW 4).all fun i=>(((wd s i).toNat:Int)==((wd t i).toNat:Int)))=(s==t):=by
 rw[GO];simp only[List.all_eq_true,List.mem_range,beq_iff_eq];constructor
 ·intro h;exact BS.Xu fun i hi=>H' (by have:=h i hi;omega)
 ·intro h i _;rw[h]
theorem Ah {C:AT->Prop} {S:Nat->Prop} {w:AT} (hC:∀ W,C W↔ae S w W) {b:Nat} {s:BS} {t:S'} (hs:S b) (h:ar w b (encS s) t): (∀ W: {W//C W},W.1.cell? ⟨b,0,AF⟩=An (As AN (wd s 0).toNat))/\(∀ W: {W//C W},W.1.cell? ⟨b,1,AF⟩=An (As AN (wd s 1).toNat))/\ (∀ W: {W//C W},W.1.cell? ⟨b,2,AF⟩=An (As AN (wd s 2).toNat))/\(∀ W: {W//C W},W.1.cell? ⟨b,3,AF⟩=An (As AN (wd s 3).toNat)):=
 ⟨dh hC (p:=⟨b,0,AF⟩) hs (h.cell 0),dh hC (p:=⟨b,1,AF⟩) hs (h.cell 1),dh hC (p:=⟨b,2,AF⟩) hs (h.cell 2),dh hC (p:=⟨b,3,AF⟩) hs (h.cell 3)⟩
theorem ar.K1 {w:AT} {b:Nat} {s:BS} {t:S'} (h:ar w b (encS s) t): w.cell? ⟨b,0,AF⟩=An (As AN (wd s 0).toNat)/\w.cell? ⟨b,1,AF⟩=An (As AN (wd s 1).toNat)/\w.cell? ⟨b,2,AF⟩=An (As AN (wd s 2).toNat)/\w.cell? ⟨b,3,AF⟩=An (As AN (wd s 3).toNat):=
 ⟨h.cell 0,h.cell 1,h.cell 2,h.cell 3⟩
def mP (s:BS) (c:Nat):BS:=s ||| MY 256 c
theorem kO (s:BS) {c d:Nat} (hc:c<256):(mP s c).getLsbD d=(s.getLsbD d || (d==c)):=by unfold mP;rw[Lw,Q_];simp only[hc,decide_true,C_];congr 1;rw[GO];simp;exact eq_comm
theorem OH (s:BS) {c i:Nat} (hc:c<256) (hi:i<4):wd (mP s c) i=if i=c/64 then wd s i ||| MY 64 (c%64)else wd s i:=by
 have hm:c%64<64:=Zl _ (by decide);split
 ·rename_i h
  subst h;apply By;intro k hk;have h2:∀ d,(mP s c).getLsbD d=(s.getLsbD d || (d==c)):=fun d=>kO s hc
  simp only[wd,B_,hk,decide_true,C_,h2,Lw,Q_,hm];congr 1;rw[GO];simp;omega
 ·rename_i h
  apply By;intro k hk;simp only[wd,B_,hk,decide_true,C_,kO s hc];rw[show(64*i+k==c)=C' from by simp;omega,Bool.or_false]
theorem Gx (x:BitVec 64) {m:Nat} (hm:m<64):bits .or AN x.toNat (AN.wrap (2^m))=((x ||| MY 64 m).toNat:Int):=by
 have h:AN.wrap (2^m)=((MY 64 m).toNat:Int):=by
  have h1:(2:Nat)^m<2^64:=Nat.pow_lt_pow_right (by decide) hm;have h2:((2:Int)^m)=((2^m:Nat):Int):=by simp
  rw[BitVec.toNat_twoPow,NX h1,h2];simp only[da,OR,Zi,Zj,IT,if_false];exact Int.emod_eq_of_lt (Int.natCast_nonneg _) (by exact_mod_cast h1)
 rw[h,Ag]
theorem uU (s:BS) {c:Nat} (hc:c<256):(encS s).setIfInBounds (c/64) (As AN (bits .or AN (wd s (c/64)).toNat (AN.wrap (2^ (c%64)))))=encS (mP s c):=by
 rw[Gx _ (Zl _ (by decide))];apply To;intro i;rw[Array.getElem?_setIfInBounds];by_cases hi:i<4
 ·rw[gu _ hi,gu _ hi,OH s hc hi]
  split
  ·rename_i h;subst h;simp[jy,hi]
  ·rename_i h;rw[if_neg (fun e=>h e.symm)]
 ·have h1:(encS s)[i]? =none:=by simp[jy];omega
  have h2:(encS (mP s c))[i]? =none:=by simp[jy];omega
  rw[h1,h2];split
  ·rw[if_neg (by rw[jy];omega)]
  ·rfl
def pK (p:Nat->Bool):BS:=(GW 256).foldl (fun s c=>if p c then mP s c else s) 0
theorem OI (p:Nat->Bool):∀ n,n<=256->∀ d,((GW n).foldl (fun s c=>if p c then mP s c else s) (0:BS)).getLsbD d=(decide (d<n)&&p d):=by
 intro n;induction n with
 | zero=>intro _ d;simp
 | succ n ih=>
  intro hn d;rw[X',Ly,Y_,List.foldl_nil];have h:=ih (by omega) d;by_cases hp:p n=Lo
  ·rw[if_pos hp,kO _ (by omega),h]
   by_cases hd:d=n
   ·subst hd;simp[hp]
   ·rw[GO];simp[hd];intro _;omega
  ·rw[if_neg hp,h]
   by_cases hd:d=n
   ·subst hd;simp[hp]
   ·rw[GO];simp;intro _;omega
theorem OJ (p:Nat->Bool) {d:Nat} (hd:d<256):(pK p).getLsbD d=p d:=by have:=OI p 256 (aF _) d;rw[pK,this];simp[hd]
theorem BS.ext {s t:BS} (h:∀ c,c<256->s.getLsbD c=t.getLsbD c):s=t:=By h
theorem BS.Jq {s:BS} {p:Nat->Bool} (h:∀ c,c<256->s.getLsbD c=p c):s=pK p:=BS.ext fun c hc=>by rw[h c hc,OJ p hc]
def bw {α:Type} (enc:α->Value) (w:AT) (v:Value) (l:List α):Prop:=
 (v=Bs AF 0 0/\l=[])\/∃ b off cap,v=Bs (An ⟨b,off,AF⟩) l.length cap/\b<w.heap.size/\l.length<=cap/\∀ i x,l[i]? =An x->w.cell? ⟨b,off+i,AF⟩=An (enc x)
theorem qH (s:BS) (c:Nat) (hc:c<256) (w:AT): ah 77 #[DH (encS s),As K_ c] w fun e w'=>e=AI (EV (s.getLsbD c))/\Ext w w':=by have hcell:=gu s (show c/64<4 by omega);go_enter Tryz.func77,Tryz.ntmps77;go_wp2;go_ret;exact⟨congrArg (fun b=>AI (EV b)) (OE s c),(Ext.refl w).alloc _⟩
theorem TR (x y:BitVec 64) (w:AT):ah 136 #[As AN x.toNat,As AN y.toNat] w fun e w'=>e=AI (As AN (x ||| y).toNat)/\w'=w:=by have h:=Ag x y;go_enter dd,Tryz.ntmps136;go_wp2;go_ret;exact⟨rfl,rfl⟩
theorem OL (x y:BitVec 64) (w:AT):ah 176 #[As AN x.toNat,As AN y.toNat] w fun e w'=>e=AI (As AN (x&&& y).toNat)/\w'=w:=by have h:=Dc x y;go_enter de,Tryz.ntmps176;go_wp2;go_ret;exact⟨rfl,rfl⟩
theorem La (x y:BitVec 64) (w:AT):ah 73 #[As AN x.toNat,As AN y.toNat] w fun e w'=>e=AI (As AN (x&&& ~~~y).toNat)/\w'=w:=by
 go_enter fs,Tryz.ntmps73
 go_wp2;go_ret;exact⟨congrArg (fun z=>AI (As AN z)) (KZ x y),rfl⟩
theorem OP (x y:BitVec 64) (w:AT):ah 217 #[As AN x.toNat,As AN y.toNat] w fun e w'=>e=AI (As AN (~~~x).toNat)/\w'=w:=by have hsg:AN.signed=false:=rfl;go_enter dq,Tryz.ntmps217;go_wp2;go_ret;exact⟨congrArg (fun z=>AI (As AN z)) (OA x),rfl⟩
def Ai (u:BS) (k:Nat):Array Value:= #[As AN (if 0<k then wd u 0 else 0).toNat,As AN (if 1<k then wd u 1 else 0).toNat,As AN (if 2<k then wd u 2 else 0).toNat,As AN (if 3<k then wd u 3 else 0).toNat]
theorem Gy (u:BS) {k:Nat} (hk:k<4):(Ai u k).setIfInBounds k (As AN (wd u k).toNat)=Ai u (k+1):=by
 match k,hk with
 | 0,_=>rfl
 | 1,_=>rfl
 | 2,_=>rfl
 | 3,_=>rfl
theorem Gz (u:BS) {k j:Nat} (hj:j<4):∃ z:Nat,(Ai u k)[j]? =An (As AN z):=by
 match j,hj with
 | 0,_=>exact⟨_,rfl⟩
 | 1,_=>exact⟨_,rfl⟩
 | 2,_=>exact⟨_,rfl⟩
 | 3,_=>exact⟨_,rfl⟩
theorem qI (s t u:BS) (f:BitVec 64→BitVec 64→BitVec 64) (g:Nat) (w:AT) (hu:∀ i,i<4→f (wd s i) (wd t i)=wd u i) (eg:∀ args w,(callFunc g args).run Bm w=.ok (.enter g args) w) (hg:∀ (x y:BitVec 64) W,ah g #[As AN x.toNat,As AN y.toNat] W fun e w'=>e=AI (As AN (f x y).toNat)∧w'=W): ah 72 #[DH (encS s),DH (encS t),.func (.func g) #[] #[]] w fun e w'=>e=AI (DH (encS u))∧Ext w w':=by
  have HG:=AM hg;have HU:=AM hu;clear hg hu;go_enter Tryz.func72,Tryz.ntmps72;go_wp2
  go_loopw [9,8] (fun i _ wr=>∃ k:Nat,k≤4∧i=As Kx k∧ar wr w.heap.size (encS s) 56∧ar wr (w.heap.size+1) (encS t) 56∧ar wr (w.heap.size+1+1+1) (Ai u k) 56∧
     ar wr (w.heap.size+1+1) #[As AN 0,As AN 0,As AN 0,As AN 0] 56∧Ext w wr)
     (fun i _ _=>4-(intOf i).toNat)
  case atStart=>
    refine⟨0,by omega,rfl,?_,?_,?_,?_,(((((Ext.refl w).alloc _).alloc _).alloc _).alloc _)⟩<;>(repeat (first | (refine(ar.new _ _ _).at ?_;simp;done) | refine ar.alloc ?_ _))
  case round=>
    obtain⟨k,hk,rfl,hA,hB,hO,hR,hx⟩:=hrel;by_cases hlt:k<4
    · have ca:=(hA.cell k).trans (gu s hlt)
      have cb:=(hB.cell k).trans (gu t hlt);obtain⟨z,hz⟩:=Gz u (k:=k) hlt;have HA:=AM hA;have HB:=AM hB;have HO:=AM hO;have HR:=AM hR;have HX:=AM hx;have HF:=AM (HU.out k hlt);clear hA hB hO hR hx;go_wp2;refine eK (fun b=>b=w.heap.size∨b=w.heap.size+1) (by kernel_rfl) (fun i=>i==8 || i==10) (by kernel_rfl) ?_;intro C hC hne W0 yJ hblk hsz hx0;have Lb:=AM hx0;clear hx0;have fa:=dh hC (.inl rfl) ca;have fb:=dh hC (.inr rfl) cb;have HO':=AM (HO.same (hblk _));have co:=(HO'.cell k).trans hz;have cf:=HO'.frozen k;have HC:=AM hC;have HBl:=AM hblk;have HK:=AM yJ;have HZ:=AM hz;clear hC ca cb hblk yJ hz
      repeat (refine bN (fun K hK=>?_);refine dt rfl ?_;unfold az;go_simp;refine hK _ _ ?_;clear hK K)
      refine bN (fun K hK=>?_);refine eB rfl ?_;go_simp;refine eJ ((HG _ _ _).mono ?_);rintro e w' ⟨rfl,rfl⟩;refine⟨_,rfl,(HC _).2 HK,hK _ _ ?_⟩;clear hK K
      repeat (refine bN (fun K hK=>?_);refine dt rfl ?_;unfold az;go_simp;refine hK _ _ ?_;clear hK K)
      refine bN (fun K hK=>?_);refine eB rfl ?_;go_simp;refine⟨(HC _).2 (HK.setCell (by simp;omega) _),hK _ _ ?_⟩;clear hK K;refine nT ?_;go_wp2;go_roundw
      case rel=>
        refine⟨k+1,by omega,by go_num,?_,?_,?_,?_,?_⟩
        · exact(HA.same (HBl _)).other (by simp<;>omega) _
        · exact(HB.same (HBl _)).other (by simp<;>omega) _
        · rw[←Gy u hlt, ←HF.out];exact HO'.set k _
        · exact(HR.same (HBl _)).other (by simp<;>omega) _
        · exact Ext.setCell (HX.trans Lb) (by simp;omega) _
      case measure=>simp[intOf];omega
    · obtain rfl:k=4:=by omega
      have c0:wr.cell? ⟨w.heap.size+1+1+1,0,AF⟩=An (As AN (wd u 0).toNat):=hO.cell 0;have c1:wr.cell? ⟨w.heap.size+1+1+1,1,AF⟩=An (As AN (wd u 1).toNat):=hO.cell 1;have c2:wr.cell? ⟨w.heap.size+1+1+1,2,AF⟩=An (As AN (wd u 2).toNat):=hO.cell 2;have c3:wr.cell? ⟨w.heap.size+1+1+1,3,AF⟩=An (As AN (wd u 3).toNat):=hO.cell 3;have r0:wr.cell? ⟨w.heap.size+1+1,0,AF⟩=An (As AN 0):=hR.cell 0;have r1:wr.cell? ⟨w.heap.size+1+1,1,AF⟩=An (As AN 0):=hR.cell 1;have r2:wr.cell? ⟨w.heap.size+1+1,2,AF⟩=An (As AN 0):=hR.cell 2;have r3:wr.cell? ⟨w.heap.size+1+1,3,AF⟩=An (As AN 0):=hR.cell 3;have rf:=hR.frozen;clear hO hA hB hR;go_wp2;refine B' (v:=DH (encS u)) ?_ rfl ⟨rfl,?_⟩
      · simp[results,Tryz.results72,go_sem,r0,r1,r2,r3,encS]
      · exact(((hx.setCell (by simp;omega) _).setCell (by simp;omega) _).setCell (by simp;omega) _).setCell (by simp;omega) _
end
section
open Go Go.RowKit Go.Shelf
attribute [local go_sem] encS
theorem OQ (s t:BS) (w:AT):ah 76 #[DH (encS s),DH (encS t)] w fun e w'=>e=AI (DH (encS (s ||| t)))/\Ext w w':=by
 have eg:∀ args w,(callFunc 136 args).run Bm w=.ok (.enter 136 args) w:=If dd (by kernel_rfl) rfl;have H:=AM fun W=>qI s t (s ||| t) (· ||| ·) 136 W (fun i _=>(abH s t i).symm) eg TR
 clear eg;obtain⟨u,hu⟩:=ag (s ||| t);rw[<-hu]at H ⊢;clear hu;go_enter Tryz.func76,Tryz.ntmps76;go_wp2_with (go_at_call 72;refine(H _).mono ?_;rintro e w1 ⟨rfl,hx⟩;have HX:=AM hx;obtain⟨hc,hf⟩:=hx.cells;clear hx);refine B' (v:=DH (encS u)) ?_ rfl ⟨rfl,?_⟩
 ·simp[results,Tryz.results76,go_sem,hc]
 ·exact(((((((Ext.refl w).alloc _).alloc _).alloc _).trans HX).setCell (by simp<;>omega) _ |>.setCell (by simp<;>omega) _).setCell (by simp<;>omega) _).setCell (by simp<;>omega) _
theorem TS (s t:BS) (w:AT):ah 118 #[DH (encS s),DH (encS t)] w fun e w'=>e=AI (DH (encS (s&&& t)))/\Ext w w':=by
 have eg:∀ args w,(callFunc 176 args).run Bm w=.ok (.enter 176 args) w:=If de (by kernel_rfl) rfl;have H:=AM fun W=>qI s t (s&&& t) (· &&& ·) 176 W (fun i _=>(OC s t i).symm) eg OL
 clear eg;obtain⟨u,hu⟩:=ag (s&&& t);rw[<-hu]at H ⊢;clear hu;go_enter Tryz.func118,Tryz.ntmps118;go_wp2_with (go_at_call 72;refine(H _).mono ?_;rintro e w1 ⟨rfl,hx⟩;have HX:=AM hx;obtain⟨hc,hf⟩:=hx.cells;clear hx);refine B' (v:=DH (encS u)) ?_ rfl ⟨rfl,?_⟩
 ·simp[results,Tryz.results118,go_sem,hc]
 ·exact(((((((Ext.refl w).alloc _).alloc _).alloc _).trans HX).setCell (by simp<;>omega) _ |>.setCell (by simp<;>omega) _).setCell (by simp<;>omega) _).setCell (by simp<;>omega) _
theorem uV (s t:BS) (w:AT):ah 26 #[DH (encS s),DH (encS t)] w fun e w'=>e=AI (DH (encS (s&&& ~~~t)))/\Ext w w':=by
 have eg:∀ args w,(callFunc 73 args).run Bm w=.ok (.enter 73 args) w:=If fs (by kernel_rfl) rfl;have H:=AM fun W=>qI s t (s&&& ~~~t) (fun x y=>x&&& ~~~y) 73 W (fun i hi=>by rw[OC,OD t hi]) eg La
 clear eg;obtain⟨u,hu⟩:=ag (s&&& ~~~t);rw[<-hu]at H ⊢;clear hu;go_enter Tryz.func26,Tryz.ntmps26;go_wp2_with (go_at_call 72;refine(H _).mono ?_;rintro e w1 ⟨rfl,hx⟩;have HX:=AM hx;obtain⟨hc,hf⟩:=hx.cells;clear hx);refine B' (v:=DH (encS u)) ?_ rfl ⟨rfl,?_⟩
 ·simp[results,Tryz.results26,go_sem,hc]
 ·exact(((((((Ext.refl w).alloc _).alloc _).alloc _).trans HX).setCell (by simp<;>omega) _ |>.setCell (by simp<;>omega) _).setCell (by simp<;>omega) _).setCell (by simp<;>omega) _
theorem TU (s:BS) (w:AT):ah 175 #[DH (encS s)] w fun e w'=>e=AI (DH (encS (~~~s)))/\Ext w w':=by
 have eg:∀ args w,(callFunc 217 args).run Bm w=.ok (.enter 217 args) w:=If dq (by kernel_rfl) rfl;have H:=AM fun W=>qI s s (~~~s) (fun x _=> ~~~x) 217 W (fun i hi=>by rw[OD s hi]) eg OP
 clear eg;obtain⟨u,hu⟩:=ag (~~~s);rw[<-hu]at H ⊢;clear hu;go_enter Tryz.func175,Tryz.ntmps175;go_wp2_with (go_at_call 72;refine(H _).mono ?_;rintro e w1 ⟨rfl,hx⟩;have HX:=AM hx;obtain⟨hc,hf⟩:=hx.cells;clear hx);refine B' (v:=DH (encS u)) ?_ rfl ⟨rfl,?_⟩
 ·simp[results,Tryz.results175,go_sem,hc]
 ·exact((((((Ext.refl w).alloc _).alloc _).trans HX).setCell (by simp<;>omega) _ |>.setCell (by simp<;>omega) _).setCell (by simp<;>omega) _).setCell (by simp<;>omega) _
theorem fU:encS 0= #[As AN 0,As AN 0,As AN 0,As AN 0]:=rfl
theorem ie (s t:BS) (w:AT):(I' 10000 56 (DH (encS s)) (DH (encS t))).run Bm w=.ok (s==t) w:=by rw[<-OG];exact run_equalIn_array w 9998 (encS s) (encS t) (fun i=>(wd s i).toNat) (fun i=>(wd t i).toNat) Tryz.underlying56 US du an (fun i hi=>gu s hi) (fun i hi=>gu t hi)
theorem TW (w:AT):ah 117 #[] w fun e w'=>e=AI (DH (encS (~~~(0:BS))))/\Ext w w':=by
 have H:=AM fun W=>TU 0 W
 obtain⟨u,hu⟩:=ag (~~~(0:BS));rw[<-hu]at H ⊢;clear hu;rw[fU]at H;go_enter Tryz.func117,Tryz.ntmps117;go_wp2_with (go_at_call 175;refine(H _).mono ?_;rintro e w1 ⟨rfl,hx⟩;have HX:=AM hx;obtain⟨hc,hf⟩:=hx.cells;clear hx);refine B' (v:=DH (encS u)) ?_ rfl ⟨rfl,?_⟩
 ·simp[results,Tryz.results117,go_sem,hc]
 ·exact(((((Ext.refl w).alloc _).trans HX).setCell (by simp<;>omega) _ |>.setCell (by simp<;>omega) _).setCell (by simp<;>omega) _).setCell (by simp<;>omega) _
end
section
open Go Go.RowKit Go.Shelf
attribute [local go_sem] encS Oper.semAt_some gj dz
def bK (s:BS) (k:Nat):List Nat:=(GW k).filter fun c=>s.getLsbD c
theorem gv (s:BS) (k:Nat):bK s (k+1)=bK s k++if s.getLsbD k then [k]else []:=by unfold bK;rw[X',J_];by_cases h:s.getLsbD k=Lo<;>simp[h]
theorem uW (s:BS) {k n:Nat} (h:k<=n):bK s k<+:bK s n:=by
 induction n with
 | zero=>rw[show k=0 from by omega];exact Y'
 | succ n ih=>
  by_cases hk:k=n+1
  ·subst hk;exact Y'
  ·exact(ih (by omega)).trans (by rw[gv];exact TO _ _)
theorem Jr (s:BS) (B:Nat) (w:AT) (hB:ar w B (encS s) 56):Seq Lo Bm 125 #[AS (An ⟨B,0,AF⟩)] (fun c:Nat=> #[As K_ c]) (· =B) (bK s 256) w:=by
 intro l J Jx W hK hJ Xw hY h0;have HY:=AM hY;have HH:=AM (qH s);clear hY;refine IN (n:=0).1 ?_;refine ao U_ rfl trivial ?_ rfl;simp only[Tryz.ntmps125,FF,DE,GS,It,Iv,DP,DQ,FG,D0,D',GB]
 gi_wp2
 gi_loopw [4] (fun i wr=>∃ (k:Nat) (T:Nat->Prop),k<=256/\i=As Kx k/\ar wr B (encS s) 56/\J (bK s k) T wr/\(∀ k,T k->W.heap.size<=k/\k<wr.heap.size)/\ae (· =B) W wr)
  (fun i _=>256-(intOf i).toNat)
 case atStart=>
  exact⟨0,fun _=>False,by omega,rfl,hB.keeps hK hB.lt,h0,fun _ h=>h.elim,ae.refl _ _⟩
 case round=>
  obtain⟨k,T,hk,rfl,hb,hj,hT,hR⟩:=hrel;by_cases hlt:k<256
  ·have c0:wr.cell? ⟨B,0,AF⟩=An (As AN (wd s 0).toNat):=hb.cell 0
   have c1:wr.cell? ⟨B,1,AF⟩=An (As AN (wd s 1).toNat):=hb.cell 1;have c2:wr.cell? ⟨B,2,AF⟩=An (As AN (wd s 2).toNat):=hb.cell 2;have c3:wr.cell? ⟨B,3,AF⟩=An (As AN (wd s 3).toNat):=hb.cell 3;have HB:=AM hb;have HJ:=AM hj;have HT:=AM hT;have HR:=AM hR;clear hb hj hT hR;have bO:=gv s k;by_cases iC:s.getLsbD k=Lo
   ·rw[if_pos iC]at bO
    have HP:=AM bO;have NH:bK s k++ [k]<+:bK s 256:=by rw[<-bO];exact uW s (by omega)
    have OS:=AM NH;have h1:∀ W,ah 77 #[DH (encS s),As K_ k] W fun e w'=>e=AI (EV Lo)/\Ext W w':=fun W=>by have:=qH s k hlt W;rwa[iC]at this
    have H1:=AM h1;clear bO NH h1 iC HH
    gi_wp2_with (gi_at_call 77;refine(IN.2 (H1 _)).mono ?_;rintro e w1 ⟨rfl,hx⟩;obtain⟨fn,tm,Cv,bd,hy,De⟩:=HY.out (bK s k) k T w1 OS (fun j hj=>⟨(HT j hj).1,ay (HT j hj).2 hx.size⟩) (HR.tr (hx.mono fun j hj=>by rw[show j=B from hj];exact HB.lt)) (hJ.ext HJ HT hx);have HX:=AM hx;have NI:=AM De;clear hx De)
    refine NI.mono ?_;rintro e W2 (⟨rfl,kN,hk2⟩ | ⟨rfl,kN,hk2⟩)
    ·have uz:=AM kN
     have pL:=AM hk2;clear kN hk2 hy
     gi_wp2
     go_roundw
     case rel=>
      refine⟨k+1,T,by omega,by go_num,?_,?_,?_,?_⟩
      ·exact(HB.ext HX).keeps pL (.inl rfl)
      ·rw[HP.out];exact uz
      ·exact fun j hj=>⟨(HT j hj).1,ay (HT j hj).2 (DS HX.size pL.size)⟩
      ·exact(HR.tr (HX.mono fun j hj=>by rw[show j=B from hj];exact HB.lt)).tr (pL.mono fun j hj=>.inl hj)
     case measure=>simp[intOf];omega
    ·have uz:=AM kN
     have pL:=AM hk2;clear kN hk2 hy
     gi_wp2
     refine B' (O_ rfl _ _ _) rfl ?_;exact⟨⟨_,rfl⟩,T,fun j hj=>⟨(HT j hj).1,ay (HT j hj).2 (DS HX.size pL.size)⟩,.inr ⟨_,OS,uz⟩⟩
   ·have sX:s.getLsbD k=false:=by simpa using iC
    rw[if_neg iC,IF]at bO;have HP:=AM bO;have h1:∀ W,ah 77 #[DH (encS s),As K_ k] W fun e w'=>e=AI (EV C')/\Ext W w':=fun W=>by have:=qH s k hlt W;rwa[sX]at this
    have H1:=AM h1;clear bO h1 iC sX HH
    gi_wp2_with (gi_at_call 77;refine(IN.2 (H1 _)).mono ?_;rintro e w1 ⟨rfl,hx⟩;have HX:=AM hx;clear hx)
    go_roundw
    case rel=>
     refine⟨k+1,T,by omega,by go_num,?_,?_,?_,?_⟩
     ·exact HB.ext HX
     ·rw[HP.out];exact hJ.ext HJ HT HX
     ·exact fun j hj=>⟨(HT j hj).1,ay (HT j hj).2 HX.size⟩
     ·exact HR.tr (HX.mono fun j hj=>by rw[show j=B from hj];exact HB.lt)
    case measure=>simp[intOf];omega
  ·obtain rfl:k=256:=by omega
   gi_wp2
   refine bodyPost_end (O_ rfl _ _ _) rfl ?_;exact⟨⟨_,rfl⟩,T,hT,.inl hj⟩
theorem Df (s:BS) (w:AT):ah 71 #[DH (encS s)] w fun e w'=>e=AI (.func (.func 125) #[] #[AS (An ⟨w.heap.size,0,AF⟩)])/\w'=w.alloc (.cells (encS s) 56 (0,0)):=by
 go_enter Tryz.func71,Tryz.ntmps71
 go_wp2;go_ret;exact⟨rfl,rfl⟩
def aV (s:BS):Nat×Bool:=match bK s 256 with | []=>(0,C') | c::_=>(c,Lo)
theorem yK (s:BS) (w:AT):ah 23 #[DH (encS s)] w fun e w'=>e=AI (P' #[As K_ (aV s).1,EV (aV s).2])/\Ext w w':=by
 refine cd Tryz.func23 rfl ?_;simp only[Tryz.ntmps23,FF,DE,GS,It,Iv,DP,DQ,FG,D0,D',GB];go_wp2_with (go_at_call 71;refine(Df s _).mono ?_;rintro e w1 ⟨rfl,rfl⟩);refine aw ?_;intro W0 hW0;have h1:ar W0 (w.heap.size+1) #[As K_ 0] 5:=by rw[hW0];repeat (first | (refine(ar.new _ _ _).at ?_;simp;done) | refine ar.alloc ?_ _)
 have h2:ar W0 (w.heap.size+1+1) #[EV C'] 4:=by rw[hW0];repeat (first | (refine(ar.new _ _ _).at ?_;simp;done) | refine ar.alloc ?_ _)
 have h3:ar W0 (w.heap.size+1+1+1) (encS s) 56:=by rw[hW0];exact(ar.new _ _ _).at (by simp)
 have hx:Ext w W0:=by rw[hW0];exact((((Ext.refl w).alloc _).alloc _).alloc _).alloc _
 have hsz:W0.heap.size=w.heap.size+1+1+1+1:=by rw[hW0];simp
 have eg:∀ args w,(callFunc 125 args).run Bm w=.ok (.enter 125 args) w:=If U_ (by kernel_rfl) rfl;refine ic (w:=W0) (Jr s _ W0 h3) (by rfl) eg (by intro _;rfl) (by intro k hk;rw[show k=_ from hk,hsz];omega)
  (fun xs _ W=>xs=[]/\ar W (w.heap.size+1) #[As K_ 0] 5/\ar W (w.heap.size+1+1) #[EV C'] 4/\Ext w W)
  (fun c xs _ W=>c=.ret/\∃ x,xs=[x]/\ar W (w.heap.size+1) #[As K_ x] 5/\ar W (w.heap.size+1+1) #[EV Lo] 4/\Ext w W)
  (fun xs T T' W W' ⟨h0,h1,h2,h3⟩ hT _ _ _ hk=>⟨h0,h1.mJ hT hk (by omega),h2.mJ hT hk (by omega),h3.mJ hT hk (by omega)⟩)
  (fun c xs T T' W W' ⟨h0,x,h1,h2,h3,h4⟩ hT _ _ _ hk=>⟨h0,x,h1,h2.mJ hT hk (by omega),h3.mJ hT hk (by omega),h4.mJ hT hk (by omega)⟩)
  ⟨rfl,h1,h2,hx⟩
  (fun x=>⟨#[DH (encS s),AS (An ⟨w.heap.size,0,AF⟩),AS (An ⟨w.heap.size+1,0,AF⟩),AS (An ⟨w.heap.size+1+1,0,AF⟩),As K_ x,DH (encS s),.func (.func 125) #[] #[AS (An ⟨w.heap.size+1+1+1,0,AF⟩)],As K_ x,J'],[]⟩) ?assign ?body ?done ?stop
 case assign=>
  intro l x W K hK
  gi_wp2
  exact hK
 case body=>
  rintro l pre x T W bO hT hR xO hl ⟨rfl,h1,h2,hx⟩;have c1:W.cell? ⟨w.heap.size+1,0,AF⟩=An (As K_ 0):=h1.cell 0;have c2:W.cell? ⟨w.heap.size+1+1,0,AF⟩=An (EV C'):=h2.cell 0;have f1:=h1.frozen 0;have f2:=h2.frozen 0;have H1:=AM h1;have H2:=AM h2;have HX:=AM hx;have HS:=AM hsz;have HT:=AM hT;clear h1 h2 hx hR hl xO hsz hW0 hT
  gi_wp2
  refine⟨((ae.refl _ _).setCell (fun h=>?_) _).setCell (fun h=>?_) _,rfl,x,rfl,(H1.set 0 _).other (by simp) _,(H2.other (by simp) _).set 0 _,(HX.setCell (by simp<;>omega) _).setCell (by simp<;>omega) _⟩
  ·have h1:=(HT.out _ h).1;have h2:=HS.out;dsimp only at h1;omega
  ·have h1:=(HT.out _ h).1;have h2:=HS.out;dsimp only at h1;omega
 case done=>
  rintro D T W hD xR hT ⟨h0,h1,h2,hx⟩ mB;have c1:W.cell? ⟨w.heap.size+1,0,AF⟩=An (As K_ 0):=h1.cell 0;have c2:W.cell? ⟨w.heap.size+1+1,0,AF⟩=An (EV C'):=h2.cell 0;have f1:=h1.frozen 0;have f2:=h2.frozen 0;have H1:=AM h1;have H2:=AM h2;have HX:=AM hx;have HS:=AM hsz;have HD:=AM hD;have xF:=AM mB;have H0:=AM h0;clear h1 h2 hx xR hsz hW0 hT mB hD h0;dsimp only;go_wp2;have F6:∀ b:Nat,b<w.heap.size+1+1+1->D≠b:=fun b hb=>by have h1:=HD.out;have h2:=HS.out;omega
  have abI:=((ae.refl (· =D) W).setCell (p:=⟨w.heap.size+1,0,AF⟩) (fun h=>F6 (w.heap.size+1) (by omega) (h.symm)) (As K_ 0)).setCell (p:=⟨w.heap.size+1+1,0,AF⟩) (fun h=>F6 (w.heap.size+1+1) (by omega) (h.symm)) (EV C') |>.keep D rfl;rw[xF.out]at abI;have q1:=(((H1.set 0 (As K_ 0)).other (p:=⟨w.heap.size+1+1,0,AF⟩) (by simp) (EV C')).put (F6 _ (by omega)) (.deferred AF)).cell 0;have q2:=(((H2.other (p:=⟨w.heap.size+1,0,AF⟩) (by simp) (As K_ 0)).set 0 (EV C')).put (F6 _ (by omega)) (.deferred AF)).cell 0;refine di (v:=P' #[As K_ 0,EV C']) rfl abI ?_ ⟨?_,?_⟩
  ·simp[results,Zm,go_sem,q1,q2]
  ·simp[aV,H0.out]
  ·exact((HX.setCell (by simp<;>omega) _).setCell (by simp<;>omega) _).putObj (by have h1:=HD.out;have h2:=HS.out;omega) _
 case stop=>
  rintro D c pre T W hD xR hT bO ⟨rfl,x,h0,h1,h2,hx⟩ mB;have c1:W.cell? ⟨w.heap.size+1,0,AF⟩=An (As K_ x):=h1.cell 0;have c2:W.cell? ⟨w.heap.size+1+1,0,AF⟩=An (EV Lo):=h2.cell 0;have H1:=AM h1;have H2:=AM h2;have HX:=AM hx;have HS:=AM hsz;have HD:=AM hD;have xF:=AM mB;have H0:=AM h0;clear h1 h2 hx xR hsz hW0 hT mB hD h0;dsimp only;go_wp2;have F6:∀ b:Nat,b<w.heap.size+1+1+1->D≠b:=fun b hb=>by have h1:=HD.out;have h2:=HS.out;omega
  have q1:=(H1.put (F6 _ (by omega)) (.deferred AF)).cell 0;have q2:=(H2.put (F6 _ (by omega)) (.deferred AF)).cell 0;refine di (v:=P' #[As K_ x,EV Lo]) rfl xF ?_ ⟨?_,?_⟩
  ·simp[results,Zm,go_sem,q1,q2]
  ·obtain⟨r,hr⟩:=bO
   rw[H0.out]at hr;simp[aV, <-hr]
  ·exact HX.putObj (by have h1:=HD.out;have h2:=HS.out;omega) _
end
section
open Go Go.RowKit Go.Shelf
attribute [local go_sem] encS
def aW (s t:BS):Int:=if(aV ((s&&& ~~~t) ||| (t&&& ~~~s))).2 then(if s.getLsbD (aV ((s&&& ~~~t) ||| (t&&& ~~~s))).1 then-1 else 1)else 0
theorem GA (s:BS):(aV s).1<256:=by
 unfold aV;split
 ·decide
 ·rename_i c l h
  have:c∈bK s 256:=by rw[h];simp
  simp[bK]at this;exact this.1
theorem Dg (s t:BS) (w:AT):ah 30 #[DH (encS s),DH (encS t)] w fun e w'=>e=AI (As Kx (aW s t))/\Ext w w':=by
 have HL1:=AM fun W=>uV s t W
 have VO:=AM fun W=>uV t s W
 have HO:=AM fun W=>OQ (s&&& ~~~t) (t&&& ~~~s) W
 have HF:=AM fun W=>yK ((s&&& ~~~t) ||| (t&&& ~~~s)) W
 have hv:aW s t=if(aV ((s&&& ~~~t) ||| (t&&& ~~~s))).2 then(if s.getLsbD (aV ((s&&& ~~~t) ||| (t&&& ~~~s))).1 then-1 else 1)else 0:=rfl
 have hlt:=GA ((s&&& ~~~t) ||| (t&&& ~~~s));generalize aW s t=z at hv ⊢;generalize aV ((s&&& ~~~t) ||| (t&&& ~~~s))=fo at HF hv hlt;obtain⟨c,b⟩:=fo;dsimp only at hv hlt;generalize (s&&& ~~~t) ||| (t&&& ~~~s)=u3 at HO HF
 generalize (s&&& ~~~t)=u1 at HO HL1;generalize (t&&& ~~~s)=u2 at HO VO;have HV:=AM hv;have HH:=AM fun W=>qH s c hlt W
 clear hv;go_enter f_,Tryz.ntmps30;go_wp2;refine eK (fun b=>b=w.heap.size\/b=w.heap.size+1) (by kernel_rfl) (fun i=>i==2 || i==5 || i==6 || i==7) (by kernel_rfl) ?_;intro C hC hne W0 yJ hblk hsz hx0;have hA:ar ((w.alloc (.cells (encS s) 56 (0,0))).alloc (.cells (encS t) 56 (0,0))) w.heap.size (encS s) 56:=(ar.new w _ _).alloc _;have hB:ar ((w.alloc (.cells (encS s) 56 (0,0))).alloc (.cells (encS t) 56 (0,0))) (w.heap.size+1) (encS t) 56:=(ar.new _ _ _).at (by simp);obtain⟨a0,a1,a2,a3⟩:=Ah hC (.inl rfl) hA;obtain⟨b0,b1,b2,b3⟩:=Ah hC (.inr rfl) hB;have HC:=AM hC;have NJ:=AM yJ;have Lb:=AM ((((Ext.refl w).alloc _).alloc _).trans hx0);have HA:=AM (hA.same (hblk _));have HS:Hid (∀ k,(k=w.heap.size\/k=w.heap.size+1)->k<((w.alloc (.cells (encS s) 56 (0,0))).alloc (.cells (encS t) 56 (0,0))).heap.size):=fun k hk=>by simp;omega
 clear hC yJ hblk hsz hA hB hx0
 repeat (refine bN (fun K hK=>?_);refine dt rfl ?_;unfold az;go_simp;refine hK _ _ ?_;clear hK K)
 refine bN (fun K hK=>?_);refine eB rfl ?_;go_simp;refine eJ ((HL1 _).mono ?_);rintro e w1 ⟨rfl,hx⟩;have mj:=ae.step NJ HS hx;refine⟨_,rfl,(HC _).2 mj,hK _ _ ?_⟩;have Lc:=AM mj;have jd:=AM hx;clear hK K mj hx
 repeat (refine bN (fun K hK=>?_);refine dt rfl ?_;unfold az;go_simp;refine hK _ _ ?_;clear hK K)
 refine bN (fun K hK=>?_);refine eB rfl ?_;go_simp;refine eJ ((VO _).mono ?_);rintro e w2 ⟨rfl,hx⟩;have hk2:=ae.step Lc HS hx;refine⟨_,rfl,(HC _).2 hk2,hK _ _ ?_⟩;have pL:=AM hk2;have gh:=AM hx;clear hK K hk2 hx;refine bN (fun K hK=>?_);refine eB rfl ?_;go_simp;refine eJ ((HO _).mono ?_);rintro e w3 ⟨rfl,hx⟩;have hk3:=ae.step pL HS hx;refine⟨_,rfl,(HC _).2 hk3,hK _ _ ?_⟩;have VP:=AM hk3;have nX:=AM hx;clear hK K hk3 hx;refine bN (fun K hK=>?_);refine eB rfl ?_;go_simp;refine eJ ((HF _).mono ?_);rintro e w4 ⟨rfl,hx⟩;have hk4:=ae.step VP HS hx;refine⟨_,rfl,(HC _).2 hk4,hK _ _ ?_⟩;have HK4:=AM hk4;have Dh:=AM hx;clear hK K hk4 hx
 repeat (refine bN (fun K hK=>?_);refine dt rfl ?_;unfold az;go_simp;refine hK _ _ ?_;clear hK K)
 refine nT ?_;have Xx:=AM ((((Lb.trans jd).trans gh).trans nX).trans Dh);have HA4:=AM (HA.ext ((((jd.trans gh).trans nX).trans Dh)));clear a0 a1 a2 a3 b0 b1 b2 b3 NJ Lc pL VP HK4 HC HS Lb jd gh nX Dh HL1 VO HO HF HA;cases b with
 | false=>
  go_wp2;go_ret;exact⟨congrArg (fun z=>AI (As Kx z)) HV.symm,Xx⟩
 | true=>
  obtain⟨a0,a1,a2,a3⟩:=HA4.K1;by_cases hb:s.getLsbD c=Lo
  ·have H1:Hid (∀ W,ah 77 #[DH (encS s),As K_ c] W fun e w'=>e=AI (EV Lo)/\Ext W w'):=fun W=>by have:=HH.out W;rwa[hb]at this
   have HV':=AM (show z= -1 from by have:=HV.out;simpa[hb]using this);clear hb HV;go_wp2_with (go_at_call 77;refine(H1 _).mono ?_;rintro e w5 ⟨rfl,hx⟩;have F7:=AM hx;clear hx);go_ret;exact⟨congrArg (fun z=>AI (As Kx z)) HV'.symm,Xx.trans F7⟩
  ·have hb':s.getLsbD c=false:=by simpa using hb
   have H1:Hid (∀ W,ah 77 #[DH (encS s),As K_ c] W fun e w'=>e=AI (EV C')/\Ext W w'):=fun W=>by have:=HH.out W;rwa[hb']at this
   have HV':=AM (show z=1 from by have:=HV.out;simpa[hb']using this);clear hb hb' HV;go_wp2_with (go_at_call 77;refine(H1 _).mono ?_;rintro e w5 ⟨rfl,hx⟩;have F7:=AM hx;clear hx);go_ret;exact⟨congrArg (fun z=>AI (As Kx z)) HV'.symm,Xx.trans F7⟩
end
section
open Go Go.RowKit Go.Shelf
attribute [local go_sem] encS
end
section
open Go Go.RowKit Go.Shelf Go.Maps
attribute [local go_sem] encS Oper.semAt_some gj dz
theorem Tryz.GC:(Bm.info? 5).map (fun i=>(i.zero,i.size,i.bytes))=An (An (As K_ 0),1,1):=by kernel_rfl
def en (c:Nat):Value:=As K_ c
theorem xS {d:Bool} {gf:Nat} {lb:Array Value} {R:Nat->Prop} (xs:List Nat) (w:AT) (hseq:Seq d Bm gf lb (fun c:Nat=> #[As K_ c]) R xs w) (eg:∀ args w,(callFunc gf args).run Bm w=.ok (.enter gf args) w) (hR:∀ k,R k->k<w.heap.size) (hn:xs.length<=1000000): ah 260 #[Bs AF 0 0,.func (.func gf) #[] lb] w fun e w'=>∃ v,e=AI v/\w'.ownsRow w.heap.size 5 1 v xs.length (xs.map en)/\aa w w':=by
 obtain⟨i0,hi,hz0,hz1,hz2⟩:=ZD Tryz.GC;refine cd Tryz.func260 rfl ?_;simp only[Tryz.ntmps260,FF,DE,GS,It,Iv,DP,DQ,FG,D0,D',GB];go_wp2;refine aw ?_;intro W0 hW0;have h1:ar W0 w.heap.size #[Bs AF 0 0] 44:=by rw[hW0];exact ar.new _ _ _
 have hx:Ext w W0:=by rw[hW0];exact(Ext.refl w).alloc _
 have hsz:W0.heap.size=w.heap.size+1:=by rw[hW0];simp
 refine ic (w:=W0) (hseq.at hx.keeps) (by rfl) eg (by intro _;rfl) (by intro k hk;have:=hR k hk;omega)
  (fun xs T W=>∃ v,ar W w.heap.size #[v] 44/\W.ownsRow (w.heap.size+1) 5 1 v xs.length (xs.map en)/\(∀ k,v.ownBlock=An k->¬T k)/\aa w W)
  (fun _ _ _ _=>False)
  ?_
  (fun c xs T T' W W' h=>h.elim)
  ⟨_,h1,U' _ _ _ _,fun _ _ h=>h,hx.below⟩
  (fun x=>⟨#[Bs AF 0 0,.func (.func gf) #[] lb,AS (An ⟨w.heap.size,0,AF⟩),J',Bs AF 0 0,As K_ x,.func (.func gf) #[] lb,As K_ x,J',J',J',J',J'],[]⟩) ?assign ?body ?done ?stop
 ·intro xs T T' W W' ⟨v,g1,g2,g3,g4⟩ hT OT hs hn hk
  refine⟨v,g1.mJ hT hk (by omega),ak g2 hk.1 (fun k e=>⟨(g2.lt k e).2,g3 k e⟩),fun k e ht=>?_,ib g4 hT hk (aF _) (by omega)⟩;rcases hn k ht with h | h
  ·exact g3 k e h
  ·have:=(g2.lt k e).2;omega
 case assign=>
  intro l x W K hK
  gi_wp2
  exact hK
 case body=>
  rintro l pre x T W bO hT _ xO hl ⟨v,g1,g2,g3,g4⟩;have c1:W.cell? ⟨w.heap.size,0,AF⟩=An v:=g1.cell 0;have f1:=g1.frozen 0;have hlen:pre.length<xs.length:=by obtain⟨r,hr⟩:=bO;rw[<-hr];simp
  have G1:=AM g1;have G3:=AM g3;have G4:=AM g4;have lF:=AM hsz;have HT:=AM hT;clear g1 g3 g4 hsz hW0 hT hl xO
  gi_wp2_with (gi_at_builtin;refine wpListIn_append_own_at _ rfl _ _ 44 rfl (w.heap.size+1) 5 i0 (As K_ 0) 1 1 Tryz.underlying44 hi hz0 hz1 hz2 rfl (by decide) _ _ _ rfl (g2.alloc _) ⟨W.heap.size,0,AF⟩ 1 1 [en x] rfl rfl (cell_one_new _ _ _) (by simp[Value.oneCell',en]) (by unfold maxLen;omega) (by omega) (by have h1:=G4.size;have h2:=lF.out;have h3:=G1.lt;simp;omega) ?_;intro v' w1 hown' hgrow hh hat;obtain⟨g',cap',rfl⟩:=ownsRow_succ hown';have hb1:=(G1.alloc (.cells #[As K_ x] 5 (0,0))).grown hgrow (fun e=>by have:=(g2.lt _ e.symm).1;omega);have c2:=hb1.cell 0;have f2:=hb1.frozen 0;have HB:=AM hb1;have HO:=AM hown';have HG:=AM hgrow;have H2:=AM g2;have Ld:=AM hat;clear hown' hgrow hb1 g2 hh hat)
  have hgT:¬T g':=fun ht=>by
   rcases Ld.out with h | h
   ·exact G3 g' h.symm ht
   ·have h1:=(HT.out g' ht).2;simp[ZS]at h;omega
  have Xy:∀ k,(R k\/T k)->k<W.heap.size/\An k≠v.ownBlock:=fun k hk=>by
   refine⟨?_,fun e=>?_⟩
   ·rcases hk with hk | hk
    ·have h1:=hR k hk;have h2:=G4.size;omega
    ·exact(HT k hk).2
   ·rcases hk with hk | hk
    ·have h1:=hR k hk;have h2:=(H2.lt k e.symm).1;omega
    ·exact G3 k e.symm hk
  have mj:ae (fun k=>R k\/T k) W w1:=(((ae.refl _ W).alloc (fun k hk=>(Xy k hk).1) _)).tr (ae.aZ HG fun k hk=>⟨by have:=(Xy k hk).1;simp;omega,(Xy k hk).2⟩);have yL:∀ k,(R k\/T k)->k≠w.heap.size:=fun k hk=>by
   rcases hk with hk | hk
   ·have h1:=hR k hk;omega
   ·have h1:=(HT.out k hk).1;have h2:=lF.out;omega
  refine⟨mj.setCell (fun h=>yL _ h rfl) _,_,HB.set 0 _,?_,fun k e=>?_,?_⟩
  ·rw[aJ,Ze]
   exact ak HO ((ae.refl (fun k=>k≠w.heap.size) _).setCell (by simp) _) (fun k e=>by have:=(HO.lt k e).1;omega)
  ·simp[ZS]at e;subst e;exact hgT
  ·exact((G4.alloc (by exact G4.size) _).grown HG (by have:=G4.size;simp;omega) (fun k e=>by have:=(H2.lt k e).1;omega)).setCell (aF _) _
 case done=>
  rintro D T W hD xR hT ⟨v,g1,g2,g3,g4⟩ mB;have c1:W.cell? ⟨w.heap.size,0,AF⟩=An v:=g1.cell 0;have G2:=AM g2;have G4:=AM g4;have HD:=AM hD;have lF:=AM hsz;have xF:=AM mB;clear g1 g2 g3 g4 hsz hW0 hT xR mB hD;dsimp only;go_wp2;refine di rfl xF (results_tmp rfl _ _ _) ⟨v,rfl,Z_ (aC G2 (by omega)) _ xF rfl,((ae.aj G4 (fun _ h=>h)).putObj (by have:=HD.out;have:=lF.out;omega) _).below⟩
 case stop=>rintro D c pre T W _ _ _ _ h _;exact h.elim
theorem Di {d:Bool} {gf:Nat} {lb:Array Value} {R:Nat->Prop} (xs:List Nat) (w:AT) (hseq:Seq d Bm gf lb (fun c:Nat=> #[As K_ c]) R xs w) (eg:∀ args w,(callFunc gf args).run Bm w=.ok (.enter gf args) w) (hR:∀ k,R k->k<w.heap.size) (hn:xs.length<=1000000): ah 247 #[.func (.func gf) #[] lb] w fun e w'=>∃ v,e=AI v/\w'.ownsRow w.heap.size 5 1 v xs.length (xs.map en)/\aa w w':=by have H:=AM (xS xs w hseq eg hR hn);clear hseq eg;go_enter Tryz.func247,Tryz.ntmps247;go_wp2_with (go_at_call 260;refine H.mono ?_;rintro e w1 ⟨v,rfl,h1,h2⟩;have H1:=AM h1;have H2:=AM h2;clear h1 h2);go_ret;exact⟨v,rfl,H1,H2⟩
theorem Le (s:BS) (w:AT): ah 236 #[DH (encS s)] w fun e w'=>∃ v,e=AI v/\w'.ownsRow w.heap.size 5 1 v (bK s 256).length ((bK s 256).map en)/\aa w w':=by
 have eg:∀ args w,(callFunc 125 args).run Bm w=.ok (.enter 125 args) w:=If U_ (by kernel_rfl) rfl;have hlen:(bK s 256).length<=1000000:=by unfold bK;exact DS (E_ _ _) (by simp)
 have H:Hid (∀ (W:AT) (B:Nat),ar W B (encS s) 56->ah 247 #[.func (.func 125) #[] #[AS (An ⟨B,0,AF⟩)]] W fun e w'=>∃ v,e=AI v/\w'.ownsRow W.heap.size 5 1 v (bK s 256).length ((bK s 256).map en)/\aa W w'):=
  fun W B hB=>Di _ W (Jr s B W hB) eg (fun k hk=>by rw[show k=B from hk];exact hB.lt) hlen
 clear eg hlen;generalize bK s 256=xs at H ⊢;go_enter Tryz.func236,Tryz.ntmps236;go_wp2_with (first | (go_at_call 71;refine(Df s _).mono ?_;rintro e w1 ⟨rfl,rfl⟩) | (go_at_call 247;refine(H _ _ ((ar.new _ _ _).at (by simp))).mono ?_;rintro e w1 ⟨v,rfl,h1,h2⟩;have H1:=AM h1;have H2:=AM h2;clear h1 h2));go_ret;refine⟨v,rfl,aC H1 (by simp;omega),?_⟩;exact(((Ext.refl w).alloc _).alloc _).below.trans (H2.mono (by simp;omega))
end
section
open Go Go.RowKit Go.Shelf
def dn (s:BS):Nat:=(GW 256).countP fun c=>s.getLsbD c
theorem Aj (p q:Nat->Bool) (l:List Nat):l.countP p=l.countP (fun c=>p c&&q c)+l.countP (fun c=>p c&& !q c):=by
 induction l with
 | nil=>rfl
 | cons a l ih=>
  simp only[List.countP_cons,ih];cases p a<;>cases q a<;>simp<;>omega
theorem xT (p s:BS):dn p=dn (p&&& s)+dn (p&&& ~~~s):=by
 unfold dn;rw[Aj _ (fun c=>s.getLsbD c)];congr 1
 ·apply VH;intro c _;simp[T_]
 ·apply VH;intro c hc
  have:c<256:=by simpa using hc
  simp[this]
theorem Ak:dn 0#256=0:=by unfold dn;rw[R_];intro c _;simp
theorem Dj {s:BS} (h:s≠0):1<=dn s:=by
 rcases Nat.eq_zero_or_pos (dn s)with h0 | h0
 ·exfalso
  apply h;apply By;intro c hc;unfold dn at h0;rw[R_]at h0;have:=h0 c (by simpa using hc);simpa using this
 ·exact h0
def cut (s p:BS):List BS:=[p&&& s,p&&& ~~~s].filter fun x=> !(x==0)
def aX (s:BS) (parts:List BS):List BS:=parts.flatMap (cut s)
def bc (l:List BS):List BS:=l.foldl (fun p s=>aX s p) [~~~0]
theorem TX (s p:BS):((cut s p).map dn).sum=dn p:=by unfold cut;rw[xT p s];generalize p&&& s=a;generalize p&&& ~~~s=b;by_cases h1:a=0#256<;>by_cases h2:b=0#256<;>simp[h1,h2,Ak]
theorem xU (s:BS) (l:List BS):((aX s l).map dn).sum=(l.map dn).sum:=by
 induction l with
 | nil=>rfl
 | cons p l ih=>
  unfold aX at*;rw[G',Ze,List.sum_append,ih,TX];rfl
theorem TY (s p:BS):(cut s p).length<=2:=by unfold cut;exact E_ _ _
theorem xV (s:BS) (l:List BS):(aX s l).length<=2*l.length:=by
 induction l with
 | nil=>exact aF _
 | cons p l ih=>
  have:=TY s p;unfold aX at*;rw[G',aJ,DE];omega
theorem Xz (s p:BS):∀ x∈cut s p,x≠0:=by intro x hx;unfold cut at hx;simp only[List.mem_filter,Bool.not_eq_true',beq_eq_false_iff_ne]at hx;exact hx.2
theorem Dk:dn (~~~0)=256:=by
 unfold dn;have:(GW 256).countP (fun c=>(~~~(0:BS)).getLsbD c)=(GW 256).length:=by
  rw[List.countP_eq_length];intro c hc;have:c<256:=by simpa using hc
  rw[I_];have h0:Zk (0:BS) c=false:=BitVec.getLsbD_zero;simp only[this,h0,decide_true,Bool.not_false,C_]
 rw[this,List.length_range]
theorem xW (l:List BS) (h0:∀ x∈l,x≠0):l.length<=(l.map dn).sum:=by
 induction l with
 | nil=>simp
 | cons p l ih=>
  have h1:=Dj (h0 p (by simp));have h2:=ih (fun x hx=>h0 x (by simp[hx]));simp only[DE,aE,a_];omega
theorem sY (l:List BS) (p:List BS) (hp:∀ x∈p,x≠0):(∀ x∈l.foldl (fun p s=>aX s p) p,x≠0)/\((l.foldl (fun p s=>aX s p) p).map dn).sum=(p.map dn).sum:=by
 induction l generalizing p with
 | nil=>exact⟨hp,rfl⟩
 | cons s l ih=>
  have h:=ih (aX s p) (by
   intro x hx;unfold aX at hx;rw[N_]at hx;obtain⟨q,_,hq⟩:=hx
   exact Xz s q x hq)
  rw[Y_];exact⟨h.1,h.2.trans (xU s p)⟩
theorem sZ (l:List BS):∀ x∈bc l,x≠0:=(sY l _ (by simp)).1
theorem qJ (l:List BS):((bc l).map dn).sum=256:=by unfold bc;rw[(sY l _ (by simp)).2];simp only[aE,d_,a_,List.sum_nil,Dk,Nat.add_zero]
theorem eo (l:List BS):(bc l).length<=256:=by have:=xW _ (sZ l);rwa[qJ]at this
theorem iy (l:List BS) (s:BS):bc (l++ [s])=aX s (bc l):=by unfold bc;rw[Ly];rfl
/-! The order of sets. -/
theorem qK (s:BS):((aV s).2=C'/\s=0)\/((aV s).2=Lo/\(aV s).1<256/\s.getLsbD (aV s).1=Lo/\∀ d,d<(aV s).1->s.getLsbD d=C'):=by
 have key:∀ n,n<=256->(bK s n=[]/\∀ d,d<n->s.getLsbD d=C')\/(∃ c r,bK s n=c::r/\c<n/\s.getLsbD c=Lo/\∀ d,d<c->s.getLsbD d=C'):=by
  intro n;induction n with
  | zero=>intro _;exact .inl ⟨rfl,fun d hd=>by omega⟩
  | succ n ih=>
   intro hn;rcases ih (by omega)with⟨h1,h2⟩ | ⟨c,r,h1,h2,h3,h4⟩
   ·by_cases hb:s.getLsbD n=Lo
    ·refine .inr ⟨n,[],?_,by omega,hb,h2⟩
     rw[gv,h1,if_pos hb];rfl
    ·refine .inl ⟨?_,fun d hd=>?_⟩
     ·rw[gv,h1,if_neg hb];rfl
     ·by_cases hdn:d=n
      ·subst hdn;simpa using hb
      ·exact h2 d (by omega)
   ·exact .inr ⟨c,r++(if s.getLsbD n then [n]else []),by rw[gv,h1];rfl,by omega,h3,h4⟩
 unfold aV;rcases key 256 (aF _)with⟨h1,h2⟩ | ⟨c,r,h1,h2,h3,h4⟩
 ·left
  rw[h1];exact⟨rfl,BS.ext fun d hd=>by rw[h2 d hd];simp⟩
 ·right
  rw[h1];exact⟨rfl,h2,h3,h4⟩
def Td (s t:BS):Prop:=∃ c,c<256/\(∀ d,d<c->s.getLsbD d=t.getLsbD d)/\s.getLsbD c=Lo/\t.getLsbD c=C'
theorem uX (s t:BS) {c:Nat} (hc:c<256):((s&&& ~~~t) ||| (t&&& ~~~s)).getLsbD c=(s.getLsbD c != t.getLsbD c):=by simp only[Lw,T_,I_,hc,decide_true,C_];cases s.getLsbD c<;>cases t.getLsbD c<;>rfl
theorem mQ (s t:BS):(aW s t=0/\s=t)\/(aW s t= -1/\Td s t)\/(aW s t=1/\Td t s):=by
 unfold aW;rcases qK ((s&&& ~~~t) ||| (t&&& ~~~s))with⟨h1,h2⟩ | ⟨h1,h2,h3,h4⟩
 ·left
  rw[h1];refine⟨rfl,BS.ext fun c hc=>?_⟩;have:=uX s t hc;rw[h2]at this;simp at this;exact this
 ·right
  rw[h1];generalize (aV ((s&&& ~~~t) ||| (t&&& ~~~s))).1=c at*;rw[uX s t h2]at h3;have h5:∀ d,d<c->s.getLsbD d=t.getLsbD d:=fun d hd=>by
   have:=h4 d hd;rw[uX s t (by omega)]at this;simpa using this
  cases hs:s.getLsbD c with
  | true=>
   have ht:t.getLsbD c=false:=by rw[hs]at h3;simpa using h3
   exact .inl ⟨by simp,c,h2,h5,hs,ht⟩
  | false=>
   have ht:t.getLsbD c=true:=by rw[hs]at h3;simpa using h3
   exact .inr ⟨by simp,c,h2,fun d hd=>(h5 d hd).symm,ht,hs⟩
theorem jE (s:BS):¬Td s s:=by rintro⟨c,_,_,h1,h2⟩;rw[h1]at h2;cases h2
theorem ig {s t u:BS} (h:Td s t) (k:Td t u):Td s u:=by
 obtain⟨c,hc,h1,h2,h3⟩:=h;obtain⟨d,hd,k1,k2,k3⟩:=k;rcases Nat.lt_trichotomy c d with TG | TG | TG
 ·exact⟨c,hc,fun e he=>(h1 e he).trans (k1 e (by omega)),h2,by rw[<-k1 c TG];exact h3⟩
 ·subst TG;rw[h3]at k2;cases k2
 ·exact⟨d,hd,fun e he=>(h1 e (by omega)).trans (k1 e he),by rw[h1 d TG];exact k2,k3⟩
theorem eN (s t:BS):ltOf aW s t=Lo↔Td s t:=by
 unfold ltOf;rcases mQ s t with⟨h1,h2⟩ | ⟨h1,h2⟩ | ⟨h1,h2⟩
 ·rw[h1];subst h2;simp[jE]
 ·rw[h1];simp[h2]
 ·rw[h1];simp;exact fun k=>jE _ (ig h2 k)
theorem nY (s t:BS):s=t\/Td s t\/Td t s:=by
 rcases mQ s t with⟨_,h2⟩ | ⟨_,h2⟩ | ⟨_,h2⟩
 ·exact .inl h2
 ·exact .inr (.inl h2)
 ·exact .inr (.inr h2)
theorem aga:Sort.SWO (ltOf aW) where
 irrefl x:=by
  rw[<-N',eN];exact jE x
 trans x y z h k:=by rw[eN]at*;exact ig h k
 ntrans x y z h k:=by
  rw[<-N',eN]at*;intro hz;rcases nY x y with e | e | e
  ·subst e;exact k hz
  ·exact h e
  ·exact k (ig e hz)
theorem abJ (x y:BS) (h:ltOf aW x y=C') (k:ltOf aW y x=C'):x=y:=by
 rw[<-N',eN]at*;rcases nY x y with e | e | e
 ·exact e
 ·exact absurd e h
 ·exact absurd e k
def partsOf (l:List BS):List BS:=(bc l).mergeSort fun x y=> !ltOf aW y x
end
section
open Go Go.RowKit Go.Shelf Go.Sort
def aL (l:List BS):List Value:=l.flatMap fun s=>(encS s).toList
theorem cG (l:List BS):(aL l).length=l.length*4:=by
 induction l with
 | nil=>rfl
 | cons s l ih=>simp only[aL,G',aJ]at*;rw[ih];simp[jy];omega
theorem gy (l m:List BS):aL (l++m)=aL l++aL m:=by simp[aL]
theorem Lf (s:BS):aL [s]=(encS s).toList:=by simp[aL]
theorem ij (l:List BS) {i:Nat} {s:BS} (h:l[i]? =An s) {j:Nat} (hj:j<4):(aL l)[i*4+j]? =(encS s)[j]? :=by
 induction l generalizing i with
 | nil=>simp at h
 | cons t l ih=>
  have hs:(encS t).toList.length=4:=rfl;simp only[aL,G'];cases i with
  | zero=>
   simp at h;subst h;rw[Nat.zero_mul,V_,bH (by omega)];simp
  | succ i=>
   rw[cF (by omega),hs,show(i+1)*4+j-4=i*4+j by omega];exact ih (by simpa using h)
def qL (s:BS):List Value:=(encS s).toList
theorem Dl (l:List BS):flatK qL 4 l.toArray=(aL l).toArray:=by
 apply To;intro t;by_cases ht:t<l.length*4
 ·have hi:t/4<l.length:=by omega
  have h1:=ij l (aB hi) (show t%4<4 by omega);rw[show t/4*4+t%4=t by omega]at h1;have h2:(flatK qL 4 l.toArray)[t]? =An ((qL (l[t/4]))[t%4]!):=by unfold flatK;simp[ht,hi]
  rw[h2,Ft,h1];have h3:t%4<(qL (l[t/4])).length:=by simp[qL,jy];omega
  rw[getElem!_pos (qL (l[t/4])) (t%4) h3];simp[qL]
 ·rw[Array.getElem?_eq_none (by simp;omega),Ft,aT (by rw[cG];omega)]
theorem GD {w:AT} {g q:Nat} {os:Array Obj} {cur:Array Value} {e:S'} {fr:Nat×Nat} (l:List BS) (hb:w.heap[g]? =An (.cells cur e fr)): (sortWorldK qL 4 w g 0 q l.toArray os).heap[g]? =An (.cells (putCells id 0 (aL l).toArray cur) e fr):=by have hg:g<w.heap.size:=(A'.1 hb).1;unfold sortWorldK;rw[heap_grow_old _ _ (by simpa[putRowK,putRow,mapBlock,O']using hg)];simp[putRowK,putRow,mapBlock,O',Rr,hb,onCells,Dl]
theorem xX {w:AT} {g q:Nat} {os:Array Obj} (d:Array BS):w.grownBy (sortWorldK qL 4 w g 0 q d os) (An g):=by
 unfold sortWorldK;refine⟨rfl,rfl,rfl,by simp[putRowK,putRow,mapBlock,O'],fun k hk hne=>?_⟩;rw[heap_grow_old _ _ (by simpa[putRowK,putRow,mapBlock,O']using hk)];have:g≠k:=fun e=>hne (by rw[e])
 simp[putRowK,putRow,mapBlock,O',Rr,this]
theorem Lg (cur:Array Value) (ts:List Value) (h:ts.length<=cur.size):(putCells id 0 ts.toArray cur).toList.take ts.length=ts:=by
 apply List.ext_getElem?;intro j;by_cases hj:j<ts.length
 ·rw[List.getElem?_take_of_lt hj,Array.getElem?_toList]
  simp[putCells,hj,show j<cur.size by omega]
 ·rw[List.getElem?_take_eq_none (by omega),aT (by omega)]
theorem xY {w:AT} {base g cap n q:Nat} {e:S'} {os:Array Obj} {cur:Array Value} {ts:List BS} (hl:ts.length=n) (hbase:base<=g) (hb:w.heap[g]? =An (.cells cur e (0,0))) (h1:n<=cap) (h2:cap<=maxLen) (h3:cur.size=cap*4): (sortWorldK qL 4 w g 0 q ts.toArray os).ownsRow base e 4 (Bs (An ⟨g,0,AF⟩) n cap) n (aL ts):=
 ⟨by rw[cG,hl],.inr ⟨g,cap,_,rfl,hbase,GD _ hb,h1,h2,by simp[putCells,h3],by
  rw[<-hl, <-cG];exact Lg cur (aL ts) (by rw[cG,hl,h3];exact Nat.mul_le_mul_right 4 h1)⟩⟩
theorem GF {w:AT} {g:Nat} {e:S'} {cur:Array Value} {ts:List BS} (hb:w.heap[g]? =An (.cells cur e (0,0))) (ht:cur.toList.take (ts.length*4)=aL ts):HoldsK qL 4 w g 0 ts.toArray:=by
 unfold HoldsK;rw[Dl];intro j hj;have hj':j<(aL ts).length:=by simpa using hj
 refine⟨?_,by simp[World.frozen?,hb]⟩;have hc:w.cell? ⟨g,0+j,AF⟩=cur[j]? :=by simp[L7,hb]
 rw[hc];have h1:(aL ts)[j]? =cur[j]? :=by rw[<-ht,D_,if_pos (by rw[<-cG];exact hj')];simp
 rw[<-h1,aB hj',getElem!_pos (aL ts).toArray j (by simpa using hj')];simp
end
end Go.Proofs.YtjgccapbphadjaaGreatDoor
namespace Go.Proofs
open Go.Shelf
def Tryz.Al:Go.Shelf.Ren:=⟨fun | 6=>119 | 15=>75 | 14=>177 | 28=>134 | 29=>135 | 20=>218 | 21=>219 | 22=>220 | 23=>221 | 24=>222 | 25=>223 | 26=>224 | 27=>225 | 46=>243 | 47=>179 | 48=>180 | 49=>244 | 50=>245 | 57=>259 | n=>n,fun | 22=>26 | 24=>56 | 25=>62 | 3=>3 | 39=>122 | 0=>0 | 53=>221 | 55=>54 | 4=>4 | 46=>214 | 45=>213 | 50=>218 | 5=>5 | 9=>9 | 66=>272 | 70=>276 | 76=>302 | 77=>303 | n=>n,fun | n=>n⟩
theorem Tryz.OU:Go.Proofs.SlLaysF0.n6 Bm Tryz.Al:= {
 mixed:=by kernel_rfl
 f6:=⟨Tryz.f119.name,by decide,Tryz.func119.trans (congrArg An (by kernel_rfl))⟩
 f14:=⟨Tryz.f177.name,by decide,Tryz.func177.trans (congrArg An (by kernel_rfl))⟩
 f15:=Tryz.func75.trans (congrArg An (by kernel_rfl))
 f20:=⟨Tryz.f218.name,by decide,Tryz.func218.trans (congrArg An (by kernel_rfl))⟩
 f21:=⟨Tryz.f219.name,by decide,Tryz.func219.trans (congrArg An (by kernel_rfl))⟩
 f22:=⟨Tryz.f220.name,by decide,Tryz.func220.trans (congrArg An (by kernel_rfl))⟩
 f23:=⟨Tryz.f221.name,by decide,Tryz.func221.trans (congrArg An (by kernel_rfl))⟩
 f24:=⟨Tryz.f222.name,by decide,Tryz.func222.trans (congrArg An (by kernel_rfl))⟩
 f25:=⟨Tryz.f223.name,by decide,Tryz.func223.trans (congrArg An (by kernel_rfl))⟩
 f26:=⟨Tryz.f224.name,by decide,Tryz.func224.trans (congrArg An (by kernel_rfl))⟩
 f27:=⟨Tryz.f225.name,by decide,Tryz.func225.trans (congrArg An (by kernel_rfl))⟩
 f28:=Tryz.func134.trans (congrArg An (by kernel_rfl))
 f29:=Tryz.func135.trans (congrArg An (by kernel_rfl))
 f46:=⟨Tryz.f243.name,by decide,Tryz.func243.trans (congrArg An (by kernel_rfl))⟩
 f47:=Tryz.func179.trans (congrArg An (by kernel_rfl))
 f48:=Tryz.func180.trans (congrArg An (by kernel_rfl))
 f49:=⟨Tryz.f244.name,by decide,Tryz.func244.trans (congrArg An (by kernel_rfl))⟩
 f50:=⟨Tryz.f245.name,by decide,Tryz.func245.trans (congrArg An (by kernel_rfl))⟩
 f57:=⟨Tryz.f259.name,by decide,Tryz.func259.trans (congrArg An (by kernel_rfl))⟩
 t0:=Tryz.underlying0
 a0:=Tryz.isAgg0
 z0:=Tryz.sizeOf0
 v0:=Tryz.zeroValue0
 t3:=Tryz.underlying3
 a3:=Tryz.isAgg3
 z3:=Tryz.sizeOf3
 v3:=Tryz.zeroValue3
 t4:=Tryz.underlying4
 a4:=Tryz.isAgg4
 z4:=Tryz.sizeOf4
 v4:=Tryz.zeroValue4
 t5:=Tryz.underlying5
 a5:=Tryz.isAgg5
 z5:=Tryz.sizeOf5
 v5:=Tryz.zeroValue5
 t9:=Tryz.underlying9
 a9:=Tryz.isAgg9
 z9:=Tryz.sizeOf9
 v9:=Tryz.zeroValue9
 t22:=H_
 a22:=Tryz.isAgg26
 z22:=Tryz.sizeOf26
 v22:=Tryz.zeroValue26
 t25:=Tryz.underlying62
 a25:=Tryz.isAgg62
 z25:=Tryz.sizeOf62
 v25:=Tryz.zeroValue62
 t39:=Tryz.underlying122
 a39:=Tryz.isAgg122
 z39:=Tryz.sizeOf122
 v39:=Tryz.zeroValue122
 t45:=Tryz.underlying213
 a45:=Tryz.isAgg213
 z45:=Tryz.sizeOf213
 v45:=Tryz.zeroValue213
 t46:=Tryz.underlying214
 a46:=Tryz.isAgg214
 z46:=Tryz.sizeOf214
 v46:=Tryz.zeroValue214
 t50:=Tryz.underlying218
 a50:=Tryz.isAgg218
 z50:=Tryz.sizeOf218
 v50:=Tryz.zeroValue218
 t53:=Tryz.underlying221
 a53:=Tryz.isAgg221
 z53:=Tryz.sizeOf221
 v53:=Tryz.zeroValue221
 t55:=US
 a55:=du
 z55:=an
 v55:=Tryz.zeroValue54
 t66:=Tryz.underlying272
 a66:=Tryz.isAgg272
 z66:=Tryz.sizeOf272
 v66:=Tryz.zeroValue272
 t70:=Tryz.underlying276
 a70:=Tryz.isAgg276
 z70:=Tryz.sizeOf276
 v70:=Tryz.zeroValue276
 t76:=Tryz.underlying302
 a76:=Tryz.isAgg302
 z76:=Tryz.sizeOf302
 v76:=Tryz.zeroValue302
 t77:=Tryz.underlying303
 a77:=Tryz.isAgg303
 z77:=Tryz.sizeOf303
 v77:=Tryz.zeroValue303}
end Go.Proofs
namespace Go.Proofs.YtjgccapbphadjaaGreatDoor
section
open Go Go.RowKit Go.Shelf Go.Maps
attribute [local go_sem] encS
def cU (w:AT) (v:Value) (l:List BS):Prop:=
 (v=Bs AF 0 0/\l=[])\/∃ b off cap,v=Bs (An ⟨b,off,AF⟩) l.length cap/\b<w.heap.size/\∀ i s,l[i]? =An s->∀ j,j<4->w.cell? ⟨b,off+i*4+j,AF⟩=(encS s)[j]?
theorem cU.keeps {w w':AT} {v:Value} {l:List BS} (h:cU w v l) {R:Nat->Prop} (hk:ae R w w') (hr:∀ k,k<w.heap.size->R k):cU w' v l:=by
 rcases h with h | ⟨b,off,cap,hv,hb,h⟩
 ·exact .inl h
 ·exact .inr ⟨b,off,cap,hv,ay hb hk.size,fun i s hi j hj=>(hk.cell (p:=⟨b,off+i*4+j,AF⟩) (hr b hb)).trans (h i s hi j hj)⟩
theorem cU.below {w w':AT} {v:Value} {l:List BS} (h:cU w v l) (hk:aa w w'):cU w' v l:=h.keeps (ae.aj hk fun _ h=>h) (fun _ h=>h)
theorem je {w:AT} {base:Nat} {v:Value} {l:List BS} (h:w.ownsRow base 56 4 v l.length (aL l)):cU w v l:=by
 rcases h.2 with⟨h1,h2⟩ | ⟨g,cap,cur,hv,_,hg,hn,_,hs,ht⟩
 ·exact .inl ⟨h1,Cd h2⟩
 ·refine .inr ⟨g,0,cap,hv,(A'.1 hg).1,fun i s hi j hj=>?_⟩
  have hc:w.cell? ⟨g,0+i*4+j,AF⟩=cur[0+i*4+j]? :=by simp[L7,hg]
  rw[hc,V_, <-ij l hi hj, <-ht];have hlt:i<l.length:=(A_.1 hi).1;rw[D_,if_pos (by omega)];simp
theorem jf {w:AT} {base n:Nat} {v:Value} {l:List BS} (h:w.ownsRow base 56 4 v n (aL l)) (hn:n=l.length) {i:Nat} {s:BS} (hi:l[i]? =An s): ∃ g cap,v=Bs (An ⟨g,0,AF⟩) n cap/\base<=g/\g<w.heap.size/\∀ j,j<4->w.cell? ⟨g,i*4+j,AF⟩=(encS s)[j]? :=by
 have hlt:i<l.length:=(A_.1 hi).1;rcases h.2 with⟨h1,h2⟩ | ⟨g,cap,cur,hv,hb,hg,_,_,hs,ht⟩
 ·omega
 ·refine⟨g,cap,hv,hb,(A'.1 hg).1,fun j hj=>?_⟩
  have hc:w.cell? ⟨g,i*4+j,AF⟩=cur[i*4+j]? :=by simp[L7,hg]
  rw[hc, <-ij l hi hj, <-ht];rw[D_,if_pos (by omega)];simp
theorem Tryz.yM:(Bm.info? 56).map (fun i=>(i.zero,i.size,i.bytes))=An (An (DH #[As AN 0,As AN 0,As AN 0,As AN 0]),4,32):=by kernel_rfl
theorem yN (l:List BS) (v0:Value) (w:AT) (hl:cU w v0 l) (hlen:l.length<=9223372036854775807): ah 64 #[v0] w fun e w'=>∃ v,e=AI v/\w'.ownsRow w.heap.size 56 4 v (partsOf l).length (aL (partsOf l))/\aa w w':=by
 obtain⟨i0,hi,hz0,hz1,hz2⟩:=ZD Tryz.yM;have HA:=AM fun W=>TW W
 obtain⟨ua,hua⟩:=ag (~~~0:BS);rw[<-hua]at HA;have HUA:=AM hua;clear hua;obtain⟨n,hn⟩:=ag l.length;obtain⟨ad,cap,hv0⟩:∃ ad cap,v0=Bs ad n cap:=by
  rcases hl with⟨h1,h2⟩ | ⟨b,off,cap,h1,_⟩
  ·exact⟨AF,0,by rw[h1,hn,h2];rfl⟩
  ·exact⟨_,cap,by rw[h1,hn]⟩
 subst hv0;have HL:=AM hl;have HN:=AM hn;have hn':n<=9223372036854775807:=by omega
 clear hl hn hlen;go_enter Tryz.func64,Tryz.ntmps64;go_wp2_with (go_at_call 117;refine(HA _).mono ?_;rintro e w1 ⟨rfl,hx⟩;have jd:=AM hx;clear hx);refine aw ?_;intro W0 hW0;have hx0:aa w W0:=by rw[hW0];exact(jd.alloc _).below
 have ho0:W0.ownsRow w.heap.size 56 4 (Bs (An ⟨w1.heap.size,0,AF⟩) 1 1) (bc []).length (aL (bc [])):=by rw[hW0,show bc []=[ua] from by rw[HUA.out];rfl];exact⟨rfl,.inr ⟨w1.heap.size,1,encS ua,rfl,jd.size,RE _ _,aF _,by decide,rfl,rfl⟩⟩
 have Lb:=AM hx0;have HO0:=AM ho0;clear hx0 ho0 hW0;go_loopw [15,3] (fun i v wr=>∃ k:Nat,k<=n/\i=As Kx k/\wr.ownsRow w.heap.size 56 4 v (bc (l.take k)).length (aL (bc (l.take k)))/\aa w wr) (fun i _ _=>n-(intOf i).toNat);case atStart=>exact⟨0,by omega,rfl,HO0,Lb⟩
 case round=>
  obtain⟨wo,rfl⟩:=ag (wr:AT);obtain⟨k,hk,rfl,ho,hb⟩:=hrel;obtain⟨a3,Lh,rfl⟩:=ownsRow_form ho;have HO:=AM ho;have HB:=AM hb;clear ho hb HO0 Lb;by_cases hlt:k<n
  ·obtain⟨b,off,agc,NK,s,hs,hcs⟩:∃ b off,ad=An ⟨b,off,AF⟩/\b<w.heap.size/\∃ s,l[k]? =An s/\∀ j,j<4->w.cell? ⟨b,off+k*4+j,AF⟩=(encS s)[j]? :=by
    have Ae:k<l.length:=by rw[<-HN.out];exact hlt
    rcases HL.out with⟨h1,h2⟩ | ⟨b,off,cap',h1,h2,h3⟩
    ·rw[h2]at Ae;simp at Ae
    ·cases h1
     exact⟨b,off,rfl,h2,l[k],aB Ae,h3 k _ (aB Ae)⟩
   subst agc;have c0:wo.cell? ⟨b,off+k*4,AF⟩=An (As AN (wd s 0).toNat):=(HB.cell (p:=⟨b,off+k*4,AF⟩) NK).trans (hcs 0 (by decide));have c1:wo.cell? ⟨b,off+k*4+1,AF⟩=An (As AN (wd s 1).toNat):=(HB.cell (p:=⟨b,off+k*4+1,AF⟩) NK).trans (hcs 1 (by decide));have c2:wo.cell? ⟨b,off+k*4+2,AF⟩=An (As AN (wd s 2).toNat):=(HB.cell (p:=⟨b,off+k*4+2,AF⟩) NK).trans (hcs 2 (by decide));have c3:wo.cell? ⟨b,off+k*4+3,AF⟩=An (As AN (wd s 3).toNat):=(HB.cell (p:=⟨b,off+k*4+3,AF⟩) NK).trans (hcs 3 (by decide));have HS:=AM hs;have hP:bc (l.take (k+1))=aX s (bc (l.take k)):=by rw[F_,hs];exact iy _ _
   have HP:=AM hP;have HM:=AM (eo (l.take k));clear hs hcs hP;generalize bc (l.take k)=pk at HO HP HM;obtain⟨m,hm⟩:=ag pk.length;have ajq:m<=256:=by rw[hm];exact HM
   rw[<-hm]at HO ⊢;have XC:=AM hm;clear hm HM;go_wp2;refine aw ?_;intro W1 hW1;have mi:ar W1 wo.heap.size (encS s) 56:=by rw[hW1];exact ar.new _ _ _
   have hb1:aa wo W1:=by rw[hW1];exact((Ext.refl wo).alloc _).below
   have hz1:W1.heap.size=wo.heap.size+1:=by rw[hW1];simp
   have Js:=AM (HO.alloc (.cells (encS s) 56 (0,0)));have agd:Hid (W1.ownsRow w.heap.size 56 4 (Bs a3 m Lh) m (aL pk)):=by rw[hW1];exact Js
   have HSB:=AM mi;have mC:=AM hb1;have HZ1:=AM hz1;clear mi hb1 hz1 hW1 Js c0 c1 c2 c3;go_loopw [21,6] (fun i v w2=>∃ j:Nat,j<=m/\i=As Kx j/\w2.ownsRow W1.heap.size 56 4 v (aX s (pk.take j)).length (aL (aX s (pk.take j)))/\aa W1 w2) (fun i _ _=>m-(intOf i).toNat);case atStart=>exact⟨0,by omega,rfl,U' _ _ _ _,Below.refl _ _⟩
   case round=>
    obtain⟨j,hj,rfl,GG,hb2⟩:=hrel;obtain⟨a6,XD,rfl⟩:=ownsRow_form GG;obtain⟨w2,rfl⟩:=ag (wr:AT);have jF:=AM GG;have gR:=AM hb2;clear GG hb2;by_cases F5:j<m
    ·obtain⟨g3,ha3,hg3,p,hp,yO⟩:∃ g3,a3=An ⟨g3,0,AF⟩/\g3<W1.heap.size/\∃ p,pk[j]? =An p/\∀ i,i<4->W1.cell? ⟨g3,j*4+i,AF⟩=(encS p)[i]? :=by
      have hjp:j<pk.length:=by rw[<-XC.out];exact F5
      obtain⟨g,cap',h1,_,h2,h3⟩:=jf agd XC (aB hjp);cases h1;exact⟨_,rfl,h2,pk[j],aB hjp,h3⟩
     subst ha3;have d0:w2.cell? ⟨g3,j*4,AF⟩=An (As AN (wd p 0).toNat):=(gR.cell (p:=⟨g3,j*4,AF⟩) hg3).trans (yO 0 (by decide));have d1:w2.cell? ⟨g3,j*4+1,AF⟩=An (As AN (wd p 1).toNat):=(gR.cell (p:=⟨g3,j*4+1,AF⟩) hg3).trans (yO 1 (by decide));have d2:w2.cell? ⟨g3,j*4+2,AF⟩=An (As AN (wd p 2).toNat):=(gR.cell (p:=⟨g3,j*4+2,AF⟩) hg3).trans (yO 2 (by decide));have d3:w2.cell? ⟨g3,j*4+3,AF⟩=An (As AN (wd p 3).toNat):=(gR.cell (p:=⟨g3,j*4+3,AF⟩) hg3).trans (yO 3 (by decide));have hQ:aX s (pk.take (j+1))=aX s (pk.take j)++cut s p:=by rw[F_,hp];simp[aX]
     have HQ:=AM hQ;have HPj:=AM hp;have HAnd:=AM fun W=>TS p s W
     have OY:=AM fun W=>uV p s W
     have T9:Hid (cut s p=[p&&& s,p&&& ~~~s].filter fun x=> !(x==0)):=rfl;clear hQ hp yO;generalize cut s p=cs at HQ T9;generalize p&&& s=xa at HAnd T9;generalize p&&& ~~~s=xb at OY T9;go_wp2;refine aw ?_;intro W2 hW2;have lG:ar W2 w2.heap.size (encS p) 56:=by rw[hW2];exact ar.new _ _ _
     have hx2:aa w2 W2:=by rw[hW2];exact((Ext.refl w2).alloc _).below
     have mi:ar W2 wo.heap.size (encS s) 56:=(HSB.below gR (by have:=HZ1.out;omega)).below hx2 (by have:=HZ1.out;have:=gR.size;omega);have GG:W2.ownsRow W1.heap.size 56 4 (Bs a6 (aX s (pk.take j)).length XD) (aX s (pk.take j)).length (aL (aX s (pk.take j))):=by rw[hW2];exact jF.alloc _
     have hz2:W2.heap.size=w2.heap.size+1:=by rw[hW2];simp
     have gh:=AM hx2;have XG:=AM GG;have HZ2:=AM hz2;clear hx2 GG hz2 hW2 d0 d1 d2 d3 jF;have age:wo.heap.size<W2.heap.size:=mi.lt;refine eK (fun b=>b=w2.heap.size\/b=wo.heap.size) (by kernel_rfl) (fun i=>i==2 || i==5 || i==6) (by kernel_rfl) ?_;intro C hC hne W3 hK3 hblk hsz hx3;obtain⟨a0,a1,a2,a3⟩:=Ah hC (.inl rfl) lG;obtain⟨b0,b1,b2,b3⟩:=Ah hC (.inr rfl) mi;have HC:=AM hC;have VP:=AM hK3;have nX:=AM hx3;have Cn:=AM lG;have agf:=AM mi;have HS:Hid (∀ b,(b=w2.heap.size\/b=wo.heap.size)->b<W2.heap.size):=fun b hb=>by have h1:=Cn.lt;have h2:=agf.lt;omega
     clear hC hK3 hx3 lG mi hblk hsz age
     repeat (refine bN (fun K hK=>?_);refine dt rfl ?_;unfold az;go_simp;refine hK _ _ ?_;clear hK K)
     refine bN (fun K hK=>?_);refine eB rfl ?_;go_simp;refine eJ ((HAnd _).mono ?_);rintro e w4 ⟨rfl,hx⟩;have hk4:=ae.step VP HS hx;refine⟨_,rfl,(HC _).2 hk4,hK _ _ ?_⟩;have HK4:=AM hk4;have Dh:=AM hx;clear hK K hk4 hx
     repeat (refine bN (fun K hK=>?_);refine dt rfl ?_;unfold az;go_simp;refine hK _ _ ?_;clear hK K)
     refine bN (fun K hK=>?_);refine eB rfl ?_;go_simp;refine eJ ((OY _).mono ?_);rintro e w5 ⟨rfl,hx⟩;have hk5:=ae.step HK4 HS hx;refine⟨_,rfl,(HC _).2 hk5,hK _ _ ?_⟩;have HK5:=AM hk5;have Xx:=AM hx;clear hK K hk5 hx;refine bN (fun K hK=>?_);refine eB rfl ?_;go_simp;refine⟨(HC _).2 (HK5.alloc (fun b hb=>ay (HS b hb) HK5.size) _),hK _ _ ?_⟩;clear hK K
     repeat (refine bN (fun K hK=>?_);refine dt rfl ?_;unfold az;go_simp;refine hK _ _ ?_;clear hK K)
     refine nT ?_;go_wp2;refine aw ?_;intro W6 rW;have hx6:aa W2 W6:=by rw[rW];exact(((nX.trans Dh).trans Xx).alloc _).below
     have h31:ar W6 w5.heap.size (aL [xa,xb]).toArray 56:=by rw[rW];exact ar.new _ _ _
     have hz6:W6.heap.size=w5.heap.size+1:=by rw[rW];simp
     have ho6:W6.ownsRow W1.heap.size 56 4 (Bs a6 (aX s (pk.take j)).length XD) (aX s (pk.take j)).length (aL (aX s (pk.take j))):=ak XG (ae.aj hx6 fun _ h=>h) (fun k e=>(XG.lt k e).2);have h6b:∀ c,(Bs a6 (aX s (pk.take j)).length XD).ownBlock=An c->c≠w5.heap.size:=fun c e=>by
      have h1:=(XG.lt c e).2;have h2:=nX.size;have h3:=Dh.size;have h4:=Xx.size;omega
     have F7:=AM hx6;have H31:=AM h31;have HZ6:=AM hz6;have HO6:=AM ho6;have H6b:=AM h6b;clear a0 a1 a2 a3 b0 b1 b2 b3 VP HK4 HK5 HC HS nX Dh Xx hx6 h31 hz6 ho6 h6b rW hne C HAnd OY
     go_loopw [33,6] (fun i v w7=>∃ q:Nat,q<=2/\i=As Kx q/\w7.ownsRow W1.heap.size 56 4 v (aX s (pk.take j)++([xa,xb].take q).filter fun x=> !(x==0)).length (aL (aX s (pk.take j)++([xa,xb].take q).filter fun x=> !(x==0)))/\
       (∀ c,v.ownBlock=An c->c≠w5.heap.size)/\ar w7 w5.heap.size (aL [xa,xb]).toArray 56/\Below W1.heap.size W6 w7) (fun i _ _=>2-(intOf i).toNat)
     case atStart=>
      refine⟨0,by omega,rfl,?_,H6b,H31,Below.refl _ _⟩;rw[show([xa,xb].take 0).filter (fun x=> !(x==0))=[] from rfl,IF];exact HO6
     case round=>
      obtain⟨w7,rfl⟩:=ag (wr:AT);obtain⟨q,hq,rfl,ho7,uY,h31,hb7⟩:=hrel;obtain⟨a7,agk,rfl⟩:=ownsRow_form ho7;have XJ:=AM ho7;have Pb:=AM uY;have XL:=AM h31;have XT:=AM hb7;clear ho7 uY h31 hb7;by_cases VQ:q<2
      ·obtain⟨x,hx⟩:∃ x,[xa,xb][q]? =An x:=⟨[xa,xb][q],aB VQ⟩
       have ht:[xa,xb].take (q+1)=[xa,xb].take q++ [x]:=by rw[F_,hx];rfl
       have Pc:∀ i,i<4->w7.cell? ⟨w5.heap.size,q*4+i,AF⟩=(encS x)[i]? :=fun i hi=>by
        rw[XL.cell];have:=ij [xa,xb] hx hi;simpa using this
       have e0:w7.cell? ⟨w5.heap.size,q*4,AF⟩=An (As AN (wd x 0).toNat):=Pc 0 (by decide);have e1:w7.cell? ⟨w5.heap.size,q*4+1,AF⟩=An (As AN (wd x 1).toNat):=Pc 1 (by decide);have e2:w7.cell? ⟨w5.heap.size,q*4+2,AF⟩=An (As AN (wd x 2).toNat):=Pc 2 (by decide);have e3:w7.cell? ⟨w5.heap.size,q*4+3,AF⟩=An (As AN (wd x 3).toNat):=Pc 3 (by decide);have HT:=AM ht;have Co:=AM (xV s (pk.take j));clear hx ht Pc;generalize aX s (pk.take j)=nj at XJ HQ Co Pb ⊢;by_cases hz:x=0#256
       ·have he:∀ W,(I' 10000 56 (DH #[As AN (wd x 0).toNat,As AN (wd x 1).toNat,As AN (wd x 2).toNat,As AN (wd x 3).toNat]) (DH #[As AN 0,As AN 0,As AN 0,As AN 0])).run Bm W=.ok Lo W:=fun W=>by
         have h1:=ie x 0 W;rw[fU,hz]at h1;rw[hz];exact h1
        have hf:([x].filter fun x=> !(x==0))=[]:=by rw[hz];rfl
        have HF:=AM hf;clear hz hf;go_wp2;go_roundw;case rel=>
         refine⟨q+1,by omega,by go_num,?_,Pb,XL.alloc _,XT.alloc (by have:=XT.size;have:=HZ6.out;have:=F7.size;have:=gh.size;have:=gR.size;omega) _⟩;rw[HT.out,J_,HF.out,IF];exact XJ.alloc _
        case measure=>simp[intOf];omega
       ·have he:∀ W,(I' 10000 56 (DH #[As AN (wd x 0).toNat,As AN (wd x 1).toNat,As AN (wd x 2).toNat,As AN (wd x 3).toNat]) (DH #[As AN 0,As AN 0,As AN 0,As AN 0])).run Bm W=.ok C' W:=fun W=>by
         have h1:=ie x 0 W;rw[fU,show(x==0)=C' from by simpa using hz]at h1;exact h1
        have hf:([x].filter fun x=> !(x==0))=[x]:=by simp[hz]
        have HF:=AM hf;have hlq:([xa,xb].take q).length<=2:=by simp;omega
        have hlf:=DS (E_ (fun x=> !(x==0)) ([xa,xb].take q)) hlq;have hlj:(pk.take j).length<=256:=by simp;omega
        have HLQ:Hid ((nj++([xa,xb].take q).filter fun x=> !(x==0)).length<=514):=by have h1:=Co.out;show List.length _<=514;rw[aJ];omega
        clear hz hf hlq hlf hlj;obtain⟨nq,hnq⟩:=ag (nj++([xa,xb].take q).filter fun x=> !(x==0));rw[<-hnq]at XJ HLQ Pb ⊢;have HNQ:=AM hnq;clear hnq;go_wp2_with (at_builtin;refine wpList_append_own_at _ rfl _ _ 26 rfl W1.heap.size 56 i0 (DH #[As AN 0,As AN 0,As AN 0,As AN 0]) 4 32 H_ hi hz0 hz1 hz2 rfl (by decide) _ _ _ rfl ((XJ.alloc _).alloc _) ⟨w7.heap.size+1,0,AF⟩ 1 1 (encS x).toList rfl rfl (cC ((ar.new _ (encS x) 56).at (by simp))) (by intro u hu;simp[encS]at hu;rcases hu with rfl | rfl | rfl | rfl<;>rfl) (by have:=HLQ.out;unfold maxLen;omega) (by have:=HLQ.out;omega) (by have:=XT.size;have:=F7.size;have:=gh.size;have:=gR.size;simp;omega) ?_;intro v' w8 hown' hgrow hh hat;have HO8:=AM hown';have HG:=AM hgrow;have Ld:=AM hat;clear hown' hgrow hh hat);have agn:w5.heap.size<w7.heap.size:=by have:=XT.size;have:=HZ6.out;omega
        have ago:W1.heap.size<=w7.heap.size:=by have:=XT.size;have:=F7.size;have:=gh.size;have:=gR.size;omega
        go_roundw
        case rel=>
         refine⟨q+1,by omega,by go_num,?_,fun c e=>?_,?_,?_⟩
         ·rw[HT.out,J_,HF.out, <-L_, <-HNQ.out,aJ,gy,Lf]
          exact HO8
         ·have hat':v'.ownBlock=(Bs a7 nq.length agk).ownBlock\/_:=Ld.out
          rcases hat' with h | h
          ·exact Pb c (by rw[<-h];exact e)
          ·rw[h]at e;simp at e;omega
         ·exact((XL.alloc _).alloc _).grown HG (fun e=>Pb _ e.symm rfl)
         ·exact((XT.alloc ago _).alloc (by simp;omega) _).grown HG (by simp;omega) (fun c e=>(XJ.lt c e).1)
        case measure=>simp[intOf];omega
      ·obtain rfl:q=2:=by omega
       have hcs:aX s (pk.take j)++([xa,xb].take 2).filter (fun x=> !(x==0))=aX s (pk.take (j+1)):=by rw[HQ.out,T9.out];rfl
       rw[hcs]at XJ ⊢;clear hcs;go_wp2;go_roundw;case rel=>
        refine⟨j+1,by omega,by go_num,XJ,?_⟩;exact((gR.trans (gh.mono (by have:=gR.size;omega))).trans (F7.mono (by have:=gh.size;have:=gR.size;omega))).trans XT
       case measure=>simp[intOf];omega
    ·obtain rfl:j=m:=by omega
     have Ua:pk.take j=pk:=by rw[XC.out];exact Is
     rw[Ua, <-HP.out]at jF ⊢;clear Ua;go_wp2;go_roundw;case rel=>
      refine⟨k+1,by omega,by go_num,aC jF (by have:=HZ1.out;have:=HB.size;omega),?_⟩;exact(HB.trans (mC.mono HB.size)).trans (gR.mono (by have:=HZ1.out;have:=HB.size;omega))
     case measure=>simp[intOf];omega
  ·obtain rfl:k=n:=by omega
   have er:l.take k=l:=by rw[HN.out];exact Is
   rw[er]at HO ⊢;clear er;have hne:bc l≠[]:=fun e=>by have:=qJ l;rw[e]at this;simp at this
   obtain⟨g,cur,hg,VL,uZ,hcc,hcm,hcs,er⟩:∃ g cur,a3=An ⟨g,0,AF⟩/\w.heap.size<=g/\wo.heap[g]? =An (.cells cur 56 (0,0))/\(bc l).length<=Lh/\Lh<=maxLen/\cur.size=Lh*4/\cur.toList.take ((bc l).length*4)=aL (bc l):=by
    rcases HO.2 with⟨_,h2⟩ | ⟨g,cap',cur,h1,h2,h3,h4,h5,h6,h7⟩
    ·exact absurd (Cd h2) hne
    ·cases h1
     exact⟨g,cur,rfl,h2,h3,h4,h5,h6,h7⟩
   subst hg;have eg:∀ args w,(callFunc 30 args).run Bm w=.ok (.enter 30 args) w:=If f_ (by kernel_rfl) rfl;have hcon:=AnyQ.slices_SortFunc_total Tryz.OU 4 Tryz.isAgg56 Tryz.sizeOf56 qL (fun _=>rfl) (fun x v hv=>by simp[qL,encS]at hv;rcases hv with rfl | rfl | rfl | rfl<;>rfl) aW aga 30 #[] g 0 Lh (bc l).toArray wo eg
    (fun m os dk _ x y=>(Dg x y _).mono fun e w' ⟨he,hx⟩=>⟨he,hx.grow⟩) (GF uZ er) (A'.1 uZ).1 (by have:=eo l;simp;omega) abJ
   have VR:Hid (ah 119 #[Bs (An ⟨g,0,AF⟩) (bc l).length Lh,.func (.func 30) #[] #[]] wo fun e w'=>
    e=AI (P' #[])/\∃ n os,w'=sortWorldK qL 4 wo g 0 n (partsOf l).toArray os):=hcon
   clear hcon hne;have hpl:(partsOf l).length=(bc l).length:=by unfold partsOf;exact RC _
   have HPL:=AM hpl;clear hpl;obtain⟨po,hpo⟩:=ag (partsOf l);rw[<-hpo]at VR HPL;have HPO:=AM hpo;clear hpo;go_wp2_with (go_at_call 119;refine VR.mono ?_;rintro e ws ⟨rfl,nd,os,F8⟩;have HWS:=AM F8;clear F8);go_ret;refine⟨_,rfl,?_,?_⟩
   ·rw[HWS.out, <-HPO.out,HPL.out]
    exact xY HPL VL uZ hcc hcm hcs
   ·rw[HWS.out]
    exact HB.grown (xX _) HB.size (fun c e=>by cases e;exact VL)
end
section
open Go Go.RowKit Go.Shelf Go.Maps
def ct (p:List BS):List (Nat×Nat):=p.zipIdx.flatMap fun x=>(bK x.1 256).map fun c=>(x.2,c)
theorem Dm:ct []=[]:=rfl
theorem Am (p:List BS) (s:BS):ct (p++ [s])=ct p++(bK s 256).map fun c=>(p.length,c):=by unfold ct;rw[UP];simp
theorem qM {p:List BS} {k:Nat} {s:BS} (h:p[k]? =An s):ct (p.take (k+1))=ct (p.take k)++(bK s 256).map fun c=>(k,c):=by have hk:k<p.length:=(A_.1 h).1;rw[F_,h];show ct (p.take k++ [s])=_;rw[Am,List.length_take,Nat.min_eq_left (by omega)]
theorem vd {p:List BS} {k:Nat} {s:BS} (h:p[k]? =An s) (j:Nat):ct (p.take k)++((bK s 256).take j).map (fun c=>(k,c))<+:ct p:=by
 have h1:ct (p.take (k+1))<+:ct p:=by
  have:p=p.take (k+1)++p.drop (k+1):=(List.take_append_drop _ _).symm;have h2:∀ (a b:List BS),ct a<+:ct (a++b):=by intro a b;unfold ct;rw[UP,List.flatMap_append];exact TO _ _
  conv=>rhs;rw[this]
  exact h2 _ _
 refine List.IsPrefix.trans ?_ h1;rw[qM h];exact(List.prefix_append_right_inj _).2 (List.IsPrefix.map _ (List.take_prefix _ _))
theorem GH {s:BS} {n c:Nat} (h:c∈bK s n):c<n:=by unfold bK at h;simp at h;exact h.1
theorem mR {p:List BS} {x:Nat×Nat} :x∈ct p↔ ∃ s,p[x.1]? =An s/\x.2<256/\s.getLsbD x.2=true:=by
 unfold ct;simp only[N_,List.mem_map,Prod.exists,List.mem_zipIdx_iff_getElem?,bK];constructor
 ·rintro⟨s,k,h1,c,h2,rfl⟩
  simp at h2;exact⟨s,h1,h2⟩
 ·rintro⟨s,h1,h2,h3⟩
  exact⟨s,x.1,h1,x.2,by simp[h2,h3],rfl⟩
def dL (l:List (Nat×Nat)):List Nat:=l.foldl (fun t x=>t.set x.2 x.1) (Z' 256 0)
theorem rX (l:List (Nat×Nat)):∀ (t:List Nat),(l.foldl (fun t x=>t.set x.2 x.1) t).length=t.length:=by
 induction l with
 | nil=>intro t;rfl
 | cons x l ih=>intro t;simp[ih]
theorem eO (l:List (Nat×Nat)):(dL l).length=256:=by unfold dL;rw[rX,List.length_replicate]
theorem s4:dL []=Z' 256 0:=rfl
theorem qN (l:List (Nat×Nat)) (x:Nat×Nat):dL (l++ [x])=(dL l).set x.2 x.1:=by unfold dL;rw[Ly];rfl
def oX (p:List BS):List Nat:=dL (ct p)
theorem jg (p:List BS):(oX p).length=256:=eO _
theorem Dn (l:List (Nat×Nat)) (c:Nat) (hc:c<256):(∃ x∈l,x.2=c/\(dL l)[c]? =An x.1)\/((∀ x∈l,x.2≠c)/\(dL l)[c]? =An 0):=by
 suffices ∀ r:List (Nat×Nat),(∃ x∈r.reverse,x.2=c/\(dL r.reverse)[c]? =An x.1)\/((∀ x∈r.reverse,x.2≠c)/\(dL r.reverse)[c]? =An 0) by
  have:=this l.reverse;rwa[List.reverse_reverse]at this
 intro r;induction r with
 | nil=>right;rw[List.reverse_nil,s4,On,if_pos hc];exact⟨fun x hx=>absurd hx (List.not_mem_nil),rfl⟩
 | cons x r ih=>
  rw[List.reverse_cons,qN];by_cases hx:x.2=c
  ·left
   refine⟨x,by simp,hx,?_⟩;rw[V',if_pos hx,if_pos (by rw[eO,hx];exact hc)]
  ·rw[V',if_neg hx]
   rcases ih with⟨y,h1,h2,h3⟩ | ⟨h1,h2⟩
   ·exact .inl ⟨y,by simp only[Zf];exact .inl h1,h2,h3⟩
   ·refine .inr ⟨fun y hy=>?_,h2⟩
    simp only[Zf,List.mem_singleton]at hy;rcases hy with hy | rfl
    ·exact h1 y hy
    ·exact hx
theorem rY (p:List BS) (c:Nat) (hc:c<256):(∃ k s,p[k]? =An s/\s.getLsbD c=Lo/\(oX p)[c]? =An k)\/((∀ s∈p,s.getLsbD c=C')/\(oX p)[c]? =An 0):=by
 rcases Dn (ct p) c hc with⟨x,h1,h2,h3⟩ | ⟨h1,h2⟩
 ·obtain⟨s,h4,h5,h6⟩:=mR.1 h1
  exact .inl ⟨x.1,s,h4,by rw[<-h2];exact h6,h3⟩
 ·refine .inr ⟨fun s hs=>?_,h2⟩
  obtain⟨k,hk⟩:=List.getElem?_of_mem hs;cases hb:s.getLsbD c with
  | false=>rfl
  | true=>exact absurd rfl (h1 (k,c) (mR.2 ⟨s,hk,hc,hb⟩))
theorem Pd (p:List BS) (c:Nat) (hc:c<256) (hp:p.length<=256):∃ k,(oX p)[c]? =An k/\k<256/\(k<p.length\/k=0):=by
 rcases rY p c hc with⟨k,s,h1,_,h3⟩ | ⟨_,h2⟩
 ·have:=(A_.1 h1).1
  exact⟨k,h3,by omega,.inl this⟩
 ·exact⟨0,h2,by omega,.inr rfl⟩
def fG (t:List Nat) (v:Value):Array Value:=((t.map fun (n:Nat)=>As K_ n)++ [v]).toArray
theorem s5 {t:List Nat} {v:Value} {c k:Nat} (h:t[c]? =An k):(fG t v)[c]? =An (As K_ k):=by have hc:=(A_.1 h).1;unfold fG;simp only[Ft];rw[bH (by simpa using hc),aN,h];rfl
theorem lH {t:List Nat} {v:Value} (h:t.length=256):(fG t v)[256]? =An v:=by unfold fG;simp only[Ft];rw[cF (by simp[h])];simp[h]
theorem Dp {t:List Nat} {v:Value} {c k:Nat} (h:c<t.length):(fG t v).setIfInBounds c (As K_ k)=fG (t.set c k) v:=by unfold fG;simp[h,List.map_set]
def cQ (w:AT) (base:Nat) (v:Value) (p:List BS):Prop:=
 (v=AS AF/\p=[])\/∃ b sl,v=AS (An ⟨b,0,AF⟩)/\base<=b/\ar w b (fG (oX p) sl) 263/\w.ownsRow base 56 4 sl p.length (aL p)/\p.length<=256
theorem cQ.keeps {w w':AT} {base:Nat} {v:Value} {p:List BS} (h:cQ w base v p) {R:Nat->Prop} (hk:ae R w w') (hr:∀ k,base<=k->k<w.heap.size->R k):cQ w' base v p:=by
 rcases h with h | ⟨b,sl,h1,h2,h3,h4,h5⟩
 ·exact .inl h
 ·exact .inr ⟨b,sl,h1,h2,h3.keeps hk (hr b h2 h3.lt),ak h4 hk fun k e=>hr k (h4.lt k e).1 (h4.lt k e).2,h5⟩
theorem cQ.below {w w':AT} {base:Nat} {v:Value} {p:List BS} (h:cQ w base v p) (hk:aa w w'):cQ w' base v p:=h.keeps (ae.aj hk fun _ h=>h) (fun _ _ h=>h)
theorem cQ.base {w:AT} {base base':Nat} {v:Value} {p:List BS} (h:cQ w base v p) (hb:base'<=base):cQ w base' v p:=by
 rcases h with h | ⟨b,sl,h1,h2,h3,h4,h5⟩
 ·exact .inl h
 ·exact .inr ⟨b,sl,h1,DS hb h2,h3,aC h4 hb,h5⟩
theorem cQ.le {w:AT} {base:Nat} {v:Value} {p:List BS} (h:cQ w base v p):p.length<=256:=by
 rcases h with⟨_,rfl⟩ | ⟨b,sl,h1,h2,h3,h4,h5⟩
 ·simp
 ·exact h5
attribute [local go_sem] encS
theorem cQ.form {w:AT} {base:Nat} {v:Value} {p:List BS} (h:cQ w base v p):(v=AS AF/\p=[])\/∃ b sa cap,v=AS (An ⟨b,0,AF⟩)/\w.cell? ⟨b,256,AF⟩=An (Bs sa p.length cap)/\ (∀ c k:Nat,(oX p)[c]? =An k->w.cell? ⟨b,c,AF⟩=An (As K_ k))/\base<=b/\b<w.heap.size/\ ∀ i s,p[i]? =An s->∃ g,sa=An ⟨g,0,AF⟩/\base<=g/\g<w.heap.size/\∀ j,j<4->w.cell? ⟨g,i*4+j,AF⟩=(encS s)[j]? :=by
 rcases h with h | ⟨b,sl,h1,h2,h3,h4,h5⟩
 ·exact .inl h
 ·obtain⟨sa,cap,rfl⟩:=ownsRow_form h4
  refine .inr ⟨b,sa,cap,h1,?_,fun c k hk=>?_,h2,h3.lt,fun i s hi=>?_⟩
  ·have hn:(Bs sa p.length cap)=Bs sa p.length cap:=rfl
   have:=h3.cell 256;rw[lH (jg p)]at this;exact this
  ·rw[h3.cell c,s5 hk]
  ·obtain⟨g,cap',h6,h7,h8,h9⟩:=jf h4 rfl hi
   cases h6
   exact⟨g,rfl,h7,h8,h9⟩
theorem mS (v:Value) (base:Nat) (p:List BS) (w:AT) (h:cQ w base v p): ah 168 #[v] w fun e w'=>e=AI (EV p.isEmpty)/\w'=w:=by
 rcases h.form with⟨rfl,rfl⟩ | ⟨b,sa,cap,rfl,c0,_⟩
 ·clear h
  go_enter Wg,Se
  go_wp2;go_ret;exact⟨rfl,rfl⟩
 ·clear h
  cases p with
  | nil=>
   go_enter Wg,Se
   go_wp2;go_ret;exact⟨rfl,rfl⟩
  | cons s p=>
   go_enter Wg,Se
   go_wp2;go_ret;exact⟨rfl,rfl⟩
theorem Jt (v:Value) (base:Nat) (p:List BS) (w:AT) (h:cQ w base v p): ah 111 #[v] w fun e w'=>e=AI (As Kx p.length)/\w'=w:=by
 have hn:=mS v base p w h;rcases h.form with⟨rfl,rfl⟩ | ⟨b,sa,cap,rfl,c0,_⟩
 ·have HN:=AM hn
  clear h hn;go_enter Wr,Sf;go_wp2_with (go_at_call 168;refine HN.mono ?_;rintro e w1 ⟨rfl,rfl⟩);go_ret;exact⟨rfl,rfl⟩
 ·cases p with
  | nil=>
   have HN:=AM hn;clear h hn;go_enter Wr,Sf;go_wp2_with (go_at_call 168;refine HN.mono ?_;rintro e w1 ⟨rfl,rfl⟩);go_ret;exact⟨rfl,rfl⟩
  | cons s p=>
   have HN:=AM hn;clear h hn;go_enter Wr,Sf;go_wp2_with (go_at_call 168;refine HN.mono ?_;rintro e w1 ⟨rfl,rfl⟩);go_ret;exact⟨rfl,rfl⟩
def cls (p:List BS) (c:Nat):Nat:=(oX p)[c]?.getD 0
theorem Ao (p:List BS) {c:Nat} (hc:c<256):(oX p)[c]? =An (cls p c):=by unfold cls;rw[aB (by rw[jg];exact hc)];rfl
theorem Ju (c:Nat):cls [] c=0:=by unfold cls oX;rw[Dm,s4,On];split<;>rfl
theorem ft (p:List BS) (c:Nat) (hp:p.length<=256):cls p c<256:=by
 by_cases hc:c<256
 ·obtain⟨k,h1,h2,_⟩:=Pd p c hc hp
  unfold cls;rw[h1];exact h2
 ·unfold cls;rw[aT (by rw[jg];omega)];decide
theorem yP (v:Value) (base:Nat) (p:List BS) (c:Nat) (hc:c<256) (w:AT) (h:cQ w base v p): ah 123 #[v,As K_ c] w fun e w'=>e=AI (As Kx (cls p c))/\w'=w:=by
 have hn:=mS v base p w h;have hlt:=ft p c h.le;rcases h.form with⟨rfl,rfl⟩ | ⟨b,sa,cap,rfl,c0,ht,_⟩
 ·have HN:=AM hn
  clear h hn hlt;go_enter W_,St;go_wp2_with (go_at_call 168;refine HN.mono ?_;rintro e w1 ⟨rfl,rfl⟩);go_ret;exact⟨by rw[Ju];rfl,rfl⟩
 ·have c1:=ht c _ (Ao p hc)
  cases p with
  | nil=>
   have HN:=AM hn;clear h hn ht;go_enter W_,St;go_wp2_with (go_at_call 168;refine HN.mono ?_;rintro e w1 ⟨rfl,rfl⟩);go_ret;exact⟨by rw[Ju];rfl,rfl⟩
  | cons s p=>
   have HN:=AM hn;clear h hn ht;generalize cls (s::p) c=z at c1 hlt ⊢;go_enter W_,St;go_wp2_with (go_at_call 168;refine HN.mono ?_;rintro e w1 ⟨rfl,rfl⟩);go_ret;exact⟨rfl,rfl⟩
theorem cQ.some {w:AT} {base:Nat} {v:Value} {s:BS} {p:List BS} (h:cQ w base v (s::p)):∃ b sa cap,v=AS (An ⟨b,0,AF⟩)/\w.cell? ⟨b,256,AF⟩=An (Bs sa (s::p).length cap)/\ (∀ c k:Nat,(oX (s::p))[c]? =An k->w.cell? ⟨b,c,AF⟩=An (As K_ k))/\base<=b/\b<w.heap.size/\ ∀ i s',(s::p)[i]? =An s'->∃ g,sa=An ⟨g,0,AF⟩/\base<=g/\g<w.heap.size/\∀ j,j<4->w.cell? ⟨g,i*4+j,AF⟩=(encS s')[j]? :=by
 rcases h.form with⟨_,h⟩ | h
 ·cases h
 ·exact h
def setOf (p:List BS) (k:Int):Option BS:=if 0<=k then p[k.toNat]? else AF
theorem Li (k:Int):setOf [] k=none:=by unfold setOf;split<;>simp
theorem Lj (p:List BS) {k:Int} (h:k<0):setOf p k=none:=by unfold setOf;rw[if_neg (by omega)]
theorem GI (p:List BS) {k:Int} (h:(p.length:Int)<=k):setOf p k=none:=by unfold setOf;rw[if_pos (by omega),aT (by omega)]
theorem rZ (p:List BS) (k:Nat):setOf p k=p[k]? :=by unfold setOf;rw[if_pos (by omega),Int.toNat_natCast]
theorem Dq (p:List BS) (k:Int):(setOf p k=AF/\(k<0\/(p.length:Int)<=k))\/∃ (n:Nat) (s:BS),k=n/\n<p.length/\p[n]? =An s/\setOf p k=An s:=by
 by_cases h1:k<0
 ·exact .inl ⟨Lj p h1,.inl h1⟩
 ·by_cases h2:(p.length:Int)<=k
  ·exact .inl ⟨GI p h2,.inr h2⟩
  ·obtain⟨n,rfl⟩:∃ n:Nat,k=n:=⟨k.toNat,by omega⟩
   have h3:n<p.length:=by omega
   exact .inr ⟨n,p[n],rfl,h3,aB h3,by rw[rZ];exact aB h3⟩
theorem GJ (v:Value) (base:Nat) (p:List BS) (k:Int) (w:AT) (h:cQ w base v p): ah 169 #[v,As Kx k] w fun e w'=>e=AI (EV (setOf p k).isSome)/\w'=w:=by
 have hn:=mS v base p w h;cases p with
 | nil=>
  have HN:=AM hn;clear h hn;go_enter P_,M_;go_wp2_with (go_at_call 168;refine HN.mono ?_;rintro e w1 ⟨rfl,rfl⟩);go_ret;exact⟨by rw[Li];rfl,rfl⟩
 | cons s p=>
  obtain⟨b,sa,cap,rfl,c0,_⟩:=h.some;have hp:=Dq (s::p) k;have hle:=h.le;generalize (s::p).length=m at c0 hp hle;generalize setOf (s::p) k=r at hp ⊢;have HN:=AM hn;clear h hn;rcases hp with⟨rfl,h1 | h1⟩ | ⟨n,t,rfl,h1,_,rfl⟩
  ·go_enter P_,M_
   go_wp2_with (go_at_call 168;refine HN.mono ?_;rintro e w1 ⟨rfl,rfl⟩)
   go_ret;exact⟨rfl,rfl⟩
  ·go_enter P_,M_
   go_wp2_with (go_at_call 168;refine HN.mono ?_;rintro e w1 ⟨rfl,rfl⟩)
   go_ret;exact⟨by rw[show(decide (k<(m:Int)))=C' from decide_eq_false (by omega)];rfl,rfl⟩
  ·go_enter P_,M_
   go_wp2_with (go_at_call 168;refine HN.mono ?_;rintro e w1 ⟨rfl,rfl⟩)
   go_ret;exact⟨rfl,rfl⟩
theorem Jv (v:Value) (base:Nat) (p:List BS) (k:Int) (w:AT) (h:cQ w base v p): ah 112 #[v,As Kx k] w fun e w'=>e=AI (P' #[DH (encS ((setOf p k).getD 0)),EV (setOf p k).isSome])/\Ext w w':=by
 have hn:=GJ v base p k w h;have hz:=fU;rcases Dq p k with⟨h1,_⟩ | ⟨n,t,rfl,h1,h2,h3⟩
 ·rw[h1]at hn ⊢
  have HI:=AM (fun o=>(show ah 169 #[v,As Kx k] (w.alloc o) _ from GJ v base p k (w.alloc o) (h.below ((Ext.refl w).alloc o).below)));rw[h1]at HI;clear h hn h1;go_enter eS,be;go_wp2_with (go_at_call 169;refine(HI _).mono ?_;rintro e w1 ⟨rfl,rfl⟩);refine B' (v:=P' #[DH (encS 0),EV C']) ?_ rfl ⟨rfl,(Ext.refl w).alloc _⟩;rw[hz];simp[results,Zg,go_sem]
 ·cases p with
  | nil=>simp at h1
  | cons s p=>
  obtain⟨b,sa,cap,rfl,c0,_,_,hb,hr⟩:=h.some;obtain⟨g,rfl,_,hg,hc⟩:=hr n t h2;have hle:=h.le;have d0:w.cell? ⟨g,n*4,AF⟩=An (As AN (wd t 0).toNat):=hc 0 (by decide);have d1:w.cell? ⟨g,n*4+1,AF⟩=An (As AN (wd t 1).toNat):=hc 1 (by decide);have d2:w.cell? ⟨g,n*4+2,AF⟩=An (As AN (wd t 2).toNat):=hc 2 (by decide);have d3:w.cell? ⟨g,n*4+3,AF⟩=An (As AN (wd t 3).toNat):=hc 3 (by decide);have HI:=AM (fun o=>(show ah 169 #[_,As Kx n] (w.alloc o) _ from GJ _ base _ n (w.alloc o) (h.below ((Ext.refl w).alloc o).below)));rw[h3]at HI ⊢;generalize (s::p).length=m at c0 hle h1;clear h hn hc hr h2 h3;go_enter eS,be;go_wp2_with (go_at_call 169;refine(HI _).mono ?_;rintro e w1 ⟨rfl,rfl⟩);refine B' (v:=P' #[DH (encS t),EV Lo]) ?_ rfl ⟨rfl,(Ext.refl w).alloc _⟩;simp[results,Zg,go_sem]
def leastOf (p:List BS) (k:Int):Nat×Bool:=match setOf p k with | none=>(0,C') | some s=>aV s
theorem yQ (v:Value) (base:Nat) (p:List BS) (k:Int) (w:AT) (h:cQ w base v p): ah 113 #[v,As Kx k] w fun e w'=>e=AI (P' #[As K_ (leastOf p k).1,EV (leastOf p k).2])/\Ext w w':=by
 have HS:=AM (Jv v base p k w h);clear h;unfold leastOf;generalize setOf p k=r at HS ⊢;cases r with
 | none=>
  go_enter e_,b_
  go_wp2_with (go_at_call 112;refine HS.mono ?_;rintro e w1 ⟨rfl,hx⟩;have HX:=AM hx;clear hx)
  refine B' (v:=P' #[As K_ (0:Nat),EV C']) ?_ rfl ⟨rfl,HX.alloc _⟩;simp[results,Zh,go_sem]
 | some s=>
  have HF:=AM (yK s);dsimp only at HS ⊢;generalize aV s=z at HF ⊢;have hs:(An s).getD 0=s:=rfl;go_enter e_,b_;go_wp2_with (first | (go_at_call 112;refine HS.mono ?_;rintro e w1 ⟨rfl,hx⟩;have HX:=AM hx;clear hx) | (go_at_call 23;refine(HF _).mono ?_;rintro e w2 ⟨rfl,hx⟩;have gh:=AM hx;clear hx));refine B' (v:=P' #[As K_ z.1,EV z.2]) ?_ rfl ⟨rfl,(HX.alloc _).trans gh⟩;simp[results,Zh,go_sem]
end
section
open Go Go.RowKit Go.Shelf Go.Maps
attribute [local go_sem] encS Oper.semAt_some gj dz
theorem Ap (ad:Option gd) (w:AT):ah 211 #[AS ad] w fun e w'=>e=AI (.func (.func 235) #[] #[AS (An ⟨w.heap.size,0,AF⟩)])/\w'=w.alloc (.cells #[AS ad] 190 (0,0)):=by
 go_enter Tryz.func211,Tryz.ntmps211
 go_wp2;go_ret;exact⟨rfl,rfl⟩
def ve (w:AT) (g:Nat) (sa:Option gd) (p:List BS):Prop:=g<w.heap.size/\∀ i s,p[i]? =An s->sa=An ⟨g,0,AF⟩/\∀ j,j<4->w.cell? ⟨g,i*4+j,AF⟩=(encS s)[j]?
theorem ve.keeps {w w':AT} {g:Nat} {sa:Option gd} {p:List BS} (h:ve w g sa p) {R:Nat->Prop} (hk:ae R w w') (hr:R g):ve w' g sa p:=
 ⟨ay h.1 hk.size,fun i s hi=>⟨(h.2 i s hi).1,fun j hj=>(hk.cell (p:=⟨g,i*4+j,AF⟩) hr).trans ((h.2 i s hi).2 j hj)⟩⟩
theorem xZ {w:AT} {base n:Nat} {v:Value} {l:List Nat} (h:w.ownsRow base 5 1 v n (l.map en)) (hn:n=l.length):∃ g a cap,v=Bs a n cap/\(n=0\/a=An ⟨g,0,AF⟩/\base<=g/\g<w.heap.size/\∀ i c:Nat,l[i]? =An c->w.cell? ⟨g,i,AF⟩=An (As K_ c)):=by
 rcases h.2 with⟨h1,h2⟩ | ⟨g,cap,cur,hv,hb,hg,_,_,hs,ht⟩
 ·exact⟨0,AF,0,by rw[h1,h2],.inl h2⟩
 ·refine⟨g,_,cap,hv,.inr ⟨rfl,hb,(A'.1 hg).1,fun i c hi=>?_⟩⟩
  have hlt:i<l.length:=(A_.1 hi).1;have hc:w.cell? ⟨g,i,AF⟩=cur[i]? :=by simp[L7,hg]
  have h3:cur[i]? =(l.map en)[i]? :=by rw[<-ht,D_,if_pos (by omega)];simp
  rw[hc,h3,aN,hi];rfl
theorem Dr (p:List BS) (bx ab g n cap:Nat) (sa:Option gd) (w:AT) (hp:n=p.length) (hn:p.length<=256) (yL:w.cell? ⟨bx,0,AF⟩=An (AS (An ⟨ab,0,AF⟩))) (NK:bx<w.heap.size) (hab:w.cell? ⟨ab,256,AF⟩=An (Bs sa n cap)) (has:ab<w.heap.size) (hr:ve w g sa p): Seq C' Bm 235 #[AS (An ⟨bx,0,AF⟩)] (fun x:Nat×Nat=> #[As Kx x.1,As K_ x.2]) (· =g) (ct p) w:=by
 intro l J Jx W hK hJ Xw hY h0;have c0:W.cell? ⟨bx,0,AF⟩=_:=(hK.cell (p:=⟨bx,0,AF⟩) NK).trans yL;have c1:W.cell? ⟨ab,256,AF⟩=_:=(hK.cell (p:=⟨ab,256,AF⟩) has).trans hab;have hr1:ve W g sa p:=hr.keeps hK hr.1;have HY:=AM hY;have HB:=AM fun s W=>Le s W
 have XU:=AM hr1;have HJ:=AM hJ;have HP:=AM hp;have hn':n<=256:=by omega
 clear hY yL hab NK has hr hr1 Xw hK hJ hp hn;refine IN (n:=0).1 ?_;refine ao ff rfl trivial ?_ rfl;simp only[Tryz.ntmps235,FF,DE,GS,It,Iv,DP,DQ,FG,D0,D',GB]
 gi_wp2
 gi_loopw [12] (fun i wr=>∃ (k:Nat) (T:Nat->Prop),k<=n/\i=As Kx k/\J (ct (p.take k)) T wr/\(∀ k,T k->W.heap.size<=k/\k<wr.heap.size)/\ae (· =g) W wr)
  (fun i _=>n-(intOf i).toNat)
 case atStart=>
  exact⟨0,fun _=>False,by omega,rfl,h0,fun _ h=>h.elim,ae.refl _ _⟩
 case round=>
  clear c0 c1 h0;obtain⟨wo,rfl⟩:=ag (wr:AT);obtain⟨k,T,hk,rfl,hj,hT,hR⟩:=hrel;have HJo:=AM hj;have HT:=AM hT;have HR:=AM hR;clear hj hT hR;by_cases hlt:k<n
  ·obtain⟨s,hs⟩:∃ s,p[k]? =An s:=⟨_,aB (by have:=HP.out;omega)⟩
   obtain⟨Jw,hcs⟩:=(XU.keeps HR rfl).2 k s hs;subst Jw;have d0:wo.cell? ⟨g,k*4,AF⟩=An (As AN (wd s 0).toNat):=hcs 0 (by decide);have d1:wo.cell? ⟨g,k*4+1,AF⟩=An (As AN (wd s 1).toNat):=hcs 1 (by decide);have d2:wo.cell? ⟨g,k*4+2,AF⟩=An (As AN (wd s 2).toNat):=hcs 2 (by decide);have d3:wo.cell? ⟨g,k*4+3,AF⟩=An (As AN (wd s 3).toNat):=hcs 3 (by decide);have HPT:=AM (qM hs);have OS:=AM (vd hs);have HBL:Hid (∀ c∈bK s 256,c<256):=fun c h=>GH h
   have HBs:=AM (HB.out s);have hlen:(bK s 256).length<=256:=by unfold bK;exact DS (E_ _ _) (by simp)
   clear hcs hs;generalize bK s 256=bs at HPT OS HBL HBs hlen;obtain⟨m,hm⟩:=ag bs.length;rw[<-hm]at HBs hlen;have HM:=AM hm;clear hm
   gi_wp2_with (gi_at_call 236;refine(IN.2 (HBs _)).mono ?_;rintro e w1 ⟨v,rfl,h1,h2⟩;obtain⟨gb,ba,amN,rfl,h3⟩:=xZ h1 HM;have H2:=AM h2;have H3:=AM h3;clear h1 h2 h3)
   obtain⟨T',OT⟩:=ag (fun x=>T x\/(0<m/\x=gb):Nat->Prop);have hx1:aa wo w1:=((Ext.refl wo).alloc _).below.trans (H2.mono (by simp));have hsz:wo.heap.size<=w1.heap.size:=hx1.size;have hTb:∀ x,T' x->W.heap.size<=x/\x<w1.heap.size:=fun x hx=>by
    rw[OT]at hx;rcases hx with hx | ⟨h0,rfl⟩
    ·have:=HT.out x hx;omega
    ·rcases H3.out with h | ⟨_,h1,h2,_⟩
     ·omega
     ·have:=HR.size;simp at h1;omega
   have hj1:J (ct (p.take k)) T' w1:=HJ.out _ T T' wo w1 HJo HT hTb (fun x hx=>by rw[OT];exact .inl hx) (fun x hx=>by
    rw[OT]at hx;rcases hx with hx | ⟨h0,rfl⟩
    ·exact .inl hx
    ·rcases H3.out with h | ⟨_,h1,h2,_⟩
     ·omega
     ·simp at h1;exact .inr (by omega)) ⟨ae.aj hx1 fun _ h=>h.1,fun h=>(by cases h)⟩
   have mj:ae (· =g) W w1:=HR.tr (ae.aj hx1 fun x h=>by have h1:=(XU.keeps HR rfl).1;rw[show x=g from h];exact h1);have H3':Hid (m=0\/ba=An ⟨gb,0,AF⟩/\T' gb/\∀ i c:Nat,bs[i]? =An c->w1.cell? ⟨gb,i,AF⟩=An (As K_ c)):=by
    by_cases nZ:m=0
    ·exact .inl nZ
    ·rcases H3.out with h | ⟨h1,_,_,h4⟩
     ·exact absurd h nZ
     ·exact .inr ⟨h1,by rw[OT];exact .inr ⟨by omega,rfl⟩,h4⟩
   have HJ1:=AM hj1;have Lc:=AM mj;have HTb:=AM hTb;clear OT hx1 hsz hTb hj1 mj H3 H2 HJo HT HR d0 d1 d2 d3 HBs
   gi_loopw [20] (fun i w2=>∃ j:Nat,j<=m/\i=As Kx j/\J (ct (p.take k)++(bs.take j).map fun c=>(k,c)) T' w2/\ae (fun x=>x=g\/T' x) w1 w2) (fun i _=>m-(intOf i).toNat)
   case atStart=>
    refine⟨0,by omega,rfl,?_,ae.refl _ _⟩;rw[List.take_zero,d_,IF];exact HJ1
   case round=>
    obtain⟨w2,rfl⟩:=ag (wr:AT);obtain⟨j,hj,rfl,XY,VS⟩:=hrel;have HJJ:=AM XY;have Cp:=AM VS;clear XY VS HJ1;by_cases F5:j<m
    ·obtain⟨XZ,hg,hcb⟩:=H3'.resolve_left (by omega)
     subst XZ;obtain⟨c,hc⟩:∃ c,bs[j]? =An c:=⟨_,aB (by have:=HM.out;omega)⟩;have kP:c<256:=HBL.out c (ax hc);have e0:w2.cell? ⟨gb,j,AF⟩=An (As K_ c):=(Cp.cell (p:=⟨gb,j,AF⟩) (.inr hg)).trans (hcb j c hc);have er:(bs.take (j+1)).map (fun c=>(k,c))=(bs.take j).map (fun c=>(k,c))++ [(k,c)]:=by rw[F_,hc];simp
     have NH:(ct (p.take k)++(bs.take j).map fun c=>(k,c))++ [(k,c)]<+:ct p:=by have:=OS.out (j+1);rw[er, <-L_]at this;exact this
     obtain⟨fn,tm,Cv,bd,hy,De⟩:=HY.out _ (k,c) T' w2 NH (fun x hx=>⟨(HTb x hx).1,ay (HTb x hx).2 Cp.size⟩) (Lc.tr (Cp.mono fun x hx=>.inl hx)) HJJ;have NI:=AM De;have pM:=AM er;have HPJ:=AM NH;clear De hg hcb hc er NH;dsimp only at hy
     gi_wp2
     refine NI.mono ?_;rintro e W2 (⟨rfl,kN,hk2⟩ | ⟨rfl,kN,hk2⟩)
     ·have uz:=AM kN
      have pL:=AM hk2;clear kN hk2 hy
      gi_wp2
      go_roundw
      case rel=>
       refine⟨j+1,by omega,by go_num,?_,Cp.tr (pL)⟩;rw[pM.out, <-L_];exact uz
      case measure=>simp[intOf];omega
     ·have uz:=AM kN
      have pL:=AM hk2;clear kN hk2 hy
      gi_wp2
      refine B' (O_ rfl _ _ _) rfl ?_;exact⟨⟨_,rfl⟩,T',fun x hx=>⟨(HTb x hx).1,ay (HTb x hx).2 (DS Cp.size pL.size)⟩,.inr ⟨_,HPJ,uz⟩⟩
    ·obtain rfl:j=m:=by omega
     gi_wp2
     go_roundw
     case rel=>
      refine⟨k+1,T',by omega,by go_num,?_,fun x hx=>⟨(HTb x hx).1,ay (HTb x hx).2 Cp.size⟩,Lc.tr (Cp.mono fun x hx=>.inl hx)⟩;rw[HPT.out];have:=HJJ.out;rwa[HM.out,Is]at this
     case measure=>simp[intOf];omega
  ·obtain rfl:k=n:=by omega
   gi_wp2
   refine bodyPost_end (O_ rfl _ _ _) rfl ?_;refine⟨⟨_,rfl⟩,T,HT,.inl ?_⟩;have:=HJo.out;rwa[HP.out,Is]at this
theorem x8 {w:AT} {base n:Nat} {v:Value} {p:List BS} (h:w.ownsRow base 56 4 v n (aL p)) (hn:n=p.length):∃ sa cap,v=Bs sa n cap/\((p=[]/\n=0)\/∃ g,ve w g sa p):=by
 rcases h.2 with⟨h1,h2⟩ | ⟨g,cap,cur,hv,hb,hg,_⟩
 ·exact⟨AF,0,by rw[h1,h2],.inl ⟨Cd (by omega),h2⟩⟩
 ·refine⟨_,cap,hv,.inr ⟨g,(A'.1 hg).1,fun i s hi=>?_⟩⟩
  obtain⟨g',cap',h6,h7,h8,h9⟩:=jf h hn hi;rw[hv]at h6;cases h6;exact⟨rfl,h9⟩
theorem Aq (v:Value):Tryz.zeroCells263.setIfInBounds 256 v=fG (dL []) v:=by kernel_rfl
theorem Pe (p:List BS) (v:Value) (base:Nat) (w:AT) (h:w.ownsRow base 56 4 v p.length (aL p)) (hb:base<=w.heap.size) (hp:p.length<=256): ah 167 #[v] w fun e w'=>∃ b,e=AI (AS (An ⟨b,0,AF⟩))/\cQ w' base (AS (An ⟨b,0,AF⟩)) p/\aa w w':=by
 have eg:∀ args w,(callFunc 235 args).run Bm w=.ok (.enter 235 args) w:=If ff (by kernel_rfl) rfl;obtain⟨n,hn⟩:=ag p.length;rw[<-hn]at h;obtain⟨sa,cap,rfl,hrow⟩:=x8 h hn;have H:=AM h;have HR:=AM hrow;have HN:=AM hn;have HP:=AM hp;have HB:=AM hb;clear h hrow hn hp hb;refine cd Tryz.func167 rfl ?_;simp only[Tryz.ntmps167,FF,DE,GS,It,Iv,DP,DQ,FG,D0,D',GB];go_wp2_with (go_at_call 211;refine(Ap _ _).mono ?_;rintro e w1 ⟨rfl,rfl⟩);rw[Aq];refine aw ?_;intro W0 hW0;have hab:ar W0 w.heap.size (fG (dL []) (Bs sa n cap)) 263:=by rw[hW0];exact((ar.new _ _ _).alloc _).alloc _
 have yL:ar W0 (w.heap.size+1) #[AS (An ⟨w.heap.size,0,AF⟩)] 190:=by rw[hW0];exact((ar.new _ _ _).at (by simp)).alloc _
 have od:ar W0 (w.heap.size+1+1) #[AS (An ⟨w.heap.size,0,AF⟩)] 190:=by rw[hW0];exact(ar.new _ _ _).at (by simp)
 have hx0:Ext w W0:=by rw[hW0];exact(((Ext.refl w).alloc _).alloc _).alloc _
 have hsz:W0.heap.size=w.heap.size+1+1+1:=by rw[hW0];simp
 clear hW0;obtain⟨g,hg,hr⟩:∃ g,(g≠w.heap.size/\g≠w.heap.size+1/\g<W0.heap.size)/\ve W0 g sa p:=by
  rcases HR.out with⟨h1,_⟩ | ⟨g,h1⟩
  ·exact⟨w.heap.size+1+1,⟨by omega,by omega,by omega⟩,by omega,fun i s hi=>by rw[h1]at hi;simp at hi⟩
  ·exact⟨g,⟨by have:=h1.1;omega,by have:=h1.1;omega,by have:=h1.1;omega⟩,h1.keeps hx0.keeps h1.1⟩
 have hseq:=Dr p (w.heap.size+1+1) w.heap.size g n cap sa W0 HN HP (od.cell 0) od.lt (by rw[hab.cell 256,lH (eO _)]) hab.lt hr;clear hr od;refine ic hseq (by rfl) eg (by intro _;rfl) (by intro k hk;rw[show k=g from hk];exact hg.2.2)
  (fun xs _ W=>ar W w.heap.size (fG (dL xs) (Bs sa n cap)) 263/\ar W (w.heap.size+1) #[AS (An ⟨w.heap.size,0,AF⟩)] 190/\aa w W)
  (fun _ _ _ _=>False)
  (fun xs T T' W W' ⟨h1,h2,h3⟩ hT _ _ _ hk=>⟨h1.mJ hT hk (by omega),h2.mJ hT hk (by omega),ib h3 hT hk (aF _) (by omega)⟩)
  (fun c xs T T' W W' h=>h.elim)
  ⟨hab,yL,hx0.below⟩
  (fun x=>⟨#[Bs sa n cap,J',AS AF,AS (An ⟨w.heap.size+1,0,AF⟩),As Kx x.1,As K_ x.2,Bs sa n cap,DH (fG (dL []) (Bs sa n cap)),AS (An ⟨w.heap.size,0,AF⟩),AS (An ⟨w.heap.size,0,AF⟩),
   .func (.func 235) #[] #[AS (An ⟨w.heap.size+1+1,0,AF⟩)],As Kx x.1,As K_ x.2,J',J',J',J',J',J',J',J'],[]⟩) ?assign ?body ?done ?stop
 case assign=>
  intro l x W K hK
  gi_wp2
  exact hK
 case body=>
  rintro l pre ⟨k,c⟩ T W bO hT _ xO hl ⟨g1,g2,g3⟩;have pN:(k,c)∈ct p:=bO.subset (by simp);obtain⟨s,h1,kP,_⟩:=mR.1 pN;have ajB:k<256:=by have:=(A_.1 h1).1;have:=HP.out;dsimp only at*;omega
  dsimp only at kP;obtain⟨y,hy⟩:∃ y,(dL pre)[c]? =An y:=⟨_,aB (by rw[eO];exact kP)⟩;have c0:W.cell? ⟨w.heap.size+1,0,AF⟩=An (AS (An ⟨w.heap.size,0,AF⟩)):=g2.cell 0;have c1:W.cell? ⟨w.heap.size,c,AF⟩=An (As K_ y):=(g1.cell c).trans (s5 hy);have f1:=g1.frozen c;have oM:=g1.set c (As K_ k);rw[Dp (by rw[eO];exact kP)]at oM;have Lk:=qN pre (k,c);rw[<-Lk]at oM;have GK:=AM oM;have HG2:=AM (g2.other (p:=⟨w.heap.size,c,AF⟩) (by simp) (As K_ k));have HG3:=AM (g3.setCell (p:=⟨w.heap.size,c,AF⟩) (aF _) (As K_ k));have HT:=AM hT;have HG:=AM hg;have lF:=AM hsz;clear oM Lk g1 g2 g3 hT hy h1 pN xO hl hg hsz hab yL hx0 bO hseq
  gi_wp2
  refine⟨(ae.refl _ _).setCell (fun h=>?_) _,GK,HG2,HG3⟩;have hgg:=HG.out;have hss:=lF.out;rcases h with h | h
  ·exact hgg.1 h.symm
  ·have:=(HT.out _ h).1;dsimp only at this;omega
 case done=>
  rintro D T W hD xR hT ⟨g1,g2,g3⟩ mB;have c0:W.cell? ⟨w.heap.size+1,0,AF⟩=An (AS (An ⟨w.heap.size,0,AF⟩)):=g2.cell 0;have G1:=AM g1;have G3:=AM g3;have HD:=AM hD;have lF:=AM hsz;have xF:=AM mB;clear g1 g2 g3 hsz hT xR mB hD hg hab yL hx0 hseq;dsimp only;go_wp2;refine di rfl xF (results_tmp rfl _ _ _) ⟨_,rfl,.inr ⟨_,_,rfl,HB,G1.put (by have:=HD.out;have:=lF.out;omega) _,?_,HP⟩,((ae.aj G3 (fun _ h=>h)).putObj (by have:=HD.out;have:=lF.out;omega) _).below⟩;have h1:=ak H (ae.aj G3 fun _ h=>h) (fun k e=>(H.lt k e).2);rw[HN.out]at h1;rw[<-HN.out,HN.out];exact Z_ h1 _ xF rfl
 case stop=>rintro D c pre T W _ _ _ _ h _;exact h.elim
end
section
open Go Go.RowKit Go.Shelf Go.Maps
attribute [local go_sem] encS
theorem bw.below {α:Type} {enc:α->Value} {w w':AT} {v:Value} {l:List α} (h:bw enc w v l) (hk:aa w w'):bw enc w' v l:=by
 rcases h with h | ⟨b,off,cap,hv,hb,hc,h⟩
 ·exact .inl h
 ·exact .inr ⟨b,off,cap,hv,ay hb hk.size,hc,fun i x hi=>(hk.cell (p:=⟨b,off+i,AF⟩) hb).trans (h i x hi)⟩
theorem bw.form {α:Type} {enc:α->Value} {w:AT} {v:Value} {l:List α} (h:bw enc w v l):∃ a cap,v=Bs a l.length cap:=by
 rcases h with⟨h,rfl⟩ | ⟨b,off,cap,hv,_⟩
 ·exact⟨_,_,h⟩
 ·exact⟨_,_,hv⟩
theorem bw.elem {α:Type} {enc:α->Value} {w:AT} {a:Option gd} {n cap:Nat} {l:List α} (h:bw enc w (Bs a n cap) l) {i:Nat} {x:α} (hi:l[i]? =An x):∃ b off,a=An ⟨b,off,AF⟩/\b<w.heap.size/\w.cell? ⟨b,off+i,AF⟩=An (enc x):=by
 rcases h with⟨_,rfl⟩ | ⟨b,off,cap,hv,hb,hc,h⟩
 ·simp at hi
 ·cases hv;exact⟨b,off,rfl,hb,h i x hi⟩
theorem bU {α:Type} {enc:α->Value} {w:AT} {base n:Nat} {v:Value} {e:S'} {l:List α} (h:w.ownsRow base e 1 v n (l.map enc)) (hn:n=l.length):bw enc w v l:=by
 rcases h.2 with⟨h1,h2⟩ | ⟨g,cap,cur,hv,hb,hg,hc,_,hs,ht⟩
 ·exact .inl ⟨h1,Cd (by omega)⟩
 ·refine .inr ⟨g,0,cap,by rw[hv,hn],(A'.1 hg).1,by omega,fun i x hi=>?_⟩
  have hlt:i<l.length:=(A_.1 hi).1;have hc:w.cell? ⟨g,0+i,AF⟩=cur[i]? :=by simp[L7,hg]
  have h3:cur[i]? =(l.map enc)[i]? :=by rw[<-ht,D_,if_pos (by omega)];simp
  rw[hc,h3,aN,hi];rfl
theorem Tryz.ki:(Bm.info? 3).map (fun i=>(i.zero,i.size,i.bytes))=An (An (As Kx 0),1,8):=by kernel_rfl
def cK (n:Nat):Value:=As Kx n
def aG (k:Int):Value:=As Kx k
theorem Dt (l:List BS):(partsOf l).length<=256:=by unfold partsOf;rw[RC];exact eo l
theorem lI (l:List BS) (v0:Value) (w:AT) (hl:cU w v0 l) (hlen:l.length<=9223372036854775807): ah 110 #[v0] w fun e w'=>∃ b,e=AI (AS (An ⟨b,0,AF⟩))/\cQ w' w.heap.size (AS (An ⟨b,0,AF⟩)) (partsOf l)/\aa w w':=by have HP:=AM (yN l v0 w hl hlen);have HL:=AM (Dt l);clear hl;generalize partsOf l=p at HP HL ⊢;go_enter Tryz.func110,Tryz.ntmps110;go_wp2_with (first | (go_at_call 64;refine HP.mono ?_;rintro e w1 ⟨v1,rfl,h1,h2⟩;have H1:=AM h1;have H2:=AM h2;clear h1 h2) | (go_at_call 167;refine(Pe p _ w.heap.size _ H1 H2.size HL).mono ?_;rintro e w2 ⟨b,rfl,h1,h2⟩;have H3:=AM h1;have H4:=AM h2;clear h1 h2));go_ret;exact⟨b,rfl,H3,H2.trans (H4.mono H2.size)⟩
end
section
open Go Go.RowKit Go.Shelf Go.Maps
attribute [local go_sem] encS
end
section
open Go Go.RowKit Go.Shelf Go.Maps
attribute [local go_sem] encS
end
section
open Go Go.RowKit Go.Shelf Go.Maps
attribute [local go_sem] encS
end
section
open Go Go.RowKit Go.Shelf Go.Maps
theorem gz (l:List BS):∀ u∈aL l,u.oneCell'=true:=by intro u hu;unfold aL at hu;obtain⟨s,_,hs⟩:=N_.1 hu;simp[encS]at hs;rcases hs with rfl | rfl | rfl | rfl<;>rfl
theorem cQ.row {w:AT} {base:Nat} {v:Value} {s:BS} {p:List BS} (h:cQ w base v (s::p)): ∃ b g cap,v=AS (An ⟨b,0,AF⟩)/\b<w.heap.size/\g<w.heap.size/\w.cell? ⟨b,256,AF⟩=An (Bs (An ⟨g,0,AF⟩) (s::p).length cap)/\ ∀ j u,(aL (s::p))[j]? =An u->w.cell? ((⟨g,0,AF⟩:gd).add j)=An u:=by
 rcases h with⟨_,h⟩ | ⟨b,sl,h1,h2,h3,h4,h5⟩
 ·cases h
 ·obtain⟨g,cap,e,_,hg,_⟩:=jf (i:=0) (s:=s) h4 rfl rfl
  subst e;refine⟨b,g,cap,h1,h3.lt,hg,?_,h4.cells rfl⟩;have:=h3.cell 256;rw[lH (jg _)]at this;exact this
def Ar (p q:List BS) (w:AT) (e:Ending) (w':AT):Prop:=
 if p.isEmpty || q.isEmpty then e=AI (AS AF)/\aa w w' else ∃ b,e=AI (AS (An ⟨b,0,AF⟩))/\cQ w' w.heap.size (AS (An ⟨b,0,AF⟩)) (partsOf (p++q))/\aa w w'
theorem Pf (v v2:Value) (base VT:Nat) (p q:List BS) (w:AT) (h:cQ w base v p) (h2:cQ w VT v2 q): ah 121 #[v,v2] w (Ar p q w):=by
 have gS:=AM (mS v base p w h);have pO:=AM (mS v2 VT q w h2);cases p with
 | nil=>
  rw[show([]:List BS).isEmpty=Lo from rfl]at gS;clear h h2;go_enter X_,SO;go_wp2_with fail
  refine(gS).mono ?_;rintro e w' ⟨rfl,hw⟩;replace hw:=hw.symm;subst hw;go_wp2;go_ret;exact⟨rfl,Below.refl _ _⟩
 | cons s p=>
  rw[show(s::p).isEmpty=C' from rfl]at gS;cases q with
  | nil=>
   rw[show([]:List BS).isEmpty=Lo from rfl]at pO;clear h h2;go_enter X_,SO;go_wp2_with fail
   refine(gS).mono ?_;rintro e w' ⟨rfl,hw⟩;replace hw:=hw.symm;subst hw;go_wp2_with fail
   refine(pO).mono ?_;rintro e w' ⟨rfl,hw⟩;replace hw:=hw.symm;subst hw;go_wp2;go_ret;exact⟨rfl,Below.refl _ _⟩
  | cons t q=>
   rw[show(t::q).isEmpty=C' from rfl]at pO;have hj:∀ e w',(∃ b,e=AI (AS (An ⟨b,0,AF⟩))/\cQ w' w.heap.size (AS (An ⟨b,0,AF⟩)) (partsOf ((s::p)++(t::q)))/\aa w w')->Ar (s::p) (t::q) w e w':=fun e w' h=>h
   obtain⟨i0,hi,hz0,hz1,hz2⟩:=ZD Tryz.yM;obtain⟨b,g,cap,rfl,hb,hg,hc,hr⟩:=h.row;obtain⟨b2,g2,ags,rfl,hb2,hg2,hc2,hr2⟩:=h2.row;have hle:=h.le;have agt:=h2.le;generalize Ar (s::p) (t::q) w=J at*;generalize s::p=p at*;generalize t::q=q at*;obtain⟨n,hn⟩:=ag p.length;obtain⟨m,hm⟩:=ag q.length;rw[<-hn]at hc hle;rw[<-hm]at hc2 agt;have HNn:=AM hn;have HMm:=AM hm;have HR:=AM hr;have HR2:=AM hr2;have HJ:=AM hj;clear h h2 hr hr2 hn hm hj;go_enter X_,SO;go_wp2_with fail
   refine(gS).mono ?_;rintro e w' ⟨rfl,hw⟩;replace hw:=hw.symm;subst hw;go_wp2_with fail
   refine(pO).mono ?_;rintro e w' ⟨rfl,hw⟩;replace hw:=hw.symm;subst hw;go_wp2;refine eK (fun x=>x<w.heap.size) (by kernel_rfl) (fun i=>i==0 || i==5 || i==10 || i==11) (by kernel_rfl) ?_;intro C hC hne W0 yJ hblk hsz hx0;have HC:=AM hC;have NJ:=AM yJ;have Lb:=AM hx0;refine ee.out ?_;have f1:=dh hC (p:=⟨b,256,AF⟩) hb hc;have f2:=dh hC (p:=⟨b2,256,AF⟩) hb2 hc2;have HSz:=AM hsz;clear hC yJ hblk hsz hx0 hc hc2;refine eX (fun K hK=>?_);refine Ol rfl rfl ?_;go_simp;have k1:=NJ.alloc (fun x hx=>ay hx NJ.size) (.cells #[] 56 (0,0));refine⟨(HC _).2 k1,hK _ _ ?_⟩;clear hK K;have Lc:=AM k1;clear k1;have o1:(W0.alloc (.cells #[] 56 (0,0))).ownsRow W0.heap.size 56 4 (Bs (An ⟨W0.heap.size,0,AF⟩) 0 0) 0 []:=⟨rfl,.inr ⟨W0.heap.size,0, #[],rfl,aF _,RE _ _,aF _,by simp,rfl,rfl⟩⟩;have Js:=AM o1;clear o1
   repeat (refine eX (fun K hK=>?_);first | (refine lexN rfl ?_;try go_simp;refine hK _ _ ?_;clear hK K) | (refine TH rfl rfl ?_;unfold az;go_simp;refine hK _ _ ?_;clear hK K))
   refine eX (fun K hK=>?_);refine Ol rfl rfl (qD (.tmp 11) (.tmp 15) 26 rfl (W0.heap.size) 56 i0 (DH #[As AN 0,As AN 0,As AN 0,As AN 0]) 4 32 H_ hi hz0 hz1 hz2 rfl (by decide) _ (0) _ rfl (Js) (⟨g,0,AF⟩) (n) (cap) (aL p) rfl (by rw[cG,HNn.out]) (fun j u hj=>(Lc.cell (p:=(⟨g,0,AF⟩:gd).add j) (by rw[Addr.add_mid];exact hg)).trans (HR j u hj)) (gz p) (by unfold maxLen;omega) (by omega) (by simp) ?_);intro v2 w2 ho hgr hat;obtain⟨a2,c2,rfl⟩:=ownsRow_form ho;go_simp;have k2:ae (fun x=>x<w.heap.size) w w2:=Lc.tr (ae.aZ hgr (fun x hx=>⟨ay hx Lc.size,fun e=>by have:=Js.lt x e.symm;have:=NJ.size;omega⟩));refine⟨(HC _).2 k2,hK _ _ ?_⟩;rw[V_,D']at ho;have jF:=AM ho;have pL:=AM k2;have S2:=AM (DS (DS (aF _) (by simp:W0.heap.size<=(W0.alloc (.cells #[] 56 (0,0))).heap.size)) hgr.size);clear hK K ho k2 hgr hat
   repeat (refine eX (fun K hK=>?_);first | (refine lexN rfl ?_;try go_simp;refine hK _ _ ?_;clear hK K) | (refine TH rfl rfl ?_;unfold az;go_simp;refine hK _ _ ?_;clear hK K))
   refine eX (fun K hK=>?_);refine Ol rfl rfl (qD (.tmp 16) (.tmp 20) 26 rfl (W0.heap.size) 56 i0 (DH #[As AN 0,As AN 0,As AN 0,As AN 0]) 4 32 H_ hi hz0 hz1 hz2 rfl (by decide) _ (n) _ rfl (jF) (⟨g2,0,AF⟩) (m) (ags) (aL q) rfl (by rw[cG,HMm.out]) (fun j u hj=>(pL.cell (p:=(⟨g2,0,AF⟩:gd).add j) (by rw[Addr.add_mid];exact hg2)).trans (HR2 j u hj)) (gz q) (by unfold maxLen;omega) (by omega) (S2) ?_);intro v3 w3 ho hgr hat;obtain⟨a3,c3,rfl⟩:=ownsRow_form ho;go_simp;have k3:ae (fun x=>x<w.heap.size) w w3:=pL.tr (ae.aZ hgr (fun x hx=>⟨ay hx pL.size,fun e=>by have:=jF.lt x e.symm;have:=NJ.size;omega⟩));refine⟨(HC _).2 k3,hK _ _ ?_⟩;have o3:w3.ownsRow W0.heap.size 56 4 (Bs a3 (n+m) c3) (p++q).length (aL (p++q)):=by
    rw[aJ, <-HNn.out, <-HMm.out,gy];exact ho
   have HI3:=AM (je o3);have VP:=AM k3;clear hK K ho k3 hgr hat o3;have HS:=AM (fun x (hx:x<w.heap.size)=>hx);refine eX (fun K hK=>?_);refine Ol rfl rfl ?_;go_simp;refine eJ ((lI (p++q) _ _ HI3 (by rw[aJ, <-HNn.out, <-HMm.out];omega)).mono ?_);rintro e w4 ⟨bo,rfl,h1,hx⟩;have hk4:=ae.VJ VP HS hx;refine⟨_,rfl,(HC _).2 hk4,hK _ _ ?_⟩;have HK4:=AM hk4;clear hK K hk4
   repeat (refine eX (fun K hK=>?_);first | (refine lexN rfl ?_;try go_simp;refine hK _ _ ?_;clear hK K) | (refine TH rfl rfl ?_;unfold az;go_simp;refine hK _ _ ?_;clear hK K))
   refine CU ?_;go_wp2;exact HJ _ _ ⟨bo,rfl,h1.base VP.size,HK4.below⟩
end
end Go.Proofs.YtjgccapbphadjaaGreatDoor
