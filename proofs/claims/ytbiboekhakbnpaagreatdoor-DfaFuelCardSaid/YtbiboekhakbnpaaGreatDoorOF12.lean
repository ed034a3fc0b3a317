/- (*maker).step: what a row of state sets leads to by a byte. -/
import Derived.Test.YtbiboekhakbnpaaGreatDoorOF11
import Derived.Lib.ItoaLen
set_option maxRecDepth 100000
set_option maxHeartbeats 16000000
open Go.Lib (hid)
namespace Go.Proofs.YtbiboekhakbnpaaGreatDoor
open Go Go.RowKit Go.Shelf Go.Maps
def gO (W:World):Prop:=Lib.TabIs Tryz.prog W "internal/strconv.uint64pow10" .u64 Lib.pow10Tab
theorem IG {P:Program} {w w':World} {name:String} (hk:∀ b,b<w.heap.size->w'.heap[b]? =w.heap[b]?) {x:Array Value} (h:w.var? P name=some x):w'.var? P name=some x:=by
 unfold World.var? at*;cases hg:P.globalNamed name with
 | none=>rw[hg]at h;cases h
 | some g=>
  rw[hg]at h;simp only[Option.bind_some]at h ⊢;rcases Nat.lt_or_ge g w.heap.size with h1 | h1
  ·rw[hk g h1];exact h
  ·rw[Array.getElem?_eq_none h1]at h;cases h
theorem gO.below {w w':World} (h:gO w) (hk:Below w.heap.size w w'):gO w':=IG (fun b hb=>hk.block b hb) h
theorem Bo (x:Int) (h0: -9223372036854775808<=x) (h1:x<=9223372036854775807):(qu x).length<=22:=by unfold qu;rw[List.length_append];have:=Lib.itoa_length_le x h0 h1;simp;omega
def RowK (row:List (List Int)):Prop:=row.length<=64/\∀ l∈row,l.length<=401/\∀ x∈l, -1<=x/\x<=400
theorem II {l:List Int} (h:∀ x∈l, -1<=x/\x<=400):(dN l).length<=22*l.length:=by
 induction l with
 | nil=>simp[dN]
 | cons p l ih=>
  rw[iJ,List.length_append,List.length_cons];have h1:=Bo p (by have:=(h p (List.mem_cons_self ..)).1;omega) (by have:=(h p (List.mem_cons_self ..)).2;omega);have h2:=ih fun x hx=>h x (List.mem_cons_of_mem _ hx)
  omega
theorem LS {row:List (List Int)} {N:Nat} (h:∀ l∈row,l.length<=N/\∀ x∈l, -1<=x/\x<=400):(fG row).length<=(22*N+1)*row.length:=by
 induction row with
 | nil=>simp[fG]
 | cons l row ih=>
  rw[jK,List.length_append,List.length_cons];have h1:=h l (List.mem_cons_self ..);have h2:=II h1.2;have h3:=ih fun x hx=>h x (List.mem_cons_of_mem _ hx)
  have h4:(rv l).length=(dN l).length+1:=by unfold rv;simp
  have h5:22*l.length<=22*N:=Nat.mul_le_mul_left _ h1.1;rw[Nat.mul_add,Nat.mul_one];omega
theorem RowK.len {row:List (List Int)} (h:RowK row):(fG row).length<=564672:=by have h1:=LS h.2;have h2:(22*401+1)*row.length<=(22*401+1)*64:=Nat.mul_le_mul_left _ h.1;omega
theorem RowK.in {row:List (List Int)} (h:RowK row):nr row:=by have:=h.len;unfold nr maxLen;omega
theorem pD (row:List (List Int)) (k:Nat):(fG (row.take k)).length<=(fG row).length:=by
 conv=>rhs;rw[<-List.take_append_drop k row]
 unfold fG;rw[List.flatMap_append,List.length_append];omega
theorem IJ (row:List (List Int)) (l:List Int):fG (row++ [l])=fG row++dN l++ [59]:=by unfold fG;rw[List.flatMap_append];simp[rv]
theorem ES (l:List Int) (p:Int):dN (l++ [p])=dN l++qu p:=by unfold dN;rw[List.flatMap_append];simp
theorem ET (n:Nat) (w:World) (k:Nat) (os:Array Obj) (hn:n<=w.heap.size):Below n w (Sort.grow (w.drewN k) os) where
 os:=rfl
 tape:=rfl
 output:=rfl
 size:=by unfold Sort.grow;simp[World.drewN]
 block:=fun b hb=>by unfold Sort.grow;show((w.drewN k).heap++os)[b]? =_;rw[Array.getElem?_append_left (by show b<w.heap.size;omega)];rfl
theorem rP {T e:TypeId} {B b:Nat} {bs:List Value} {w w':World} (h:Lib.IsBuilderF T e B b bs w) (hk:Below w.heap.size w w'):Lib.IsBuilderF T e B b bs w':=by
 have key:∀ p,Lib.BuilderAtF T e B b p bs w->Lib.BuilderAtF T e B b p bs w':=fun p h=>by
  have hlt:=h.lt;obtain⟨h1,v,h2,⟨h3,h4⟩,h5⟩:=h;refine⟨h1,v,(hk.block b hlt).trans h2,⟨h3,?_⟩,h5⟩;rcases h4 with h4 | ⟨g,cap,cur,fz,e1,e2,e3,rest⟩
  ·exact .inl h4
  ·exact .inr ⟨g,cap,cur,fz,e1,e2,(hk.block g (Array.getElem?_eq_some_iff.1 e3).1).trans e3,rest⟩
 exact h.imp (key _) (key _)
theorem vS (l m:List UInt8):Lib.byteCells l++Lib.strCells ⟨m.toArray⟩=Lib.byteCells (l++m):=by unfold Lib.byteCells Lib.strCells;simp
theorem vT (l:List UInt8) (c:UInt8):Lib.byteCells l++ [.int .u8 c.toNat]=Lib.byteCells (l++ [c]):=by unfold Lib.byteCells;simp
theorem Qg (v:Value) (row:List (List Int)) (rk:RowK row) (w:World) (h:lG w v row) (Ug:∀ W,Below w.heap.size w W→gO W): Calls Tryz.prog 118 #[v] w fun e w'=>e=.returned (qw row)∧Below w.heap.size w w':=by
  obtain⟨a,c,rfl⟩:=h.form;obtain⟨n,hn⟩:∃ n,n=row.length:=⟨_,rfl⟩;obtain⟨R,hR⟩:∃ R,R=qw row:=⟨_,rfl⟩;rw[←hn]at h ⊢;rw[←hR];have qx:n≤64:=by rw[hn];exact rk.1
  have KL:=hid rk.len;have H:=hid h;have HN:=hid hn;have HR:=hid hR;have HT:=hid Ug;have RK:=hid rk.2;have CI:Hid (∀ (x:Int) (W:World), -1≤x→x≤400→Below w.heap.size w W→Calls Tryz.prog 154 #[.int .i64 x] W fun e w'=>e=.returned (.string ⟨(Lib.itoa x).toArray⟩)∧Below W.heap.size W w'):=hid fun x W h0 h1 hW=>(Any.strconv_Itoa Tryz.Yg x (by omega) (by omega) W (Ug W hW)).mono fun e w' ⟨he,k,os,hw⟩=>⟨he,by rw[hw];exact ET _ _ _ _ (Nat.le_refl _)⟩
  have CW:Hid (∀ (B b:Nat) (bs:List Value) (s:ByteArray) (W:World),Lib.IsBuilderF 213 5 B b bs W→bs.length+s.size≤140737488355328→B≤W.heap.size→Calls Tryz.prog 153 #[.pointer (some ⟨b,0,none⟩),.string s] W fun e w'=>e=.returned (.tuple #[.int .i64 s.size,.nilIface])∧(Lib.BuilderAtF 213 5 B b (.pointer (some ⟨b,0,none⟩)) (bs++Lib.strCells s) w'∧Below B W w')):=hid fun B b bs s W h1 h2 h3=>(Any.Builder_WriteString_k Tryz.Yh Tryz.Yi B b bs s W h1 h2 h3).mono fun e w' ⟨he,h4,h5,_⟩=>⟨he,h4,h5⟩
  have CB:Hid (∀ (B b:Nat) (bs:List Value) (x:Int) (W:World),Lib.IsBuilderF 213 5 B b bs W→bs.length+1≤140737488355328→B≤W.heap.size→Calls Tryz.prog 155 #[.pointer (some ⟨b,0,none⟩),.int .u8 x] W fun e w'=>e=.returned .nilIface∧(Lib.BuilderAtF 213 5 B b (.pointer (some ⟨b,0,none⟩)) (bs++ [.int .u8 x]) w'∧Below B W w')):=hid fun B b bs x W h1 h2 h3=>(Any.Builder_WriteByte_k Tryz.Yj Tryz.Yk B b bs x W h1 h2 h3).mono fun e w' ⟨he,h4,h5,_⟩=>⟨he,h4,h5⟩
  have CS:Hid (∀ (B b:Nat) (l:List UInt8) (W:World),Lib.IsBuilderF 213 5 B b (Lib.byteCells l) W→B≤W.heap.size→Calls Tryz.prog 156 #[.pointer (some ⟨b,0,none⟩)] W fun e w'=>e=.returned (.string ⟨l.toArray⟩)∧Below B W w'):=hid fun B b l W h1 h3=>(Any.Builder_String_any_k Tryz.Ye Tryz.Yf B b l W h1 h3).mono fun e w' ⟨he,_,h5,_⟩=>⟨he,h5⟩
  clear h hn hR Ug rk;go_enter Tryz.func118,Tryz.ntmps118;go_wp2;go_loopw [10] (fun iv wr=>∃ k:Nat,k≤n∧iv=.int .i64 k∧Lib.IsBuilderF 213 5 w.heap.size w.heap.size (Lib.byteCells (fG (row.take k))) wr∧Below w.heap.size w wr) (fun iv _=>n-(intOf iv).toNat)
  case atStart=>
    exact⟨0,by omega,rfl,Lib.IsBuilderF.of (Lib.fresh_isBuilder 213 5 w),((Ext.refl w).alloc _).below⟩
  case round=>
    obtain⟨k,hk,rfl,hb,hx⟩:=hrel;have HB:=hid hb;have HX:=hid hx;have hle:=pD row k;have HLE:=hid hle;clear hb hx hle;obtain⟨wo,rfl⟩:∃ wo:World,wo=wr:=⟨_,rfl⟩;by_cases hlt:k<n
    · have ed:(k:Int)<n:=by omega
      obtain⟨l,hl⟩:∃ l,row[k]? =some l:=⟨_,List.getElem?_eq_getElem (by have:=HN.out;omega)⟩;obtain⟨b,off,a',c',rfl,hbl,cl,dI⟩:=H.out.elem hl;have LN:wo.cell? ⟨b,off+k,none⟩=some (.slice a' l.length c'):=((aa.ah HX.out fun _ h=>h:aa (· <w.heap.size) w wo).cell (p:=⟨b,off+k,none⟩) hbl).trans cl;have DC:=hid dI;have RL:=hid (RK.out l (List.mem_of_getElem? hl));have jW:Hid (fG (row.take (k+1))=fG (row.take k)++dN l++ [59]):=hid (by rw[List.take_add_one,hl];exact IJ _ _);have LEN:Hid ((fG (row.take (k+1))).length≤564672):=hid (Nat.le_trans (pD row (k+1)) KL.out);obtain⟨m,hm⟩:∃ m,m=l.length:=⟨_,rfl⟩;have af5:m≤401:=by rw[hm];exact RL.out.1
      have HM:=hid hm;rw[←hm]at LN DC;clear dI hl hm cl;go_wp2;clear LN;go_loopw [16] (fun iv wi=>∃ j:Nat,j≤m∧iv=.int .i64 j∧Lib.IsBuilderF 213 5 w.heap.size w.heap.size (Lib.byteCells (fG (row.take k)++dN (l.take j))) wi∧Below w.heap.size w wi) (fun iv _=>m-(intOf iv).toNat)
      case atStart=>
        exact⟨0,by omega,rfl,by rw[List.take_zero];show Lib.IsBuilderF _ _ _ _ (Lib.byteCells (fG (row.take k)++ [])) _;rw[List.append_nil];exact HB.out,HX.out⟩
      case round=>
        obtain⟨j,hj,rfl,hb,hx⟩:=hrel;have eB:=hid hb;have eZ:=hid hx;clear hb hx
        have vn:(dN (l.take j)).length≤ (dN l).length:=by
          conv=>rhs;rw[←List.take_append_drop j l]
          unfold dN;rw[List.flatMap_append,List.length_append];omega
        have Uh:Hid ((fG (row.take k)++dN (l.take j)).length≤564672):=hid (by have h5:=LEN.out;rw[jW.out,List.length_append,List.length_append]at h5;rw[List.length_append];omega);clear vn;by_cases iz:j<m
        · have jA:(j:Int)<m:=by omega
          obtain⟨x,sr⟩:∃ x,l[j]? =some x:=⟨_,List.getElem?_eq_getElem (by have:=HM.out;omega)⟩;obtain⟨g2,o2,rfl,_,q2⟩:=(DC.out.below eZ.out).elem sr;replace q2:wr.cell? ⟨g2,o2+j,none⟩=some (.int .i64 x):=q2;have Ub:=RL.out.2 x (List.mem_of_getElem? sr);have HTJ:Hid (fG (row.take k)++dN (l.take (j+1))=fG (row.take k)++dN (l.take j)++qu x):=hid (by rw[List.take_add_one,sr];show fG (row.take k)++dN (l.take j++ [x])=_;rw[ES,List.append_assoc]);clear sr;go_wp2_with fail
          clear q2;refine(CI.out x wr Ub.1 Ub.2 eZ.out).mono ?_;rintro e w1 ⟨rfl,hx⟩;have HB3:=hid (rP eB.out hx);have nG:=hid (eZ.out.trans (hx.mono eZ.out.size));clear hx;have hlen:=Lib.itoa_length_le x (by have:=Ub.1;omega) (by have:=Ub.2;omega);have wB:(Lib.itoa x).length+1≤9223372036854775807:=by omega
          have Kn:∀ W,(Op.stringOp .add ⟨(Lib.itoa x).toArray⟩ ⟨#[44]⟩).run Tryz.prog W=.ok (.string ⟨(qu x).toArray⟩) W:=fun W=>by
            rw[run_string_add_lists (P:=Tryz.prog) W (Lib.itoa x) [44] (by omega) (by decide)];rfl
          have hnk:(qu x).length≤22:=Bo x (by have:=Ub.1;omega) (by have:=Ub.2;omega);go_wp2_with fail
          clear Kn
          refine (CW.out _ _ _ _ _ HB3.out (by rw [Lib.byteCells_length]; have h6 := Uh.out; have : (⟨(qu x).toArray⟩ : ByteArray).size = (qu x).length := by simp [ByteArray.size]
                                               omega) nG.out.size).mono ?_
          rintro e w2 ⟨rfl,hb,hx⟩;rw[vS, ←HTJ.out]at hb;have Ud:=hid hb;have Au:=hid (nG.out.trans hx);clear hb hx;go_wp2;exact⟨⟨j+1,by omega,by go_num,.inr Ud.out,Au.out⟩,by simp[intOf];omega⟩
        · obtain rfl:j=m:=by omega
          have jA:¬ ((j:Int)<j):=by omega
          have dw:l.take j=l:=by rw[HM.out,List.take_length]
          rw[dw]at eB Uh;go_wp2_with fail
          refine(CB.out _ _ _ _ _ eB.out (by rw[Lib.byteCells_length];have h6:=Uh.out;omega) eZ.out.size).mono ?_;rintro e w2 ⟨rfl,hb,hx⟩;have hb2:Lib.BuilderAtF 213 5 w.heap.size w.heap.size (.pointer (some ⟨w.heap.size,0,none⟩)) (Lib.byteCells (fG (row.take (k+1)))) w2:=by rw[jW.out, ←vT];exact hb
          have Ud:=hid hb2;have Au:=hid (eZ.out.trans hx);clear hb hb2 hx;go_wp2;exact⟨⟨k+1,by omega,by go_num,.inr Ud.out,Au.out⟩,by simp[intOf];omega⟩
    · obtain rfl:k=n:=by omega
      have jA:¬ ((k:Int)<k):=by omega
      have dw:row.take k=row:=by rw[HN.out,List.take_length]
      rw[dw]at HB;go_wp2_with fail
      refine(CS.out _ _ _ _ HB.out HX.out.size).mono ?_;rintro e w2 ⟨rfl,hx⟩;have Au:=hid (HX.out.trans hx);clear hx;go_wp2;go_ret;exact⟨by rw[HR.out];rfl,Au.out⟩
theorem dO.GK {w:World} {v0 v1 v2 v3 e:Value} {a:NF} (h:dO w (.agg #[v0,v1,v2,v3,e]) a):∃ a0 n0 c0 a1 n1 c1 a2 n2 c2 a3 n3 c3,v0=.slice a0 n0 c0/\v1=.slice a1 n1 c1/\v2=.slice a2 n2 c2/\v3=.slice a3 n3 c3:=by obtain⟨u0,u1,u2,u3,e,h0,h1,h2,h3⟩:=h;obtain⟨a0,c0,rfl⟩:=h0.1.form;obtain⟨a1,c1,rfl⟩:=h1.form;obtain⟨a2,c2,rfl⟩:=h2.form;obtain⟨a3,c3,rfl⟩:=h3.form;cases e;exact⟨_,_,_,_,_,_,_,_,_,_,_,_,rfl,rfl,rfl,rfl⟩
def dh (w:World) (v:Value) (ps:List PT):Prop:=(v=.slice none 0 0/\ps=[])\/∃ b off cap,v=.slice (some ⟨b,off,none⟩) ps.length cap/\b<w.heap.size/\∀ (i:Nat) (x:PT),ps[i]? =some x->
 ∃ v0 v1 v2 v3,dO w (.agg #[v0,v1,v2,v3,.bool x.nf.emp]) x.nf/\w.cell? ⟨b,off+i*7,none⟩=some v0/\w.cell? ⟨b,off+i*7+1,none⟩=some v1/\w.cell? ⟨b,off+i*7+2,none⟩=some v2/\w.cell? ⟨b,off+i*7+3,none⟩=some v3/\
  w.cell? ⟨b,off+i*7+4,none⟩=some (.bool x.nf.emp)/\w.cell? ⟨b,off+i*7+5,none⟩=some (.bool x.A0)/\w.cell? ⟨b,off+i*7+6,none⟩=some (.int .i64 x.mark)
theorem dh.below {w w':World} {v:Value} {ps:List PT} (h:dh w v ps) (hk:Below w.heap.size w w'):dh w' v ps:=by
 rcases h with h | ⟨b,off,cap,hv,hb,h⟩
 ·exact .inl h
 ·have hc:∀ j,w'.cell? ⟨b,j,none⟩=w.cell? ⟨b,j,none⟩:=fun j=>(aa.ah hk fun _ h=>h:aa (· <w.heap.size) w w').cell (p:=⟨b,j,none⟩) hb
  refine .inr ⟨b,off,cap,hv,Nat.lt_of_lt_of_le hb hk.size,fun i x hx=>?_⟩;obtain⟨v0,v1,v2,v3,h0,h1,h2,h3,h4,h5,h6,h7⟩:=h i x hx;exact⟨v0,v1,v2,v3,h0.below hk,(hc _).trans h1,(hc _).trans h2,(hc _).trans h3,(hc _).trans h4,(hc _).trans h5,(hc _).trans h6,(hc _).trans h7⟩
theorem dh.form {w:World} {v:Value} {ps:List PT} (h:dh w v ps):∃ a cap,v=.slice a ps.length cap:=by
 rcases h with⟨rfl,rfl⟩ | ⟨b,off,cap,rfl,_⟩
 ·exact⟨_,_,rfl⟩
 ·exact⟨_,_,rfl⟩
theorem dh.elem {w:World} {a:Option Addr} {n cap:Nat} {ps:List PT} (h:dh w (.slice a n cap) ps) {i:Nat} {x:PT} (hi:ps[i]? =some x): ∃ b off v0 v1 v2 v3,a=some ⟨b,off,none⟩/\b<w.heap.size/\dO w (.agg #[v0,v1,v2,v3,.bool x.nf.emp]) x.nf/\w.cell? ⟨b,off+i*7,none⟩=some v0/\w.cell? ⟨b,off+i*7+1,none⟩=some v1/\w.cell? ⟨b,off+i*7+2,none⟩=some v2/\w.cell? ⟨b,off+i*7+3,none⟩=some v3/\ w.cell? ⟨b,off+i*7+4,none⟩=some (.bool x.nf.emp)/\w.cell? ⟨b,off+i*7+5,none⟩=some (.bool x.A0)/\w.cell? ⟨b,off+i*7+6,none⟩=some (.int .i64 x.mark):=by
 rcases h with⟨_,rfl⟩ | ⟨b,off,c,hv,hb,h⟩
 ·simp at hi
 ·cases hv
  obtain⟨v0,v1,v2,v3,h0,rest⟩:=h i x hi;exact⟨b,off,v0,v1,v2,v3,rfl,hb,h0,rest⟩
def Qh (ps:List PT):Prop:=ps.length<=64/\∀ x∈ps,Nt x.nf/\vR x.nf/\0<=x.mark/\x.mark<=255
theorem ak.seven {w:World} {b:Nat} {x y z u t p q:Value} {ty:TypeId} (h:ak w b #[x,y,z,u,t,p,q] ty):w.cell? ⟨b,0,none⟩=some x/\w.cell? ⟨b,1,none⟩=some y/\w.cell? ⟨b,2,none⟩=some z/\w.cell? ⟨b,3,none⟩=some u/\w.cell? ⟨b,4,none⟩=some t/\w.cell? ⟨b,5,none⟩=some p/\w.cell? ⟨b,6,none⟩=some q:=
 ⟨h.cell 0,h.cell 1,h.cell 2,h.cell 3,h.cell 4,h.cell 5,h.cell 6⟩
def aO.Yl (base:Nat) (e:TypeId) (size n:Nat) (xs:List Value) (x:Value):aO (Move false (fun _=>False)) where
 P:=fun v=>∃ a c,v=.tuple #[.slice a n c,x]
 H:=fun v W=>∀ u,v=.tuple #[u,x]->W.ownsRow base e size u n xs
 jX:=.tuple #[.slice none n 0,x]
 pw:=⟨none,0,rfl⟩
 st:=fun _ _ _ hm _ h u hu=>ag (h u hu) hm.below
theorem IK {base:Nat} {e:TypeId} {size n:Nat} {xs:List Value} {x u:Value} {W:World} (h:W.ownsRow base e size u n xs):∃ a c,(Value.tuple #[u,x])=.tuple #[.slice a n c,x]:=by obtain⟨a,c,rfl⟩:=ownsRow_form h;exact⟨a,c,rfl⟩
theorem IM {base:Nat} {e:TypeId} {size n:Nat} {xs:List Value} {x u:Value} {W:World} (h:W.ownsRow base e size u n xs):∀ u',(Value.tuple #[u,x])=.tuple #[u',x]->W.ownsRow base e size u' n xs:=fun u' e=>by cases e;exact h
theorem IP {ps:List PT} {row:List (List Int)} {c i:Nat} {x:PT} {l:List Int} (hx:ps[i]? =some x) (hl:row[i]? =some l):(bU ps row c)[i]? =some (x.step l c):=by unfold bU;rw[List.getElem?_zipWith,hx,hl]
theorem IQ {ps:List PT} {row:List (List Int)} (h:row.length=ps.length) (c:Nat):(bU ps row c).length=ps.length:=by simp[bU,h]
theorem EU {a:NF} (rt:Nt a) {l:List Int} (h:a.st l=true):l.length<=401:=by
 obtain⟨h1,h2⟩:=cZ h;have hle:=rt.le;have hn:(l.map fun x=>(x+1).toNat).Nodup:=by rw[List.nodup_iff_pairwise_ne,List.pairwise_map];exact h1.imp_of_mem fun {a b} ha hb hab=>by have:=h2 a ha;have:=h2 b hb;omega
 have:=List.Nodup.length_le_of_subset hn (l₂:=List.range 401) fun x hx=>by
  obtain⟨y,hy,rfl⟩:=List.mem_map.1 hx;have:=h2 y hy;exact List.mem_range.2 (by omega)
 simpa using this
theorem yD {ps:List PT} (ok:Qh ps) {row:List (List Int)} (h:nk ps row):RowK row:=by refine⟨by rw[h.1];exact ok.1,fun l hl=>?_⟩;obtain⟨i,hi⟩:=List.getElem?_of_mem hl;have fU:=(List.getElem?_eq_some_iff.1 hi).1;have hx:ps[i]? =some (ps[i]'(by rw[<-h.1];exact fU)):=List.getElem?_eq_getElem _;have rt:=(ok.2 _ (List.mem_of_getElem? hx)).1;have hst:=h.2 i _ l hx hi;refine⟨EU rt hst,fun x hx=>?_⟩;have:=(cZ hst).2 x hx;have:=rt.le;omega
theorem IU (mb:Nat) (pv lv:Value) (ps:List PT) (ok:Qh ps) (row:List (List Int)) (hr:nk ps row) (c:Nat) (hc:c<256) (w:World) (hm:w.cell? ⟨mb,0,none⟩=some pv) (h:dh w pv ps) (hl:lG w lv row): Calls Tryz.prog 83 #[.pointer (some ⟨mb,0,none⟩),lv,.int .u8 c] w fun e w'=>∃ u,e=.returned u/\aC w.heap.size w' u (bU ps row c)/\Below w.heap.size w w':=by
 obtain⟨iL,wW,kQ,kR,kS⟩:=info_parts Tryz.oZ;obtain⟨iI,GN,pE,pF,pG⟩:=info_parts Tryz.qW;obtain⟨pa,pc,rfl⟩:=h.form;obtain⟨la,lc,rfl⟩:=hl.form;obtain⟨n,hn⟩:∃ n,n=ps.length:=⟨_,rfl⟩;have D4:=hr.1;rw[<-hn]at h hm D4;rw[D4]at hl ⊢;have qx:n<=64:=by rw[hn];exact ok.1
 have CS:Hid (∀ (i:Nat) (x:PT) (l:List Int) (v u:Value) (W:World),ps[i]? =some x->row[i]? =some l->dO W v x.nf->bg aF W u l->Calls Tryz.prog 121 #[v,u,.int .u8 c] W fun e w'=>∃ r,e=.returned (.tuple #[r,.int .i64 0])/\w'.ownsRow W.heap.size 3 1 r (x.nf.step l c).length ((x.nf.step l c).map aF)/\Below W.heap.size W w'):=hid fun i x l v u W hx hl hv hu=>by
  have h2:=ok.2 x (List.mem_of_getElem? hx);have hst:=hr.2 i x l hx hl;exact ID v u x.nf h2.1 l hst c hc W hv h2.2.1 hu (Nat.le_trans (EU h2.1 hst) (by decide))
 have SL:Hid (∀ (i:Nat) (x:PT) (l:List Int),ps[i]? =some x->(x.nf.step l c).length<=400):=hid fun i x l hx=>by
  have h2:=(ok.2 x (List.mem_of_getElem? hx)).1.le;unfold NF.step;rw[List.length_map];exact Nat.le_trans (List.length_filter_le _ _) (by simpa using h2)
 have H:=hid h;have HL:=hid hl;have HN:=hid hn;have HRL:=hid D4;have SLn:Hid ((bU ps row c).length=n):=hid (by rw[IQ hr.1, <-hn]);have rQ:mb<w.heap.size:=World.block_lt_of_cell? _ _ hm;clear h hl hr hn D4 ok;go_enter Tryz.func83,Tryz.ntmps83;go_wp2;clear hm;go_loopw [7,17] (fun ov iv wr=>∃ k:Nat,k<=n/\iv=.int .i64 k/\aC w.heap.size wr ov ((bU ps row c).take k)/\Below w.heap.size w wr) (fun _ iv _=>n-(intOf iv).toNat);case atStart=>exact⟨0,by omega,rfl,aC.nil _ _,Below.refl _ _⟩
 case round=>
  obtain⟨k,hk,rfl,ho,hx⟩:=hrel;obtain⟨wo,rfl⟩:∃ wo:World,wo=wr:=⟨_,rfl⟩;have HO:=hid ho;have HX:=hid hx;clear ho hx;by_cases hlt:k<n
  ·have ed:(k:Int)<n:=by omega
   obtain⟨x,hx⟩:∃ x,ps[k]? =some x:=⟨_,List.getElem?_eq_getElem (by have:=HN.out;omega)⟩;obtain⟨l,hl⟩:∃ l,row[k]? =some l:=⟨_,List.getElem?_eq_getElem (by have:=HRL.out;omega)⟩;obtain⟨b,off,v0,v1,v2,v3,rfl,hb,zP,q0,q1,q2,q3,q4,q5,q6⟩:=(H.out.below HX.out).elem hx;obtain⟨b2,kf,a',c',rfl,hb2,cl,dI⟩:=(HL.out.below HX.out).elem hl;have Qi:=hid hx;have HLL:=hid hl;obtain⟨x0,n0,c0,x1,n1,c1,x2,n2,c2,x3,n3,c3,rfl,rfl,rfl,rfl⟩:=zP.GK;have GQ:=hid zP;have DC:=hid dI;have jW:Hid ((bU ps row c).take (k+1)=(bU ps row c).take k++ [x.step l c]):=hid (by rw[List.take_add_one,IP hx hl];rfl);clear hx hl zP dI;obtain⟨sn,pV⟩:∃ z,z=(x.nf.step l c).length:=⟨_,rfl⟩;obtain⟨sx,JY⟩:∃ z,z=(x.nf.step l c).map aF:=⟨_,rfl⟩;have CS1:Hid (∀ (v u:Value) (W:World),dO W v x.nf->bg aF W u l->Calls Tryz.prog 121 #[v,u,.int .u8 c] W fun e w'=>∃ r,e=.returned (.tuple #[r,.int .i64 0])/\w'.ownsRow W.heap.size 3 1 r sn sx/\Below W.heap.size W w'):=hid fun v u W hv hu=>by rw[pV,JY];exact CS.out k x l v u W Qi.out HLL.out hv hu
   have af7:sn<=400:=by rw[pV];exact SL.out k x l Qi.out
   have HSN:=hid pV;have Wp:=hid JY;obtain⟨ln,hln⟩:∃ z,z=l.length:=⟨_,rfl⟩;rw[<-hln]at cl DC;clear pV JY hln;go_wp2;refine au ?_;intro V hV;have BX:Hid (ak V wo.heap.size #[.slice x0 n0 c0,.slice x1 n1 c1,.slice x2 n2 c2,.slice x3 n3 c3,.bool x.nf.emp,.bool x.A0,.int .i64 x.mark] 46):=hid (by rw[hV];exact ak.new wo _ _);have XV:Hid (Below wo.heap.size wo V):=hid (by rw[hV];exact((Ext.refl wo).alloc _).below);have LN:V.cell? ⟨b2,kf+k,none⟩=some (.slice a' ln c'):=((aa.ah XV.out fun _ h=>h:aa (· <wo.heap.size) wo V).cell (p:=⟨b2,kf+k,none⟩) hb2).trans cl;clear hV q0 q1 q2 q3 q4 q5 q6 cl;refine aA false (fun _=>False) (by kernel_rfl) 12 [0,1,0,0,12,28,0,127,255,511,511,1023,4095] (fun i=>i==7) (by kernel_rfl) (fun i=>if i=7 then aO.Yl V.heap.size 3 1 sn sx (.int .i64 0)else aO.any _) ?_;intro C hC hne;have HC:=hid hC;have f0:=ay hC (p:=⟨wo.heap.size,0,none⟩) BX.out.lt (fun h=>h) (BX.out.cell 0);have f1:=ay hC (p:=⟨wo.heap.size,1,none⟩) BX.out.lt (fun h=>h) (BX.out.cell 1);have f2:=ay hC (p:=⟨wo.heap.size,2,none⟩) BX.out.lt (fun h=>h) (BX.out.cell 2);have f3:=ay hC (p:=⟨wo.heap.size,3,none⟩) BX.out.lt (fun h=>h) (BX.out.cell 3);have f4:=ay hC (p:=⟨wo.heap.size,4,none⟩) BX.out.lt (fun h=>h) (BX.out.cell 4);have f5:=ay hC (p:=⟨b2,kf+k,none⟩) (World.block_lt_of_cell? _ _ LN) (fun h=>h) LN;clear hC LN
   repeat (refine ai (fun K hK=>?_);first | (refine br rfl ?_;try go_simp;refine hK _ _ ?_;clear hK K) | (refine aZ rfl rfl ?_;unfold ar;go_simp;refine hK _ _ ?_;clear hK K))
   refine ai (fun K hK=>?_);refine bA rfl rfl (aO.Yl V.heap.size 3 1 sn sx (.int .i64 0)) rfl (fun W hW hN=>?_) (fun v hv=>?_)
   ·have hM:=(HC.out W).1 hW
    clear hW;go_simp;refine aT ((CS1.out _ _ _ ((GQ.out.below XV.out).below hM.below) ((DC.out.below XV.out).below hM.below)).mono ?_);rintro e w2 ⟨vp,rfl,ho,hx⟩;exact⟨_,rfl,Move.ah hx,IK ho,IM (ax ho hM.size)⟩
   obtain⟨ra,rc,rfl⟩:=hv;go_simp;refine hK _ _ ?_;clear hK K
   repeat (refine ai (fun K hK=>?_);first | (refine br rfl ?_;try go_simp;refine hK _ _ ?_;clear hK K) | (refine aZ rfl rfl ?_;unfold ar;go_simp;refine hK _ _ ?_;clear hK K))
   refine aY (fun W hW hH=>?_);have hM:=(HC.out W).1 hW;have R0:Hid (W.ownsRow V.heap.size 3 1 (.slice ra sn rc) sn sx):=hid ((hH _ (List.mem_of_getElem? (show _=some _ from rfl:_[0]? =some _))) _ rfl);have BW:=hid (BX.out.below hM.below BX.out.lt);have XW:=hid (XV.out.trans (hM.below.mono XV.out.size));have hVW:=hM.size;clear hM hW hH HC hne f0 f1 f2 f3 f4 f5;obtain⟨i0,i1,i2,i3,i4,i5,i6⟩:=BW.out.seven;have LU:w.heap.size<=wo.heap.size:=HX.out.size;have Ym:wo.heap.size<W.heap.size:=BW.out.lt;obtain⟨us,u1,u2,u3⟩:=HO.out;obtain⟨m,hm⟩:∃ m,m=us.length:=⟨_,rfl⟩;have ajx:m<=64:=by rw[hm,u1,List.length_take,SLn.out];omega
   rw[<-hm]at u2;have HM:=hid hm;obtain⟨a5,c5,rfl⟩:=ownsRow_form u2;have U1:=hid u1;have V2:=hid (ag u2 XW.out);have V3:=hid fun i u l hu hl=>ag (u3 i u l hu hl) XW.out
   clear u1 u2 u3 hm;cases hbg:x.A0 with
   | true=>
    rw[hbg]at i5;have HE:Hid (x.step l c=x.nf.step l c):=hid (by unfold PT.step;rw[hbg];rfl);clear hbg
    have RN:Hid (W.ownsRow w.heap.size 3 1 (.slice ra sn rc) (x.step l c).length ((x.step l c).map aF)):=hid (by
     rw[HE.out, <-HSN.out, <-Wp.out]
     exact ax R0.out (Nat.le_trans LU XV.out.size))
    go_wp2_with (at_builtin;refine wpList_append_own_at _ rfl (.tmp 39) (.tmp 41) 29 rfl w.heap.size 37 iL (.slice none 0 0) 1 24 Tryz.underlying29 wW kQ kR kS rfl (by decide) _ _ _ rfl (V2.out.alloc _) ⟨W.heap.size,0,none⟩ 1 1 [.slice ra sn rc] rfl rfl (dV _ _ _) (by simp[Value.oneCell']) (by unfold maxLen;omega) (by omega) (by simp;omega) ?_;intro v' w2 hown' hgrow hh hat;have jq:=hid hown';have HG:=hid hgrow;clear hown' hgrow hh hat)
    go_roundw
    case rel=>
     refine⟨k+1,by omega,by go_num,?_,?_⟩
     ·rw[jW.out]
      refine aC.snoc (w:=W.alloc (.cells #[.slice ra sn rc] 37)) (v:=.slice a5 m c5) (by rw[<-HM.out];exact HM.out.trans U1.out) (by rw[<-HM.out];exact V2.out.alloc _) (fun i u l hu hl=>(V3.out i u l hu hl).alloc _) (RN.out.alloc _) HG.out (by rw[<-HM.out];exact jq.out)
     ·have XX:=HX.out.trans (XW.out.mono HX.out.size)
      exact(XX.alloc XX.size _).grown HG.out (by have:=XX.size;simp;omega) (fun c e=>(V2.out.lt c e).1)
    case measure=>simp[intOf];omega
   | false=>
    rw[hbg]at i5;have HE:Hid (x.step l c= -1::x.nf.step l c):=hid (by unfold PT.step;rw[hbg];rfl);clear hbg;have O1:Hid ((W.alloc (.cells #[.int .i64 (-1)] 3)).ownsRow W.heap.size 3 1 (.slice (some ⟨W.heap.size,0,none⟩) 1 1) 1 [.int .i64 (-1)]):=hid ⟨rfl,.inr ⟨W.heap.size,1, #[.int .i64 (-1)],rfl,Nat.le_refl _,World.alloc_heap_new _ _,Nat.le_refl _,by unfold maxLen;omega,rfl,rfl⟩⟩;go_wp2_with (at_builtin;refine Hid.out ?_);refine hid ?_;refine lz rfl (.tmp 36) (.tmp 37) 37 rfl W.heap.size 3 iI (.int .i64 0) 1 8 Tryz.underlying37 GN pE pF pG rfl (by decide) _ 1 _ rfl O1.out _ sn sx rfl (wJ.own (R0.out.alloc _)) (by rw[Wp.out,List.length_map,Nat.mul_one];exact HSN.out.symm) (fun u hu=>by rw[Wp.out]at hu;obtain⟨y,_,rfl⟩:=List.mem_map.1 hu;rfl) (by unfold maxLen;omega) (by omega) (by simp) ?_;intro v1 w1 hown1 LV;have XB:Hid (Below W.heap.size W w1):=hid (((Below.refl _ W).alloc (Nat.le_refl _) _).grown LV (by simp) (fun c e=>by have e2:some W.heap.size=some c:=e;injection e2 with e2;omega));have hN:1+sn=(x.step l c).length:=by rw[HE.out,List.length_cons, <-HSN.out];omega
    have hX:[.int .i64 (-1)]++sx=(x.step l c).map aF:=by rw[HE.out,Wp.out];rfl
    rw[hN,hX]at hown1;obtain⟨sm,hsm⟩:∃ z,z=(x.step l c).length:=⟨_,rfl⟩;rw[<-hsm]at hown1;obtain⟨a6,c6,rfl⟩:=ownsRow_form hown1;have RN:Hid (w1.ownsRow w.heap.size 3 1 (.slice a6 sm c6) (x.step l c).length ((x.step l c).map aF)):=hid (by rw[<-hsm];exact ax hown1 (by omega));have Z2:=hid (ag V2.out XB.out);have Z3:=hid fun i u l hu hl=>ag (V3.out i u l hu hl) XB.out
    have Sh:=XB.out.size;clear hown1 LV hN hX hsm V2 V3 O1;go_wp2_with (at_builtin;refine wpList_append_own_at _ rfl (.tmp 39) (.tmp 41) 29 rfl w.heap.size 37 iL (.slice none 0 0) 1 24 Tryz.underlying29 wW kQ kR kS rfl (by decide) _ _ _ rfl (Z2.out.alloc _) ⟨w1.heap.size,0,none⟩ 1 1 [.slice a6 sm c6] rfl rfl (dV _ _ _) (by simp[Value.oneCell']) (by unfold maxLen;omega) (by omega) (by simp;omega) ?_;intro v' w2 hown' hgrow hh hat;have jq:=hid hown';have HG:=hid hgrow;clear hown' hgrow hh hat);go_roundw;case rel=>
     refine⟨k+1,by omega,by go_num,?_,?_⟩
     ·rw[jW.out]
      refine aC.snoc (w:=w1.alloc (.cells #[.slice a6 sm c6] 37)) (v:=.slice a5 m c5) (by rw[<-HM.out];exact HM.out.trans U1.out) (by rw[<-HM.out];exact Z2.out.alloc _) (fun i u l hu hl=>(Z3.out i u l hu hl).alloc _) (RN.out.alloc _) HG.out (by rw[<-HM.out];exact jq.out)
     ·have XX:=(HX.out.trans (XW.out.mono HX.out.size)).trans (XB.out.mono (Nat.le_trans HX.out.size XW.out.size))
      exact(XX.alloc XX.size _).grown HG.out (by have:=XX.size;simp;omega) (fun c e=>(Z2.out.lt c e).1)
    case measure=>simp[intOf];omega
  ·obtain rfl:k=n:=by omega
   have vQ:¬ ((k:Int)<k):=by omega
   have dw:(bU ps row c).take k=bU ps row c:=by rw[<-SLn.out];exact List.take_length
   rw[dw]at HO;go_wp2;go_ret;exact⟨_,rfl,HO.out,HX.out⟩
end Go.Proofs.YtbiboekhakbnpaaGreatDoor
