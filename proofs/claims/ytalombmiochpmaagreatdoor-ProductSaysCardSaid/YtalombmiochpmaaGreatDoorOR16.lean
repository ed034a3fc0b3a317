/- Trees of regexes in plain words: nodes, what is right and clean, positions, and the automaton of positions that is made of a tree. -/
import Derived.Test.YtalombmiochpmaaGreatDoorOR15
import Derived.Lib.ItoaLen
set_option maxRecDepth 100000
set_option maxHeartbeats 16000000
open Go.Lib (hid)
namespace Go.Proofs.YtalombmiochpmaaGreatDoor
section
open Go Go.RowKit Go.Shelf Go.Maps
def gL (W:World):Prop:=Lib.TabIs Tryz.prog W "internal/strconv.uint64pow10" .u64 Lib.pow10Tab
theorem Ox {P:Program} {w w':World} {name:String} (hk:∀ b,b<w.heap.size->w'.heap[b]? =w.heap[b]?) {x:Array Value} (h:w.var? P name=some x):w'.var? P name=some x:=by
 unfold World.var? at*;cases hg:P.globalNamed name with
 | none=>rw[hg]at h;cases h
 | some g=>
  rw[hg]at h;simp only[Option.bind_some]at h ⊢;rcases Nat.lt_or_ge g w.heap.size with h1 | h1
  ·rw[hk g h1];exact h
  ·rw[Array.getElem?_eq_none h1]at h;cases h
theorem gL.below {w w':World} (h:gL w) (hk:Below w.heap.size w w'):gL w':=Ox (fun b hb=>hk.block b hb) h
theorem Ig (x:Int) (h0: -9223372036854775808<=x) (h1:x<=9223372036854775807):(vg x).length<=22:=by unfold vg;rw[List.length_append];have:=Lib.itoa_length_le x h0 h1;simp;omega
def RowK (row:List (List Int)):Prop:=row.length<=64/\∀ l∈row,l.length<=401/\∀ x∈l, -1<=x/\x<=400
theorem Oy {l:List Int} (h:∀ x∈l, -1<=x/\x<=400):(fk l).length<=22*l.length:=by
 induction l with
 | nil=>simp[fk]
 | cons p l ih=>
  rw[kL,List.length_append,List.length_cons];have h1:=Ig p (by have:=(h p (List.mem_cons_self ..)).1;omega) (by have:=(h p (List.mem_cons_self ..)).2;omega);have h2:=ih fun x hx=>h x (List.mem_cons_of_mem _ hx)
  omega
theorem SQ {row:List (List Int)} {N:Nat} (h:∀ l∈row,l.length<=N/\∀ x∈l, -1<=x/\x<=400):(iW row).length<=(22*N+1)*row.length:=by
 induction row with
 | nil=>simp[iW]
 | cons l row ih=>
  rw[mR,List.length_append,List.length_cons];have h1:=h l (List.mem_cons_self ..);have h2:=Oy h1.2;have h3:=ih fun x hx=>h x (List.mem_cons_of_mem _ hx)
  have h4:(wu l).length=(fk l).length+1:=by unfold wu;simp
  have h5:22*l.length<=22*N:=Nat.mul_le_mul_left _ h1.1;rw[Nat.mul_add,Nat.mul_one];omega
theorem RowK.len {row:List (List Int)} (h:RowK row):(iW row).length<=564672:=by have h1:=SQ h.2;have h2:(22*401+1)*row.length<=(22*401+1)*64:=Nat.mul_le_mul_left _ h.1;omega
theorem RowK.in {row:List (List Int)} (h:RowK row):rN row:=by have:=h.len;unfold rN maxLen;omega
theorem tP (row:List (List Int)) (k:Nat):(iW (row.take k)).length<=(iW row).length:=by
 conv=>rhs;rw[<-List.take_append_drop k row]
 unfold iW;rw[List.flatMap_append,List.length_append];omega
theorem Oz (row:List (List Int)) (l:List Int):iW (row++ [l])=iW row++fk l++ [59]:=by unfold iW;rw[List.flatMap_append];simp[wu]
theorem KU (l:List Int) (p:Int):fk (l++ [p])=fk l++vg p:=by unfold fk;rw[List.flatMap_append];simp
theorem KY (n:Nat) (w:World) (k:Nat) (os:Array Obj) (hn:n<=w.heap.size):Below n w (Sort.grow (w.drewN k) os) where
 os:=rfl
 tape:=rfl
 output:=rfl
 size:=by unfold Sort.grow;simp[World.drewN]
 block:=fun b hb=>by unfold Sort.grow;show((w.drewN k).heap++os)[b]? =_;rw[Array.getElem?_append_left (by show b<w.heap.size;omega)];rfl
theorem xf {T e:TypeId} {B b:Nat} {bs:List Value} {w w':World} (h:Lib.IsBuilderF T e B b bs w) (hk:Below w.heap.size w w'):Lib.IsBuilderF T e B b bs w':=by
 have key:∀ p,Lib.BuilderAtF T e B b p bs w->Lib.BuilderAtF T e B b p bs w':=fun p h=>by
  have hlt:=h.lt;obtain⟨h1,v,h2,⟨h3,h4⟩,h5⟩:=h;refine⟨h1,v,(hk.block b hlt).trans h2,⟨h3,?_⟩,h5⟩;rcases h4 with h4 | ⟨g,cap,cur,fz,e1,e2,e3,rest⟩
  ·exact .inl h4
  ·exact .inr ⟨g,cap,cur,fz,e1,e2,(hk.block g (Array.getElem?_eq_some_iff.1 e3).1).trans e3,rest⟩
 exact h.imp (key _) (key _)
theorem A7 (l m:List UInt8):Lib.byteCells l++Lib.strCells ⟨m.toArray⟩=Lib.byteCells (l++m):=by unfold Lib.byteCells Lib.strCells;simp
theorem A8 (l:List UInt8) (c:UInt8):Lib.byteCells l++ [.int .u8 c.toNat]=Lib.byteCells (l++ [c]):=by unfold Lib.byteCells;simp
theorem WM (v:Value) (row:List (List Int)) (rk:RowK row) (w:World) (h:mh w v row) (KZ:∀ W,Below w.heap.size w W->gL W): Calls Tryz.prog 138 #[v] w fun e w'=>e=.returned (vh row)/\Below w.heap.size w w':=by
 obtain⟨a,c,rfl⟩:=h.form;obtain⟨n,hn⟩:∃ n,n=row.length:=⟨_,rfl⟩;obtain⟨R,hR⟩:∃ R,R=vh row:=⟨_,rfl⟩;rw[<-hn]at h ⊢;rw[<-hR];have tQ:n<=64:=by rw[hn];exact rk.1
 have KL:=hid rk.len;have H:=hid h;have HN:=hid hn;have HR:=hid hR;have HT:=hid KZ;have RK:=hid rk.2;have CI:Hid (∀ (x:Int) (W:World), -1<=x->x<=400->Below w.heap.size w W->Calls Tryz.prog 155 #[.int .i64 x] W fun e w'=>e=.returned (.string ⟨(Lib.itoa x).toArray⟩)/\Below W.heap.size W w'):=hid fun x W h0 h1 hW=>(Any.strconv_Itoa Tryz.aeL x (by omega) (by omega) W (KZ W hW)).mono fun e w' ⟨he,k,os,hw⟩=>⟨he,by rw[hw];exact KY _ _ _ _ (Nat.le_refl _)⟩
 have CW:Hid (∀ (B b:Nat) (bs:List Value) (s:ByteArray) (W:World),Lib.IsBuilderF 218 5 B b bs W->bs.length+s.size<=140737488355328->B<=W.heap.size->Calls Tryz.prog 154 #[.pointer (some ⟨b,0,none⟩),.string s] W fun e w'=>e=.returned (.tuple #[.int .i64 s.size,.nilIface])/\(Lib.BuilderAtF 218 5 B b (.pointer (some ⟨b,0,none⟩)) (bs++Lib.strCells s) w'/\Below B W w')):=hid fun B b bs s W h1 h2 h3=>(Any.Builder_WriteString_k Tryz.aeM Tryz.aeN B b bs s W h1 h2 h3).mono fun e w' ⟨he,h4,h5,_⟩=>⟨he,h4,h5⟩
 have CB:Hid (∀ (B b:Nat) (bs:List Value) (x:Int) (W:World),Lib.IsBuilderF 218 5 B b bs W->bs.length+1<=140737488355328->B<=W.heap.size->Calls Tryz.prog 156 #[.pointer (some ⟨b,0,none⟩),.int .u8 x] W fun e w'=>e=.returned .nilIface/\(Lib.BuilderAtF 218 5 B b (.pointer (some ⟨b,0,none⟩)) (bs++ [.int .u8 x]) w'/\Below B W w')):=hid fun B b bs x W h1 h2 h3=>(Any.Builder_WriteByte_k Tryz.aeO Tryz.aeP B b bs x W h1 h2 h3).mono fun e w' ⟨he,h4,h5,_⟩=>⟨he,h4,h5⟩
 have CS:Hid (∀ (B b:Nat) (l:List UInt8) (W:World),Lib.IsBuilderF 218 5 B b (Lib.byteCells l) W->B<=W.heap.size->Calls Tryz.prog 157 #[.pointer (some ⟨b,0,none⟩)] W fun e w'=>e=.returned (.string ⟨l.toArray⟩)/\Below B W w'):=hid fun B b l W h1 h3=>(Any.Builder_String_any_k Tryz.aeJ Tryz.aeK B b l W h1 h3).mono fun e w' ⟨he,_,h5,_⟩=>⟨he,h5⟩
 clear h hn hR KZ rk;go_enter Tryz.func138,Tryz.ntmps138;go_wp2;go_loopw [10] (fun iv wr=>∃ k:Nat,k<=n/\iv=.int .i64 k/\Lib.IsBuilderF 218 5 w.heap.size w.heap.size (Lib.byteCells (iW (row.take k))) wr/\Below w.heap.size w wr) (fun iv _=>n-(intOf iv).toNat);case atStart=>
  exact⟨0,by omega,rfl,Lib.IsBuilderF.of (Lib.fresh_isBuilder 218 5 w),((Ext.refl w).alloc _).below⟩
 case round=>
  obtain⟨k,hk,rfl,hb,hx⟩:=hrel;have HB:=hid hb;have HX:=hid hx;have hle:=tP row k;have HLE:=hid hle;clear hb hx hle;obtain⟨wo,rfl⟩:∃ wo:World,wo=wr:=⟨_,rfl⟩;by_cases hlt:k<n
  ·have gz:(k:Int)<n:=by omega
   obtain⟨l,hl⟩:∃ l,row[k]? =some l:=⟨_,List.getElem?_eq_getElem (by have:=HN.out;omega)⟩;obtain⟨b,off,a',c',rfl,hbl,cl,fy⟩:=H.out.elem hl;have SK:wo.cell? ⟨b,off+k,none⟩=some (.slice a' l.length c'):=((aa.ag HX.out fun _ h=>h:aa (· <w.heap.size) w wo).cell (p:=⟨b,off+k,none⟩) hbl).trans cl;have Qj:=hid fy;have RL:=hid (RK.out l (List.mem_of_getElem? hl));have kq:Hid (iW (row.take (k+1))=iW (row.take k)++fk l++ [59]):=hid (by rw[List.take_add_one,hl];exact Oz _ _);have LEN:Hid ((iW (row.take (k+1))).length<=564672):=hid (Nat.le_trans (tP row (k+1)) KL.out);obtain⟨m,hm⟩:∃ m,m=l.length:=⟨_,rfl⟩;have amT:m<=401:=by rw[hm];exact RL.out.1
   have HM:=hid hm;rw[<-hm]at SK Qj;clear fy hl hm cl;go_wp2;clear SK;go_loopw [16] (fun iv wi=>∃ j:Nat,j<=m/\iv=.int .i64 j/\Lib.IsBuilderF 218 5 w.heap.size w.heap.size (Lib.byteCells (iW (row.take k)++fk (l.take j))) wi/\Below w.heap.size w wi) (fun iv _=>m-(intOf iv).toNat);case atStart=>
    exact⟨0,by omega,rfl,by rw[List.take_zero];show Lib.IsBuilderF _ _ _ _ (Lib.byteCells (iW (row.take k)++ [])) _;rw[List.append_nil];exact HB.out,HX.out⟩
   case round=>
    obtain⟨j,hj,rfl,hb,hx⟩:=hrel;have eT:=hid hb;have gP:=hid hx;clear hb hx;have Al:(fk (l.take j)).length<=(fk l).length:=by
     conv=>rhs;rw[<-List.take_append_drop j l]
     unfold fk;rw[List.flatMap_append,List.length_append];omega
    have aba:Hid ((iW (row.take k)++fk (l.take j)).length<=564672):=hid (by have h5:=LEN.out;rw[kq.out,List.length_append,List.length_append]at h5;rw[List.length_append];omega);clear Al;by_cases eE:j<m
    ·have nz:(j:Int)<m:=by omega
     obtain⟨x,Qr⟩:∃ x,l[j]? =some x:=⟨_,List.getElem?_eq_getElem (by have:=HM.out;omega)⟩;obtain⟨g2,o2,rfl,_,q2⟩:=(Qj.out.below gP.out).elem Qr;replace q2:wr.cell? ⟨g2,o2+j,none⟩=some (.int .i64 x):=q2;have Oi:=RL.out.2 x (List.mem_of_getElem? Qr);have HTJ:Hid (iW (row.take k)++fk (l.take (j+1))=iW (row.take k)++fk (l.take j)++vg x):=hid (by rw[List.take_add_one,Qr];show iW (row.take k)++fk (l.take j++ [x])=_;rw[KU,List.append_assoc]);clear Qr;go_wp2_with fail
     clear q2;refine(CI.out x wr Oi.1 Oi.2 gP.out).mono ?_;rintro e w1 ⟨rfl,hx⟩;have JG:=hid (xf eT.out hx);have rT:=hid (gP.out.trans (hx.mono gP.out.size));clear hx;have hlen:=Lib.itoa_length_le x (by have:=Oi.1;omega) (by have:=Oi.2;omega);have qK:(Lib.itoa x).length+1<=9223372036854775807:=by omega
     have D7:∀ W,(Op.stringOp .add ⟨(Lib.itoa x).toArray⟩ ⟨#[44]⟩).run Tryz.prog W=.ok (.string ⟨(vg x).toArray⟩) W:=fun W=>by
      rw[run_string_add_lists (P:=Tryz.prog) W (Lib.itoa x) [44] (by omega) (by decide)];rfl
     have hnk:(vg x).length<=22:=Ig x (by have:=Oi.1;omega) (by have:=Oi.2;omega);go_wp2_with fail
     clear D7;refine(CW.out _ _ _ _ _ JG.out (by rw[Lib.byteCells_length];have h6:=aba.out;have:(⟨(vg x).toArray⟩:ByteArray).size=(vg x).length:=(by simp[ByteArray.size]);omega) rT.out.size).mono ?_;rintro e w2 ⟨rfl,hb,hx⟩;rw[A7, <-HTJ.out]at hb;have HB4:=hid hb;have Eg:=hid (rT.out.trans hx);clear hb hx;go_wp2;exact⟨⟨j+1,by omega,by go_num,.inr HB4.out,Eg.out⟩,by simp[intOf];omega⟩
    ·obtain rfl:j=m:=by omega
     have nz:¬ ((j:Int)<j):=by omega
     have eH:l.take j=l:=by rw[HM.out,List.take_length]
     rw[eH]at eT aba;go_wp2_with fail
     refine(CB.out _ _ _ _ _ eT.out (by rw[Lib.byteCells_length];have h6:=aba.out;omega) gP.out.size).mono ?_;rintro e w2 ⟨rfl,hb,hx⟩;have hb2:Lib.BuilderAtF 218 5 w.heap.size w.heap.size (.pointer (some ⟨w.heap.size,0,none⟩)) (Lib.byteCells (iW (row.take (k+1)))) w2:=by rw[kq.out, <-A8];exact hb
     have HB4:=hid hb2;have Eg:=hid (gP.out.trans hx);clear hb hb2 hx;go_wp2;exact⟨⟨k+1,by omega,by go_num,.inr HB4.out,Eg.out⟩,by simp[intOf];omega⟩
  ·obtain rfl:k=n:=by omega
   have nz:¬ ((k:Int)<k):=by omega
   have eH:row.take k=row:=by rw[HN.out,List.take_length]
   rw[eH]at HB;go_wp2_with fail
   refine(CS.out _ _ _ _ HB.out HX.out.size).mono ?_;rintro e w2 ⟨rfl,hx⟩;have Eg:=hid (HX.out.trans hx);clear hx;go_wp2;go_ret;exact⟨by rw[HR.out];rfl,Eg.out⟩
theorem mP.SR {w:World} {v0 v1 v2 v3 e:Value} {a:NF} (h:mP w (.agg #[v0,v1,v2,v3,e]) a):∃ a0 n0 c0 a1 n1 c1 a2 n2 c2 a3 n3 c3,v0=.slice a0 n0 c0/\v1=.slice a1 n1 c1/\v2=.slice a2 n2 c2/\v3=.slice a3 n3 c3:=by obtain⟨u0,u1,u2,u3,e,h0,h1,h2,h3⟩:=h;obtain⟨a0,c0,rfl⟩:=h0.1.form;obtain⟨a1,c1,rfl⟩:=h1.form;obtain⟨a2,c2,rfl⟩:=h2.form;obtain⟨a3,c3,rfl⟩:=h3.form;cases e;exact⟨_,_,_,_,_,_,_,_,_,_,_,_,rfl,rfl,rfl,rfl⟩
def lT (w:World) (v:Value) (ps:List PT):Prop:=(v=.slice none 0 0/\ps=[])\/∃ b off cap,v=.slice (some ⟨b,off,none⟩) ps.length cap/\b<w.heap.size/\∀ (i:Nat) (x:PT),ps[i]? =some x->
 ∃ v0 v1 v2 v3,mP w (.agg #[v0,v1,v2,v3,.bool x.nf.emp]) x.nf/\w.cell? ⟨b,off+i*7,none⟩=some v0/\w.cell? ⟨b,off+i*7+1,none⟩=some v1/\w.cell? ⟨b,off+i*7+2,none⟩=some v2/\w.cell? ⟨b,off+i*7+3,none⟩=some v3/\
  w.cell? ⟨b,off+i*7+4,none⟩=some (.bool x.nf.emp)/\w.cell? ⟨b,off+i*7+5,none⟩=some (.bool x.cG)/\w.cell? ⟨b,off+i*7+6,none⟩=some (.int .i64 x.mark)
theorem lT.below {w w':World} {v:Value} {ps:List PT} (h:lT w v ps) (hk:Below w.heap.size w w'):lT w' v ps:=by
 rcases h with h | ⟨b,off,cap,hv,hb,h⟩
 ·exact .inl h
 ·have hc:∀ j,w'.cell? ⟨b,j,none⟩=w.cell? ⟨b,j,none⟩:=fun j=>(aa.ag hk fun _ h=>h:aa (· <w.heap.size) w w').cell (p:=⟨b,j,none⟩) hb
  refine .inr ⟨b,off,cap,hv,Nat.lt_of_lt_of_le hb hk.size,fun i x hx=>?_⟩;obtain⟨v0,v1,v2,v3,h0,h1,h2,h3,h4,h5,h6,h7⟩:=h i x hx;exact⟨v0,v1,v2,v3,h0.below hk,(hc _).trans h1,(hc _).trans h2,(hc _).trans h3,(hc _).trans h4,(hc _).trans h5,(hc _).trans h6,(hc _).trans h7⟩
theorem lT.form {w:World} {v:Value} {ps:List PT} (h:lT w v ps):∃ a cap,v=.slice a ps.length cap:=by
 rcases h with⟨rfl,rfl⟩ | ⟨b,off,cap,rfl,_⟩
 ·exact⟨_,_,rfl⟩
 ·exact⟨_,_,rfl⟩
theorem lT.elem {w:World} {a:Option Addr} {n cap:Nat} {ps:List PT} (h:lT w (.slice a n cap) ps) {i:Nat} {x:PT} (hi:ps[i]? =some x): ∃ b off v0 v1 v2 v3,a=some ⟨b,off,none⟩/\b<w.heap.size/\mP w (.agg #[v0,v1,v2,v3,.bool x.nf.emp]) x.nf/\w.cell? ⟨b,off+i*7,none⟩=some v0/\w.cell? ⟨b,off+i*7+1,none⟩=some v1/\w.cell? ⟨b,off+i*7+2,none⟩=some v2/\w.cell? ⟨b,off+i*7+3,none⟩=some v3/\ w.cell? ⟨b,off+i*7+4,none⟩=some (.bool x.nf.emp)/\w.cell? ⟨b,off+i*7+5,none⟩=some (.bool x.cG)/\w.cell? ⟨b,off+i*7+6,none⟩=some (.int .i64 x.mark):=by
 rcases h with⟨_,rfl⟩ | ⟨b,off,c,hv,hb,h⟩
 ·simp at hi
 ·cases hv
  obtain⟨v0,v1,v2,v3,h0,rest⟩:=h i x hi;exact⟨b,off,v0,v1,v2,v3,rfl,hb,h0,rest⟩
def WN (ps:List PT):Prop:=ps.length<=64/\∀ x∈ps,Nt x.nf/\Qs x.nf/\0<=x.mark/\x.mark<=255
theorem ah.seven {w:World} {b:Nat} {x y z u t p q:Value} {ty:TypeId} (h:ah w b #[x,y,z,u,t,p,q] ty):w.cell? ⟨b,0,none⟩=some x/\w.cell? ⟨b,1,none⟩=some y/\w.cell? ⟨b,2,none⟩=some z/\w.cell? ⟨b,3,none⟩=some u/\w.cell? ⟨b,4,none⟩=some t/\w.cell? ⟨b,5,none⟩=some p/\w.cell? ⟨b,6,none⟩=some q:=
 ⟨h.cell 0,h.cell 1,h.cell 2,h.cell 3,h.cell 4,h.cell 5,h.cell 6⟩
def aH.aeQ (base:Nat) (e:TypeId) (size n:Nat) (xs:List Value) (x:Value):aH (Move false (fun _=>False)) where
 P:=fun v=>∃ a c,v=.tuple #[.slice a n c,x]
 H:=fun v W=>∀ u,v=.tuple #[u,x]->W.ownsRow base e size u n xs
 oI:=.tuple #[.slice none n 0,x]
 pw:=⟨none,0,rfl⟩
 st:=fun _ _ _ hm _ h u hu=>aq (h u hu) hm.below
theorem OA {base:Nat} {e:TypeId} {size n:Nat} {xs:List Value} {x u:Value} {W:World} (h:W.ownsRow base e size u n xs):∃ a c,(Value.tuple #[u,x])=.tuple #[.slice a n c,x]:=by obtain⟨a,c,rfl⟩:=ownsRow_form h;exact⟨a,c,rfl⟩
theorem OB {base:Nat} {e:TypeId} {size n:Nat} {xs:List Value} {x u:Value} {W:World} (h:W.ownsRow base e size u n xs):∀ u',(Value.tuple #[u,x])=.tuple #[u',x]->W.ownsRow base e size u' n xs:=fun u' e=>by cases e;exact h
theorem OC {ps:List PT} {row:List (List Int)} {c i:Nat} {x:PT} {l:List Int} (hx:ps[i]? =some x) (hl:row[i]? =some l):(gi ps row c)[i]? =some (x.step l c):=by unfold gi;rw[List.getElem?_zipWith,hx,hl]
theorem OE {ps:List PT} {row:List (List Int)} (h:row.length=ps.length) (c:Nat):(gi ps row c).length=ps.length:=by simp[gi,h]
theorem La {a:NF} (rt:Nt a) {l:List Int} (h:a.st l=true):l.length<=401:=by
 obtain⟨h1,h2⟩:=ei h;have hle:=rt.le;have hn:(l.map fun x=>(x+1).toNat).Nodup:=by rw[List.nodup_iff_pairwise_ne,List.pairwise_map];exact h1.imp_of_mem fun {a b} ha hb hab=>by have:=h2 a ha;have:=h2 b hb;omega
 have:=List.Nodup.length_le_of_subset hn (l₂:=List.range 401) fun x hx=>by
  obtain⟨y,hy,rfl⟩:=List.mem_map.1 hx;have:=h2 y hy;exact List.mem_range.2 (by omega)
 simpa using this
theorem ET {ps:List PT} (ok:WN ps) {row:List (List Int)} (h:rL ps row):RowK row:=by refine⟨by rw[h.1];exact ok.1,fun l hl=>?_⟩;obtain⟨i,hi⟩:=List.getElem?_of_mem hl;have jK:=(List.getElem?_eq_some_iff.1 hi).1;have hx:ps[i]? =some (ps[i]'(by rw[<-h.1];exact jK)):=List.getElem?_eq_getElem _;have rt:=(ok.2 _ (List.mem_of_getElem? hx)).1;have hst:=h.2 i _ l hx hi;refine⟨La rt hst,fun x hx=>?_⟩;have:=(ei hst).2 x hx;have:=rt.le;omega
theorem OG (mb:Nat) (pv lv:Value) (ps:List PT) (ok:WN ps) (row:List (List Int)) (hr:rL ps row) (c:Nat) (hc:c<256) (w:World) (hm:w.cell? ⟨mb,0,none⟩=some pv) (h:lT w pv ps) (hl:mh w lv row): Calls Tryz.prog 106 #[.pointer (some ⟨mb,0,none⟩),lv,.int .u8 c] w fun e w'=>∃ u,e=.returned u/\aW w.heap.size w' u (gi ps row c)/\Below w.heap.size w w':=by
 obtain⟨iL,Gk,oM,oN,oO⟩:=info_parts Tryz.vU;obtain⟨iI,Hh,pT,pU,pV⟩:=info_parts Tryz.tz;obtain⟨pa,pc,rfl⟩:=h.form;obtain⟨la,lc,rfl⟩:=hl.form;obtain⟨n,hn⟩:∃ n,n=ps.length:=⟨_,rfl⟩;have QE:=hr.1;rw[<-hn]at h hm QE;rw[QE]at hl ⊢;have tQ:n<=64:=by rw[hn];exact ok.1
 have CS:Hid (∀ (i:Nat) (x:PT) (l:List Int) (v u:Value) (W:World),ps[i]? =some x->row[i]? =some l->mP W v x.nf->aZ aS W u l->Calls Tryz.prog 143 #[v,u,.int .u8 c] W fun e w'=>∃ r,e=.returned (.tuple #[r,.int .i64 0])/\w'.ownsRow W.heap.size 3 1 r (x.nf.step l c).length ((x.nf.step l c).map aS)/\Below W.heap.size W w'):=hid fun i x l v u W hx hl hv hu=>by
  have h2:=ok.2 x (List.mem_of_getElem? hx);have hst:=hr.2 i x l hx hl;exact Ov v u x.nf h2.1 l hst c hc W hv h2.2.1 hu (Nat.le_trans (La h2.1 hst) (by decide))
 have SL:Hid (∀ (i:Nat) (x:PT) (l:List Int),ps[i]? =some x->(x.nf.step l c).length<=400):=hid fun i x l hx=>by
  have h2:=(ok.2 x (List.mem_of_getElem? hx)).1.le;unfold NF.step;rw[List.length_map];exact Nat.le_trans (List.length_filter_le _ _) (by simpa using h2)
 have H:=hid h;have HL:=hid hl;have HN:=hid hn;have HRL:=hid QE;have SLn:Hid ((gi ps row c).length=n):=hid (by rw[OE hr.1, <-hn]);have xg:mb<w.heap.size:=World.block_lt_of_cell? _ _ hm;clear h hl hr hn QE ok;go_enter Tryz.func106,Tryz.ntmps106;go_wp2;clear hm;go_loopw [7,17] (fun ov iv wr=>∃ k:Nat,k<=n/\iv=.int .i64 k/\aW w.heap.size wr ov ((gi ps row c).take k)/\Below w.heap.size w wr) (fun _ iv _=>n-(intOf iv).toNat);case atStart=>exact⟨0,by omega,rfl,aW.nil _ _,Below.refl _ _⟩
 case round=>
  obtain⟨k,hk,rfl,ho,hx⟩:=hrel;obtain⟨wo,rfl⟩:∃ wo:World,wo=wr:=⟨_,rfl⟩;have HO:=hid ho;have HX:=hid hx;clear ho hx;by_cases hlt:k<n
  ·have gz:(k:Int)<n:=by omega
   obtain⟨x,hx⟩:∃ x,ps[k]? =some x:=⟨_,List.getElem?_eq_getElem (by have:=HN.out;omega)⟩;obtain⟨l,hl⟩:∃ l,row[k]? =some l:=⟨_,List.getElem?_eq_getElem (by have:=HRL.out;omega)⟩;obtain⟨b,off,v0,v1,v2,v3,rfl,hb,xh,q0,q1,q2,q3,q4,q5,q6⟩:=(H.out.below HX.out).elem hx;obtain⟨b2,xe,a',c',rfl,hb2,cl,fy⟩:=(HL.out.below HX.out).elem hl;have Sn:=hid hx;have HLL:=hid hl;obtain⟨x0,n0,c0,x1,n1,c1,x2,n2,c2,x3,n3,c3,rfl,rfl,rfl,rfl⟩:=xh.SR;have MR:=hid xh;have Qj:=hid fy;have kq:Hid ((gi ps row c).take (k+1)=(gi ps row c).take k++ [x.step l c]):=hid (by rw[List.take_add_one,OC hx hl];rfl);clear hx hl xh fy;obtain⟨sn,Gl⟩:∃ z,z=(x.nf.step l c).length:=⟨_,rfl⟩;obtain⟨sx,Gj⟩:∃ z,z=(x.nf.step l c).map aS:=⟨_,rfl⟩;have CS1:Hid (∀ (v u:Value) (W:World),mP W v x.nf->aZ aS W u l->Calls Tryz.prog 143 #[v,u,.int .u8 c] W fun e w'=>∃ r,e=.returned (.tuple #[r,.int .i64 0])/\w'.ownsRow W.heap.size 3 1 r sn sx/\Below W.heap.size W w'):=hid fun v u W hv hu=>by rw[Gl,Gj];exact CS.out k x l v u W Sn.out HLL.out hv hu
   have amV:sn<=400:=by rw[Gl];exact SL.out k x l Sn.out
   have MI:=hid Gl;have HSX:=hid Gj;obtain⟨ln,hln⟩:∃ z,z=l.length:=⟨_,rfl⟩;rw[<-hln]at cl Qj;clear Gl Gj hln;go_wp2;refine aw ?_;intro V hV;have BX:Hid (ah V wo.heap.size #[.slice x0 n0 c0,.slice x1 n1 c1,.slice x2 n2 c2,.slice x3 n3 c3,.bool x.nf.emp,.bool x.cG,.int .i64 x.mark] 102):=hid (by rw[hV];exact ah.new wo _ _);have XV:Hid (Below wo.heap.size wo V):=hid (by rw[hV];exact((Ext.refl wo).alloc _).below);have SK:V.cell? ⟨b2,xe+k,none⟩=some (.slice a' ln c'):=((aa.ag XV.out fun _ h=>h:aa (· <wo.heap.size) wo V).cell (p:=⟨b2,xe+k,none⟩) hb2).trans cl;clear hV q0 q1 q2 q3 q4 q5 q6 cl;refine aD false (fun _=>False) (by kernel_rfl) 12 [0,1,0,0,12,28,0,127,255,511,511,1023,4095] (fun i=>i==7) (by kernel_rfl) (fun i=>if i=7 then aH.aeQ V.heap.size 3 1 sn sx (.int .i64 0)else aH.any _) ?_;intro C hC hne;have HC:=hid hC;have f0:=ak hC (p:=⟨wo.heap.size,0,none⟩) BX.out.lt (fun h=>h) (BX.out.cell 0);have f1:=ak hC (p:=⟨wo.heap.size,1,none⟩) BX.out.lt (fun h=>h) (BX.out.cell 1);have f2:=ak hC (p:=⟨wo.heap.size,2,none⟩) BX.out.lt (fun h=>h) (BX.out.cell 2);have f3:=ak hC (p:=⟨wo.heap.size,3,none⟩) BX.out.lt (fun h=>h) (BX.out.cell 3);have f4:=ak hC (p:=⟨wo.heap.size,4,none⟩) BX.out.lt (fun h=>h) (BX.out.cell 4);have f5:=ak hC (p:=⟨b2,xe+k,none⟩) (World.block_lt_of_cell? _ _ SK) (fun h=>h) SK;clear hC SK
   repeat (refine ae (fun K hK=>?_);first | (refine aR rfl ?_;try go_simp;refine hK _ _ ?_;clear hK K) | (refine aO rfl rfl ?_;unfold ai;go_simp;refine hK _ _ ?_;clear hK K))
   refine ae (fun K hK=>?_);refine bg rfl rfl (aH.aeQ V.heap.size 3 1 sn sx (.int .i64 0)) rfl (fun W hW hN=>?_) (fun v hv=>?_)
   ·have hM:=(HC.out W).1 hW
    clear hW;go_simp;refine aB ((CS1.out _ _ _ ((MR.out.below XV.out).below hM.below) ((Qj.out.below XV.out).below hM.below)).mono ?_);rintro e w2 ⟨vp,rfl,ho,hx⟩;exact⟨_,rfl,Move.ag hx,OA ho,OB (aA ho hM.size)⟩
   obtain⟨ra,rc,rfl⟩:=hv;go_simp;refine hK _ _ ?_;clear hK K
   repeat (refine ae (fun K hK=>?_);first | (refine aR rfl ?_;try go_simp;refine hK _ _ ?_;clear hK K) | (refine aO rfl rfl ?_;unfold ai;go_simp;refine hK _ _ ?_;clear hK K))
   refine bh (fun W hW hH=>?_);have hM:=(HC.out W).1 hW;have R0:Hid (W.ownsRow V.heap.size 3 1 (.slice ra sn rc) sn sx):=hid ((hH _ (List.mem_of_getElem? (show _=some _ from rfl:_[0]? =some _))) _ rfl);have BW:=hid (BX.out.below hM.below BX.out.lt);have XW:=hid (XV.out.trans (hM.below.mono XV.out.size));have hVW:=hM.size;clear hM hW hH HC hne f0 f1 f2 f3 f4 f5;obtain⟨i0,i1,i2,i3,i4,i5,i6⟩:=BW.out.seven;have WO:w.heap.size<=wo.heap.size:=HX.out.size;have aeR:wo.heap.size<W.heap.size:=BW.out.lt;obtain⟨us,u1,u2,u3⟩:=HO.out;obtain⟨m,hm⟩:∃ m,m=us.length:=⟨_,rfl⟩;have arx:m<=64:=by rw[hm,u1,List.length_take,SLn.out];omega
   rw[<-hm]at u2;have HM:=hid hm;obtain⟨a5,c5,rfl⟩:=ownsRow_form u2;have U1:=hid u1;have V2:=hid (aq u2 XW.out);have V3:=hid fun i u l hu hl=>aq (u3 i u l hu hl) XW.out
   clear u1 u2 u3 hm;cases hbg:x.cG with
   | true=>
    rw[hbg]at i5;have HE:Hid (x.step l c=x.nf.step l c):=hid (by unfold PT.step;rw[hbg];rfl);clear hbg
    have RN:Hid (W.ownsRow w.heap.size 3 1 (.slice ra sn rc) (x.step l c).length ((x.step l c).map aS)):=hid (by
     rw[HE.out, <-MI.out, <-HSX.out]
     exact aA R0.out (Nat.le_trans WO XV.out.size))
    go_wp2_with (at_builtin;refine wpList_append_own_at _ rfl (.tmp 39) (.tmp 41) 26 rfl w.heap.size 47 iL (.slice none 0 0) 1 24 Tryz.underlying26 Gk oM oN oO rfl (by decide) _ _ _ rfl (V2.out.alloc _) ⟨W.heap.size,0,none⟩ 1 1 [.slice ra sn rc] rfl rfl (jA _ _ _) (by simp[Value.oneCell']) (by unfold maxLen;omega) (by omega) (by simp;omega) ?_;intro v' w2 hown' hgrow hh hat;have j8:=hid hown';have HG:=hid hgrow;clear hown' hgrow hh hat)
    go_roundw
    case rel=>
     refine⟨k+1,by omega,by go_num,?_,?_⟩
     ·rw[kq.out]
      refine aW.snoc (w:=W.alloc (.cells #[.slice ra sn rc] 47)) (v:=.slice a5 m c5) (by rw[<-HM.out];exact HM.out.trans U1.out) (by rw[<-HM.out];exact V2.out.alloc _) (fun i u l hu hl=>(V3.out i u l hu hl).alloc _) (RN.out.alloc _) HG.out (by rw[<-HM.out];exact j8.out)
     ·have XX:=HX.out.trans (XW.out.mono HX.out.size)
      exact(XX.alloc XX.size _).grown HG.out (by have:=XX.size;simp;omega) (fun c e=>(V2.out.lt c e).1)
    case measure=>simp[intOf];omega
   | false=>
    rw[hbg]at i5;have HE:Hid (x.step l c= -1::x.nf.step l c):=hid (by unfold PT.step;rw[hbg];rfl);clear hbg;have O1:Hid ((W.alloc (.cells #[.int .i64 (-1)] 3)).ownsRow W.heap.size 3 1 (.slice (some ⟨W.heap.size,0,none⟩) 1 1) 1 [.int .i64 (-1)]):=hid ⟨rfl,.inr ⟨W.heap.size,1, #[.int .i64 (-1)],rfl,Nat.le_refl _,World.alloc_heap_new _ _,Nat.le_refl _,by unfold maxLen;omega,rfl,rfl⟩⟩;go_wp2_with (at_builtin;refine Hid.out ?_);refine hid ?_;refine kA rfl (.tmp 36) (.tmp 37) 47 rfl W.heap.size 3 iI (.int .i64 0) 1 8 Tryz.underlying47 Hh pT pU pV rfl (by decide) _ 1 _ rfl O1.out _ sn sx rfl (mE.own (R0.out.alloc _)) (by rw[HSX.out,List.length_map,Nat.mul_one];exact MI.out.symm) (fun u hu=>by rw[HSX.out]at hu;obtain⟨y,_,rfl⟩:=List.mem_map.1 hu;rfl) (by unfold maxLen;omega) (by omega) (by simp) ?_;intro v1 w1 hown1 SS;have XB:Hid (Below W.heap.size W w1):=hid (((Below.refl _ W).alloc (Nat.le_refl _) _).grown SS (by simp) (fun c e=>by have e2:some W.heap.size=some c:=e;injection e2 with e2;omega));have hN:1+sn=(x.step l c).length:=by rw[HE.out,List.length_cons, <-MI.out];omega
    have hX:[.int .i64 (-1)]++sx=(x.step l c).map aS:=by rw[HE.out,HSX.out];rfl
    rw[hN,hX]at hown1;obtain⟨sm,hsm⟩:∃ z,z=(x.step l c).length:=⟨_,rfl⟩;rw[<-hsm]at hown1;obtain⟨a6,c6,rfl⟩:=ownsRow_form hown1;have RN:Hid (w1.ownsRow w.heap.size 3 1 (.slice a6 sm c6) (x.step l c).length ((x.step l c).map aS)):=hid (by rw[<-hsm];exact aA hown1 (by omega));have Z2:=hid (aq V2.out XB.out);have Z3:=hid fun i u l hu hl=>aq (V3.out i u l hu hl) XB.out
    have hw1:=XB.out.size;clear hown1 SS hN hX hsm V2 V3 O1;go_wp2_with (at_builtin;refine wpList_append_own_at _ rfl (.tmp 39) (.tmp 41) 26 rfl w.heap.size 47 iL (.slice none 0 0) 1 24 Tryz.underlying26 Gk oM oN oO rfl (by decide) _ _ _ rfl (Z2.out.alloc _) ⟨w1.heap.size,0,none⟩ 1 1 [.slice a6 sm c6] rfl rfl (jA _ _ _) (by simp[Value.oneCell']) (by unfold maxLen;omega) (by omega) (by simp;omega) ?_;intro v' w2 hown' hgrow hh hat;have j8:=hid hown';have HG:=hid hgrow;clear hown' hgrow hh hat);go_roundw;case rel=>
     refine⟨k+1,by omega,by go_num,?_,?_⟩
     ·rw[kq.out]
      refine aW.snoc (w:=w1.alloc (.cells #[.slice a6 sm c6] 47)) (v:=.slice a5 m c5) (by rw[<-HM.out];exact HM.out.trans U1.out) (by rw[<-HM.out];exact Z2.out.alloc _) (fun i u l hu hl=>(Z3.out i u l hu hl).alloc _) (RN.out.alloc _) HG.out (by rw[<-HM.out];exact j8.out)
     ·have XX:=(HX.out.trans (XW.out.mono HX.out.size)).trans (XB.out.mono (Nat.le_trans HX.out.size XW.out.size))
      exact(XX.alloc XX.size _).grown HG.out (by have:=XX.size;simp;omega) (fun c e=>(Z2.out.lt c e).1)
    case measure=>simp[intOf];omega
  ·obtain rfl:k=n:=by omega
   have KD:¬ ((k:Int)<k):=by omega
   have eH:(gi ps row c).take k=gi ps row c:=by rw[<-SLn.out];exact List.take_length
   rw[eH]at HO;go_wp2;go_ret;exact⟨_,rfl,HO.out,HX.out⟩
theorem tM.below {base:Nat} {w w':World} {v:Value} {a:NF} (h:tM base w v a) (hk:Below w.heap.size w w'):tM base w' v a:=by obtain⟨v0,v1,v2,v3,e,h0,h1,h2,h3⟩:=h;exact⟨v0,v1,v2,v3,e,aq h0 hk,h1.below hk,aq h2 hk,aq h3 hk⟩
end
section
open Go Go.ChangeShapes Go.WideShapes Go.ChangeAt Go.RowKit Go.Deep
section
variable {H:Type} {enc:TypeId×Value→H} {W:World}
theorem Lb {b j:Nat} {u:Value} (h:W.cell? ⟨b,j,none⟩=some u):b<W.heap.size:=by
 unfold World.cell? at h;cases hh:W.heap[b]? with
 | none=>rw[hh]at h;cases h
 | some o=>exact(Array.getElem?_eq_some_iff.1 hh).1
theorem yV (b o i:Nat):(⟨b,o,none⟩:Addr).add i=⟨b,o+i,none⟩:=by
 unfold Addr.add;split
 ·rename_i h;subst h;rfl
 ·rfl
end
end
section
open Go Go.RowKit
inductive RX where
 | nd (kind:Nat) (set:BS) (mn mx:Int) (subs:List RX)
def RX.kind:RX->Nat | .nd k _ _ _ _=>k
def RX.set:RX->BS | .nd _ s _ _ _=>s
def RX.mn:RX->Int | .nd _ _ a _ _=>a
def RX.mx:RX->Int | .nd _ _ _ b _=>b
def RX.subs:RX->List RX | .nd _ _ _ _ l=>l
theorem RX.ind {P:RX->Prop} (h:∀ k s a b l,(∀ t∈l,P t)->P (.nd k s a b l)):∀ t,P t:=by
 intro t;induction t using RX.rec (motive_2:=fun l=>∀ t∈l,P t)with
 | nd k s a b l ih=>exact h k s a b l ih
 | nil=>
  rename_i x hx;cases hx
 | cons t l h1 h2=>
  rename_i x hx;rcases List.mem_cons.1 hx with e | e
  ·rw[e];exact h1
  ·exact h2 _ e
mutual
def RX.size:RX->Nat
 | .nd _ _ _ _ l=>1+RX.sizes l
def RX.sizes:List RX->Nat
 | []=>0
 | t::l=>t.size+RX.sizes l
end
mutual
def RX.pre:RX->List RX
 | .nd k s a b l=>.nd k s a b l::RX.mS l
def RX.mS:List RX->List RX
 | []=>[]
 | t::l=>t.pre++RX.mS l
end
def RX.times (mn mx:Int):Nat:=if mx= -1 then max mn.toNat 1 else max mn.toNat mx.toNat
mutual
def RX.cO:RX->Nat
 | .nd k _ a b l=>min (((if k=2 then 1 else 0)+RX.bL l)*(if k=5 then min (RX.times a b) 10001 else 1)) 10001
def RX.bL:List RX->Nat
 | []=>0
 | t::l=>t.cO+RX.bL l
end
def RX.has (t:RX) (k:Nat):Bool:=t.subs.any fun x=>x.kind==k
def jv (a b:Int):Bool:=if a<0\/16<a\/(a=1/\b=1)then false else decide (b= -1) || (decide (1<=b)&&decide (b<=16)&&decide (a<=b))
def RX.dG (t:RX):Bool:=
 if(t.kind≠2/\t.set≠0)\/(t.kind≠5/\(t.mn≠0\/t.mx≠0))\/(t.kind<3/\0<t.subs.length)then false else
 if t.kind=1 then true else
 if t.kind=2 then decide (t.set≠0)else
 if t.kind=3 then decide (1<t.subs.length)&& !t.has 1&& !t.has 3 else
 if t.kind=4 then decide (1<t.subs.length)&& !t.has 4 else
 if t.kind=5 then decide (t.subs.length=1)&&jv t.mn t.mx&& !t.has 1 else
 decide (t.kind=6)&&decide (t.subs.length=1)
def RX.clean (t:RX):Bool:=decide (t.size<=10000)&&t.pre.all RX.dG
abbrev PB:=BitVec 448
structure GP where
 fst:PB
 dh:PB
 emp:Bool
structure GM where
 aM:List BS
 cN:List PB
def jC (m:GM) (last first:PB):GM:=⟨m.aM,m.cN.mapIdx fun p f=>if last.getLsbD p then f ||| first else f⟩
def cV (m:GM) (a b:GP):GM×GP:=(jC m a.dh b.fst,⟨if a.emp then a.fst ||| b.fst else a.fst,if b.emp then b.dh ||| a.dh else b.dh,a.emp&&b.emp⟩)
def eZ (n:Nat):PB:=1#448 <<< n
def fF (mn mx:Int):Nat:=if mx= -1 then(max mn 1).toNat else mx.toNat
def EU (mn mx:Int) (k:Nat) (a:GP) (x:GM×GP):GM×GP:=
 cV (if mx= -1/\k+1=fF mn mx then jC x.1 x.2.dh x.2.fst else x.1) a ⟨x.2.fst,x.2.dh,x.2.emp || decide (mn<=k)⟩
def en (mn mx:Int) (f:GM->GM×GP) (m:GM):Nat->GM×GP
 | 0=>(m,⟨0,0,true⟩)
 | k+1=>let y:=en mn mx f m k;EU mn mx k y.2 (f y.1)
mutual
def RX.dL:RX->GM->GM×GP
 | .nd k s a b l,m=>
  if k=0 then(m,⟨0,0,false⟩)else
  if k=1 then(m,⟨0,0,true⟩)else
  if k=2 then(⟨m.aM++ [s],m.cN++ [0]⟩,⟨eZ m.aM.length,eZ m.aM.length,false⟩)else
  if k=3 then RX.jI l (m,⟨0,0,true⟩)else
  if k=4 then RX.ic l (m,⟨0,0,false⟩)else
  if k=5 then RX.rpG a b l m else RX.hdG l m
def RX.jI:List RX->GM×GP->GM×GP
 | [],st=>st
 | t::l,st=>let x:=t.dL st.1;RX.jI l (cV x.1 st.2 x.2)
def RX.ic:List RX->GM×GP->GM×GP
 | [],st=>st
 | t::l,st=>let x:=t.dL st.1;RX.ic l (x.1,⟨st.2.fst ||| x.2.fst,st.2.dh ||| x.2.dh,st.2.emp || x.2.emp⟩)
def RX.rpG (mn mx:Int):List RX->GM->GM×GP
 | [],m=>(m,⟨0,0,true⟩)
 | t::_,m=>en mn mx (fun m=>t.dL m) m (fF mn mx)
def RX.hdG:List RX->GM->GM×GP
 | [],m=>(m,⟨0,0,false⟩)
 | t::_,m=>t.dL m
end
def et (x:PB):List Int:=((List.range 448).filter fun p=>x.getLsbD p).map Int.ofNat
end
end Go.Proofs.YtalombmiochpmaaGreatDoor
