/- Contracts of the functions that the laws 'T' reach, part 23. No condition. -/
import Derived.Test.YteejianjjpdimaaGreatMTv
set_option linter.unusedVariables false
set_option linter.unusedSimpArgs false
set_option maxRecDepth 100000
set_option maxHeartbeats 8000000
namespace Go.Proofs.YteejianjjpdimaaGreat
section
open Go.RowKit L01 L02 L05 L06 L07 L13 L14 L15 L16 L18 L19
theorem lit_two {w:World} {e:TypeId} {n:Nat} (hn:w.heap.size=n) (v1 v2:Value):Rd (w.alloc (.cells #[v1,v2] e)) 1 (.slice (some ⟨n,0,none⟩) 2 2) 2 [v1,v2]:=by
 subst hn;exact lit_rdN rfl (by omega)
theorem Change_any (v:Value) (l:List UInt64) (ti:Int) (E:List (Int×UInt64)) (s1 s2 r:Int) (hx:E=aiL l ti) (hs1:s1=aiS l ti) (hs2:s2=aiG l ti) (hr:r=aiE l ti) (w:World) (h:Words w v l):
  Calls Tryz.prog 19 #[v,.int .i64 ti] w fun e w'=>∃y,e=.returned (.tuple #[y,.agg #[.int .i64 s1,.int .i64 s2],.int .i64 r])∧OwnE w' w.heap.size y E∧Below w.heap.size w w':=by
 have B:=Below.refl w.heap.size w;have H:=hD h;obtain ⟨cc,hc⟩:=exq (chk19 l)
 have CK:=hD (Check19_any v l cc hc)
 have hx0:r≠0→E=[]∧s1=0∧s2=0:=fun h0=>⟨by rw [hx,aiL,if_neg (by rw [←hr];exact h0)],by rw [hs1,aiS,if_neg (by rw [←hr];exact h0)],by rw [hs2,aiG,if_neg (by rw [←hr];exact h0)]⟩
 by_cases h0:cc=0;case neg=>
  have hrc:r=cc:=by rw [hr,aiE,if_neg (by rw [←hc];exact h0),hc]
  obtain ⟨rfl,rfl,rfl⟩:=hx0 (by rw [hrc];exact h0)
  subst hrc;have n1:(r != 0)=true:=by rw [bne_iff_ne];exact h0
  clear hx hs1 hs2 hr h hc h0 hx0;go_in;go_upto_region 1 with (fail)
  refine wpb1 (39) (#[.int .i64 0,.int .i64 0]) ?_;rintro wa1 ⟨g1,b⟩
  replace B:=B.trans (b.mono B.size);clear b;obtain ⟨c_g1,f_g1,a_g1,d_g1,e_g1⟩:=g1.five;go_wp2_with fail;refine (CK.out _ (H.out.below B)).mono ?_;rintro e wa2 ⟨rfl,b⟩
  try clear c_g1 f_g1 a_g1 d_g1 e_g1
  replace g1:=g1.below b;obtain ⟨c_g1,f_g1,a_g1,d_g1,e_g1⟩:=g1.five;replace B:=B.trans (b.mono B.size);clear b;go_wp2;refine bodyPost_ret (v:=.tuple #[.slice none 0 0,.agg #[.int .i64 0,.int .i64 0],.int .i64 r]) (by simp [results,Tryz.results19,go_sem,c_g1,f_g1]) rfl ?_;refine ⟨_,rfl,OwnE.nil _ _,?_⟩
  exact bdn
 case pos=>
  subst h0;have rt:Rt l:=Rt.of hc.symm;obtain ⟨T,hT⟩:=exq (T19 l)
  obtain ⟨sw,hsw⟩:=exq (sW l)
  obtain ⟨st,hst⟩:=exq (sT l)
  obtain ⟨i0,hi0⟩:=exq (is0 l)
  obtain ⟨i1,hi1⟩:=exq (is1 l)
  have T3:=hD (TRead_any v l sw st i0 i1 0 hsw hst hi0 hi1 rt.tw.symm)
  have KT:=hD (KTable_any v l st T 0 (by rw [hT,hst];rfl) (by rw [hst];exact rt.ty.symm))
  obtain ⟨NT,hNT⟩:=exq T.length;have HNT:=hD hNT;have hNT8:NT≤8:=by rw [hNT,hT];exact (T19_ok rt.ty).1
  by_cases ht:0≤ti∧ti<NT;case neg=>
   have hrc:r=2:=by rw [hr,aiE,if_pos hc.symm,if_neg (by rw [←hT,←hNT];exact ht)]
   obtain ⟨rfl,rfl,rfl⟩:=hx0 (by rw [hrc];decide)
   subst hrc;clear hx hs1 hs2 hr h hc hx0 rt hT hsw hst hi0 hi1 hNT;have hcase:decide (ti<0)=true∨(decide (ti<0)=false∧decide ((NT:Int)≤ti)=true):=by
    by_cases h1:ti<0
    ·exact .inl (decide_eq_true h1)
    ·exact .inr ⟨decide_eq_false h1,decide_eq_true (by omega)⟩
   clear ht;rcases hcase with t1 | ⟨t1,t2⟩
   ·skip
    go_in;go_upto_region 1 with (fail)
    refine wpb1 (39) (#[.int .i64 0,.int .i64 0]) ?_;rintro wa1 ⟨g1,b⟩
    replace B:=B.trans (b.mono B.size);clear b;obtain ⟨c_g1,f_g1,a_g1,d_g1,e_g1⟩:=g1.five;go_wp2_with fail;refine (CK.out _ (H.out.below B)).mono ?_;rintro e wa2 ⟨rfl,b⟩
    try clear c_g1 f_g1 a_g1 d_g1 e_g1
    replace g1:=g1.below b;obtain ⟨c_g1,f_g1,a_g1,d_g1,e_g1⟩:=g1.five;replace B:=B.trans (b.mono B.size);clear b;go_wp2_with fail;refine (T3.out _ (H.out.below B)).mono ?_;rintro e wa3 ⟨rfl,b⟩
    try clear c_g1 f_g1 a_g1 d_g1 e_g1
    replace g1:=g1.below b;obtain ⟨c_g1,f_g1,a_g1,d_g1,e_g1⟩:=g1.five;replace B:=B.trans (b.mono B.size);clear b;go_upto_region 5 with (fail)
    refine wpb10 (51) (#[.int .i64 sw,.int .i64 st]) ?_;rintro wa4 ⟨g2,b⟩
    try clear c_g1 f_g1 a_g1 d_g1 e_g1
    replace g1:=g1.below b;obtain ⟨c_g1,f_g1,a_g1,d_g1,e_g1⟩:=g1.five;replace B:=B.trans (b.mono B.size);clear b;obtain ⟨c_g2,f_g2,a_g2,d_g2,e_g2⟩:=g2.five;go_wp2_with fail;refine (KT.out _ (H.out.below B)).mono ?_;rintro e wa5 ⟨xt,rfl,ot,b⟩
    try clear c_g1 f_g1 a_g1 d_g1 e_g1
    replace g1:=g1.below b;obtain ⟨c_g1,f_g1,a_g1,d_g1,e_g1⟩:=g1.five;try clear c_g2 f_g2 a_g2 d_g2 e_g2
    replace g2:=g2.below b;obtain ⟨c_g2,f_g2,a_g2,d_g2,e_g2⟩:=g2.five;replace B:=B.trans (b.mono B.size);clear b;have rt9:=ot.rd;have lt:=rt9.len;rw [←HNT.out] at lt;clear ot;clear c_g2 f_g2 a_g2 d_g2 e_g2;clear g2;go_wp2;refine bodyPost_ret (v:=.tuple #[.slice none 0 0,.agg #[.int .i64 0,.int .i64 0],.int .i64 2]) (by simp [results,Tryz.results19,go_sem,c_g1,f_g1]) rfl ?_;refine ⟨_,rfl,OwnE.nil _ _,?_⟩
    exact bdn
   ·skip
    go_in;go_upto_region 1 with (fail)
    refine wpb1 (39) (#[.int .i64 0,.int .i64 0]) ?_;rintro wa1 ⟨g1,b⟩
    replace B:=B.trans (b.mono B.size);clear b;obtain ⟨c_g1,f_g1,a_g1,d_g1,e_g1⟩:=g1.five;go_wp2_with fail;refine (CK.out _ (H.out.below B)).mono ?_;rintro e wa2 ⟨rfl,b⟩
    try clear c_g1 f_g1 a_g1 d_g1 e_g1
    replace g1:=g1.below b;obtain ⟨c_g1,f_g1,a_g1,d_g1,e_g1⟩:=g1.five;replace B:=B.trans (b.mono B.size);clear b;go_wp2_with fail;refine (T3.out _ (H.out.below B)).mono ?_;rintro e wa3 ⟨rfl,b⟩
    try clear c_g1 f_g1 a_g1 d_g1 e_g1
    replace g1:=g1.below b;obtain ⟨c_g1,f_g1,a_g1,d_g1,e_g1⟩:=g1.five;replace B:=B.trans (b.mono B.size);clear b;go_upto_region 5 with (fail)
    refine wpb10 (51) (#[.int .i64 sw,.int .i64 st]) ?_;rintro wa4 ⟨g2,b⟩
    try clear c_g1 f_g1 a_g1 d_g1 e_g1
    replace g1:=g1.below b;obtain ⟨c_g1,f_g1,a_g1,d_g1,e_g1⟩:=g1.five;replace B:=B.trans (b.mono B.size);clear b;obtain ⟨c_g2,f_g2,a_g2,d_g2,e_g2⟩:=g2.five;go_wp2_with fail;refine (KT.out _ (H.out.below B)).mono ?_;rintro e wa5 ⟨xt,rfl,ot,b⟩
    try clear c_g1 f_g1 a_g1 d_g1 e_g1
    replace g1:=g1.below b;obtain ⟨c_g1,f_g1,a_g1,d_g1,e_g1⟩:=g1.five;try clear c_g2 f_g2 a_g2 d_g2 e_g2
    replace g2:=g2.below b;obtain ⟨c_g2,f_g2,a_g2,d_g2,e_g2⟩:=g2.five;replace B:=B.trans (b.mono B.size);clear b;have rt9:=ot.rd;have lt:=rt9.len;rw [←HNT.out] at lt;clear ot;clear c_g2 f_g2 a_g2 d_g2 e_g2;clear g2;go_wp2;refine bodyPost_ret (v:=.tuple #[.slice none 0 0,.agg #[.int .i64 0,.int .i64 0],.int .i64 2]) (by simp [results,Tryz.results19,go_sem,c_g1,f_g1]) rfl ?_;refine ⟨_,rfl,OwnE.nil _ _,?_⟩
    exact bdn
  case pos=>
   obtain ⟨q,rfl⟩:=Int.eq_ofNat_of_zero_le ht.1;have hqN:q<NT:=by omega
   obtain ⟨ty,hty⟩:∃t,T[q]?=some t:=⟨_,List.getElem?_eq_getElem (by omega)⟩
   have HTQ:=hD hty;have hkT:=(T19_ok rt.ty).2 ty (by rw [←hT];exact List.mem_of_getElem? hty)
   have ht8:=(kErr_ok hkT).1;have htyI:tyI l (q:Int)=ty:=by unfold tyI;rw [Int.toNat_natCast,←hT,List.getD_eq_getElem?_getD,hty];rfl
   obtain ⟨n,hn⟩:=exq (sizT ty)
   have hn2:2≤n∧n≤10∧n % 2=0:=by rw [hn];unfold sizT;omega
   have hks:(n:Int)=kSize ty:=by rw [hn,kSize,if_pos hkT];unfold sizT;omega
   have KS:=hD (fun v w h=>KSize_any v ty (n:Int) 0 hks hkT.symm w h)
   have t1:decide ((q:Int)<0)=false:=decide_eq_false (by omega)
   have t2:decide ((NT:Int)≤(q:Int))=false:=decide_eq_false (by omega)
   have hE:aiE l q=(if next (slots l)=none then 23 else if (takes (freeL l) n).isSome then 0 else 20):=by
    rw [aiE,if_pos hc.symm,if_pos (by rw [←hT,←hNT];exact ht),htyI,←hn]
   obtain ⟨e9,he9⟩:=exq (L18.newErr l 128)
   obtain ⟨s9,hs9⟩:=exq (newSlot l 128)
   obtain ⟨g9,hg9⟩:=exq (newGen l 128)
   obtain ⟨a9,ha9⟩:=exq (newAt l 128)
   obtain ⟨v9,hv9⟩:=exq (newVal l 128)
   have N1:=hD (New18_any v l 128 s9 g9 a9 v9 e9 hs9 hg9 ha9 hv9 he9)
   have hnE:e9=if next (slots l)=none then 23 else 0:=by rw [he9];unfold L18.newErr;rw [if_pos rt.sl,if_pos (by decide)]
   by_cases hnx:next (slots l)=none;case pos=>
    rw [if_pos hnx] at hE hnE;have hrc:r=23:=by rw [hr,hE]
    obtain ⟨rfl,rfl,rfl⟩:=hx0 (by rw [hrc];decide)
    subst hrc;subst hnE;clear hx hs1 hs2 hr h hc hx0 rt hT hsw hst hi0 hi1 hNT hty hkT htyI hn hks hE he9 hs9 hg9 ha9 hv9 hnx ht;go_in;go_upto_region 1 with (fail)
    refine wpb1 (39) (#[.int .i64 0,.int .i64 0]) ?_;rintro wa1 ⟨g1,b⟩
    replace B:=B.trans (b.mono B.size);clear b;obtain ⟨c_g1,f_g1,a_g1,d_g1,e_g1⟩:=g1.five;go_wp2_with fail;refine (CK.out _ (H.out.below B)).mono ?_;rintro e wa2 ⟨rfl,b⟩
    try clear c_g1 f_g1 a_g1 d_g1 e_g1
    replace g1:=g1.below b;obtain ⟨c_g1,f_g1,a_g1,d_g1,e_g1⟩:=g1.five;replace B:=B.trans (b.mono B.size);clear b;go_wp2_with fail;refine (T3.out _ (H.out.below B)).mono ?_;rintro e wa3 ⟨rfl,b⟩
    try clear c_g1 f_g1 a_g1 d_g1 e_g1
    replace g1:=g1.below b;obtain ⟨c_g1,f_g1,a_g1,d_g1,e_g1⟩:=g1.five;replace B:=B.trans (b.mono B.size);clear b;go_upto_region 5 with (fail)
    refine wpb10 (51) (#[.int .i64 sw,.int .i64 st]) ?_;rintro wa4 ⟨g2,b⟩
    try clear c_g1 f_g1 a_g1 d_g1 e_g1
    replace g1:=g1.below b;obtain ⟨c_g1,f_g1,a_g1,d_g1,e_g1⟩:=g1.five;replace B:=B.trans (b.mono B.size);clear b;obtain ⟨c_g2,f_g2,a_g2,d_g2,e_g2⟩:=g2.five;go_wp2_with fail;refine (KT.out _ (H.out.below B)).mono ?_;rintro e wa5 ⟨xt,rfl,ot,b⟩
    try clear c_g1 f_g1 a_g1 d_g1 e_g1
    replace g1:=g1.below b;obtain ⟨c_g1,f_g1,a_g1,d_g1,e_g1⟩:=g1.five;try clear c_g2 f_g2 a_g2 d_g2 e_g2
    replace g2:=g2.below b;obtain ⟨c_g2,f_g2,a_g2,d_g2,e_g2⟩:=g2.five;replace B:=B.trans (b.mono B.size);clear b;have rt9:=ot.rd;have lt:=rt9.len;rw [←HNT.out] at lt;clear ot;clear c_g2 f_g2 a_g2 d_g2 e_g2;clear g2;obtain ⟨ad,xb,tb,it,m0,ht,hby⟩:=rt9.at_ (k:=q) (by rw [←HNT.out];exact hqN)
    obtain rfl:tb=ty:=by have:=ht.out;rw [HTQ.out] at this;injection this with e;exact e.symm
    have hby2:=hby.out;clear rt9 ht hby;go_upto_region 8 with (fail)
    go_wp2_with fail;refine (KS.out _ _ hby2).mono ?_;rintro e w9 ⟨rfl,rfl⟩
    clear m0 it hby2 lt;go_wp2_with fail;refine (N1.out _ (H.out.below B)).mono ?_;rintro e wa6 ⟨rfl,b⟩
    try clear c_g1 f_g1 a_g1 d_g1 e_g1
    replace g1:=g1.below b;obtain ⟨c_g1,f_g1,a_g1,d_g1,e_g1⟩:=g1.five;replace B:=B.trans (b.mono B.size);clear b;go_upto_region 12 with (fail)
    refine wp_gen (fun Wv=>Below wa6.heap.size wa6 Wv) (((Below.refl _ wa6).alloc (by simp <;> omega) _).alloc (by simp <;> omega) _) ?_;intro wa7 b;try clear c_g1 f_g1 a_g1 d_g1 e_g1
    replace g1:=g1.below b;obtain ⟨c_g1,f_g1,a_g1,d_g1,e_g1⟩:=g1.five;replace B:=B.trans (b.mono B.size);clear b;go_wp2;refine bodyPost_ret (v:=.tuple #[.slice none 0 0,.agg #[.int .i64 0,.int .i64 0],.int .i64 23]) (by simp [results,Tryz.results19,go_sem,c_g1,f_g1]) rfl ?_;refine ⟨_,rfl,OwnE.nil _ _,?_⟩
    exact bdn
   case neg=>
    rw [if_neg hnx] at hE hnE;subst hnE;obtain ⟨fe,hfe⟩:=exq (fitE l n)
    obtain ⟨fb,hfb⟩:=exq (fitB l n)
    have FF:=hD (FitFind_any v l (n:Int) fb fe hfb hfe)
    have hRn:RightN (n:Int):=⟨by omega,by omega,by omega⟩
    have hfE:fe=if (takes (freeL l) n).isSome then 0 else 20:=by rw [hfe,fitE,if_pos rt.al,if_pos hRn]
    by_cases htk:(takes (freeL l) n).isSome;case neg=>
     rw [if_neg htk] at hE hfE;have hrc:r=20:=by rw [hr,hE]
     obtain ⟨rfl,rfl,rfl⟩:=hx0 (by rw [hrc];decide)
     subst hrc;subst hfE;obtain ⟨bat,bsz,bk1,bty,bmk,bnx⟩:=fb;dsimp only at FF;clear hx hs1 hs2 hr h hc hx0 rt hT hsw hst hi0 hi1 hNT hty hkT htyI hn hks hE he9 hs9 hg9 ha9 hv9 hnx ht hfe hfb hRn htk;go_in;go_upto_region 1 with (fail)
     refine wpb1 (39) (#[.int .i64 0,.int .i64 0]) ?_;rintro wa1 ⟨g1,b⟩
     replace B:=B.trans (b.mono B.size);clear b;obtain ⟨c_g1,f_g1,a_g1,d_g1,e_g1⟩:=g1.five;go_wp2_with fail;refine (CK.out _ (H.out.below B)).mono ?_;rintro e wa2 ⟨rfl,b⟩
     try clear c_g1 f_g1 a_g1 d_g1 e_g1
     replace g1:=g1.below b;obtain ⟨c_g1,f_g1,a_g1,d_g1,e_g1⟩:=g1.five;replace B:=B.trans (b.mono B.size);clear b;go_wp2_with fail;refine (T3.out _ (H.out.below B)).mono ?_;rintro e wa3 ⟨rfl,b⟩
     try clear c_g1 f_g1 a_g1 d_g1 e_g1
     replace g1:=g1.below b;obtain ⟨c_g1,f_g1,a_g1,d_g1,e_g1⟩:=g1.five;replace B:=B.trans (b.mono B.size);clear b;go_upto_region 5 with (fail)
     refine wpb10 (51) (#[.int .i64 sw,.int .i64 st]) ?_;rintro wa4 ⟨g2,b⟩
     try clear c_g1 f_g1 a_g1 d_g1 e_g1
     replace g1:=g1.below b;obtain ⟨c_g1,f_g1,a_g1,d_g1,e_g1⟩:=g1.five;replace B:=B.trans (b.mono B.size);clear b;obtain ⟨c_g2,f_g2,a_g2,d_g2,e_g2⟩:=g2.five;go_wp2_with fail;refine (KT.out _ (H.out.below B)).mono ?_;rintro e wa5 ⟨xt,rfl,ot,b⟩
     try clear c_g1 f_g1 a_g1 d_g1 e_g1
     replace g1:=g1.below b;obtain ⟨c_g1,f_g1,a_g1,d_g1,e_g1⟩:=g1.five;try clear c_g2 f_g2 a_g2 d_g2 e_g2
     replace g2:=g2.below b;obtain ⟨c_g2,f_g2,a_g2,d_g2,e_g2⟩:=g2.five;replace B:=B.trans (b.mono B.size);clear b;have rt9:=ot.rd;have lt:=rt9.len;rw [←HNT.out] at lt;clear ot;clear c_g2 f_g2 a_g2 d_g2 e_g2;clear g2;obtain ⟨ad,xb,tb,it,m0,ht,hby⟩:=rt9.at_ (k:=q) (by rw [←HNT.out];exact hqN)
     obtain rfl:tb=ty:=by have:=ht.out;rw [HTQ.out] at this;injection this with e;exact e.symm
     have hby2:=hby.out;clear rt9 ht hby;go_upto_region 8 with (fail)
     go_wp2_with fail;refine (KS.out _ _ hby2).mono ?_;rintro e w9 ⟨rfl,rfl⟩
     clear m0 it hby2 lt;go_wp2_with fail;refine (N1.out _ (H.out.below B)).mono ?_;rintro e wa6 ⟨rfl,b⟩
     try clear c_g1 f_g1 a_g1 d_g1 e_g1
     replace g1:=g1.below b;obtain ⟨c_g1,f_g1,a_g1,d_g1,e_g1⟩:=g1.five;replace B:=B.trans (b.mono B.size);clear b;go_upto_region 12 with (fail)
     refine wp_gen (fun Wv=>Below wa6.heap.size wa6 Wv) (((Below.refl _ wa6).alloc (by simp <;> omega) _).alloc (by simp <;> omega) _) ?_;intro wa7 b;try clear c_g1 f_g1 a_g1 d_g1 e_g1
     replace g1:=g1.below b;obtain ⟨c_g1,f_g1,a_g1,d_g1,e_g1⟩:=g1.five;replace B:=B.trans (b.mono B.size);clear b;go_wp2_with fail;refine (FF.out _ (H.out.below B)).mono ?_;rintro e wa8 ⟨rfl,b⟩
     try clear c_g1 f_g1 a_g1 d_g1 e_g1
     replace g1:=g1.below b;obtain ⟨c_g1,f_g1,a_g1,d_g1,e_g1⟩:=g1.five;replace B:=B.trans (b.mono B.size);clear b;go_upto_region 15 with (fail)
     refine wp_gen (fun Wv=>Below wa8.heap.size wa8 Wv) ((Below.refl _ wa8).alloc (by simp <;> omega) _) ?_;intro wa9 b;try clear c_g1 f_g1 a_g1 d_g1 e_g1
     replace g1:=g1.below b;obtain ⟨c_g1,f_g1,a_g1,d_g1,e_g1⟩:=g1.five;replace B:=B.trans (b.mono B.size);clear b;go_wp2;refine bodyPost_ret (v:=.tuple #[.slice none 0 0,.agg #[.int .i64 0,.int .i64 0],.int .i64 20]) (by simp [results,Tryz.results19,go_sem,c_g1,f_g1]) rfl ?_;refine ⟨_,rfl,OwnE.nil _ _,?_⟩
     exact bdn
    case pos=>
     rw [if_pos htk] at hE hfE;subst hfE;have hr0:r=0:=by rw [hr,hE]
     subst hr0;obtain ⟨q',k,p,n',c,g0,b,t',PP,SS,e1,al⟩:=Al.of (l:=l) (ti:=(q:Int)) hE;obtain rfl:q'=q:=by omega
     obtain rfl:t'=ty:=by have:=al.hT;rw [←hT,hty] at this;injection this with e;exact e.symm
     obtain rfl:n'=n:=by rw [al.hn,hn]
     have hfb2:fb=b:=by rw [hfb,fitB,if_pos hfe.symm,al.htk];rfl
     subst hfb2;obtain ⟨pv,hpv⟩:=exq (pk ⟨g0+1,true,(p:Int)⟩)
     obtain ⟨ow,how⟩:=exq (L14.word (objH p n' q'))
     have hc2:=al.hc;have hp2:=al.hp;have hsz:=rt.sz.2.1;have hg:=al.hg;have hk16:=al.hk;have nsp:=new_spec (l:=l) (a:=(p:Int)) (by unfold L18.newErr;rw [if_pos rt.sl,if_pos (by omega),if_neg hnx])
     obtain ⟨k2,s',u1,u2,u3,u4,u5,u6,u7,u8,u9,u10,u11⟩:=nsp;have N2:=hD (New18_any v l (p:Int) (k:Int) (g0+1) (112+(k:Int)) pv 0 (by rw [newSlot,if_pos (by unfold L18.newErr;rw [if_pos rt.sl,if_pos (by omega),if_neg hnx]),al.hnx];rfl) (by rw [newGen,if_pos (by unfold L18.newErr;rw [if_pos rt.sl,if_pos (by omega),if_neg hnx]),al.hnx,Option.getD_some,List.getD_eq_getElem?_getD,al.hs];rfl) (by rw [newAt,if_pos (by unfold L18.newErr;rw [if_pos rt.sl,if_pos (by omega),if_neg hnx]),al.hnx];rfl) (by rw [newVal,if_pos (by unfold L18.newErr;rw [if_pos rt.sl,if_pos (by omega),if_neg hnx]),newGen,if_pos (by unfold L18.newErr;rw [if_pos rt.sl,if_pos (by omega),if_neg hnx]),al.hnx,Option.getD_some,List.getD_eq_getElem?_getD,al.hs,hpv];rfl) (by unfold L18.newErr;rw [if_pos rt.sl,if_pos (by omega),if_neg hnx]))
     have hokO:BkOk (objH p n' q'):=by
      refine ⟨⟨?_,?_⟩,.inl ⟨rfl,⟨?_,?_⟩,?_⟩⟩
      ·show (2:Int)≤(n':Int);omega
      ·show (n':Int) % 2=0;omega
      ·show (0:Int)≤(q':Int);omega
      ·show (q':Int)<8;omega
      ·show (n':Int)≤10;omega
     have BK:=hD (block22_any p (n'-1) (objH p n' q') ow rfl how hokO (by omega) (by omega))
     have LF:=hD (Left_any p n' c fb al.hat al.hsz al.hbk al.hok hRn (by omega) (by omega))
     have hEE:=al.hAL;rw [←hx,←hpv] at hEE;have hnw:newW p n' q' c=(ow :: List.replicate (n'-1) 0)++if c=n' then [] else [L14.word (restH p n' c)]:=by rw [how];rfl
     rw [hnw,runE_app] at hEE;have hlen1:((ow :: List.replicate (n'-1) (0:UInt64)).length:Int)=(n':Int):=by rw [List.length_cons,List.length_replicate];omega
     rw [hlen1] at hEE;have hs1':s1=(k:Int):=by rw [hs1,al.hS]
     have hs2':s2=g0+1:=by rw [hs2,al.hG]
     subst hs1';subst hs2';have b1:=al.hat;have b2:=al.hsz;obtain ⟨bat,bsz,bk1,bty,bmk,bnx⟩:=fb;dsimp only at FF LF b1 b2 BK;subst b1;subst b2;have wn:IntKind.i64.wrap ((n':Int)-1)=((n'-1:Nat):Int):=by rw [show ((n'-1:Nat):Int)=(n':Int)-1 by omega];exact IntWalk.i64_in _ (by omega)
     have J1:=hD (fun lv v1 v2 w hl h1 h2=>join22_any lv v1 v2 [(112+(k:Int),pv)] (runE (p:Int) (ow :: List.replicate (n'-1) 0)) (by simp) (by rw [runE_len,List.length_cons,List.length_replicate];omega) w hl h1 h2)
     by_cases hcn:c=n';case pos=>
      rw [if_pos hcn] at hEE;have hEF:E=[(112+(k:Int),pv)]++runE (p:Int) (ow :: List.replicate (n'-1) 0):=by rw [hEE];simp [runE]
      have HEF:=hD hEF;have HCN:=hD hcn;clear hcn;clear hx hs1 hs2 hr h hc hx0 rt hT hsw hst hi0 hi1 hNT hty hkT htyI hn hks hE he9 hs9 hg9 ha9 hv9 hnx ht hfe hfb hRn htk al hpv how hc2 hp2 hsz hg hk16 hokO hEE hnw hlen1 hEF u1 u2 u3 u4 u5 u6 u7 u8 u9 u10 u11;go_in;go_upto_region 1 with (fail)
      refine wpb1 (39) (#[.int .i64 0,.int .i64 0]) ?_;rintro wa1 ⟨g1,b⟩
      replace B:=B.trans (b.mono B.size);clear b;obtain ⟨c_g1,f_g1,a_g1,d_g1,e_g1⟩:=g1.five;go_wp2_with fail;refine (CK.out _ (H.out.below B)).mono ?_;rintro e wa2 ⟨rfl,b⟩
      try clear c_g1 f_g1 a_g1 d_g1 e_g1
      replace g1:=g1.below b;obtain ⟨c_g1,f_g1,a_g1,d_g1,e_g1⟩:=g1.five;replace B:=B.trans (b.mono B.size);clear b;go_wp2_with fail;refine (T3.out _ (H.out.below B)).mono ?_;rintro e wa3 ⟨rfl,b⟩
      try clear c_g1 f_g1 a_g1 d_g1 e_g1
      replace g1:=g1.below b;obtain ⟨c_g1,f_g1,a_g1,d_g1,e_g1⟩:=g1.five;replace B:=B.trans (b.mono B.size);clear b;go_upto_region 5 with (fail)
      refine wpb10 (51) (#[.int .i64 sw,.int .i64 st]) ?_;rintro wa4 ⟨g2,b⟩
      try clear c_g1 f_g1 a_g1 d_g1 e_g1
      replace g1:=g1.below b;obtain ⟨c_g1,f_g1,a_g1,d_g1,e_g1⟩:=g1.five;replace B:=B.trans (b.mono B.size);clear b;obtain ⟨c_g2,f_g2,a_g2,d_g2,e_g2⟩:=g2.five;go_wp2_with fail;refine (KT.out _ (H.out.below B)).mono ?_;rintro e wa5 ⟨xt,rfl,ot,b⟩
      try clear c_g1 f_g1 a_g1 d_g1 e_g1
      replace g1:=g1.below b;obtain ⟨c_g1,f_g1,a_g1,d_g1,e_g1⟩:=g1.five;try clear c_g2 f_g2 a_g2 d_g2 e_g2
      replace g2:=g2.below b;obtain ⟨c_g2,f_g2,a_g2,d_g2,e_g2⟩:=g2.five;replace B:=B.trans (b.mono B.size);clear b;have rt9:=ot.rd;have lt:=rt9.len;rw [←HNT.out] at lt;clear ot;clear c_g2 f_g2 a_g2 d_g2 e_g2;clear g2;obtain ⟨ad,xb,tb,it,m0,ht,hby⟩:=rt9.at_ (k:=q') (by rw [←HNT.out];exact hqN)
      obtain rfl:tb=t':=by have:=ht.out;rw [HTQ.out] at this;injection this with e;exact e.symm
      have hby2:=hby.out;clear rt9 ht hby;go_upto_region 8 with (fail)
      go_wp2_with fail;refine (KS.out _ _ hby2).mono ?_;rintro e w9 ⟨rfl,rfl⟩
      clear m0 it hby2 lt;go_wp2_with fail;refine (N1.out _ (H.out.below B)).mono ?_;rintro e wa6 ⟨rfl,b⟩
      try clear c_g1 f_g1 a_g1 d_g1 e_g1
      replace g1:=g1.below b;obtain ⟨c_g1,f_g1,a_g1,d_g1,e_g1⟩:=g1.five;replace B:=B.trans (b.mono B.size);clear b;go_upto_region 12 with (fail)
      refine wp_gen (fun Wv=>Below wa6.heap.size wa6 Wv) (((Below.refl _ wa6).alloc (by simp <;> omega) _).alloc (by simp <;> omega) _) ?_;intro wa7 b;try clear c_g1 f_g1 a_g1 d_g1 e_g1
      replace g1:=g1.below b;obtain ⟨c_g1,f_g1,a_g1,d_g1,e_g1⟩:=g1.five;replace B:=B.trans (b.mono B.size);clear b;go_wp2_with fail;refine (FF.out _ (H.out.below B)).mono ?_;rintro e wa8 ⟨rfl,b⟩
      try clear c_g1 f_g1 a_g1 d_g1 e_g1
      replace g1:=g1.below b;obtain ⟨c_g1,f_g1,a_g1,d_g1,e_g1⟩:=g1.five;replace B:=B.trans (b.mono B.size);clear b;go_upto_region 15 with (fail)
      refine wpb1 (64) (#[.int .i64 p,.int .i64 c,.int .i64 bk1,.int .i64 bty,.bool bmk,.int .u64 bnx.toNat]) ?_;rintro wa9 ⟨g4,b⟩
      try clear c_g1 f_g1 a_g1 d_g1 e_g1
      replace g1:=g1.below b;obtain ⟨c_g1,f_g1,a_g1,d_g1,e_g1⟩:=g1.five;replace B:=B.trans (b.mono B.size);clear b;obtain ⟨c_g4,f_g4,a_g4,d_g4,e_g4⟩:=g4.five;go_wp2_with fail;refine (N2.out _ (H.out.below B)).mono ?_;rintro e wa10 ⟨rfl,b⟩
      try clear c_g1 f_g1 a_g1 d_g1 e_g1
      replace g1:=g1.below b;obtain ⟨c_g1,f_g1,a_g1,d_g1,e_g1⟩:=g1.five;try clear c_g4 f_g4 a_g4 d_g4 e_g4
      replace g4:=g4.below b;obtain ⟨c_g4,f_g4,a_g4,d_g4,e_g4⟩:=g4.five;replace B:=B.trans (b.mono B.size);clear b;go_upto_region 18 with (fail)
      refine wpb11 (39) (#[.int .i64 k,.int .i64 (g0+1)]) (131) (#[.int .i64 (112+(k:Int)),.int .u64 pv.toNat]) ?_;rintro wa11 ⟨g5,g6,b⟩
      try clear c_g1 f_g1 a_g1 d_g1 e_g1
      replace g1:=g1.below b;obtain ⟨c_g1,f_g1,a_g1,d_g1,e_g1⟩:=g1.five;try clear c_g4 f_g4 a_g4 d_g4 e_g4
      replace g4:=g4.below b;obtain ⟨c_g4,f_g4,a_g4,d_g4,e_g4⟩:=g4.five;replace B:=B.trans (b.mono B.size);clear b;obtain ⟨c_g5,f_g5,a_g5,d_g5,e_g5⟩:=g5.five;obtain ⟨c_g6,f_g6,a_g6,d_g6,e_g6⟩:=g6.five;go_wp2_with fail;refine (BK.out _).mono ?_;rintro e wa12 ⟨y1,rfl,o1,b⟩
      try clear c_g1 f_g1 a_g1 d_g1 e_g1
      replace g1:=g1.below b;obtain ⟨c_g1,f_g1,a_g1,d_g1,e_g1⟩:=g1.five;try clear c_g4 f_g4 a_g4 d_g4 e_g4
      replace g4:=g4.below b;obtain ⟨c_g4,f_g4,a_g4,d_g4,e_g4⟩:=g4.five;try clear c_g5 f_g5 a_g5 d_g5 e_g5
      replace g5:=g5.below b;obtain ⟨c_g5,f_g5,a_g5,d_g5,e_g5⟩:=g5.five;try clear c_g6 f_g6 a_g6 d_g6 e_g6
      replace g6:=g6.below b;obtain ⟨c_g6,f_g6,a_g6,d_g6,e_g6⟩:=g6.five;replace B:=B.trans (b.mono B.size);clear b;have q1:=o1.rd;clear o1;obtain ⟨yA,yn,yc,rfl⟩:∃A n c,y1=.slice A n c:=by obtain ⟨A,c,e⟩:=ents_form q1;exact ⟨_,_,_,e⟩
      go_wp2_with fail;refine (LF.out _).mono ?_;rintro e wa13 ⟨he,he2,b⟩
      try clear c_g1 f_g1 a_g1 d_g1 e_g1
      replace g1:=g1.below b;obtain ⟨c_g1,f_g1,a_g1,d_g1,e_g1⟩:=g1.five;try clear c_g4 f_g4 a_g4 d_g4 e_g4
      replace g4:=g4.below b;obtain ⟨c_g4,f_g4,a_g4,d_g4,e_g4⟩:=g4.five;try clear c_g5 f_g5 a_g5 d_g5 e_g5
      replace g5:=g5.below b;obtain ⟨c_g5,f_g5,a_g5,d_g5,e_g5⟩:=g5.five;try clear c_g6 f_g6 a_g6 d_g6 e_g6
      replace g6:=g6.below b;obtain ⟨c_g6,f_g6,a_g6,d_g6,e_g6⟩:=g6.five;replace q1:=q1.below b;replace B:=B.trans (b.mono B.size);clear b;have he3:=he HCN.out;unfold zeroB at he3;subst he3;clear he he2;go_upto_region 26 with (fail)
      refine wpb1 (64) (#[.int .i64 0,.int .i64 0,.int .i64 0,.int .i64 0,.bool false,.int .u64 0]) ?_;rintro wa14 ⟨g7,b⟩
      try clear c_g1 f_g1 a_g1 d_g1 e_g1
      replace g1:=g1.below b;obtain ⟨c_g1,f_g1,a_g1,d_g1,e_g1⟩:=g1.five;try clear c_g4 f_g4 a_g4 d_g4 e_g4
      replace g4:=g4.below b;obtain ⟨c_g4,f_g4,a_g4,d_g4,e_g4⟩:=g4.five;try clear c_g5 f_g5 a_g5 d_g5 e_g5
      replace g5:=g5.below b;obtain ⟨c_g5,f_g5,a_g5,d_g5,e_g5⟩:=g5.five;try clear c_g6 f_g6 a_g6 d_g6 e_g6
      replace g6:=g6.below b;obtain ⟨c_g6,f_g6,a_g6,d_g6,e_g6⟩:=g6.five;replace q1:=q1.below b;replace B:=B.trans (b.mono B.size);clear b;obtain ⟨c_g7,f_g7,a_g7,d_g7,e_g7⟩:=g7.five;go_wp2_with fail;have hb0:=B.size;refine (J1.out _ _ _ _ (lit_two (by simp) _ _) (Rd.alloc (ent_own (a:=112+(k:Int)) (x:=pv) (Nat.le_refl _)).rd _) (Rd.alloc (Rd.alloc q1 _) _)).mono ?_;rintro e wj ⟨yj,rfl,oj,bj⟩
      have hal:Below wa14.heap.size wa14 ((wa14.alloc (.cells #[.int .i64 (112+(k:Int)),.int .u64 pv.toNat] 131)).alloc (.cells #[.slice (some ⟨wa14.heap.size,0,none⟩) 1 1,.slice yA yn yc] 71)):=((Below.refl _ _).alloc (Nat.le_refl _) _).alloc (by simp) _;have hb9:=hal.trans (bj.mono hal.size)
      replace g1:=g1.below hb9;replace g5:=g5.below hb9;replace g7:=g7.below hb9;replace B:=B.trans (hb9.mono hb0)
      replace oj:OwnE wj w.heap.size yj _:=own_mono oj (Nat.le_trans hb0 hal.size)
      clear hal hb9 bj q1 hb0 g4 c_g4 f_g4 a_g4 d_g4 e_g4 g6 c_g6 f_g6 a_g6 d_g6 e_g6 c_g1 f_g1 a_g1 d_g1 e_g1 c_g5 f_g5 a_g5 d_g5 e_g5 c_g7 f_g7 a_g7 d_g7 e_g7;have c_g1:=g1.cell;have f_g1:=g1.free;have c_g5:=g5.cell;have c_g7:=g7.cell;go_upto_region 32 with (fail)
      refine wp_region_qtail 3 (by kernel_rfl) (by kernel_rfl) ?_;simp only [List.take_succ_cons,List.take_zero,List.drop_succ_cons,List.drop_zero]
      iterate 3 (go_big_quiet_step (fail))
      refine wpQuiet_nil ?_;have HGQ:=hD (And.intro oj (And.intro g1 B))
      clear oj g1 B g5 g7;go_wp2;refine bodyPost_ret (v:=.tuple #[yj,.agg #[.int .i64 k,.int .i64 (g0+1)],.int .i64 0]) (by simp [results,Tryz.results19,go_sem,c_g1,f_g1]) rfl ?_;obtain ⟨oj,g1,B⟩:=HGQ.out;refine ⟨_,rfl,by rw [HEF.out];exact own_set (own_set oj g1 (by decide)) (g1.set _) (by decide),?_⟩
      exact (B.drew.setCell (p:=⟨w.heap.size,0,none⟩) (Nat.le_refl _) _).setCell (p:=⟨w.heap.size,1,none⟩) (Nat.le_refl _) _
     case neg=>
      rw [if_neg hcn] at hEE;obtain ⟨rw9,hrw⟩:=exq (L14.word (restH p n' c))
      have hokR:BkOk (restH p n' c):=by
       refine ⟨⟨?_,?_⟩,.inr ⟨rfl,rfl,rfl,?_⟩⟩
       ·show (2:Int)≤((c-n':Nat):Int);omega
       ·show ((c-n':Nat):Int) % 2=0;omega
       ·show ((c-n':Nat):Int)≤1920;omega
      have BR:Hid (∀w,Calls Tryz.prog 64 #[.agg (bkA (restH p n' c)),.int .i64 0] w fun e w'=>∃y,e=.returned (.tuple #[y,.int .i64 0])∧OwnE w' w.heap.size y [(((p+n':Nat):Int),rw9)]∧Below w.heap.size w w'):=hD (block22_any (p+n') 0 (restH p n' c) rw9 rfl hrw hokR (by omega) (by omega))
      rw [←hrw] at hEE;have hEF:E=([(112+(k:Int),pv)]++runE (p:Int) (ow :: List.replicate (n'-1) 0))++[(((p+n':Nat):Int),rw9)]:=by
       rw [hEE,show ((p+n':Nat):Int)=(p:Int)+(n':Int) by omega];rfl
      have HEF:=hD hEF;have J2:=hD (fun lv v1 v2 w hl h1 h2=>join22_any lv v1 v2 ([(112+(k:Int),pv)]++runE (p:Int) (ow :: List.replicate (n'-1) 0)) [(((p+n':Nat):Int),rw9)] (by rw [List.length_append,runE_len];simp;omega) (by simp) w hl h1 h2)
      clear hx hs1 hs2 hr h hc hx0 rt hT hsw hst hi0 hi1 hNT hty hkT htyI hn hks hE he9 hs9 hg9 ha9 hv9 hnx ht hfe hfb hRn htk al hpv how hc2 hp2 hsz hg hk16 hokO hEE hnw hlen1 hEF u1 u2 u3 u4 u5 u6 u7 u8 u9 u10 u11;go_in;go_upto_region 1 with (fail)
      refine wpb1 (39) (#[.int .i64 0,.int .i64 0]) ?_;rintro wa1 ⟨g1,b⟩
      replace B:=B.trans (b.mono B.size);clear b;obtain ⟨c_g1,f_g1,a_g1,d_g1,e_g1⟩:=g1.five;go_wp2_with fail;refine (CK.out _ (H.out.below B)).mono ?_;rintro e wa2 ⟨rfl,b⟩
      try clear c_g1 f_g1 a_g1 d_g1 e_g1
      replace g1:=g1.below b;obtain ⟨c_g1,f_g1,a_g1,d_g1,e_g1⟩:=g1.five;replace B:=B.trans (b.mono B.size);clear b;go_wp2_with fail;refine (T3.out _ (H.out.below B)).mono ?_;rintro e wa3 ⟨rfl,b⟩
      try clear c_g1 f_g1 a_g1 d_g1 e_g1
      replace g1:=g1.below b;obtain ⟨c_g1,f_g1,a_g1,d_g1,e_g1⟩:=g1.five;replace B:=B.trans (b.mono B.size);clear b;go_upto_region 5 with (fail)
      refine wpb10 (51) (#[.int .i64 sw,.int .i64 st]) ?_;rintro wa4 ⟨g2,b⟩
      try clear c_g1 f_g1 a_g1 d_g1 e_g1
      replace g1:=g1.below b;obtain ⟨c_g1,f_g1,a_g1,d_g1,e_g1⟩:=g1.five;replace B:=B.trans (b.mono B.size);clear b;obtain ⟨c_g2,f_g2,a_g2,d_g2,e_g2⟩:=g2.five;go_wp2_with fail;refine (KT.out _ (H.out.below B)).mono ?_;rintro e wa5 ⟨xt,rfl,ot,b⟩
      try clear c_g1 f_g1 a_g1 d_g1 e_g1
      replace g1:=g1.below b;obtain ⟨c_g1,f_g1,a_g1,d_g1,e_g1⟩:=g1.five;try clear c_g2 f_g2 a_g2 d_g2 e_g2
      replace g2:=g2.below b;obtain ⟨c_g2,f_g2,a_g2,d_g2,e_g2⟩:=g2.five;replace B:=B.trans (b.mono B.size);clear b;have rt9:=ot.rd;have lt:=rt9.len;rw [←HNT.out] at lt;clear ot;clear c_g2 f_g2 a_g2 d_g2 e_g2;clear g2;obtain ⟨ad,xb,tb,it,m0,ht,hby⟩:=rt9.at_ (k:=q') (by rw [←HNT.out];exact hqN)
      obtain rfl:tb=t':=by have:=ht.out;rw [HTQ.out] at this;injection this with e;exact e.symm
      have hby2:=hby.out;clear rt9 ht hby;go_upto_region 8 with (fail)
      go_wp2_with fail;refine (KS.out _ _ hby2).mono ?_;rintro e w9 ⟨rfl,rfl⟩
      clear m0 it hby2 lt;go_wp2_with fail;refine (N1.out _ (H.out.below B)).mono ?_;rintro e wa6 ⟨rfl,b⟩
      try clear c_g1 f_g1 a_g1 d_g1 e_g1
      replace g1:=g1.below b;obtain ⟨c_g1,f_g1,a_g1,d_g1,e_g1⟩:=g1.five;replace B:=B.trans (b.mono B.size);clear b;go_upto_region 12 with (fail)
      refine wp_gen (fun Wv=>Below wa6.heap.size wa6 Wv) (((Below.refl _ wa6).alloc (by simp <;> omega) _).alloc (by simp <;> omega) _) ?_;intro wa7 b;try clear c_g1 f_g1 a_g1 d_g1 e_g1
      replace g1:=g1.below b;obtain ⟨c_g1,f_g1,a_g1,d_g1,e_g1⟩:=g1.five;replace B:=B.trans (b.mono B.size);clear b;go_wp2_with fail;refine (FF.out _ (H.out.below B)).mono ?_;rintro e wa8 ⟨rfl,b⟩
      try clear c_g1 f_g1 a_g1 d_g1 e_g1
      replace g1:=g1.below b;obtain ⟨c_g1,f_g1,a_g1,d_g1,e_g1⟩:=g1.five;replace B:=B.trans (b.mono B.size);clear b;go_upto_region 15 with (fail)
      refine wpb1 (64) (#[.int .i64 p,.int .i64 c,.int .i64 bk1,.int .i64 bty,.bool bmk,.int .u64 bnx.toNat]) ?_;rintro wa9 ⟨g4,b⟩
      try clear c_g1 f_g1 a_g1 d_g1 e_g1
      replace g1:=g1.below b;obtain ⟨c_g1,f_g1,a_g1,d_g1,e_g1⟩:=g1.five;replace B:=B.trans (b.mono B.size);clear b;obtain ⟨c_g4,f_g4,a_g4,d_g4,e_g4⟩:=g4.five;go_wp2_with fail;refine (N2.out _ (H.out.below B)).mono ?_;rintro e wa10 ⟨rfl,b⟩
      try clear c_g1 f_g1 a_g1 d_g1 e_g1
      replace g1:=g1.below b;obtain ⟨c_g1,f_g1,a_g1,d_g1,e_g1⟩:=g1.five;try clear c_g4 f_g4 a_g4 d_g4 e_g4
      replace g4:=g4.below b;obtain ⟨c_g4,f_g4,a_g4,d_g4,e_g4⟩:=g4.five;replace B:=B.trans (b.mono B.size);clear b;go_upto_region 18 with (fail)
      refine wpb11 (39) (#[.int .i64 k,.int .i64 (g0+1)]) (131) (#[.int .i64 (112+(k:Int)),.int .u64 pv.toNat]) ?_;rintro wa11 ⟨g5,g6,b⟩
      try clear c_g1 f_g1 a_g1 d_g1 e_g1
      replace g1:=g1.below b;obtain ⟨c_g1,f_g1,a_g1,d_g1,e_g1⟩:=g1.five;try clear c_g4 f_g4 a_g4 d_g4 e_g4
      replace g4:=g4.below b;obtain ⟨c_g4,f_g4,a_g4,d_g4,e_g4⟩:=g4.five;replace B:=B.trans (b.mono B.size);clear b;obtain ⟨c_g5,f_g5,a_g5,d_g5,e_g5⟩:=g5.five;obtain ⟨c_g6,f_g6,a_g6,d_g6,e_g6⟩:=g6.five;go_wp2_with fail;refine (BK.out _).mono ?_;rintro e wa12 ⟨y1,rfl,o1,b⟩
      try clear c_g1 f_g1 a_g1 d_g1 e_g1
      replace g1:=g1.below b;obtain ⟨c_g1,f_g1,a_g1,d_g1,e_g1⟩:=g1.five;try clear c_g4 f_g4 a_g4 d_g4 e_g4
      replace g4:=g4.below b;obtain ⟨c_g4,f_g4,a_g4,d_g4,e_g4⟩:=g4.five;try clear c_g5 f_g5 a_g5 d_g5 e_g5
      replace g5:=g5.below b;obtain ⟨c_g5,f_g5,a_g5,d_g5,e_g5⟩:=g5.five;try clear c_g6 f_g6 a_g6 d_g6 e_g6
      replace g6:=g6.below b;obtain ⟨c_g6,f_g6,a_g6,d_g6,e_g6⟩:=g6.five;replace B:=B.trans (b.mono B.size);clear b;have q1:=o1.rd;clear o1;obtain ⟨yA,yn,yc,rfl⟩:∃A n c,y1=.slice A n c:=by obtain ⟨A,c,e⟩:=ents_form q1;exact ⟨_,_,_,e⟩
      go_wp2_with fail;refine (LF.out _).mono ?_;rintro e wa13 ⟨he,he2,b⟩
      try clear c_g1 f_g1 a_g1 d_g1 e_g1
      replace g1:=g1.below b;obtain ⟨c_g1,f_g1,a_g1,d_g1,e_g1⟩:=g1.five;try clear c_g4 f_g4 a_g4 d_g4 e_g4
      replace g4:=g4.below b;obtain ⟨c_g4,f_g4,a_g4,d_g4,e_g4⟩:=g4.five;try clear c_g5 f_g5 a_g5 d_g5 e_g5
      replace g5:=g5.below b;obtain ⟨c_g5,f_g5,a_g5,d_g5,e_g5⟩:=g5.five;try clear c_g6 f_g6 a_g6 d_g6 e_g6
      replace g6:=g6.below b;obtain ⟨c_g6,f_g6,a_g6,d_g6,e_g6⟩:=g6.five;replace q1:=q1.below b;replace B:=B.trans (b.mono B.size);clear b;have he3:=he2 hcn;unfold bkA at he3;subst he3;clear he he2;go_upto_region 26 with (fail)
      refine wpb1 (64) (#[.int .i64 (restH p n' c).at_,.int .i64 (restH p n' c).size,.int .i64 (restH p n' c).kind,.int .i64 (restH p n' c).ty,.bool (restH p n' c).mark,.int .u64 (restH p n' c).next.toNat]) ?_;rintro wa14 ⟨g7,b⟩
      try clear c_g1 f_g1 a_g1 d_g1 e_g1
      replace g1:=g1.below b;obtain ⟨c_g1,f_g1,a_g1,d_g1,e_g1⟩:=g1.five;try clear c_g4 f_g4 a_g4 d_g4 e_g4
      replace g4:=g4.below b;obtain ⟨c_g4,f_g4,a_g4,d_g4,e_g4⟩:=g4.five;try clear c_g5 f_g5 a_g5 d_g5 e_g5
      replace g5:=g5.below b;obtain ⟨c_g5,f_g5,a_g5,d_g5,e_g5⟩:=g5.five;try clear c_g6 f_g6 a_g6 d_g6 e_g6
      replace g6:=g6.below b;obtain ⟨c_g6,f_g6,a_g6,d_g6,e_g6⟩:=g6.five;replace q1:=q1.below b;replace B:=B.trans (b.mono B.size);clear b;obtain ⟨c_g7,f_g7,a_g7,d_g7,e_g7⟩:=g7.five;go_wp2_with fail;have hb0:=B.size;refine (J1.out _ _ _ _ (lit_two (by simp) _ _) (Rd.alloc (ent_own (a:=112+(k:Int)) (x:=pv) (Nat.le_refl _)).rd _) (Rd.alloc (Rd.alloc q1 _) _)).mono ?_;rintro e wj ⟨yj,rfl,oj,bj⟩
      have hal:Below wa14.heap.size wa14 ((wa14.alloc (.cells #[.int .i64 (112+(k:Int)),.int .u64 pv.toNat] 131)).alloc (.cells #[.slice (some ⟨wa14.heap.size,0,none⟩) 1 1,.slice yA yn yc] 71)):=((Below.refl _ _).alloc (Nat.le_refl _) _).alloc (by simp) _;have hb9:=hal.trans (bj.mono hal.size)
      replace g1:=g1.below hb9;replace g5:=g5.below hb9;replace g7:=g7.below hb9;replace B:=B.trans (hb9.mono hb0)
      replace oj:OwnE wj w.heap.size yj _:=own_mono oj (Nat.le_trans hb0 hal.size)
      clear hal hb9 bj q1 hb0 g4 c_g4 f_g4 a_g4 d_g4 e_g4 g6 c_g6 f_g6 a_g6 d_g6 e_g6 c_g1 f_g1 a_g1 d_g1 e_g1 c_g5 f_g5 a_g5 d_g5 e_g5 c_g7 f_g7 a_g7 d_g7 e_g7;have c_g1:=g1.cell;have f_g1:=g1.free;have c_g5:=g5.cell;have c_g7:=g7.cell;obtain ⟨zA,zn,zc,rfl⟩:∃A n c,yj=.slice A n c:=by obtain ⟨A,c,e⟩:=ents_form oj.rd;exact ⟨_,_,_,e⟩
      have c_g7':=g7.cell;clear c_g7;go_wp2_with fail;refine (BR.out _).mono ?_;rintro e wk ⟨yk,rfl,ok,bk⟩
      have qj:=(OwnE.below oj bk).rd;have qk:=ok.rd;replace g1:=g1.below bk;replace g5:=g5.below bk;replace B:=B.trans (bk.mono B.size)
      clear oj ok bk c_g1 f_g1 c_g5 c_g7' g7;have c_g1:=g1.cell;have f_g1:=g1.free;have c_g5:=g5.cell;obtain ⟨kA,kn,kc,rfl⟩:∃A n c,yk=.slice A n c:=by obtain ⟨A,c,e⟩:=ents_form qk;exact ⟨_,_,_,e⟩
      go_wp2_with fail;have hb0:=B.size;refine (J2.out _ _ _ _ (lit_two rfl _ _) (Rd.alloc qj _) (Rd.alloc qk _)).mono ?_;rintro e wm ⟨ym,rfl,om,bm⟩
      have hal:Below wk.heap.size wk (wk.alloc (.cells #[.slice zA zn zc,.slice kA kn kc] 71)):=(Below.refl _ _).alloc (Nat.le_refl _) _;have hb9:=hal.trans (bm.mono hal.size)
      replace g1:=g1.below hb9;replace g5:=g5.below hb9;replace B:=B.trans (hb9.mono hb0)
      replace om:OwnE wm w.heap.size ym _:=own_mono om (Nat.le_trans hb0 hal.size)
      have oj:=om;clear om hal hb9 bm qj qk hb0 c_g1 f_g1 c_g5;have c_g1:=g1.cell;have f_g1:=g1.free;have c_g5:=g5.cell;go_upto_region 32 with (fail)
      refine wp_region_qtail 3 (by kernel_rfl) (by kernel_rfl) ?_;simp only [List.take_succ_cons,List.take_zero,List.drop_succ_cons,List.drop_zero]
      iterate 3 (go_big_quiet_step (fail))
      refine wpQuiet_nil ?_;have HGQ:=hD (And.intro oj (And.intro g1 B))
      clear oj g1 B g5;go_wp2;refine bodyPost_ret (v:=.tuple #[ym,.agg #[.int .i64 k,.int .i64 (g0+1)],.int .i64 0]) (by simp [results,Tryz.results19,go_sem,c_g1,f_g1]) rfl ?_;obtain ⟨oj,g1,B⟩:=HGQ.out;refine ⟨_,rfl,by rw [HEF.out];exact own_set (own_set oj g1 (by decide)) (g1.set _) (by decide),?_⟩
      exact (B.drew.setCell (p:=⟨w.heap.size,0,none⟩) (Nat.le_refl _) _).setCell (p:=⟨w.heap.size,1,none⟩) (Nat.le_refl _) _
end
section
open Go.RowKit L02 L13 L18 L20
theorem Rd.ixU {w:World} {sz n:Nat} {v:Value} {xs:List Value} {t e:TypeId} (h:Rd w sz v n xs) (ht:Tryz.prog.underlying t=some (.slice e)) (hi:(Tryz.prog.info? e).map (·.size)=some sz) {k:Nat} (hk:k<n) (W:World):
  (Instr.indexAt t v (.int .u64 (k:Int))).run Tryz.prog W=.ok (.pointer (some (cellAt v (k*sz)))) W:=by
 obtain ⟨i,hi',rfl⟩:=Option.map_eq_some_iff.1 hi;clear hi;obtain ⟨A,c,rfl,h1,_,h2,h3,h4⟩:=h;cases A with
 | none=>have:=h3 rfl;omega
 | some ad=>
  obtain ⟨b,o,s⟩:=ad
  have:=(h4 (by omega) _ rfl).1;simp at this;subst this;simp [Instr.indexAt,run_underlying ht,asIntOf,hk,sizeOf,typeInfo,hi',cellAt,Addr.add]
theorem Ints.atU {w:World} {v:Value} {l:List Int} (h:Ints w v l) {k:Nat} (hk:k<l.length):
  ∃ad x,(∀W,(Instr.indexAt 96 v (.int .u64 (k:Int))).run Tryz.prog W=.ok (.pointer (some ad)) W)∧w.cell? ad=some (.int .i64 x)∧Hid (l[k]?=some x):=
 ⟨_,l[k],fun W=>Rd.ixU h Tryz.underlying96 one_int hk W,by rw [Nat.mul_one];exact Rd.cell h (by simp [hk];rfl),by unfold Hid;simp [hk]⟩
end
section
open Go.RowKit L02 L13 L18 L20
def Fr (b:Nat) (w w':World):Prop:=w.heap.size≤w'.heap.size∧∀(g:Nat) (t:TypeId) (cs:Array Value),b≤g→t≠42→Bx w g t cs→Bx w' g t cs
theorem Bx.fr {b g:Nat} {w w':World} {t:TypeId} {cs:Array Value} (h:Bx w g t cs) (hf:Fr b w w') (hb:b≤g) (ht:t≠42):Bx w' g t cs:=hf.2 g t cs hb ht h
def KeepB (B:Nat) (w w':World):Prop:=∀(v:Value) (l:List UInt8),OwnB w B 5 v l→OwnB w' B 5 v l
theorem OwnT.atB {w:World} {base:Nat} {v:Value} {L:List (List UInt8)} (h:OwnT w base v L) {k:Nat} {l:List UInt8} (hl:L[k]?=some l):
  ∃ad y,(∀W,(Instr.indexAt 27 v (.int .i64 (k:Int))).run Tryz.prog W=.ok (.pointer (some ad)) W)∧w.cell? ad=some y∧OwnB w base 5 y l:=by
 obtain ⟨vs,h1,h2,h4⟩:=h;have hk:k<L.length:=(List.getElem?_eq_some_iff.1 hl).1;have hv:vs[k]?=some vs[k]:=List.getElem?_eq_getElem (by omega)
 exact ⟨cellAt v (k*1),vs[k],fun W=>Rd.ixN (Rd.of_own h2) Tryz.underlying27 one_bytes hk W,by rw [Nat.mul_one];exact Rd.cell (Rd.of_own h2) hv,h4 k _ _ hv hl⟩
structure Rough (m:Mo):Prop where
 n:m.objs.length≤1000
 o:∀o∈m.objs,(0≤o.ty∧o.ty<m.types.length)∧o.fs.length=(ty m.types o).length∧o.fs.length≤20
theorem refs_any (m:Mo) (tv ov sv:Value) (fid:Nat) (first cap:Array Value) (B0:Nat) (J:Nat→Nat→Mo→World→Prop) (w:World) (hw:B0≤w.heap.size) (hr:Rough m) (hcf:∀args W,(callFunc fid args).run Tryz.prog W=.ok (.enter fid args) W)
  (hst:∀n i m' W W',J n i m' W→Below W.heap.size W W'→J n i m' W')
  (hnx:∀n m' W,n<m.objs.length→J n (ob m n).fs.length m' W→J (n+1) 0 m' W)
  (hno:∀n i m' W,n<m.objs.length→i<(ob m n).fs.length→((ty m.types (ob m n)).getD i 0).toNat≠3→J n i m' W→J n (i+1) m' W)
  (hcl:∀n i m' gf W,n<m.objs.length→i<(ob m n).fs.length→((ty m.types (ob m n)).getD i 0).toNat=3→Like m m'→w.heap.size≤W.heap.size→OwnM W B0 37 tv ov sv m'→OwnF W B0 ov m'.objs n gf→J n i m' W→
   Calls Tryz.prog fid (first++(#[.int .i64 n,.pointer (some ⟨gf,i,none⟩)]++cap)) W fun e W'=>e=.returned (.tuple #[])∧∃m'',Like m m''∧OwnM W' B0 37 tv ov sv m''∧OwnF W' B0 ov m''.objs n gf∧J n (i+1) m'' W'∧Fr w.heap.size W W'∧KeepB B0 W W')
  (m0:Mo) (hl:Like m m0) (h:OwnM w B0 37 tv ov sv m0) (hj:J 0 0 m0 w):
  Calls Tryz.prog 41 #[.agg #[tv,ov,sv],.func (.func fid) first cap] w fun e w'=>e=.returned (.tuple #[])∧∃m',Like m m'∧OwnM w' B0 37 tv ov sv m'∧J m.objs.length 0 m' w':=by
 obtain ⟨N,hN⟩:=exq m.objs.length;have HST:=hD hst;have HNX:=hD hnx;have HNO:=hD hno;have HCL:=hD hcl;have HR:=hD hr;have HN:=hD hN;have HL0:=hD hl;have hN1:N≤1000:=by rw [hN];exact hr.n
 clear hst hnx hno hcl hr hl hN;obtain ⟨tA,tn,tc,rfl⟩:=h.forms.1;obtain ⟨oA,on,oc,rfl⟩:=h.forms.2.1;obtain ⟨sA,sn,sc,rfl⟩:=h.forms.2.2;go_in;go_upto_region 1 with (fail)
 have b:=(Below.refl w.heap.size w).alloc (Nat.le_refl _) (.cells #[.slice tA tn tc,.slice oA on oc,.slice sA sn sc] 31)
 refine wp_gen (fun Wv=>Bx Wv w.heap.size 31 #[.slice tA tn tc,.slice oA on oc,.slice sA sn sc]∧OwnM Wv B0 37 (.slice tA tn tc) (.slice oA on oc) (.slice sA sn sc) m0∧J 0 0 m0 Wv∧w.heap.size<Wv.heap.size) ⟨Bx.at_ (by simp),h.below b,HST.out _ _ _ _ _ hj b,by simp⟩ ?_;clear b h hj;rintro wa ⟨g1,om,hj,hz⟩
 have c_g1:=g1.cell;have lo:=om.o.rd.len;rw [HL0.out.2.1,←HN.out] at lo;have HI:=hD (And.intro g1 (And.intro om (And.intro HL0.out (And.intro hj hz))))
 clear g1 om hj HL0;go_wp2;clear c_g1 lo
 go_loopg [11] N (fun g i wr=>∃n:Nat,n≤N∧g=N-n∧i=.int .i64 n∧Hid (∃m',Bx wr w.heap.size 31 #[.slice tA tn tc,.slice oA on oc,.slice sA sn sc]∧OwnM wr B0 37 (.slice tA tn tc) (.slice oA on oc) (.slice sA sn sc) m'∧Like m m'∧J n 0 m' wr∧w.heap.size<wr.heap.size))
 case atStart=>exact ⟨0,by omega,by omega,rfl,hD ⟨_,HI.out⟩⟩
 case round=>
  clear HI hz;obtain ⟨n,hn,rfl,rfl,hh⟩:=hrel;obtain ⟨m',g1,om,hl,hj,hz⟩:=hh.out;by_cases hlt:n<N
  ·have hnm:n<m.objs.length:=by rw [←HN.out];exact hlt
   obtain ⟨o,ho⟩:∃o,m'.objs[n]?=some o:=⟨_,List.getElem?_eq_getElem (by rw [hl.2.1];exact hnm)⟩
   have hob:ob m' n=o:=ob_at ho;obtain ⟨oo,hoo⟩:∃o,m.objs[n]?=some o:=⟨_,List.getElem?_eq_getElem hnm⟩
   have hoob:ob m n=oo:=ob_at hoo;have hlk:=hl.2.2 n;rw [hob,hoob] at hlk;obtain ⟨⟨hq0,hq1⟩,hfl,hf20⟩:=HR.out.o oo (List.mem_of_getElem? hoo)
   obtain ⟨q,hq⟩:=Int.eq_ofNat_of_zero_le hq0;have hqt:q<m'.types.length:=by rw [hl.1];omega
   obtain ⟨t,ht⟩:∃t,m'.types[q]?=some t:=⟨_,List.getElem?_eq_getElem hqt⟩
   have htt:ty m.types oo=t:=by rw [ty,hq,←hl.1];simp [List.getD_eq_getElem?_getD,ht]
   have hoq:o.ty=(q:Int):=by rw [hlk.1,hq]
   obtain ⟨nt,hnt⟩:=exq t.length;have hofl:o.fs.length=nt:=by rw [hlk.2,hfl,htt,hnt]
   have hnt20:nt≤20:=by omega
   have HOF:=hD hofl;have c_g1:=g1.cell;obtain ⟨ad,yt,iy,m3,hby⟩:=om.t.atB ht;have ly:=Rd.len (OwnB.rd hby) Tryz.underlying66;rw [←hnt] at ly;by_cases hf:0<nt
   ·obtain ⟨b,bq,gf,nf,cf,ix,p0,p1,hb,of_,hnf,hix⟩:=om.o.at_ ho (by omega)
    rw [hoq] at p0;rw [hofl] at hix hnf;obtain rfl:nt=nf:=hnf.symm;have HNT:=hD hnt;clear hnt hofl;have HC:=hD (And.intro hl (And.intro hj (And.intro om of_)))
    obtain ⟨wn,hwn⟩:=exq wr;subst hwn;clear hh;go_upto_region 4 with (fail)
    have b':=(Below.refl wn.heap.size wn).alloc (Nat.le_refl _) (.cells #[.int .i64 (q:Int),.slice (some ⟨gf,0,none⟩) nt cf] 68)
    refine wp_gen (fun Wv=>Bx Wv wn.heap.size 68 #[.int .i64 (q:Int),.slice (some ⟨gf,0,none⟩) nt cf]∧Below wn.heap.size wn Wv∧wn.heap.size<Wv.heap.size) ?_ ?_
    ·exact ⟨Bx.new wn _ _,b',by simp⟩
    clear b' p0 p1 ix;rintro wb ⟨g5,b5,hz5⟩
    have HX:=hD (And.intro (g1.below b5) (And.intro g5 (And.intro (OwnM.below HC.out.2.2.1 b5) (And.intro (OwnF.below HC.out.2.2.2 b5) (And.intro HC.out.1 (And.intro (HST.out _ _ _ _ _ HC.out.2.1 b5) (And.intro hz5 (own_below hby b5))))))))
    have c_g1:=(g1.below b5).cell;have c_g5:=g5.cell;have m3':=cell_later b5 m3;clear g1 g5 b5 m3 HC om of_ hj hl hby;go_wp2;clear c_g1 c_g5 m3' iy
    go_loopg [23] nt (fun g i wr=>∃p:Nat,p≤nt∧g=nt-p∧i=.int .i64 p∧Hid (∃m',Bx wr w.heap.size 31 #[.slice tA tn tc,.slice oA on oc,.slice sA sn sc]∧Bx wr wn.heap.size 68 #[.int .i64 (q:Int),.slice (some ⟨gf,0,none⟩) nt cf]∧OwnM wr B0 37 (.slice tA tn tc) (.slice oA on oc) (.slice sA sn sc) m'∧OwnF wr B0 (.slice oA on oc) m'.objs n gf∧Like m m'∧J n p m' wr∧wn.heap.size<wr.heap.size∧OwnB wr B0 5 yt t))
    case atStart=>exact ⟨0,by omega,by omega,rfl,hD ⟨_,HX.out⟩⟩
    case round=>
     clear HX;obtain ⟨p,hp,rfl,rfl,hh⟩:=hrel;obtain ⟨m2,g1,g5,om,of_,hl,hj,hz2,hby⟩:=hh.out;have c_g1:=g1.cell;have c_g5:=g5.cell;have ix:=hix p;by_cases hltp:p<nt
     ·have ix:=hix p (by omega)
      obtain ⟨bd,kk,ib,m4,hkk⟩:=((OwnB.rd hby).at_ (P:=Tryz.prog) Tryz.underlying66 one_u8 (k:=p) (by rw [←HNT.out];exact hltp))
      have hpm:p<(ob m n).fs.length:=by rw [hoob,←hlk.2,HOF.out];exact hltp
      have hkm:(ty m.types (ob m n)).getD p 0=kk:=by rw [hoob,htt];simp [List.getD_eq_getElem?_getD,hkk.out]
      clear hkk;by_cases h3:kk.toNat=3
      ·have k3:((kk.toNat:Int)==3)=true:=by rw [beq_iff_eq];omega
       have HCC:=hD (HCL.out n p m2 gf wr hnm hpm (by rw [hkm];exact h3) hl (by omega) om of_ hj)
       have HG:=hD (And.intro g1 (And.intro g5 (And.intro hby hz2)))
       clear g1 g5 hby hz2 om of_ hl hj;go_upto_region 8 with (fail)
       go_wp2_with fail;refine HCC.out.mono ?_;rintro e w' ⟨rfl,m3,a1,a2,a3,a4,a5,a6⟩
       obtain ⟨g1,g5,hby,hz2⟩:=HG.out;have HJ:=hD (And.intro (g1.fr a5 (Nat.le_refl _) (by decide)) (And.intro (g5.fr a5 (by omega) (by decide)) (And.intro a2 (And.intro a3 (And.intro a1 (And.intro a4 (And.intro (Nat.lt_of_lt_of_le hz2 a5.1) (a6 _ _ hby))))))))
       clear a1 a2 a3 a4 a5 a6 g1 g5 hby hz2 HG HCC;go_wp2
       go_roundg (nt-(p+1))
       case measure=>omega
       case rel=>exact ⟨p+1,by omega,rfl,by go_num,hD ⟨m3,HJ.out⟩⟩
      ·have k3:((kk.toNat:Int)==3)=false:=by rw [beq_eq_false_iff_ne];omega
       have HJ:=hD (HNO.out n p m2 wr hnm hpm (by rw [hkm];exact h3) hj)
       clear hj;go_wp2
       go_roundg (nt-(p+1))
       case measure=>omega
       case rel=>exact ⟨p+1,by omega,rfl,by go_num,hD ⟨m2,g1,g5,om,of_,hl,HJ.out,hz2,hby⟩⟩
     ·obtain rfl:p=nt:=by omega
      have HJ:=hD (HNX.out n m2 wr hnm (by rw [hoob,←hlk.2,HOF.out];exact hj))
      clear hj ix;go_wp2
      go_roundg (N-(n+1))
      case measure=>omega
      case rel=>exact ⟨n+1,by omega,rfl,by go_num,hD ⟨m2,g1,om,hl,HJ.out,by omega⟩⟩
   ·obtain ⟨bo,bq,x0,o2,ix,p0,p1,ho2,hx0,hob2⟩:=(om.o.rd).at_ (k:=n) (by rw [hl.2.1];exact hnm)
    obtain rfl:o2=o:=by have:=ho2.out;rw [ho] at this;injection this with e;exact e.symm
    obtain ⟨xA,xn,xc,rfl⟩:∃A n c,x0=.slice A n c:=by obtain ⟨A,c,e,_⟩:=hx0.out;exact ⟨A,_,c,e⟩
    rw [hoq] at p0;obtain rfl:nt=0:=by omega
    clear hx0 ho2 hnt;have HC:=hD (And.intro hl (And.intro hj om))
    obtain ⟨wn,hwn⟩:=exq wr;subst hwn;clear hh;go_upto_region 4 with (fail)
    have b':=(Below.refl wn.heap.size wn).alloc (Nat.le_refl _) (.cells #[.int .i64 (q:Int),.slice xA xn xc] 68)
    refine wp_gen (fun Wv=>Bx Wv wn.heap.size 68 #[.int .i64 (q:Int),.slice xA xn xc]∧Below wn.heap.size wn Wv∧wn.heap.size<Wv.heap.size) ?_ ?_
    ·exact ⟨Bx.new wn _ _,b',by simp⟩
    clear b' p0 p1 ix;rintro wb ⟨g5,b5,hz5⟩
    have HX:=hD (And.intro (g1.below b5) (And.intro (OwnM.below HC.out.2.2 b5) (And.intro HC.out.1 (And.intro (HST.out _ _ _ _ _ HC.out.2.1 b5) hz5))))
    have c_g1:=(g1.below b5).cell;have c_g5:=g5.cell;have m3':=cell_later b5 m3;clear g1 g5 b5 m3 HC om hj hl hby;go_wp2;clear c_g1 c_g5 m3' iy
    go_loopg [23] 0 (fun g i wr=>g=0∧i=.int .i64 0∧Hid (Bx wr w.heap.size 31 #[.slice tA tn tc,.slice oA on oc,.slice sA sn sc]∧OwnM wr B0 37 (.slice tA tn tc) (.slice oA on oc) (.slice sA sn sc) m'∧Like m m'∧J n 0 m' wr∧wn.heap.size<wr.heap.size))
    case atStart=>exact ⟨rfl,rfl,HX⟩
    case round=>
     clear HX;obtain ⟨rfl,rfl,hh⟩:=hrel;obtain ⟨g1,om,hl,hj,hz2⟩:=hh.out;have HJ:=hD (HNX.out n m' wr hnm (by rw [hoob,←hlk.2,HOF.out];exact hj))
     go_wp2
     go_roundg (N-(n+1))
     case measure=>omega
     case rel=>exact ⟨n+1,by omega,rfl,by go_num,hD ⟨m',g1,om,hl,HJ.out,by omega⟩⟩
  ·obtain rfl:n=N:=by omega
   go_wp2;refine bodyPost_end (results_none rfl _ _ _) rfl ?_;refine ⟨rfl,m',hl,om,?_⟩
   rw [←HN.out];exact hj
end
section
open Go.RowKit L02 L13 L18 L20
theorem Free1_any (k own gf i pb po:Nat) (v:UInt64) (b b':Bool) (hb':b'=(b || (decide (k≠own) && decide (v.toNat=own+1)))) (ho:own≤1000) (w:World)
  (hv:w.cell? ⟨gf,i,none⟩=some (.int .u64 v.toNat)) (hf:w.frozen? ⟨gf,i,none⟩=false) (g1:Bx w pb 4 #[.bool b]) (g2:Bx w po 3 #[.int .i64 own]) (n1:gf≠pb) (n2:po≠pb):
  Calls Tryz.prog 74 #[.int .i64 k,.pointer (some ⟨gf,i,none⟩),.pointer (some ⟨pb,0,none⟩),.pointer (some ⟨po,0,none⟩)] w fun e w'=>e=.returned (.tuple #[])∧
   ∃q,w'=if own+1<v.toNat then (((w.drew).setCell ⟨pb,0,none⟩ (.bool b')).drewN q).setCell ⟨gf,i,none⟩ (.int .u64 (v.toNat-1:Nat)) else ((w.drew).setCell ⟨pb,0,none⟩ (.bool b')).drewN q:=by
 obtain ⟨vn,hvn⟩:=exq v.toNat;have hvl:=v.toNat_lt;rw [←hvn] at hv hb' hvl ⊢;have c1:=g1.cell;have f1:=g1.free;have c2:=g2.cell;have hw1:IntKind.u64.wrap (own:Int)=(own:Int):=by show (own:Int) % 18446744073709551616=_;omega
 have hw2:IntKind.u64.wrap ((own:Int)+1)=(own:Int)+1:=by show ((own:Int)+1) % 18446744073709551616=_;omega
 have HB:=hD hb';clear hb' hvn;obtain ⟨R,hR⟩:∃R:World→Prop,R=fun w'=>∃q,w'=if own+1<vn then (((w.drew).setCell ⟨pb,0,none⟩ (.bool b')).drewN q).setCell ⟨gf,i,none⟩ (.int .u64 (vn-1:Nat)) else ((w.drew).setCell ⟨pb,0,none⟩ (.bool b')).drewN q:=⟨_,rfl⟩
 have HR:=hD hR;have HG:=hD (And.intro (show Bx w.drew pb 4 #[.bool b] from g1) (And.intro (show Bx w.drew po 3 #[.int .i64 own] from g2) (And.intro (show w.drew.cell? ⟨gf,i,none⟩=some (.int .u64 vn) from hv) (show w.drew.frozen? ⟨gf,i,none⟩=false from hf))))
 have main:Calls Tryz.prog 74 #[.int .i64 k,.pointer (some ⟨gf,i,none⟩),.pointer (some ⟨pb,0,none⟩),.pointer (some ⟨po,0,none⟩)] w fun e w'=>e=.returned (.tuple #[])∧R w':=by
  clear hR g1 g2;have cases:(b=true∧b'=true)∨(b=false∧b'=false∧((k:Int) != (own:Int))=false)∨(b=false∧b'=false∧((k:Int) != (own:Int))=true∧((vn:Int)==(own:Int)+1)=false)∨(b=false∧b'=true∧((k:Int) != (own:Int))=true∧((vn:Int)==(own:Int)+1)=true):=by
   rw [HB.out]
   cases b
   ·refine .inr ?_;by_cases hk:k=own
    ·exact .inl ⟨rfl,by simp [hk],by rw [bne_eq_false_iff_eq];omega⟩
    ·refine .inr ?_;by_cases h2:vn=own+1
     ·exact .inr ⟨rfl,by simp [hk,h2],by rw [bne_iff_ne];omega,by rw [beq_iff_eq];omega⟩
     ·exact .inl ⟨rfl,by simp [h2],by rw [bne_iff_ne];omega,by rw [beq_eq_false_iff_ne];omega⟩
   ·exact .inl ⟨rfl,by simp⟩
  rcases cases with ⟨rfl,rfl⟩ | ⟨rfl,rfl,hk1⟩ | ⟨rfl,rfl,hk1,hv1⟩ | ⟨rfl,rfl,hk1,hv1⟩
  all_goals
   clear HB;go_in;go_upto_region 0 with (fail)
   refine wp_region_qtail 15 (by kernel_rfl) (by kernel_rfl) ?_;simp only [List.take_succ_cons,List.take_zero,List.drop_succ_cons,List.drop_zero]
   iterate 15 (go_big_quiet_step (fail))
   refine wpQuiet_nil ?_;clear c1 f1 c2 hv hf;have c1:=HG.out.1.cell;have f1:=HG.out.1.free;go_upto_region 1 with (fail)
   refine wp_gen (fun Wv=>Wv=(w.drew).setCell ⟨pb,0,none⟩ (.bool _)) rfl ?_;intro W hW;have hv:W.cell? ⟨gf,i,none⟩=some (.int .u64 vn):=by rw [hW];exact cell_far (q:=⟨pb,0,none⟩) HG.out.2.2.1 n1
   have hf:W.frozen? ⟨gf,i,none⟩=false:=by rw [hW,World.frozen?_setCell];exact HG.out.2.2.2
   have c2:∀i:Nat,W.cell? ⟨po,i,none⟩=#[Value.int .i64 (own:Int)][i]?:=fun i=>by rw [hW];exact (HG.out.2.1.far (p:=⟨pb,0,none⟩) n2 _).cell i
   have HW:=hD hW;clear hW HG c1 f1;try clear hk1 hv1
   try clear hk1
   by_cases hlt:own+1<vn
   ·have hd:decide ((own:Int)+1<(vn:Int))=true:=by rw [decide_eq_true_iff];omega
    have hw3:IntKind.u64.wrap ((vn:Int)-1)=(vn:Int)-1:=by show ((vn:Int)-1) % 18446744073709551616=_;omega
    go_big_quiet (fail)
    go_wp2;refine bodyPost_end (results_none rfl _ _ _) rfl ⟨rfl,?_⟩
    rw [HR.out]
    refine ⟨nq,?_⟩
    rw [if_pos hlt,←HW.out]
    congr 2;omega
   ·have hd:decide ((own:Int)+1<(vn:Int))=false:=by rw [decide_eq_false_iff_not];omega
    go_big_quiet (fail)
    go_wp2;refine bodyPost_end (results_none rfl _ _ _) rfl ⟨rfl,?_⟩
    rw [HR.out]
    refine ⟨nq,?_⟩
    rw [if_neg hlt,←HW.out]
 subst hR;exact main
theorem Canon1_any (k gf i pc pf:Nat) (v:UInt64) (tv ov sv nv rv:Value) (ks:List Int) (x:Int) (w:World) (hx:0<v.toNat→ks[v.toNat-1]?=some x) (hx0:0≤x∧x≤1000) (hl:v.toNat≤1000)
  (hv:w.cell? ⟨gf,i,none⟩=some (.int .u64 v.toNat)) (hf:w.frozen? ⟨gf,i,none⟩=false) (g1:Bx w pc 94 #[.pointer (some ⟨pf,0,none⟩)]) (g2:Bx w pf 98 #[tv,ov,sv,nv,rv]) (hn:Ints w nv ks):
  Calls Tryz.prog 42 #[.int .i64 k,.pointer (some ⟨gf,i,none⟩),.pointer (some ⟨pc,0,none⟩)] w fun e w'=>e=.returned (.tuple #[])∧
   w'=if 0<v.toNat then (w.drew).setCell ⟨gf,i,none⟩ (.int .u64 x) else w:=by
 obtain ⟨vn,hvn⟩:=exq v.toNat;rw [←hvn] at hv hx hl ⊢;have c1:=g1.cell;have c2:=g2.cell;have hw3:IntKind.u64.wrap x=x:=by show x % 18446744073709551616=_;omega
 obtain ⟨R,hR⟩:∃R:World→Prop,R=fun w'=>w'=if 0<vn then (w.drew).setCell ⟨gf,i,none⟩ (.int .u64 x) else w:=⟨_,rfl⟩
 have HR:=hD hR;have HN:=hD hn;have HX:=hD hx;have main:Calls Tryz.prog 42 #[.int .i64 k,.pointer (some ⟨gf,i,none⟩),.pointer (some ⟨pc,0,none⟩)] w fun e w'=>e=.returned (.tuple #[])∧R w':=by
  clear hR g1 g2 hn hvn hx;by_cases h0:0<vn
  ·obtain ⟨q,rfl⟩:∃q,vn=q+1:=⟨vn-1,by omega⟩
   have hxx:=HX.out h0;rw [Nat.add_sub_cancel] at hxx;obtain ⟨nd,x2,ind,m6,hx2⟩:=HN.out.atU (k:=q) (List.getElem?_eq_some_iff.1 hxx).1;obtain rfl:x2=x:=by have:=hx2.out;rw [hxx] at this;injection this with e;exact e.symm
   have hv':w.cell? ⟨gf,i,none⟩=some (.int .u64 ((q:Int)+1)):=by rw [hv];rfl
   have hne:((q:Int)+1 != 0)=true:=by rw [bne_iff_ne];omega
   have z2:IntKind.u64.wrap (q:Int)=(q:Int):=by show (q:Int) % 18446744073709551616=_;omega
   clear hv h0 hx2 hxx;go_in;go_upto_region 1 with (fail)
   refine wp_region_qtail 13 (by kernel_rfl) (by kernel_rfl) ?_;simp only [List.take_succ_cons,List.take_zero,List.drop_succ_cons,List.drop_zero]
   iterate 13 (go_big_quiet_step (fail))
   refine wpQuiet_nil ?_;have hv2:w.drew.cell? ⟨gf,i,none⟩=some (.int .u64 ((q:Int)+1)):=hv';have hf2:w.drew.frozen? ⟨gf,i,none⟩=false:=hf;clear c1 c2 m6 hv' hf;go_wp2;refine bodyPost_end (results_none rfl _ _ _) rfl ⟨rfl,?_⟩
   rw [HR.out]
   show _=if 0<q+1 then _ else _
   rw [if_pos (by omega)]
   rfl
  ·obtain rfl:vn=0:=by omega
   have hv':w.cell? ⟨gf,i,none⟩=some (.int .u64 0):=by rw [hv];rfl
   clear hv;go_in;go_wp2;refine bodyPost_end (results_none rfl _ _ _) rfl ⟨rfl,?_⟩
   rw [HR.out]
   rfl
 subst hR;exact main
end
end Go.Proofs.YteejianjjpdimaaGreat
