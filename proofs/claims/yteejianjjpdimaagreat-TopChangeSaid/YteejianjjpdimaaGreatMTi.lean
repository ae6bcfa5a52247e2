/- Contracts of the functions that the laws 'T' reach, part 9. No condition. -/
import Derived.Test.YteejianjjpdimaaGreatMTh
set_option linter.unusedVariables false
set_option linter.unusedSimpArgs false
set_option maxRecDepth 100000
set_option maxHeartbeats 8000000
namespace Go.Proofs.YteejianjjpdimaaGreat
section
open Go.RowKit L01 L02 L05 L07 L13 L14 L15 L18 L19
theorem OwnT.apart {w:World} {B p i:Nat} {v u:Value} {L:List (List UInt8)} (h:OwnT w B v L) (hp:p<B):OwnT (w.setCell ⟨p,i,none⟩ u) B v L:=by
 obtain ⟨vs,a1,a2,a4⟩:=h;exact ⟨vs,a1,own_apart a2 hp,fun i x l h5 h6=>own_apart (a4 i x l h5 h6) hp⟩
theorem OwnT.mid {w w':World} {lo:Nat} {v:Value} {L:List (List UInt8)} (h:OwnT w lo v L) (hm:Mid lo w.heap.size w w'):OwnT w' lo v L:=by
 obtain ⟨vs,a1,a2,a4⟩:=h;exact ⟨vs,a1,own_mid a2 hm,fun i x l h5 h6=>own_mid (a4 i x l h5 h6) hm⟩
theorem OwnT.up {w:World} {base base':Nat} {v:Value} {L:List (List UInt8)} (h:OwnT w base v L) (hb:base'≤base):OwnT w base' v L:=by
 obtain ⟨vs,h1,h2,h4⟩:=h;exact ⟨vs,h1,own_mono h2 hb,fun i x l h5 h6=>own_mono (h4 i x l h5 h6) hb⟩
theorem OwnT.form {w:World} {B:Nat} {v:Value} {L:List (List UInt8)} (h:OwnT w B v L):∃A n c,v=.slice A n c:=by
 obtain ⟨_,_,h2,_⟩:=h;obtain ⟨A,c,e,_⟩:=Rd.of_own h2;exact ⟨A,_,c,e⟩
theorem row_form {w:World} {B e sz n:Nat} {v:Value} {xs:List Value} (h:w.ownsRow B e sz v n xs):∃A n c,v=.slice A n c:=by
 obtain ⟨A,c,e,_⟩:=Rd.of_own h;exact ⟨A,_,c,e⟩
structure MidS (lo:Nat) (ws w:World):Prop where
 m:Mid lo ws.heap.size ws w
 z:ws.heap.size≤w.heap.size
theorem MidS.below {lo:Nat} {ws w w':World} (h:MidS lo ws w) (hb:Below w.heap.size w w'):MidS lo ws w':=⟨h.m.below h.z hb,Nat.le_trans h.z hb.size⟩
theorem MidS.grown {lo:Nat} {ws w w':World} {row:Option Nat} (h:MidS lo ws w) (hg:w.grownBy w' row) (hr:∀k,row=some k→k<lo∨ws.heap.size≤k):MidS lo ws w':=⟨h.m.grown h.z hg hr,Nat.le_trans h.z hg.size⟩
theorem MidS.set {lo:Nat} {ws w:World} (h:MidS lo ws w) {p:Addr} (hp:p.block<lo) (u:Value):MidS lo ws (w.setCell p u):=⟨h.m.set (.inl hp) u,by simpa [World.setCell] using h.z⟩
structure SgO (W:World) (base lo:Nat) (v tv sv bv:Value) (E pm nm:Nat) (l:List UInt64) (T:List (List UInt8)) (S:List Sl) (O:List Hb) (w0:World):Prop where
 b:Below w0.heap.size w0 W
 t:OwnT W lo tv T
 s:W.ownsRow lo E 3 sv S.length (tabL S)
 k:OwnK W base bv O
 kn:bv.ownBlock≠some w0.heap.size
 m:MapL Tryz.prog 3 4 (.bool false) W pm nm (fun a=>.bool (decide (IsObj O a)))
theorem SgO.set {W w0:World} {base lo E pm nm i:Nat} {v tv sv bv u:Value} {l:List UInt64} {T:List (List UInt8)} {S:List Sl} {O:List Hb} (h:SgO W base lo v tv sv bv E pm nm l T S O w0) (hp:w0.heap.size<lo) (hm:w0.heap.size≠pm):SgO (W.setCell ⟨w0.heap.size,i,none⟩ u) base lo v tv sv bv E pm nm l T S O w0:=
 ⟨h.b.setCell (p:=⟨w0.heap.size,i,none⟩) (Nat.le_refl _) _,h.t.apart hp,own_apart h.s hp,World.ownsRow.kept h.k (grown_set _ ⟨w0.heap.size,i,none⟩ u) (.inr h.kn),h.kn,h.m.kept (grown_set _ ⟨w0.heap.size,i,none⟩ u) (by intro e;injection e with e;exact hm e.symm)⟩
theorem SgO.sg {W w0:World} {base lo E pm nm:Nat} {v tv sv bv:Value} {l:List UInt64} {T:List (List UInt8)} {S:List Sl} {O:List Hb} (h:SgO W base lo v tv sv bv E pm nm l T S O w0) (hw:Words w0 v l):Sg W v tv sv bv pm nm l T S O:=
 ⟨hw.below h.b,h.t.rd,Rd.of_own h.s,h.k.rd,h.m⟩
theorem objs_snoc {L:List Hb} {b:Hb}:objs (L++[b])=objs L++(if b.kind=1 then [b] else []):=by
 unfold objs;rw [List.filter_append]
 by_cases h:b.kind=1 <;> simp [h]
theorem isObj_snoc {L:List Hb} {b:Hb} {a:Int}:IsObj (L++[b]) a↔a=b.at_∨IsObj L a:=by
 constructor
 ·rintro ⟨c,hc,e⟩
  rcases List.mem_append.1 hc with hc | hc
  ·exact .inr ⟨c,hc,e⟩
  ·rw [List.mem_singleton] at hc;subst hc;exact .inl e.symm
 ·rintro (e | ⟨c,hc,e⟩)
  ·exact ⟨b,by simp,e.symm⟩
  ·exact ⟨c,List.mem_append_left _ hc,e⟩
theorem parts_any (v:Value) (l:List UInt64) (hs:SizeOk l.length) (r:Nat) (hr:r=why6 l) (w:World) (h:Words w v l):
  Calls Tryz.prog 47 #[v] w fun e w'=>∃a b c d m,e=.returned (.tuple #[.agg #[a,b,c,d,m],.int .i64 r])∧(r=0→a=v∧∃g n,m=.map (some g)∧Sg w' v b c d g n l (T19 l) (slots l) (O19 l))∧(r≠0→a=.slice none 0 0∧b=.slice none 0 0∧c=.slice none 0 0∧d=.slice none 0 0∧m=.map none)∧Below w.heap.size w w':=by
 have B:=Below.refl w.heap.size w;obtain ⟨vA,vn,vc,rfl⟩:∃A n c,v=.slice A n c:=by obtain ⟨A,c,e,_⟩:=h;exact ⟨A,_,c,e⟩
 have H:=hD h;have hmm:=@run_makeMap Tryz.prog;obtain ⟨hn1,hn2,hn3⟩:=hs;obtain ⟨sw,hsw⟩:=exq (sW l)
 obtain ⟨st,hst⟩:=exq (sT l)
 obtain ⟨i0,hi0⟩:=exq (is0 l)
 obtain ⟨i1,hi1⟩:=exq (is1 l)
 obtain ⟨r1,hr1⟩:=exq (rErr l)
 have TT:=hD (TRead_any (.slice vA vn vc) l sw st i0 i1 r1 hsw hst hi0 hi1 hr1)
 obtain ⟨z1,hz1⟩:=exq (decide (Zr l 16))
 obtain ⟨z2,hz2⟩:=exq (decide (Zr l 24))
 have Z1:Hid (∀w,Words w (.slice vA vn vc) l→Calls Tryz.prog 88 #[(.slice vA vn vc),.int .i64 16] w fun e w'=>e=.returned (.bool z1)∧w=w'):=hD (zero19_any (.slice vA vn vc) l 16 z1 hz1 (by omega) (by omega))
 have Z2:Hid (∀w,Words w (.slice vA vn vc) l→Calls Tryz.prog 88 #[(.slice vA vn vc),.int .i64 24] w fun e w'=>e=.returned (.bool z2)∧w=w'):=hD (zero19_any (.slice vA vn vc) l 24 z2 hz2 (by omega) (by omega))
 obtain ⟨T,hT⟩:=exq (T19 l)
 obtain ⟨r4,hr4⟩:=exq (tabErr l (sT l))
 have KT:=hD (KTable_any (.slice vA vn vc) l st T r4 (by rw [hT,hst];rfl) (by rw [hr4,hst]))
 obtain ⟨S,hS⟩:=exq (all l)
 obtain ⟨r5,hr5⟩:=exq (openErr l)
 have AT:=hD (All18_any (.slice vA vn vc) l S r5 hS hr5)
 obtain ⟨L,hL⟩:=exq (allL l)
 obtain ⟨r6,hr6⟩:=exq (allErr l)
 have WT:=hD (AllW_any (.slice vA vn vc) l L r6 hL hr6)
 have HR:Hid (r=if r1≠0 then 1 else if z1=false then 2 else if z2=false then 3 else if r4≠0 then 4 else if r5≠0 then 5 else if r6≠0 then 6 else 0):=hD (by
  rw [hr,why6,hr1,hr4,hr5,hr6]
  by_cases c1:Zr l 16 <;> by_cases c2:Zr l 24 <;> simp [hz1,hz2,c1,c2])
 have HF:=hD (And.intro hT (And.intro hL (show (r5=0)→S=slots l from fun e=>by rw [hS,all,←hr5,if_pos e])))
 have HNN:=hD (show r6=0→∀b∈L,i64Ok b.at_ from fun e b hb=>by
  rw [hL] at hb;obtain ⟨a,h1,h2,_,h4,_⟩:=all_mem (hr6 ▸ e) hb;rw [h4,stand_at]
  exact ⟨by omega,by omega⟩)
 have HLN:=hD (show r6=0→L.length≤960 from fun e=>by rw [hL];exact all_len (hr6 ▸ e))
 clear hr hsw hst hi0 hi1 hr1 hz1 hz2 hT hr4 hS hr5 hL hr6 h hn1 hn2 hn3;go_in;go_upto_region 1 with (fail)
 refine wpb1 (109) (#[.slice none 0 0,.slice none 0 0,.slice none 0 0,.slice none 0 0,.map none]) ?_;rintro wa1 ⟨g1,b⟩
 replace B:=B.trans (b.mono B.size);clear b;obtain ⟨c_g1,f_g1,a_g1,d_g1,e_g1⟩:=g1.five;go_wp2_with fail;refine (TT.out _ (H.out.below B)).mono ?_;rintro e wa2 ⟨rfl,b⟩
 try clear c_g1 f_g1 a_g1 d_g1 e_g1
 replace g1:=g1.below b;obtain ⟨c_g1,f_g1,a_g1,d_g1,e_g1⟩:=g1.five;replace B:=B.trans (b.mono B.size);clear b;go_upto_region 2 with (fail)
 refine wpb11 (51) (#[.int .i64 sw,.int .i64 st]) (52) (#[.bool i0,.bool i1]) ?_;rintro wa3 ⟨g2,g3,b⟩
 try clear c_g1 f_g1 a_g1 d_g1 e_g1
 replace g1:=g1.below b;obtain ⟨c_g1,f_g1,a_g1,d_g1,e_g1⟩:=g1.five;replace B:=B.trans (b.mono B.size);clear b;obtain ⟨c_g2,f_g2,a_g2,d_g2,e_g2⟩:=g2.five;obtain ⟨c_g3,f_g3,a_g3,d_g3,e_g3⟩:=g3.five;by_cases h1:r1=0;case neg=>
  have n1:(r1 != 0)=true:=by rw [bne_iff_ne];exact h1
  have hr0:r=1:=by rw [HR.out,if_pos h1]
  subst hr0;go_wp2;refine bodyPost_ret (v:=.tuple #[.agg #[.slice none 0 0,.slice none 0 0,.slice none 0 0,.slice none 0 0,.map none],.int .i64 1]) (by simp [results,Tryz.results47,go_sem,c_g1,f_g1,a_g1,e_g1,c_g2,f_g2,a_g2,e_g2,c_g3,f_g3,a_g3,e_g3]) rfl ?_;refine ⟨_,_,_,_,_,rfl,fun e=>by omega,fun _=>⟨rfl,rfl,rfl,rfl,rfl⟩,?_⟩
  exact bdn
 case pos=>
  subst h1;go_upto_region 4 with (fail)
  go_wp2_with fail;refine (Z1.out _ (H.out.below B)).mono ?_;rintro e w' ⟨rfl,rfl⟩
  cases z1
  ·have hr0:r=2:=by rw [HR.out];simp
   subst hr0;go_wp2;refine bodyPost_ret (v:=.tuple #[.agg #[.slice none 0 0,.slice none 0 0,.slice none 0 0,.slice none 0 0,.map none],.int .i64 2]) (by simp [results,Tryz.results47,go_sem,c_g1,f_g1,a_g1,e_g1,c_g2,f_g2,a_g2,e_g2,c_g3,f_g3,a_g3,e_g3]) rfl ?_;refine ⟨_,_,_,_,_,rfl,fun e=>by omega,fun _=>⟨rfl,rfl,rfl,rfl,rfl⟩,?_⟩
   exact bdn
  ·go_wp2_with fail;refine (Z2.out _ (H.out.below B)).mono ?_;rintro e w' ⟨rfl,rfl⟩
   cases z2
   ·have hr0:r=3:=by rw [HR.out];simp
    subst hr0;go_wp2;refine bodyPost_ret (v:=.tuple #[.agg #[.slice none 0 0,.slice none 0 0,.slice none 0 0,.slice none 0 0,.map none],.int .i64 3]) (by simp [results,Tryz.results47,go_sem,c_g1,f_g1,a_g1,e_g1,c_g2,f_g2,a_g2,e_g2,c_g3,f_g3,a_g3,e_g3]) rfl ?_;refine ⟨_,_,_,_,_,rfl,fun e=>by omega,fun _=>⟨rfl,rfl,rfl,rfl,rfl⟩,?_⟩
    exact bdn
   ·have hz3:=B.size;have hp1:=g1.lt;have hp2:=g2.lt;go_upto_region 9 with (fail)
    refine wp_gen (fun V=>Bx V w.heap.size 109 #[.slice none 0 0,.slice none 0 0,.slice none 0 0,.slice none 0 0,.map none]∧Bx V wa2.heap.size 51 #[.int .i64 sw,.int .i64 st]∧Bx V (wa3.heap.size+1) 109 #[(.slice vA vn vc),.slice none 0 0,.slice none 0 0,.slice none 0 0,.map (some wa3.heap.size)]∧MapL Tryz.prog 3 4 (.bool false) V wa3.heap.size 0 (fun _=>.bool false)∧Below w.heap.size w V)
     ⟨(g1.alloc _).alloc _,(g2.alloc _).alloc _,Bx.at_ (by simp),(MapL.made wa3).below ((Below.refl _ _).alloc (Nat.le_refl _) _),(B.alloc hz3 _).alloc (by simp;omega) _⟩ ?_
    clear B g1 g2 g3 c_g1 f_g1 a_g1 d_g1 e_g1 c_g2 f_g2 a_g2 d_g2 e_g2 c_g3 f_g3 a_g3 d_g3 e_g3;rintro wb ⟨g1,g2,g4,mp,B⟩
    have hlb:w.heap.size<wa3.heap.size∧wa2.heap.size<wa3.heap.size+1∧wa3.heap.size+1<wb.heap.size:=⟨hp1,by have:=hp2;omega,g4.lt⟩
    obtain ⟨hq1,hq2,hq3⟩:=hlb
    generalize wa3.heap.size=pm at*
    generalize wa2.heap.size=ps at*
    have c_g1:=g1.cell;have c_g2:=g2.cell;have c_g4:=g4.cell;have B1:Below wb.heap.size wb wb:=Below.refl _ _;obtain ⟨lo,hlo⟩:=exq wb.heap.size;go_wp2_with fail;refine (KT.out _ (H.out.below B)).mono ?_;rintro e wa4 ⟨xt,rfl,ot,b⟩
    try clear c_g1 f_g1 a_g1 d_g1 e_g1
    replace g1:=g1.below b;obtain ⟨c_g1,f_g1,a_g1,d_g1,e_g1⟩:=g1.five;try clear c_g2 f_g2 a_g2 d_g2 e_g2
    replace g2:=g2.below b;obtain ⟨c_g2,f_g2,a_g2,d_g2,e_g2⟩:=g2.five;try clear c_g4 f_g4 a_g4 d_g4 e_g4
    replace g4:=g4.below b;obtain ⟨c_g4,f_g4,a_g4,d_g4,e_g4⟩:=g4.five;replace mp:=mp.below b;replace B1:=B1.trans (b.mono B1.size);replace B:=B.trans (b.mono B.size);clear b;obtain ⟨tA,tn,tc,rfl⟩:=ot.form;go_upto_region 10 with (fail)
    have hB1:=B1.size;rw [←hlo] at ot hq3 hB1;refine wp_gen (fun V=>Bx V w.heap.size 109 #[.slice none 0 0,.slice none 0 0,.slice none 0 0,.slice none 0 0,.map none]∧Bx V (pm+1) 109 #[.slice vA vn vc,.slice tA tn tc,.slice none 0 0,.slice none 0 0,.map (some pm)]∧MapL Tryz.prog 3 4 (.bool false) V pm 0 (fun _=>.bool false)∧OwnT V lo (.slice tA tn tc) T∧Below w.heap.size w V∧lo≤V.heap.size)
     ⟨g1.far (p:=⟨pm+1,1,none⟩) (by show _≠pm+1;omega) _,g4.set (i:=1) _,mp.kept (grown_set _ ⟨pm+1,1,none⟩ _) (by intro e;injection e with e;have:pm=pm+1:=e;omega),ot.apart hq3,B.setCell (p:=⟨pm+1,1,none⟩) (by show w.heap.size≤pm+1;omega) _,by simpa [World.setCell] using hB1⟩ ?_
    clear B B1 g1 g2 g4 mp ot c_g1 f_g1 a_g1 d_g1 e_g1 c_g2 f_g2 a_g2 d_g2 e_g2 c_g4 f_g4 a_g4 d_g4 e_g4 hB1;rintro wc ⟨g1,g4,mp,ot,B,hlc⟩
    have c_g1:=g1.cell;have c_g4:=g4.cell;have f_g1:=g1.free;by_cases h4:r4=0;case neg=>
     have n1:(r4 != 0)=true:=by rw [bne_iff_ne];exact h4
     have hr0:r=4:=by rw [HR.out];simp [h4]
     subst hr0;go_wp2;refine bodyPost_ret (v:=.tuple #[.agg #[.slice none 0 0,.slice none 0 0,.slice none 0 0,.slice none 0 0,.map none],.int .i64 4]) (by simp [results,Tryz.results47,go_sem,c_g1,f_g1]) rfl ?_;refine ⟨_,_,_,_,_,rfl,fun e=>by omega,fun _=>⟨rfl,rfl,rfl,rfl,rfl⟩,?_⟩
     exact bdn
    case pos=>
     subst h4;go_upto_region 12 with (fail)
     have B1:Below wc.heap.size wc wc:=Below.refl _ _;go_wp2_with fail;refine (AT.out _ (H.out.below B)).mono ?_;rintro e wa5 ⟨xs,E,rfl,os,b⟩
     try clear c_g1 f_g1 a_g1 d_g1 e_g1
     replace g1:=g1.below b;obtain ⟨c_g1,f_g1,a_g1,d_g1,e_g1⟩:=g1.five;try clear c_g4 f_g4 a_g4 d_g4 e_g4
     replace g4:=g4.below b;obtain ⟨c_g4,f_g4,a_g4,d_g4,e_g4⟩:=g4.five;replace mp:=mp.below b;replace ot:=ot.below b;replace B1:=B1.trans (b.mono B1.size);replace B:=B.trans (b.mono B.size);clear b;obtain ⟨sA,sn,sc,rfl⟩:=row_form os;go_upto_region 13 with (fail)
     have hB1:=B1.size;have os':=own_mono os hlc;refine wp_gen (fun V=>Bx V w.heap.size 109 #[.slice none 0 0,.slice none 0 0,.slice none 0 0,.slice none 0 0,.map none]∧Bx V (pm+1) 109 #[.slice vA vn vc,.slice tA tn tc,.slice sA sn sc,.slice none 0 0,.map (some pm)]∧MapL Tryz.prog 3 4 (.bool false) V pm 0 (fun _=>.bool false)∧OwnT V lo (.slice tA tn tc) T∧OwnS V lo E (.slice sA sn sc) S∧Below w.heap.size w V∧lo≤V.heap.size)
      ⟨g1.far (p:=⟨pm+1,2,none⟩) (by show _≠pm+1;omega) _,g4.set (i:=2) _,mp.kept (grown_set _ ⟨pm+1,2,none⟩ _) (by intro e;injection e with e;have:pm=pm+1:=e;omega),ot.apart hq3,own_apart os' hq3,B.setCell (p:=⟨pm+1,2,none⟩) (by show w.heap.size≤pm+1;omega) _,by have:wc.heap.size≤_:=hB1;simp only [World.setCell,Array.size_modify];omega⟩ ?_
     clear B B1 g1 g4 mp ot os os' c_g1 f_g1 a_g1 d_g1 e_g1 c_g4 f_g4 a_g4 d_g4 e_g4 hB1;rintro wd ⟨g1,g4,mp,ot,os,B,hld⟩
     have c_g1:=g1.cell;have c_g4:=g4.cell;have f_g1:=g1.free;by_cases h5:r5=0;case neg=>
      have n1:(r5 != 0)=true:=by rw [bne_iff_ne];exact h5
      have hr0:r=5:=by rw [HR.out];simp [h5]
      subst hr0;go_wp2;refine bodyPost_ret (v:=.tuple #[.agg #[.slice none 0 0,.slice none 0 0,.slice none 0 0,.slice none 0 0,.map none],.int .i64 5]) (by simp [results,Tryz.results47,go_sem,c_g1,f_g1]) rfl ?_;refine ⟨_,_,_,_,_,rfl,fun e=>by omega,fun _=>⟨rfl,rfl,rfl,rfl,rfl⟩,?_⟩
      exact bdn
     case pos=>
      subst h5;go_upto_region 15 with (fail)
      go_wp2_with fail;refine (WT.out _ (H.out.below B)).mono ?_;rintro e wa6 ⟨xl,rfl,ol,b⟩
      try clear c_g1 f_g1 a_g1 d_g1 e_g1
      replace g1:=g1.below b;obtain ⟨c_g1,f_g1,a_g1,d_g1,e_g1⟩:=g1.five;try clear c_g4 f_g4 a_g4 d_g4 e_g4
      replace g4:=g4.below b;obtain ⟨c_g4,f_g4,a_g4,d_g4,e_g4⟩:=g4.five;replace mp:=mp.below b;replace ot:=ot.below b;replace os:=os.below b;replace B:=B.trans (b.mono B.size);clear b;obtain ⟨lA,ln,lc,rfl⟩:=row_form ol;by_cases h6:r6=0;case neg=>
       have n1:(r6 != 0)=true:=by rw [bne_iff_ne];exact h6
       have hr0:r=6:=by rw [HR.out];simp [h6]
       subst hr0;go_wp2;refine bodyPost_ret (v:=.tuple #[.agg #[.slice none 0 0,.slice none 0 0,.slice none 0 0,.slice none 0 0,.map none],.int .i64 6]) (by simp [results,Tryz.results47,go_sem,c_g1,f_g1,a_g1,e_g1,c_g4,f_g4,a_g4,e_g4]) rfl ?_;refine ⟨_,_,_,_,_,rfl,fun e=>by omega,fun _=>⟨rfl,rfl,rfl,rfl,rfl⟩,?_⟩
       exact bdn
      case pos=>
       subst h6;have hr0:r=0:=by rw [HR.out];simp
       subst hr0;obtain ⟨hTe,hLe,hSe⟩:=HF.out;have hSe:=hSe (by trivial)
       have HIA:=hD (HNN.out (by trivial))
       have hN960:=HLN.out (by trivial)
       obtain ⟨N,hN⟩:=exq L.length;have HNL:=hD hN;have lx:=ol.rd.len;rw [←hN] at lx hN960;have ol':=own_mono ol hld;have HXT:=hD (And.intro hTe (And.intro hLe hSe))
       clear hN hTe hLe hSe ol;go_upto_region 18 with (fail)
       refine wp_gen (fun V=>Bx V w.heap.size 109 #[.slice none 0 0,.slice none 0 0,.slice none 0 0,.slice none 0 0,.map none]∧Bx V (pm+1) 109 #[.slice vA vn vc,.slice tA tn tc,.slice sA sn sc,.slice none 0 0,.map (some pm)]∧MapL Tryz.prog 3 4 (.bool false) V pm 0 (fun _=>.bool false)∧OwnT V lo (.slice tA tn tc) T∧OwnS V lo E (.slice sA sn sc) S∧OwnK V lo (.slice lA ln lc) L∧Below w.heap.size w V)
        ⟨g1,g4,mp,ot,os,ol',B⟩ ?_
       clear B g1 g4 mp ot os ol' c_g1 f_g1 a_g1 d_g1 e_g1 c_g4 f_g4 a_g4 d_g4 e_g4;rintro ws ⟨g1,g4,mp,ot,os,ol,B⟩
       have HSTART:=hD (And.intro g1 (And.intro g4 (And.intro mp B)))
       have HOWN:=hD (And.intro ot (And.intro os ol))
       have hps:pm+1<ws.heap.size:=g4.lt;have hpl:w.heap.size≤pm:=by omega
       clear g1 g4 mp ot os ol B;go_wp2
       go_loopg [61] N (fun gg i wr=>∃j:Nat,j≤N∧gg=N-j∧i=.int .i64 j∧Hid (∃bj nm,Bx wr w.heap.size 109 #[.slice none 0 0,.slice none 0 0,.slice none 0 0,.slice none 0 0,.map none]∧Bx wr (pm+1) 109 #[.slice vA vn vc,.slice tA tn tc,.slice sA sn sc,bj,.map (some pm)]∧
        MapL Tryz.prog 3 4 (.bool false) wr pm nm (fun a=>.bool (decide (IsObj (objs (L.take j)) a)))∧nm≤j∧OwnK wr w.heap.size bj (objs (L.take j))∧(∀g,bj.ownBlock=some g→ws.heap.size≤g)∧MidS lo ws wr∧Below w.heap.size w wr))
       case atStart=>
        obtain ⟨g1,g4,mp,B⟩:=HSTART.out;exact ⟨0,by omega,by omega,rfl,hD ⟨_,0,g1,g4,by simpa [objs,IsObj] using mp,by omega,OwnK.nil _ _,fun g hg=>(by cases hg),⟨Mid.refl _ _ _,Nat.le_refl _⟩,B⟩⟩
       case round=>
        obtain ⟨j,hj,rfl,rfl,hh⟩:=hrel;clear HSTART;obtain ⟨bj,nm,g1,g4,mp,hnm,oj,hbj,hmid,B⟩:=hh.out;clear hh;obtain ⟨jA,jn,jc,rfl⟩:=row_form oj;have hol:OwnK wr lo (.slice lA ln lc) L:=own_mid HOWN.out.2.2 hmid.m;by_cases hlt:j<N
        ·obtain ⟨bb,oo,b,ia,m0,m1,m2,m3,m4,m5,hb,_⟩:=hol.rd.at_ (k:=j) (by rw [←HNL.out];exact hlt)
         have htk:L.take (j+1)=L.take j++[b]:=by rw [List.take_add_one,hb.out];rfl
         have hia:=HIA.out b (List.mem_of_getElem? hb.out)
         have HTK:=hD htk;have hbj':=hD hbj;have hzz:=hmid.z;clear htk hbj;by_cases hk1:b.kind=1
         ·have HK1:=hD hk1;clear hk1;have hne4:(Value.slice jA jn jc).ownBlock=none∨(Value.slice jA jn jc).ownBlock≠some (pm+1):=by
           cases hv:(Value.slice jA jn jc).ownBlock with
           | none=>exact .inl rfl
           | some g=>exact .inr (fun e=>by injection e with e;have:=hbj'.out g hv;omega)
          have hnep:(Value.slice jA jn jc).ownBlock=none∨(Value.slice jA jn jc).ownBlock≠some w.heap.size:=by
           cases hv:(Value.slice jA jn jc).ownBlock with
           | none=>exact .inl rfl
           | some g=>exact .inr (fun e=>by injection e with e;have:=hbj'.out g hv;omega)
          have hne5:=own_fresh oj;have hlj:(objs (L.take j)).length≤960:=Nat.le_trans (List.length_filter_le _ _) (by rw [List.length_take];omega)
          have hB0:=B.size;go_upto_region 21 with (fail)
          refine wpb1 (64) (#[.int .i64 b.at_,.int .i64 b.size,.int .i64 b.kind,.int .i64 b.ty,.bool b.mark,.int .u64 b.next.toNat]) ?_;rintro wa7 ⟨g5,b⟩
          try clear c_g1 f_g1 a_g1 d_g1 e_g1
          replace g1:=g1.below b;obtain ⟨c_g1,f_g1,a_g1,d_g1,e_g1⟩:=g1.five;try clear c_g4 f_g4 a_g4 d_g4 e_g4
          replace g4:=g4.below b;obtain ⟨c_g4,f_g4,a_g4,d_g4,e_g4⟩:=g4.five;replace mp:=mp.below b;replace oj:=oj.below b;replace hmid:=hmid.below b;replace B:=B.trans (b.mono B.size);clear b;obtain ⟨c_g5,f_g5,a_g5,d_g5,e_g5⟩:=g5.five;have hk1':(b.kind==1)=true:=by rw [beq_iff_eq];exact HK1.out
          clear a_g1 d_g1 e_g1 a_g4 d_g4 e_g4 f_g5 a_g5 d_g5 e_g5;go_upto_region 23 with (at_builtin;refine wpList_append2 (by rfl) rfl rfl rfl Tryz.underlying59 info_block rfl (by omega) (by exact own_below oj ((Below.refl _ _).alloc (Nat.le_refl _) _)) (by exact lit_block b (by simp)) (bkL_one b) (by omega) (by omega) (by omega) (by exact B.alloc B.size _) (Nat.le_refl _) ?_;intro v1 w3 o3 B3 g3 hk3;obtain ⟨yA,yn,yc,rfl⟩:=row_form o3;have c_4:=((g4.alloc _).grown g3 hne4).cell;have f_4:=((g4.alloc _).grown g3 hne4).free;have c_5:=((g5.alloc _).grown g3 hne5).cell;clear c_g4 f_g4 c_g5)
          obtain ⟨m1',m2',m3'⟩:=(⟨g1,g4,mp⟩:_∧_∧_)
          have e1:Bx w3 w.heap.size 109 #[.slice none 0 0,.slice none 0 0,.slice none 0 0,.slice none 0 0,.map none]:=(g1.alloc _).grown g3 hnep;have e4:Bx w3 (pm+1) 109 #[.slice vA vn vc,.slice tA tn tc,.slice sA sn sc,.slice jA jn jc,.map (some pm)]:=(g4.alloc _).grown g3 hne4;have e5:Bx w3 wr.heap.size 64 #[.int .i64 b.at_,.int .i64 b.size,.int .i64 b.kind,.int .i64 b.ty,.bool b.mark,.int .u64 b.next.toNat]:=(g5.alloc _).grown g3 hne5;have hnem:some pm≠(Value.slice jA jn jc).ownBlock:=fun e=>by have:=hbj'.out pm e.symm;omega
          have em:MapL Tryz.prog 3 4 (.bool false) w3 pm nm (fun a=>.bool (decide (IsObj (objs (L.take j)) a))):=(mp.below ((Below.refl _ _).alloc (Nat.le_refl _) _)).kept g3 hnem;have eM:MidS lo ws w3:=(hmid.below ((Below.refl _ _).alloc (Nat.le_refl _) _)).grown g3 (fun k hk=>.inr (hbj'.out k hk))
          have eK:OwnK w3 w.heap.size (.slice yA yn yc) (objs (L.take j)++[b]):=OwnK.of o3 (tabB_snoc _ b)
          have hky:∀g,(Value.slice yA yn yc).ownBlock=some g→ws.heap.size≤g:=fun g hg=>by
           rcases hk3 g hg with h | h
           ·exact hbj'.out g h
           ·have h2:=hmid.z;simp only [World.size_alloc] at h;omega
          refine wp_gen (fun V=>Bx V w.heap.size 109 #[.slice none 0 0,.slice none 0 0,.slice none 0 0,.slice none 0 0,.map none]∧Bx V (pm+1) 109 #[.slice vA vn vc,.slice tA tn tc,.slice sA sn sc,.slice yA yn yc,.map (some pm)]∧Bx V wr.heap.size 64 #[.int .i64 b.at_,.int .i64 b.size,.int .i64 b.kind,.int .i64 b.ty,.bool b.mark,.int .u64 b.next.toNat]∧
           MapL Tryz.prog 3 4 (.bool false) V pm nm (fun a=>.bool (decide (IsObj (objs (L.take j)) a)))∧OwnK V w.heap.size (.slice yA yn yc) (objs (L.take j)++[b])∧MidS lo ws V∧Below w.heap.size w V)
           ⟨e1.far (p:=⟨pm+1,3,none⟩) (by show w.heap.size≠pm+1;omega) _,e4.set (i:=3) _,e5.far (p:=⟨pm+1,3,none⟩) (by show wr.heap.size≠pm+1;omega) _,em.kept (grown_set _ ⟨pm+1,3,none⟩ _) (by intro e;injection e with e;have:pm=pm+1:=e;omega),own_set eK e4 (by decide),eM.set (p:=⟨pm+1,3,none⟩) hq3 _,B3.setCell (p:=⟨pm+1,3,none⟩) (by show w.heap.size≤pm+1;omega) _⟩ ?_
          clear e1 e4 e5 em eM eK g1 g4 g5 mp oj hmid B B3 g3 hk3 o3 c_4 f_4 c_5 m1' m2' m3' m0 m1 m2 m3 m4 m5 hne4 hnep hne5 hnem hk1' c_g1 f_g1 ia;rintro V ⟨g1,g4,g5,mp,oj,hmid,B⟩
          have c_g4:=g4.cell;have c_g5:=g5.cell;have hnk:some pm≠(Value.slice yA yn yc).ownBlock:=fun e=>by have:=hky pm e.symm;omega
          have hnk2:(Value.slice yA yn yc).ownBlock=none∨(Value.slice yA yn yc).ownBlock≠some pm:=.inr (fun e=>hnk e.symm)
          have HKY:=hD hky;clear hky;go_wp2_with (at_mapUpdate;refine wpList_mapPut rfl rfl Tryz.underlying3 Tryz.underlying107 rfl rfl rfl mp (by unfold maxLen;omega) hia (plainElem_bool Tryz.underlying4 true) ?_;intro w5 mp5 g5')
          have hob:objs (L.take (j+1))=objs (L.take j)++[b]:=by rw [HTK.out,objs_snoc,if_pos HK1.out]
          have HREL:=hD (show ∃bj nm,Bx w5 w.heap.size 109 #[.slice none 0 0,.slice none 0 0,.slice none 0 0,.slice none 0 0,.map none]∧Bx w5 (pm+1) 109 #[.slice vA vn vc,.slice tA tn tc,.slice sA sn sc,bj,.map (some pm)]∧
           MapL Tryz.prog 3 4 (.bool false) w5 pm nm (fun a=>.bool (decide (IsObj (objs (L.take (j+1))) a)))∧nm≤j+1∧OwnK w5 w.heap.size bj (objs (L.take (j+1)))∧(∀g,bj.ownBlock=some g→ws.heap.size≤g)∧MidS lo ws w5∧Below w.heap.size w w5 from
           ⟨_,nm+1,g1.grown g5' (.inr (by intro e;injection e with e;omega)),g4.grown g5' (.inr (by intro e;injection e with e;omega)),by
            rw [hob]
            obtain ⟨D,x1,x2⟩:=mp5;refine ⟨D,x1,fun a=>?_⟩
            rw [x2 a]
            congr 1;dsimp only;by_cases e:a=b.at_
            ·rw [if_pos e];congr 1;rw [eq_comm,decide_eq_true_iff];exact isObj_snoc.2 (.inl e)
            ·rw [if_neg e];congr 1;rw [Bool.eq_iff_iff,decide_eq_true_iff,decide_eq_true_iff,isObj_snoc];simp [e],by omega,by rw [hob];exact World.ownsRow.kept oj g5' hnk2,HKY.out,hmid.grown g5' (fun k hk=>.inl (by injection hk with hk;omega)),B.grown g5' B.size (fun k hk=>by injection hk with hk;omega)⟩)
          clear mp5 g5' g1 g4 g5 mp oj hmid B
          go_roundg (N-(j+1))
          case measure=>omega
          case rel=>exact ⟨j+1,by omega,rfl,by go_num,HREL⟩
         ·have hk2:(b.kind==1)=false:=by rw [beq_eq_false_iff_ne];exact hk1
          have hob:objs (L.take (j+1))=objs (L.take j):=by rw [HTK.out,objs_snoc,if_neg hk1,List.append_nil]
          have HOB:=hD hob;clear hk1 hob;go_upto_region 21 with (fail)
          refine wpb1 (64) (#[.int .i64 b.at_,.int .i64 b.size,.int .i64 b.kind,.int .i64 b.ty,.bool b.mark,.int .u64 b.next.toNat]) ?_;rintro wa8 ⟨g5,b⟩
          try clear c_g1 f_g1 a_g1 d_g1 e_g1
          replace g1:=g1.below b;obtain ⟨c_g1,f_g1,a_g1,d_g1,e_g1⟩:=g1.five;try clear c_g4 f_g4 a_g4 d_g4 e_g4
          replace g4:=g4.below b;obtain ⟨c_g4,f_g4,a_g4,d_g4,e_g4⟩:=g4.five;replace mp:=mp.below b;replace oj:=oj.below b;replace hmid:=hmid.below b;replace B:=B.trans (b.mono B.size);clear b;obtain ⟨c_g5,f_g5,a_g5,d_g5,e_g5⟩:=g5.five;have HREL:=hD (show ∃bj nm,Bx _ w.heap.size 109 #[.slice none 0 0,.slice none 0 0,.slice none 0 0,.slice none 0 0,.map none]∧Bx _ (pm+1) 109 #[.slice vA vn vc,.slice tA tn tc,.slice sA sn sc,bj,.map (some pm)]∧
           MapL Tryz.prog 3 4 (.bool false) _ pm nm (fun a=>.bool (decide (IsObj (objs (L.take (j+1))) a)))∧nm≤j+1∧OwnK _ w.heap.size bj (objs (L.take (j+1)))∧(∀g,bj.ownBlock=some g→ws.heap.size≤g)∧MidS lo ws _∧Below w.heap.size w _ from ⟨_,nm,g1,g4,by rw [HOB.out];exact mp,by omega,by rw [HOB.out];exact oj,hbj'.out,hmid,B⟩)
          go_wp2
          go_roundg (N-(j+1))
          case measure=>omega
          case rel=>exact ⟨j+1,by omega,rfl,by go_num,HREL⟩
        ·obtain rfl:j=N:=by omega
         have htk:L.take j=L:=List.take_of_length_le (by rw [←HNL.out];exact Nat.le_refl _)
         rw [htk] at mp oj;have c_g1:=g1.cell;have c_g4:=g4.cell;have f_g1:=g1.free;have hne1:w.heap.size≠pm+1:=by omega
         have HSG:Hid (SgO wr w.heap.size lo (.slice vA vn vc) (.slice tA tn tc) (.slice sA sn sc) (.slice jA jn jc) E pm nm l (T19 l) (slots l) (O19 l) w):=hD ⟨B,by rw [←HXT.out.1];exact OwnT.mid HOWN.out.1 hmid.m,by rw [←HXT.out.2.2];exact own_mid HOWN.out.2.1 hmid.m,by unfold O19;rw [←HXT.out.2.1];exact oj,fun e=>by have:=hbj _ e;omega,by unfold O19;rw [←HXT.out.2.1];exact mp⟩
         clear mp oj;go_wp2;refine bodyPost_ret (v:=.tuple #[.agg #[.slice vA vn vc,.slice tA tn tc,.slice sA sn sc,.slice jA jn jc,.map (some pm)],.int .i64 0]) (by simp [results,Tryz.results47,go_sem,c_g1,f_g1,c_g4,hne1]) rfl ?_;first | refine ⟨_,_,_,_,_,rfl,⟨rfl,pm,rfl,nm,SgO.sg (((((HSG.out.set (by omega) (by omega)).set (by omega) (by omega)).set (by omega) (by omega)).set (by omega) (by omega)).set (by omega) (by omega)) H.out⟩,?_⟩ | refine ⟨_,_,_,_,_,rfl,⟨rfl,pm,rfl,nm,SgO.sg (((((HSG.out.set (by omega) (by omega)).set (by omega) (by omega)).set (by omega) (by omega)).set (by omega) (by omega)).set (by omega) (by omega)) H.out⟩,fun e=>absurd rfl e,?_⟩
         exact bdn
end
section
open Go.RowKit L01 L02 L05 L07 L13 L14 L15 L18 L19
theorem each_any (fid:Nat) (v tv sv bv:Value) (g:Nat) (O:List Hb) (p:Hb→Bool) (c:Bool) (hc:c=decide (∀b∈O,p b=true)) (hcf:∀args W,(callFunc fid args).run Tryz.prog W=.ok (.enter fid args) W) (w:World) (h:Blks w bv O)
  (hcl:∀b∈O,∀W,Below w.heap.size w W→Calls Tryz.prog fid (#[.agg #[v,tv,sv,bv,.map (some g)]]++(#[.agg #[.int .i64 b.at_,.int .i64 b.size,.int .i64 b.kind,.int .i64 b.ty,.bool b.mark,.int .u64 b.next.toNat]]++#[])) W fun e W'=>e=.returned (.bool (p b))∧Below W.heap.size W W'):
  Calls Tryz.prog 53 #[.agg #[v,tv,sv,bv,.map (some g)],.func (.func fid) #[.agg #[v,tv,sv,bv,.map (some g)]] #[]] w fun e w'=>e=.returned (.bool c)∧Below w.heap.size w w':=by
 have B:=Below.refl w.heap.size w;have lo:=h.len;obtain ⟨N,hN⟩:=exq O.length;have hlen:=h.len_le;rw [←hN] at lo hlen;have H:=hD h;have HN:=hD hN;have HC:=hD hc;have HCL:=hD hcl;clear h hN hc hcl;go_in;go_upto_region 1 with (fail)
 refine wpb1 (109) (#[v,tv,sv,bv,.map (some g)]) ?_;rintro wa1 ⟨g1,b⟩
 replace B:=B.trans (b.mono B.size);clear b;replace c_g1:=g1.five;go_wp2;have HB:=hD (And.intro g1 B)
 go_loopg [10] N (fun gg i wr=>∃j:Nat,j≤N∧gg=N-j∧i=.int .i64 j∧Hid (Below w.heap.size w wr∧∀i b,i<j→O[i]?=some b→p b=true))
 case atStart=>exact ⟨0,by omega,rfl,rfl,hD ⟨HB.out.2,fun i b hi=>by omega⟩⟩
 case round=>
  obtain ⟨j,hj,rfl,rfl,hh⟩:=hrel;clear HB g1 B c_g1;have B:=hh.out.1;by_cases hlt:j<N
  ·obtain ⟨bb,oo,b,ia,m0,m1,m2,m3,m4,m5,hb,_⟩:=(Blks.below H.out B).at_ (k:=j) (by rw [←HN.out];exact hlt)
   obtain ⟨q,hq⟩:=exq (p b)
   have CL:Hid (∀W,Below w.heap.size w W→Calls Tryz.prog fid (#[.agg #[v,tv,sv,bv,.map (some g)]]++(#[.agg #[.int .i64 b.at_,.int .i64 b.size,.int .i64 b.kind,.int .i64 b.ty,.bool b.mark,.int .u64 b.next.toNat]]++#[])) W fun e W'=>e=.returned (.bool q)∧Below W.heap.size W W'):=by
    rw [hq];exact hD (HCL.out b (List.mem_of_getElem? hb.out))
   cases q
   ·have hc:c=false:=by
     rw [HC.out,decide_eq_false_iff_not]
     exact fun hall=>by have:=hall b (List.mem_of_getElem? hb.out);rw [←hq] at this;cases this
    subst hc;clear hq hb;go_upto_region 4 with (fail)
    refine wpb1 (64) (#[.int .i64 b.at_,.int .i64 b.size,.int .i64 b.kind,.int .i64 b.ty,.bool b.mark,.int .u64 b.next.toNat]) ?_;rintro wa2 ⟨g2,b⟩
    replace B:=B.trans (b.mono B.size);clear b;replace c_g2:=g2.five;go_wp2_with fail;refine (CL.out _ B).mono ?_;rintro e wz ⟨rfl,b2⟩
    replace B:=B.trans (b2.mono B.size)
    go_wp2
    go_ret
    exact ⟨rfl,B⟩
   ·have HZ:Hid (∀i b,i<j+1→O[i]?=some b→p b=true):=hD (fun i b' hi hb'=>by
     by_cases e:i=j
     ·subst e;rw [hb.out] at hb';injection hb' with hb';subst hb';exact hq.symm
     ·exact hh.out.2 i b' (by omega) hb')
    clear hq hb;go_upto_region 4 with (fail)
    refine wpb1 (64) (#[.int .i64 b.at_,.int .i64 b.size,.int .i64 b.kind,.int .i64 b.ty,.bool b.mark,.int .u64 b.next.toNat]) ?_;rintro wa3 ⟨g2,b⟩
    replace B:=B.trans (b.mono B.size);clear b;replace c_g2:=g2.five;go_wp2_with fail;refine (CL.out _ B).mono ?_;rintro e wz ⟨rfl,b2⟩
    replace B:=B.trans (b2.mono B.size)
    have HB:=hD B;go_wp2
    go_roundg (N-(j+1))
    case measure=>omega
    case rel=>exact ⟨j+1,by omega,rfl,by go_num,hD ⟨HB.out,HZ.out⟩⟩
  ·obtain rfl:j=N:=by omega
   have hc:c=true:=by
    rw [HC.out,decide_eq_true_iff]
    intro b hb;obtain ⟨i,hi,e⟩:=List.mem_iff_getElem.1 hb;exact hh.out.2 i b (by rw [HN.out];exact hi) (by rw [List.getElem?_eq_getElem hi,e])
   subst hc;go_wp2
   go_ret
   exact ⟨rfl,B⟩
end
section
open Go.RowKit L01 L02 L05 L07 L13 L14 L15 L18 L19
theorem in19_of {l:List UInt64} (h:allErr l=0) {b:Hb} (hb:b∈O19 l):In19 l b:=by
 obtain ⟨a,h1,h2,h3,h4,h5,h6,_⟩:=objs_at h hb;exact ⟨a,h2,by rw [h6];exact stand_ok h5,by omega⟩
theorem whyO_at {l:List UInt64} {T:List (List UInt8)} {O:List Hb}:∀(f r k:Nat),k<f→(∀i,i<k→AllGood l T O (r+i))→¬AllGood l T O (r+k)→whyO l T O f r=r+k
 | 0,r,k,hk,_,_=>by omega
 | f+1,r,0,hk,h1,h2=>by
  rw [Nat.add_zero] at h2;rw [whyO,if_neg h2];rfl
 | f+1,r,k+1,hk,h1,h2=>by
  have h0:=h1 0 (by omega)
  rw [Nat.add_zero] at h0;rw [whyO,if_pos h0,whyO_at f (r+1) k (by omega) (fun i hi=>by have:=h1 (i+1) (by omega);rwa [show r+1+i=r+(i+1) by omega]) (by rwa [show r+1+k=r+(k+1) by omega])]
  omega
theorem Reason_any (v:Value) (l:List UInt64) (n:Nat) (r:Int) (hn:n=rea l) (hr:r=reaE l) (w:World) (h:Words w v l):
  Calls Tryz.prog 11 #[v] w fun e w'=>e=.returned (.tuple #[.int .i64 n,.int .i64 r])∧Below w.heap.size w w':=by
 have B:=Below.refl w.heap.size w;obtain ⟨vA,vn,vc,rfl⟩:∃A n c,v=.slice A n c:=by obtain ⟨A,c,e,_⟩:=h;exact ⟨A,_,c,e⟩
 have H:=hD h;obtain ⟨c,hc⟩:=exq (chk l)
 have CT:Hid (∀w,Words w (.slice vA vn vc) l→Calls Tryz.prog 46 #[.slice vA vn vc] w fun e w'=>e=.returned (.int .i64 c)∧w=w'):=by rw [hc];exact hD (Check_any _ l)
 by_cases hs:SizeOk l.length;case neg=>
  have hr0:r=8:=by rw [hr,reaE,if_neg hs]
  have hn0:n=0:=by rw [hn,rea,if_neg hs]
  have hc8:c=8:=by rw [hc,chk_no hs]
  subst hr0;subst hn0;subst hc8;clear hr hn hs hc h;go_in;go_wp2_with fail;refine (CT.out _ (H.out.below B)).mono ?_;rintro e w' ⟨rfl,rfl⟩
  go_wp2
  go_ret2
  exact ⟨rfl,B⟩
 case pos=>
  have hr0:r=0:=by rw [hr,reaE,if_pos hs]
  have hnw:n=why l:=by rw [hn,rea,if_pos hs]
  have hc0:c=0:=by rw [hc,chk_ok hs]
  subst hr0;subst hc0;obtain ⟨r6,hr6⟩:=exq (why6 l)
  have PT:=hD (parts_any (.slice vA vn vc) l hs r6 hr6)
  by_cases h6:r6=0;case neg=>
   have hn0:n=r6:=by rw [hnw,why,if_pos (by rw [←hr6];exact h6),hr6]
   have n1:((r6:Int) != 0)=true:=by rw [bne_iff_ne];omega
   have h6':=h6;subst hn0;clear hr hn hs hc h hnw hr6 h6;go_in;go_wp2_with fail;refine (CT.out _ (H.out.below B)).mono ?_;rintro e w' ⟨rfl,rfl⟩
   go_wp2_with fail;refine (PT.out _ (H.out.below B)).mono ?_;rintro e wa1 ⟨a,b,c,d,m,rfl,-,hz,b⟩
   replace B:=B.trans (b.mono B.size);clear b;obtain ⟨rfl,rfl,rfl,rfl,rfl⟩:=hz h6';go_wp2
   go_ret2
   refine ⟨rfl,?_⟩
   exact bdn
  case pos=>
   subst h6;obtain ⟨e1,e2,e3,e4,e5,e6⟩:=why6_zero.1 hr6.symm;have hT:=(T19_ok e4).2;have hIn:∀b∈O19 l,In19 l b:=fun b hb=>in19_of e6 hb;have hOl:∀b∈O19 l,b.at_<l.length:=fun b hb=>by obtain ⟨a,_,h2,h3,h4,_,_,_,h8,_⟩:=objs_at e6 hb;omega
   have hl1:l.length≤1000000:=by have:=hs.2.1;omega
   have hsn:=slots_len' e5;obtain ⟨c7,hc7⟩:=exq (decide (AllGood l (T19 l) (O19 l) 7))
   obtain ⟨c8,hc8⟩:=exq (decide (AllGood l (T19 l) (O19 l) 8))
   obtain ⟨c9,hc9⟩:=exq (decide (AllGood l (T19 l) (O19 l) 9))
   obtain ⟨c10,hc10⟩:=exq (decide (AllGood l (T19 l) (O19 l) 10))
   obtain ⟨c11,hc11⟩:=exq (decide (AllGood l (T19 l) (O19 l) 11))
   have E7:=hD (fun (tv sv bv:Value) (g gn:Nat) (w:World) (h:Sg w (.slice vA vn vc) tv sv bv g gn l (T19 l) (slots l) (O19 l))=>each_any 48 (.slice vA vn vc) tv sv bv g (O19 l) (fun b=>decide (Idle b)) c7 (by rw [hc7];simp only [decide_eq_true_iff];rfl) (fun _ _=>rfl) w h.b (fun b hb W hW=>idleB_any _ tv sv bv g b _ rfl W))
   have E8:=hD (fun (tv sv bv:Value) (g gn:Nat) (w:World) (h:Sg w (.slice vA vn vc) tv sv bv g gn l (T19 l) (slots l) (O19 l))=>each_any 49 (.slice vA vn vc) tv sv bv g (O19 l) (fun b=>decide (Typed (T19 l) b)) c8 (by rw [hc8];simp only [decide_eq_true_iff];rfl) (fun _ _=>rfl) w h.b (fun b hb W hW=>typedB_any _ tv sv bv g (T19 l) b _ rfl (by obtain ⟨a,_,hk,_⟩:=hIn b hb;exact hk.bounds.2.2.2.2.1) hT W (h.t.below hW)))
   have E9:=hD (fun (h8:AllGood l (T19 l) (O19 l) 8) (tv sv bv:Value) (g gn:Nat) (w:World) (h:Sg w (.slice vA vn vc) tv sv bv g gn l (T19 l) (slots l) (O19 l))=>each_any 50 (.slice vA vn vc) tv sv bv g (O19 l) (fun b=>decide (Padded l (T19 l) b)) c9 (by rw [hc9];simp only [decide_eq_true_iff];rfl) (fun _ _=>rfl) w h.b (fun b hb W hW=>paddedB_any _ tv sv bv g l (T19 l) b _ rfl (hIn b hb) (h8 b hb) hl1 W (h.w.below hW) (h.t.below hW)))
   have E10:=hD (fun (h8:AllGood l (T19 l) (O19 l) 8) (tv sv bv:Value) (g gn:Nat) (w:World) (h:Sg w (.slice vA vn vc) tv sv bv g gn l (T19 l) (slots l) (O19 l))=>each_any 51 (.slice vA vn vc) tv sv bv g (O19 l) (fun b=>decide (FloatsB l (T19 l) b)) c10 (by rw [hc10];simp only [decide_eq_true_iff];rfl) (fun _ _=>rfl) w h.b (fun b hb W hW=>floatsB_any _ tv sv bv g l (T19 l) b _ rfl (hIn b hb) (h8 b hb) hl1 W (h.w.below hW) (h.t.below hW)))
   have E11:=hD (fun (h8:AllGood l (T19 l) (O19 l) 8) (tv sv bv:Value) (g gn:Nat) (w:World) (h:Sg w (.slice vA vn vc) tv sv bv g gn l (T19 l) (slots l) (O19 l))=>each_any 52 (.slice vA vn vc) tv sv bv g (O19 l) (fun b=>decide (RefsB l (T19 l) (O19 l) b)) c11 (by rw [hc11];simp only [decide_eq_true_iff];rfl) (fun _ _=>rfl) w h.b (fun b hb W hW=>refsB_any _ tv sv bv g gn l (T19 l) (slots l) (O19 l) b _ rfl (hIn b hb) (h8 b hb) hl1 hOl W (h.below hW)))
   have hwO:n=if whyO l (T19 l) (O19 l) 5 7≠0 then whyO l (T19 l) (O19 l) 5 7 else if SlotsGood (slots l) (O19 l) then 0 else 12:=by
    rw [hnw,why,if_neg (by rw [←hr6];exact fun h=>h rfl)]
   have HW:=hD hwO;have HCS:=hD (And.intro hc7 (And.intro hc8 (And.intro hc9 (And.intro hc10 hc11))))
   have HSN:=hD hsn;have hI64:∀s∈slots l,s.used=true→i64Ok s.at_:=fun s hs' hu=>by
    obtain ⟨x,hx,rfl⟩:=List.mem_map.1 hs'
    have:=(allR_of e5 x hx).2.2.2 hu;exact ⟨by omega,by omega⟩
   have HI:=hD hI64;clear hr hn hs hc h hnw hr6 e1 e2 e3 e4 e5 e6 hT hIn hOl hl1 hsn hc7 hc8 hc9 hc10 hc11 hwO hI64;go_in;go_wp2_with fail;refine (CT.out _ (H.out.below B)).mono ?_;rintro e w' ⟨rfl,rfl⟩
   go_wp2_with fail;refine (PT.out _ (H.out.below B)).mono ?_;rintro e wa1 ⟨a,tv,sv,bv,m,rfl,hsg,-,b⟩
   replace B:=B.trans (b.mono B.size);clear b;obtain ⟨rfl,g,gn,rfl,sg⟩:=hsg (by trivial)
   obtain ⟨tA,tn,tc,rfl⟩:∃A n c,tv=.slice A n c:=by obtain ⟨_,_,⟨A,c,e,_⟩,_⟩:=sg.t;exact ⟨A,_,c,e⟩
   obtain ⟨sA,sn,sc,rfl⟩:∃A n c,sv=.slice A n c:=by obtain ⟨A,c,e,_⟩:=sg.s;exact ⟨A,_,c,e⟩
   obtain ⟨bA,bn,bc,rfl⟩:∃A n c,bv=.slice A n c:=by obtain ⟨A,c,e⟩:=sg.b.form;exact ⟨A,_,c,e⟩
   go_upto_region 5 with (fail)
   refine wpb1 (109) (#[.slice vA vn vc,.slice tA tn tc,.slice sA sn sc,.slice bA bn bc,.map (some g)]) ?_;rintro wa2 ⟨g1,b⟩
   replace sg:=sg.below b;replace B:=B.trans (b.mono B.size);clear b;replace c_g1:=g1.five;go_upto_region 7 with (fail)
   go_wp2;refine wpb1 (112) (#[.func (.func 48) #[.agg #[.slice vA vn vc,.slice tA tn tc,.slice sA sn sc,.slice bA bn bc,.map (some g)]] #[],.func (.func 49) #[.agg #[.slice vA vn vc,.slice tA tn tc,.slice sA sn sc,.slice bA bn bc,.map (some g)]] #[],.func (.func 50) #[.agg #[.slice vA vn vc,.slice tA tn tc,.slice sA sn sc,.slice bA bn bc,.map (some g)]] #[],.func (.func 51) #[.agg #[.slice vA vn vc,.slice tA tn tc,.slice sA sn sc,.slice bA bn bc,.map (some g)]] #[],.func (.func 52) #[.agg #[.slice vA vn vc,.slice tA tn tc,.slice sA sn sc,.slice bA bn bc,.map (some g)]] #[]]) ?_;rintro wa3 ⟨g2,b⟩
   replace sg:=sg.below b;replace g1:=g1.below b;replace c_g1:=g1.five;replace B:=B.trans (b.mono B.size);clear b;replace c_g2:=g2.five;have HG0:=hD (And.intro g1 (And.intro g2 (And.intro sg B)))
   clear g1 g2 sg B c_g1 c_g2
   go_loopg [36] 5 (fun gg i wr=>∃j:Nat,j≤5∧gg=5-j∧i=.int .i64 j∧Hid (Bx wr wa1.heap.size 109 #[.slice vA vn vc,.slice tA tn tc,.slice sA sn sc,.slice bA bn bc,.map (some g)]∧Bx wr wa2.heap.size 112 #[.func (.func 48) #[.agg #[.slice vA vn vc,.slice tA tn tc,.slice sA sn sc,.slice bA bn bc,.map (some g)]] #[],.func (.func 49) #[.agg #[.slice vA vn vc,.slice tA tn tc,.slice sA sn sc,.slice bA bn bc,.map (some g)]] #[],.func (.func 50) #[.agg #[.slice vA vn vc,.slice tA tn tc,.slice sA sn sc,.slice bA bn bc,.map (some g)]] #[],.func (.func 51) #[.agg #[.slice vA vn vc,.slice tA tn tc,.slice sA sn sc,.slice bA bn bc,.map (some g)]] #[],.func (.func 52) #[.agg #[.slice vA vn vc,.slice tA tn tc,.slice sA sn sc,.slice bA bn bc,.map (some g)]] #[]]∧Sg wr (.slice vA vn vc) (.slice tA tn tc) (.slice sA sn sc) (.slice bA bn bc) g gn l (T19 l) (slots l) (O19 l)∧Below w.heap.size w wr∧∀i,i<j→AllGood l (T19 l) (O19 l) (7+i)))
   case atStart=>
    obtain ⟨g1,g2,sg,B⟩:=HG0.out;exact ⟨0,by omega,by omega,rfl,hD ⟨g1,g2,sg,B,fun i hi=>by omega⟩⟩
   case round=>
    obtain ⟨j,hj,hgj,rfl,hh⟩:=hrel;clear HG0;obtain ⟨g1,g2,sg,B,-⟩:=hh.out;have c_g1:=g1.cell;have c_g2:=g2.cell;rcases (show j=0∨j=1∨j=2∨j=3∨j=4∨j=5 by omega) with rfl | rfl | rfl | rfl | rfl | rfl
    all_goals subst hgj
    ·-- reason 7
     have EK:=hD (E7.out (.slice tA tn tc) (.slice sA sn sc) (.slice bA bn bc) g gn)
     cases c7
     ·have hno:¬AllGood l (T19 l) (O19 l) (7+0):=of_decide_eq_false HCS.out.1.symm;have hw:=whyO_at (l:=l) (T:=T19 l) (O:=O19 l) 5 7 0 (by omega) (fun i hi=>hh.out.2.2.2.2 i (by omega)) hno;have hn0:n=7+0:=by rw [HW.out,hw,if_pos (by omega)]
      subst hn0;clear hno hw;go_wp2_with fail;refine (EK.out _ sg).mono ?_;rintro e wa4 ⟨rfl,b⟩
      replace g1:=g1.below b;replace c_g1:=g1.five;replace g2:=g2.below b;replace c_g2:=g2.five;replace sg:=sg.below b;replace B:=B.trans (b.mono B.size);clear b;go_wp2
      go_ret2
      exact ⟨rfl,B⟩
     ·have hyes:AllGood l (T19 l) (O19 l) (7+0):=of_decide_eq_true HCS.out.1.symm;have HA:Hid (∀i,i<0+1→AllGood l (T19 l) (O19 l) (7+i)):=hD (fun i hi=>by
       by_cases e:i=0
       ·subst e;exact hyes
       ·exact hh.out.2.2.2.2 i (by omega))
      clear hyes;go_wp2_with fail;refine (EK.out _ sg).mono ?_;rintro e wa5 ⟨rfl,b⟩
      replace g1:=g1.below b;replace c_g1:=g1.five;replace g2:=g2.below b;replace c_g2:=g2.five;replace sg:=sg.below b;replace B:=B.trans (b.mono B.size);clear b;have HG:=hD (And.intro g1 (And.intro g2 (And.intro sg (And.intro B HA.out))))
      go_wp2
      go_roundg (5-(0+1))
      case measure=>omega
      case rel=>exact ⟨0+1,by omega,rfl,by go_num,HG⟩
    ·-- reason 8
     have EK:=hD (E8.out (.slice tA tn tc) (.slice sA sn sc) (.slice bA bn bc) g gn)
     cases c8
     ·have hno:¬AllGood l (T19 l) (O19 l) (7+1):=of_decide_eq_false HCS.out.2.1.symm;have hw:=whyO_at (l:=l) (T:=T19 l) (O:=O19 l) 5 7 1 (by omega) (fun i hi=>hh.out.2.2.2.2 i (by omega)) hno;have hn0:n=7+1:=by rw [HW.out,hw,if_pos (by omega)]
      subst hn0;clear hno hw;go_wp2_with fail;refine (EK.out _ sg).mono ?_;rintro e wa6 ⟨rfl,b⟩
      replace g1:=g1.below b;replace c_g1:=g1.five;replace g2:=g2.below b;replace c_g2:=g2.five;replace sg:=sg.below b;replace B:=B.trans (b.mono B.size);clear b;go_wp2
      go_ret2
      exact ⟨rfl,B⟩
     ·have hyes:AllGood l (T19 l) (O19 l) (7+1):=of_decide_eq_true HCS.out.2.1.symm;have HA:Hid (∀i,i<1+1→AllGood l (T19 l) (O19 l) (7+i)):=hD (fun i hi=>by
       by_cases e:i=1
       ·subst e;exact hyes
       ·exact hh.out.2.2.2.2 i (by omega))
      clear hyes;go_wp2_with fail;refine (EK.out _ sg).mono ?_;rintro e wa7 ⟨rfl,b⟩
      replace g1:=g1.below b;replace c_g1:=g1.five;replace g2:=g2.below b;replace c_g2:=g2.five;replace sg:=sg.below b;replace B:=B.trans (b.mono B.size);clear b;have HG:=hD (And.intro g1 (And.intro g2 (And.intro sg (And.intro B HA.out))))
      go_wp2
      go_roundg (5-(1+1))
      case measure=>omega
      case rel=>exact ⟨1+1,by omega,rfl,by go_num,HG⟩
    ·-- reason 9
     have EK:=hD (E9.out (hh.out.2.2.2.2 1 (by omega)) (.slice tA tn tc) (.slice sA sn sc) (.slice bA bn bc) g gn)
     cases c9
     ·have hno:¬AllGood l (T19 l) (O19 l) (7+2):=of_decide_eq_false HCS.out.2.2.1.symm;have hw:=whyO_at (l:=l) (T:=T19 l) (O:=O19 l) 5 7 2 (by omega) (fun i hi=>hh.out.2.2.2.2 i (by omega)) hno;have hn0:n=7+2:=by rw [HW.out,hw,if_pos (by omega)]
      subst hn0;clear hno hw;go_wp2_with fail;refine (EK.out _ sg).mono ?_;rintro e wa8 ⟨rfl,b⟩
      replace g1:=g1.below b;replace c_g1:=g1.five;replace g2:=g2.below b;replace c_g2:=g2.five;replace sg:=sg.below b;replace B:=B.trans (b.mono B.size);clear b;go_wp2
      go_ret2
      exact ⟨rfl,B⟩
     ·have hyes:AllGood l (T19 l) (O19 l) (7+2):=of_decide_eq_true HCS.out.2.2.1.symm;have HA:Hid (∀i,i<2+1→AllGood l (T19 l) (O19 l) (7+i)):=hD (fun i hi=>by
       by_cases e:i=2
       ·subst e;exact hyes
       ·exact hh.out.2.2.2.2 i (by omega))
      clear hyes;go_wp2_with fail;refine (EK.out _ sg).mono ?_;rintro e wa9 ⟨rfl,b⟩
      replace g1:=g1.below b;replace c_g1:=g1.five;replace g2:=g2.below b;replace c_g2:=g2.five;replace sg:=sg.below b;replace B:=B.trans (b.mono B.size);clear b;have HG:=hD (And.intro g1 (And.intro g2 (And.intro sg (And.intro B HA.out))))
      go_wp2
      go_roundg (5-(2+1))
      case measure=>omega
      case rel=>exact ⟨2+1,by omega,rfl,by go_num,HG⟩
    ·-- reason 10
     have EK:=hD (E10.out (hh.out.2.2.2.2 1 (by omega)) (.slice tA tn tc) (.slice sA sn sc) (.slice bA bn bc) g gn)
     cases c10
     ·have hno:¬AllGood l (T19 l) (O19 l) (7+3):=of_decide_eq_false HCS.out.2.2.2.1.symm;have hw:=whyO_at (l:=l) (T:=T19 l) (O:=O19 l) 5 7 3 (by omega) (fun i hi=>hh.out.2.2.2.2 i (by omega)) hno;have hn0:n=7+3:=by rw [HW.out,hw,if_pos (by omega)]
      subst hn0;clear hno hw;go_wp2_with fail;refine (EK.out _ sg).mono ?_;rintro e wa10 ⟨rfl,b⟩
      replace g1:=g1.below b;replace c_g1:=g1.five;replace g2:=g2.below b;replace c_g2:=g2.five;replace sg:=sg.below b;replace B:=B.trans (b.mono B.size);clear b;go_wp2
      go_ret2
      exact ⟨rfl,B⟩
     ·have hyes:AllGood l (T19 l) (O19 l) (7+3):=of_decide_eq_true HCS.out.2.2.2.1.symm;have HA:Hid (∀i,i<3+1→AllGood l (T19 l) (O19 l) (7+i)):=hD (fun i hi=>by
       by_cases e:i=3
       ·subst e;exact hyes
       ·exact hh.out.2.2.2.2 i (by omega))
      clear hyes;go_wp2_with fail;refine (EK.out _ sg).mono ?_;rintro e wa11 ⟨rfl,b⟩
      replace g1:=g1.below b;replace c_g1:=g1.five;replace g2:=g2.below b;replace c_g2:=g2.five;replace sg:=sg.below b;replace B:=B.trans (b.mono B.size);clear b;have HG:=hD (And.intro g1 (And.intro g2 (And.intro sg (And.intro B HA.out))))
      go_wp2
      go_roundg (5-(3+1))
      case measure=>omega
      case rel=>exact ⟨3+1,by omega,rfl,by go_num,HG⟩
    ·-- reason 11
     have EK:=hD (E11.out (hh.out.2.2.2.2 1 (by omega)) (.slice tA tn tc) (.slice sA sn sc) (.slice bA bn bc) g gn)
     cases c11
     ·have hno:¬AllGood l (T19 l) (O19 l) (7+4):=of_decide_eq_false HCS.out.2.2.2.2.symm;have hw:=whyO_at (l:=l) (T:=T19 l) (O:=O19 l) 5 7 4 (by omega) (fun i hi=>hh.out.2.2.2.2 i (by omega)) hno;have hn0:n=7+4:=by rw [HW.out,hw,if_pos (by omega)]
      subst hn0;clear hno hw;go_wp2_with fail;refine (EK.out _ sg).mono ?_;rintro e wa12 ⟨rfl,b⟩
      replace g1:=g1.below b;replace c_g1:=g1.five;replace g2:=g2.below b;replace c_g2:=g2.five;replace sg:=sg.below b;replace B:=B.trans (b.mono B.size);clear b;go_wp2
      go_ret2
      exact ⟨rfl,B⟩
     ·have hyes:AllGood l (T19 l) (O19 l) (7+4):=of_decide_eq_true HCS.out.2.2.2.2.symm;have HA:Hid (∀i,i<4+1→AllGood l (T19 l) (O19 l) (7+i)):=hD (fun i hi=>by
       by_cases e:i=4
       ·subst e;exact hyes
       ·exact hh.out.2.2.2.2 i (by omega))
      clear hyes;go_wp2_with fail;refine (EK.out _ sg).mono ?_;rintro e wa13 ⟨rfl,b⟩
      replace g1:=g1.below b;replace c_g1:=g1.five;replace g2:=g2.below b;replace c_g2:=g2.five;replace sg:=sg.below b;replace B:=B.trans (b.mono B.size);clear b;have HG:=hD (And.intro g1 (And.intro g2 (And.intro sg (And.intro B HA.out))))
      go_wp2
      go_roundg (5-(4+1))
      case measure=>omega
      case rel=>exact ⟨4+1,by omega,rfl,by go_num,HG⟩
    ·have hall:∀i,7≤i→i<7+5→AllGood l (T19 l) (O19 l) i:=fun i h1 h2=>by
      have:=hh.out.2.2.2.2 (i-7) (by omega)
      rwa [show 7+(i-7)=i by omega] at this
     have hw0:=(whyO_zero (l:=l) (T:=T19 l) (O:=O19 l) 5 7 (by omega)).2 hall;have hn0:n=if SlotsGood (slots l) (O19 l) then 0 else 12:=by rw [HW.out,hw0,if_neg (by omega)]
     have HN:=hD hn0;have ls:=Rd.len sg.s Tryz.underlying29;rw [HSN.out] at ls;clear hall hw0 hn0 g2 c_g2;go_wp2;have HG1:=hD (And.intro g1 (And.intro sg B))
     clear g1 sg B c_g1
     go_loopg [51] 16 (fun gg i wr2=>∃j:Nat,j≤16∧gg=16-j∧i=.int .i64 j∧Hid (Bx wr2 wa1.heap.size 109 #[.slice vA vn vc,.slice tA tn tc,.slice sA sn sc,.slice bA bn bc,.map (some g)]∧Sg wr2 (.slice vA vn vc) (.slice tA tn tc) (.slice sA sn sc) (.slice bA bn bc) g gn l (T19 l) (slots l) (O19 l)∧Below w.heap.size w wr2∧∀i s,i<j→(slots l)[i]?=some s→s.used=true→IsObj (O19 l) s.at_))
     case atStart=>
      obtain ⟨g1,sg,B⟩:=HG1.out;exact ⟨0,by omega,by omega,rfl,hD ⟨g1,sg,B,fun i s hi=>by omega⟩⟩
     case round=>
      obtain ⟨j,hj,rfl,rfl,hh2⟩:=hrel;clear HG1;obtain ⟨g1,sg,B,-⟩:=hh2.out;have c_g1:=g1.cell;by_cases hlt:j<16
      ·obtain ⟨bb,oo,t,ia,m0,m1,m2,ht⟩:=sg.s.at_ (P:=Tryz.prog) Tryz.underlying29 size_slot (k:=j) (by rw [HSN.out];exact hlt)
       obtain ⟨tg,tu,ta⟩:=t;dsimp only at m0 m1 m2;have HT:=hD ht.out;clear ht;cases tu
       ·have HZ:Hid (∀i s,i<j+1→(slots l)[i]?=some s→s.used=true→IsObj (O19 l) s.at_):=hD (fun i s hi hs hu=>by
         by_cases e:i=j
         ·subst e;rw [HT.out] at hs;injection hs with hs;subst hs;cases hu
         ·exact hh2.out.2.2.2 i s (by omega) hs hu)
        go_upto_region 16 with (fail)
        refine wpb1 (37) (#[.int .i64 tg,.bool false,.int .i64 ta]) ?_;rintro wa14 ⟨g2,b⟩
        replace g1:=g1.below b;replace c_g1:=g1.five;replace sg:=sg.below b;replace B:=B.trans (b.mono B.size);clear b;replace c_g2:=g2.five;have HG:=hD (And.intro g1 (And.intro sg (And.intro B HZ.out)))
        go_wp2
        go_roundg (16-(j+1))
        case measure=>omega
        case rel=>exact ⟨j+1,by omega,rfl,by go_num,HG⟩
       ·have hi64:=HI.out _ (List.mem_of_getElem? HT.out) rfl;obtain ⟨q,hq⟩:=exq (decide (IsObj (O19 l) ta))
        go_upto_region 16 with (fail)
        refine wpb1 (37) (#[.int .i64 tg,.bool true,.int .i64 ta]) ?_;rintro wa15 ⟨g2,b⟩
        replace g1:=g1.below b;replace c_g1:=g1.five;replace sg:=sg.below b;replace B:=B.trans (b.mono B.size);clear b;replace c_g2:=g2.five;have hlk:=sg.look (a:=ta) hi64;rw [←hq] at hlk;cases q
        ·have hno:¬SlotsGood (slots l) (O19 l):=fun hg=>of_decide_eq_false hq.symm (hg _ (List.mem_of_getElem? HT.out) rfl)
         have hn0:n=12:=by rw [HN.out,if_neg hno]
         subst hn0;clear hno hq;go_wp2
         go_ret2
         exact ⟨rfl,B⟩
        ·have HZ:Hid (∀i s,i<j+1→(slots l)[i]?=some s→s.used=true→IsObj (O19 l) s.at_):=hD (fun i s hi hs hu=>by
          by_cases e:i=j
          ·subst e;rw [HT.out] at hs;injection hs with hs;subst hs;exact of_decide_eq_true hq.symm
          ·exact hh2.out.2.2.2 i s (by omega) hs hu)
         have HG:=hD (And.intro g1 (And.intro sg (And.intro B HZ.out)))
         clear hq;go_wp2
         go_roundg (16-(j+1))
         case measure=>omega
         case rel=>exact ⟨j+1,by omega,rfl,by go_num,HG⟩
      ·obtain rfl:j=16:=by omega
       have hsg:SlotsGood (slots l) (O19 l):=fun s hs hu=>by
        obtain ⟨i,hi,e⟩:=List.mem_iff_getElem.1 hs;exact hh2.out.2.2.2 i s (by rw [←HSN.out];exact hi) (by rw [List.getElem?_eq_getElem hi,e]) hu
       have hn0:n=0:=by rw [HN.out,if_pos hsg]
       subst hn0;clear hsg;go_wp2
       go_ret2
       exact ⟨rfl,B⟩
theorem Check19_any (v:Value) (l:List UInt64) (r:Int) (hr:r=chk19 l) (w:World) (h:Words w v l):
  Calls Tryz.prog 5 #[v] w fun e w'=>e=.returned (.int .i64 r)∧Below w.heap.size w w':=by
 have B:=Below.refl w.heap.size w;have H:=hD h;obtain ⟨n,hn⟩:=exq (rea l)
 obtain ⟨q,hq⟩:=exq (reaE l)
 have RT:=hD (Reason_any v l n q hn hq)
 have hcase:(q=0∧n=0∧r=0)∨(q=0∧0<n∧r=50)∨(q=8∧r=8):=by
  rw [hr,hn,hq]
  by_cases hs:SizeOk l.length
  ·by_cases h0:why l=0
   ·exact .inl ⟨by rw [reaE,if_pos hs],by rw [rea,if_pos hs,h0],by rw [chk19,if_pos hs,if_pos h0]⟩
   ·exact .inr (.inl ⟨by rw [reaE,if_pos hs],by rw [rea,if_pos hs];omega,by rw [chk19,if_pos hs,if_neg h0]⟩)
  ·exact .inr (.inr ⟨by rw [reaE,if_neg hs],by rw [chk19,if_neg hs]⟩)
 clear hn hq hr h;rcases hcase with ⟨rfl,rfl,rfl⟩ | ⟨rfl,h1,rfl⟩ | ⟨rfl,rfl⟩
 ·skip
  go_in;go_wp2_with fail;refine (RT.out _ (H.out.below B)).mono ?_;rintro e wa1 ⟨rfl,b⟩
  replace B:=B.trans (b.mono B.size);clear b;go_wp2
  go_ret
  exact ⟨rfl,B⟩
 ·have n1:(0:Int)<(n:Int):=by omega
  go_in;go_wp2_with fail;refine (RT.out _ (H.out.below B)).mono ?_;rintro e wa1 ⟨rfl,b⟩
  replace B:=B.trans (b.mono B.size);clear b;go_wp2
  go_ret
  exact ⟨rfl,B⟩
 ·skip
  go_in;go_wp2_with fail;refine (RT.out _ (H.out.below B)).mono ?_;rintro e wa1 ⟨rfl,b⟩
  replace B:=B.trans (b.mono B.size);clear b;go_wp2
  go_ret
  exact ⟨rfl,B⟩
end
section
open Go.RowKit L02 L05 L06 L07
end
section
open Go.RowKit L01 L02 L05 L06 L07 L13 L14 L15 L18 L19
def idxI (O:List Hb) (a:Int):Int:=match idx O a with | some i=>(i:Int) | none=>-1
end
section
open Go.RowKit L01 L02 L05 L06 L07 L13 L14 L15 L18 L19
end
section
open Go.RowKit L01 L02 L05 L06 L07 L13 L14 L15 L18 L19
end
section
open Go.RowKit L01 L02 L05 L06 L07 L13 L14 L15 L18 L19
structure Rs19 (W:World) (v tv sv bv:Value) (l:List UInt64) (T:List (List UInt8)) (S:List Sl) (O:List Hb):Prop where
 w:Words W v l
 t:Typs W tv T
 s:Slots W sv S
 b:Blks W bv O
theorem Rs19.below {W W':World} {v tv sv bv:Value} {l:List UInt64} {T:List (List UInt8)} {S:List Sl} {O:List Hb} (h:Rs19 W v tv sv bv l T S O) (hb:Below W.heap.size W W'):Rs19 W' v tv sv bv l T S O:=
 ⟨h.w.below hb,h.t.below hb,Slots.below h.s hb,h.b.below hb⟩
end
section
open Go.RowKit L01 L02 L05 L06 L07 L13 L14 L15 L18 L19
end
end Go.Proofs.YteejianjjpdimaaGreat
namespace Go.Proofs.YteejianjjpdimaaGreat.L16
open L02 L14 L15 L19
def free (L:List Hb):List Hb:=L.filter fun b=>decide (b.kind=2)
def freeL (l:List UInt64):List Hb:=free (allL l)
def sumN:List Hb→Int
 | []=>0
 | b :: L=>b.size+sumN L
def lowF (L:List Hb) (i:Nat):Bool:=decide (0<i) && decide ((L.getD (i-1) .none).kind=2)
def highF (L:List Hb) (i:Nat):Bool:=decide ((L.getD (i+1) .none).kind=2)
def becomes (L:List Hb) (i:Nat):Hb:=
 ⟨if lowF L i=true then (L.getD (i-1) .none).at_ else (L.getD i .none).at_,(L.getD i .none).size+(if lowF L i=true then (L.getD (i-1) .none).size else 0)+(if highF L i=true then (L.getD (i+1) .none).size else 0),2,0,false,0⟩
def objIdx:List Hb→Int→Nat→Option Nat
 | [],_,_=>none
 | b :: L,a,k=>if b.at_=a∧b.kind=1 then some k else objIdx L a (k+1)
def arErr (l:List UInt64) (a:Int):Int:=if allErr l=0 then (if (objIdx (allL l) a 0).isSome then 0 else 6) else allErr l
def around (l:List UInt64) (a:Int):Hb:=if arErr l a=0 then becomes (allL l) ((objIdx (allL l) a 0).getD 0) else .none
def cls (n:Nat):Nat:=Nat.log2 n
def lists (L:List Hb) (k:Nat):List Int:=((free L).filter fun b=>decide (cls b.size.toNat=k)).map fun b=>b.at_
theorem free_mem {L:List Hb} {b:Hb}:b∈free L↔b∈L∧b.kind=2:=by unfold free;rw [List.mem_filter];simp
theorem objIdx_some:∀{L:List Hb} {a:Int} {k i:Nat},objIdx L a k=some i→k≤i∧∃b,L[i-k]?=some b∧b.at_=a∧b.kind=1
 | [],_,_,_,h=>by cases h
 | b :: L,a,k,i,h=>by
  rw [objIdx] at h;by_cases hb:b.at_=a∧b.kind=1
  ·rw [if_pos hb] at h;injection h with h;subst h
   exact ⟨Nat.le_refl _,b,by rw [Nat.sub_self];rfl,hb.1,hb.2⟩
  ·rw [if_neg hb] at h;obtain ⟨h1,c,h2,h3⟩:=objIdx_some h;exact ⟨by omega,c,by rw [show i-k=i-(k+1)+1 by omega];exact h2,h3⟩
theorem objIdx_none:∀{L:List Hb} {a:Int} {k:Nat},objIdx L a k=none↔∀b∈L,¬(b.at_=a∧b.kind=1)
 | [],_,_=>⟨fun _ b hb=>(by cases hb),fun _=>rfl⟩
 | b :: L,a,k=>by
  rw [objIdx]
  by_cases hb:b.at_=a∧b.kind=1
  ·rw [if_pos hb]
   exact ⟨fun h=>(by cases h),fun h=>absurd hb (h b List.mem_cons_self)⟩
  ·rw [if_neg hb,objIdx_none]
   constructor
   ·intro h c hc;rcases List.mem_cons.1 hc with rfl | hc
    ·exact hb
    ·exact h c hc
   ·intro h c hc;exact h c (List.mem_cons_of_mem _ hc)
end Go.Proofs.YteejianjjpdimaaGreat.L16
