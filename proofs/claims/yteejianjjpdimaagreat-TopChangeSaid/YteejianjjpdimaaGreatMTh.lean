/- Contracts of the functions that the laws 'T' reach, part 8. No condition. -/
import Derived.Test.YteejianjjpdimaaGreatMTg
set_option linter.unusedVariables false
set_option linter.unusedSimpArgs false
set_option maxRecDepth 100000
set_option maxHeartbeats 8000000
namespace Go.Proofs.YteejianjjpdimaaGreat
section
open Go.RowKit L02 L05 L06 L07
theorem starts_any (w:World):Calls Tryz.prog 54 #[] w fun e w'=>e=.returned (.agg #[.int .i64 0,.int .i64 8])∧Below w.heap.size w w':=by
 have B:=Below.refl w.heap.size w;go_in;go_upto_region 1 with (fail)
 refine wpb1 (116) (#[.int .i64 0,.int .i64 0]) ?_;rintro w' ⟨g1,b⟩
 replace B:=B.trans (b.mono B.size);clear b;replace c_g1:=g1.five;go_wp2;refine bodyPost_ret (v:=.agg #[.int .i64 0,.int .i64 8]) (by simp [results,Tryz.results54,go_sem,c_g1]) rfl ?_;exact ⟨rfl,by exact bdn⟩
theorem Read6_r (v:Value) (l:List UInt64) (W T r:Int) (hW:W=rdW l) (hT:T=rdT l) (hr:r=rdErr l) (w:World) (h:Words w v l):
  Calls Tryz.prog 55 #[v] w fun e w'=>e=.returned (.tuple #[.agg #[.int .i64 W,.int .i64 T],.int .i64 r])∧Below w.heap.size w w':=by subst hW hT hr;exact Read6_any v l w h
theorem good_rd {n:Nat} {l:List UInt64} (hl:l.length=8):CopyOk n l↔rdErr l=0∧rdW l=(n:Int):=by
 unfold CopyOk rdErr rdW;rw [if_pos hl]
 by_cases h:ReadOk l
 ·simp [h]
 ·simp [h]
theorem rd_ok3 {l:List UInt64} (h:ReadOk l):rdW l=at2 l∧rdT l=at3 l:=⟨if_pos h,if_pos h⟩
theorem index_two (a b:Int) (W:World):(Instr.index 116 (.agg #[.int .i64 a,.int .i64 b]) (.int .i64 0)).run Tryz.prog W=.ok (.int .i64 a) W∧(Instr.index 116 (.agg #[.int .i64 a,.int .i64 b]) (.int .i64 1)).run Tryz.prog W=.ok (.int .i64 b) W:=by
 obtain ⟨i,hi,hsz⟩:=Option.map_eq_some_iff.1 one_int;constructor <;> simp [Instr.index,run_underlying Tryz.underlying116,asIntOf,sizeOf,typeInfo,go_sem,hi,hsz]
def fnd (a0 t0 a1 t1:Int):Nat→Array Value
 | 0=>#[.int .i64 0,.int .i64 0,.int .i64 0,.int .i64 0]
 | 1=>#[.int .i64 a0,.int .i64 t0,.int .i64 0,.int .i64 0]
 | _=>#[.int .i64 a0,.int .i64 t0,.int .i64 a1,.int .i64 t1]
def rgt (b0 b1:Bool):Nat→Array Value
 | 0=>#[.bool false,.bool false]
 | 1=>#[.bool b0,.bool false]
 | _=>#[.bool b0,.bool b1]
theorem copy_cases {n:Nat} {l:List UInt64} (hl:l.length=8) (b:Bool) (hb:b=decide (CopyOk n l)):(rdErr l=0∧(rdW l==(n:Int))=b)∨((rdErr l==0)=false∧b=false):=by
 by_cases h:rdErr l=0
 ·refine .inl ⟨h,?_⟩
  rw [hb]
  by_cases h2:rdW l=(n:Int)
  ·rw [decide_eq_true ((good_rd hl).2 ⟨h,h2⟩),beq_iff_eq];exact h2
  ·rw [decide_eq_false (fun hg=>h2 ((good_rd hl).1 hg).2),beq_eq_false_iff_ne];exact h2
 ·refine .inr ⟨by rw [beq_eq_false_iff_ne];exact h,?_⟩
  rw [hb];exact decide_eq_false (fun hg=>h ((good_rd hl).1 hg).1)
theorem TRead_any (v:Value) (m:List UInt64) (W T:Int) (b0 b1:Bool) (r:Int) (hW:W=sW m) (hT:T=sT m) (h0:b0=is0 m) (h1:b1=is1 m) (hr:r=rErr m) (w:World) (h:Words w v m):
  Calls Tryz.prog 12 #[v] w fun e w'=>e=.returned (.tuple #[.agg #[.int .i64 W,.int .i64 T],.agg #[.bool b0,.bool b1],.int .i64 r])∧Below w.heap.size w w':=by
 have B:=Below.refl w.heap.size w;have CT:=fun w h=>Check_any v m w h;by_cases hs:SizeOk m.length
 rotate_left
 ·rw [chk_no hs] at CT;obtain rfl:W=0:=by rw [hW,sW,if_neg (by rw [rErr_no hs];omega)]
  obtain rfl:T=0:=by rw [hT,sT,if_neg (by rw [rErr_no hs];omega)]
  obtain rfl:b0=false:=by rw [h0,is0_no hs]
  obtain rfl:b1=false:=by rw [h1,is1_no hs]
  obtain rfl:r=8:=by rw [hr,rErr_no hs]
  have HC:=hD CT;have H:=hD h;clear CT h hs hW hT h0 h1 hr;go_in;go_upto_region 1 with (fail)
  refine wpb11 (51) (#[.int .i64 0,.int .i64 0]) (52) (#[.bool false,.bool false]) ?_;rintro w' ⟨g2,g3,b⟩
  replace B:=B.trans (b.mono B.size);clear b;obtain ⟨c_g2,f_g2,a_g2,d_g2,e_g2⟩:=g2.five;obtain ⟨c_g3,f_g3,a_g3,d_g3,e_g3⟩:=g3.five;go_wp2_with fail;refine (HC.out _ (H.out.below B)).mono ?_;rintro e w' ⟨rfl,rfl⟩
  go_wp2;refine bodyPost_ret (v:=.tuple #[.agg #[.int .i64 0,.int .i64 0],.agg #[.bool false,.bool false],.int .i64 8]) (by simp [results,Tryz.results12,go_sem,c_g2,f_g2,a_g2,e_g2,c_g3,f_g3,a_g3,e_g3]) rfl ?_;exact ⟨rfl,by exact bdn⟩
 rw [chk_ok hs] at CT;have hn:=hs.1;obtain ⟨v0,sl0,hv0⟩:=h.cut (P:=Tryz.prog) Tryz.underlying22 one_u64 (lo:=0) (hi:=8) (by omega) (by omega) (by omega)
 obtain ⟨v1,sl1,hv1⟩:=h.cut (P:=Tryz.prog) Tryz.underlying22 one_u64 (lo:=8) (hi:=16) (by omega) (by omega) (by omega)
 have hv0':Words w v0 (c0 m):=hv0;have hv1':Words w v1 (c1 m):=hv1;have l1:=Rd.len h Tryz.underlying22;obtain ⟨n,hnn⟩:=exq m.length;rw [←hnn] at l1;obtain ⟨a0,ha0⟩:=exq (rdW (c0 m))
 obtain ⟨t0,ht0⟩:=exq (rdT (c0 m))
 obtain ⟨e0,he0⟩:=exq (rdErr (c0 m))
 obtain ⟨a1,ha1⟩:=exq (rdW (c1 m))
 obtain ⟨t1,ht1⟩:=exq (rdT (c1 m))
 obtain ⟨e1,he1⟩:=exq (rdErr (c1 m))
 have R0:=hD (Read6_r v0 (c0 m) a0 t0 e0 ha0 ht0 he0)
 have R1:=hD (Read6_r v1 (c1 m) a1 t1 e1 ha1 ht1 he1)
 have K0:(e0=0∧(a0==(n:Int))=b0)∨((e0==0)=false∧b0=false):=by rw [he0,ha0,hnn];exact copy_cases (c0_len hs) b0 (by rw [h0,is0_good hs])
 have K1:(e1=0∧(a1==(n:Int))=b1)∨((e1==0)=false∧b1=false):=by rw [he1,ha1,hnn];exact copy_cases (c1_len hs) b1 (by rw [h1,is1_good hs])
 -- what comes out
 have F0:b0=true→W=a0∧T=t0∧r=0:=by
  intro h;have hi:is0 m=true:=by rw [←h0];exact h
  have hr0:=rErr_mk hs (.inl hi)
  have hg:CopyOk m.length (c0 m):=(of_decide_eq_true hi).2;have ho:one m=c0 m:=if_pos hi;exact ⟨by rw [hW,sW,if_pos hr0,ha0,(rd_ok3 hg.1).1,hg.2],by rw [hT,sT,if_pos hr0,ht0,(rd_ok3 hg.1).2,ho],by rw [hr,hr0]⟩
 have F1:b0=false→b1=true→W=a1∧T=t1∧r=0:=by
  intro h h';have hi:is1 m=true:=by rw [←h1];exact h'
  have hi0:is0 m=false:=by rw [←h0];exact h
  have hr0:=rErr_mk hs (.inr hi)
  have hg:CopyOk m.length (c1 m):=(of_decide_eq_true hi).2;have ho:one m=c1 m:=if_neg (by simp [hi0])
  exact ⟨by rw [hW,sW,if_pos hr0,ha1,(rd_ok3 hg.1).1,hg.2],by rw [hT,sT,if_pos hr0,ht1,(rd_ok3 hg.1).2,ho],by rw [hr,hr0]⟩
 have F2:b0=false→b1=false→W=0∧T=0∧r=50:=by
  intro h h';have hr0:=rErr_50 hs (by rw [←h0];exact h) (by rw [←h1];exact h')
  exact ⟨by rw [hW,sW,if_neg (by rw [hr0];omega)],by rw [hT,sT,if_neg (by rw [hr0];omega)],by rw [hr,hr0]⟩
 have FF:=hD (And.intro F0 (And.intro F1 F2))
 have KK:=hD (And.intro K0 K1)
 have HC:=hD CT;have H:=hD h;have HV0:=hD hv0';have HV1:=hD hv1';clear CT h hs hW hT h0 h1 hr hv0 hv1 hv0' hv1' ha0 ht0 he0 ha1 ht1 he1 F0 F1 F2 K0 K1 hn hnn;go_in;go_upto_region 1 with (fail)
 refine wpb11 (51) (#[.int .i64 0,.int .i64 0]) (52) (#[.bool false,.bool false]) ?_;rintro wa1 ⟨g2,g3,b⟩
 replace B:=B.trans (b.mono B.size);clear b;obtain ⟨c_g2,f_g2,a_g2,d_g2,e_g2⟩:=g2.five;obtain ⟨c_g3,f_g3,a_g3,d_g3,e_g3⟩:=g3.five;go_wp2_with fail;refine (HC.out _ (H.out.below B)).mono ?_;rintro e w' ⟨rfl,rfl⟩
 have hz1:=B.size;have d2:=g2.lt;have d3:=g3.lt;go_upto_region 6 with (fail)
 refine wpb11 (115) (fnd a0 t0 a1 t1 0) (52) (rgt b0 b1 0) ?_;rintro wa2 ⟨g6,g7,b⟩
 try clear c_g2 f_g2 a_g2 d_g2 e_g2
 replace g2:=g2.below b;obtain ⟨c_g2,f_g2,a_g2,d_g2,e_g2⟩:=g2.five;try clear c_g3 f_g3 a_g3 d_g3 e_g3
 replace g3:=g3.below b;obtain ⟨c_g3,f_g3,a_g3,d_g3,e_g3⟩:=g3.five;replace B:=B.trans (b.mono B.size);clear b;obtain ⟨c_g6,f_g6,a_g6,d_g6,e_g6⟩:=g6.five;obtain ⟨c_g7,f_g7,a_g7,d_g7,e_g7⟩:=g7.five;obtain ⟨p2,hp2⟩:=exq w.heap.size;obtain ⟨p6,hp6⟩:=exq wa1.heap.size;obtain ⟨p3,hp3⟩:=exq (p2+1)
 obtain ⟨p7,hp7⟩:=exq (p6+1)
 have hB6:w.heap.size≤p6:=by omega
 have hB7:w.heap.size≤p7:=by omega
 have hB2:w.heap.size≤p2:=by omega
 have hB3:w.heap.size≤p3:=by omega
 have q1:p2<p6:=by omega
 have q2:p3<p6:=by omega
 have q3:p2≠p3:=by omega
 rw [←hp2] at g2 g3 ⊢;rw [←hp3] at g3 ⊢;rw [←hp6] at g6 g7 ⊢;rw [←hp7] at g7 ⊢;have q4:p6<p7:=by omega
 clear hp2 hp3 hp6 d2 d3 hz1;clear hp7;clear c_g2 f_g2 a_g2 d_g2 e_g2 c_g3 f_g3 a_g3 d_g3 e_g3 c_g6 f_g6 a_g6 d_g6 e_g6 c_g7 f_g7 a_g7 d_g7 e_g7;have c_g2:=0;have f_g2:=0;have a_g2:=0;have d_g2:=0;have e_g2:=0;have c_g3:=0;have f_g3:=0;have a_g3:=0;have d_g3:=0;have e_g3:=0;have c_g6:=0;have f_g6:=0;have a_g6:=0;have d_g6:=0;have e_g6:=0;have c_g7:=0;have f_g7:=0;have a_g7:=0;have d_g7:=0;have e_g7:=0;go_wp2_with fail;refine (starts_any _).mono ?_;rintro e wa3 ⟨rfl,b⟩
 try clear c_g2 f_g2 a_g2 d_g2 e_g2
 replace g2:=g2.below b;obtain ⟨c_g2,f_g2,a_g2,d_g2,e_g2⟩:=g2.five;try clear c_g3 f_g3 a_g3 d_g3 e_g3
 replace g3:=g3.below b;obtain ⟨c_g3,f_g3,a_g3,d_g3,e_g3⟩:=g3.five;try clear c_g6 f_g6 a_g6 d_g6 e_g6
 replace g6:=g6.below b;obtain ⟨c_g6,f_g6,a_g6,d_g6,e_g6⟩:=g6.five;try clear c_g7 f_g7 a_g7 d_g7 e_g7
 replace g7:=g7.below b;obtain ⟨c_g7,f_g7,a_g7,d_g7,e_g7⟩:=g7.five;replace B:=B.trans (b.mono B.size);clear b;have HH:=hD (And.intro g2 (And.intro g3 (And.intro g6 (And.intro g7 B))))
 clear c_g2 f_g2 a_g2 d_g2 e_g2 c_g3 f_g3 a_g3 d_g3 e_g3 c_g6 f_g6 a_g6 d_g6 e_g6 c_g7 f_g7 a_g7 d_g7 e_g7 g2 g3 g6 g7 B;have hE6:p6<wa3.heap.size:=HH.out.2.2.1.lt;clear hE6;go_wp2
 go_loopg [20] 2 (fun g i wr=>∃k:Nat,k≤2∧g=2-k∧i=.int .i64 k∧Hid (Bx wr p2 51 #[.int .i64 0,.int .i64 0]∧Bx wr p3 52 #[.bool false,.bool false]∧Bx wr p6 115 (fnd a0 t0 a1 t1 k)∧Bx wr p7 52 (rgt b0 b1 k)∧Below w.heap.size w wr))
 case atStart=>exact ⟨0,by omega,by omega,rfl,HH⟩
 case round=>
  clear HH;obtain ⟨k,hk,rfl,rfl,hh⟩:=hrel;have ix0:=fun W=>(index_two 0 8 W).1;have ix1:=fun W=>(index_two 0 8 W).2;have hk3:k=0∨k=1∨k=2:=by omega
  clear hk;rcases hk3 with rfl | rfl | rfl
  ·obtain ⟨G2,G3,G6,G7,B⟩:=hh.out;go_wp2_with fail;refine (R0.out _ (HV0.out.below B)).mono ?_;rintro e wx ⟨rfl,b⟩
   have g2:=G2.below b;have g3:=G3.below b;have g6:=G6.below b;have g7:=G7.below b;replace B:=B.trans (b.mono B.size)
   clear b G2 G3 G6 G7 hh;go_upto_region 10 with (fail)
   refine wp_gen (fun V=>Bx V wx.heap.size 51 #[.int .i64 a0,.int .i64 t0]∧Below wx.heap.size wx V) ⟨Bx.at_ (by simp),(Below.refl _ _).alloc (Nat.le_refl _) _⟩ ?_;rintro wy ⟨g10,b⟩
   have d2:=g2.lt;have d3:=g3.lt;have d6:=g6.lt;have d7:=g7.lt;replace g2:=g2.below b;replace g3:=g3.below b;replace g6:=g6.below b;replace g7:=g7.below b;replace B:=B.trans (b.mono B.size)
   clear b;obtain ⟨p10,hp10⟩:=exq wx.heap.size;rw [←hp10] at g10 d2 d3 d6 d7 ⊢;clear hp10;obtain ⟨L,hL⟩:=exq ([Bk.mk p6 115 13 (fnd a0 t0 a1 t1 0) (fnd a0 t0 a1 t1 1),Bk.mk p7 52 15 (rgt b0 b1 0) (rgt b0 b1 1),Bk.mk p10 51 13 (#[.int .i64 a0,.int .i64 t0]) (#[.int .i64 a0,.int .i64 t0]),Bk.mk p2 51 13 (#[.int .i64 0,.int .i64 0]) (#[.int .i64 0,.int .i64 0]),Bk.mk p3 52 13 (#[.bool false,.bool false]) (#[.bool false,.bool false])])
   have ST:FBx w (w.heap.size) L (fun _=>false) (World.drew wy):=FBx.start B (by subst hL;exact List.forall_mem_cons.2 ⟨g6,List.forall_mem_cons.2 ⟨g7,List.forall_mem_cons.2 ⟨g10,List.forall_mem_cons.2 ⟨g2,List.forall_mem_cons.2 ⟨g3,fun _ h=>by cases h⟩⟩⟩⟩⟩)
   have DP:Dep (FBx w (w.heap.size) L) [13,15]:=FBx.dep (by subst hL;simp)
   have kb2:=fun x:FXN (FBx w (w.heap.size) L)=>FBx.cell (Bk.mk p10 51 13 (#[.int .i64 a0,.int .i64 t0]) (#[.int .i64 a0,.int .i64 t0])) (by subst hL;simp) rfl x;dsimp only at kb2;have kb3:=fun x:FXN (FBx w (w.heap.size) L)=>FBx.cell (Bk.mk p2 51 13 (#[.int .i64 0,.int .i64 0]) (#[.int .i64 0,.int .i64 0])) (by subst hL;simp) rfl x;dsimp only at kb3;have kb4:=fun x:FXN (FBx w (w.heap.size) L)=>FBx.cell (Bk.mk p3 52 13 (#[.bool false,.bool false]) (#[.bool false,.bool false])) (by subst hL;simp) rfl x;dsimp only at kb4;have S1:=FBx.stepRow (P:=Tryz.prog) (w0:=w) (B:=w.heap.size) (L:=L) (k:=13) (Bk.mk p6 115 13 (fnd a0 t0 a1 t1 0) (fnd a0 t0 a1 t1 1)) (by subst hL;simp) hB6 rfl (q:=0) (cells:=#[.int .i64 a0,.int .i64 t0]) (by simp [fnd,rgt]) (by simp [fnd,rgt]) (by simp [putL,fnd,rgt]) (by simp [putL,fnd,rgt]) (by subst hL;exact List.forall_mem_cons.2 ⟨.inl rfl,List.forall_mem_cons.2 ⟨.inr ⟨by show p7≠p6;omega,.inl (by show (15:Nat)≠13;decide)⟩,List.forall_mem_cons.2 ⟨.inr ⟨by show p10≠p6;omega,.inr rfl⟩,List.forall_mem_cons.2 ⟨.inr ⟨by show p2≠p6;omega,.inr rfl⟩,List.forall_mem_cons.2 ⟨.inr ⟨by show p3≠p6;omega,.inr rfl⟩,fun _ h=>by cases h⟩⟩⟩⟩⟩) (ty:=51) (by kernel_rfl) (by simp [Value.oneCell'])
   dsimp only at S1;have HS1:=hD S1;clear S1;have S1:=FBx.step1 (P:=Tryz.prog) (w0:=w) (B:=w.heap.size) (L:=L) (k:=15) (Bk.mk p7 52 15 (rgt b0 b1 0) (rgt b0 b1 1)) (by subst hL;simp) hB7 rfl (q:=0) (u:=.bool b0) (u0:=.bool false) (u1:=.bool b0) rfl rfl (by simp [rgt,fnd]) (by simp [rgt,fnd]) (by subst hL;exact List.forall_mem_cons.2 ⟨.inr ⟨by show p6≠p7;omega,.inl (by show (13:Nat)≠15;decide)⟩,List.forall_mem_cons.2 ⟨.inl rfl,List.forall_mem_cons.2 ⟨.inr ⟨by show p10≠p7;omega,.inr rfl⟩,List.forall_mem_cons.2 ⟨.inr ⟨by show p2≠p7;omega,.inr rfl⟩,List.forall_mem_cons.2 ⟨.inr ⟨by show p3≠p7;omega,.inr rfl⟩,fun _ h=>by cases h⟩⟩⟩⟩⟩) (ty:=4) (fun W u0 h1 h2=>store_bool (by kernel_rfl) W _ u0 _ h1 h2)
   dsimp only at S1;have HS2:=hD S1;clear S1;have HST:=hD ST;clear ST;have HL:=hD hL;clear hL
   haveI:Nonempty (FXN (FBx w (w.heap.size) L)):=⟨⟨_,_,HST.out⟩⟩
   clear kb3 kb4 g2 g3 g6 g7 g10 B d2 d3 d6 d7;rcases KK.out.1 with ⟨rfl,hq⟩ | ⟨hq,rfl⟩
   all_goals
    refine wp_region_N (FBx w (w.heap.size) L) [13,15] DP (by kernel_rfl) (by kernel_rfl) (by kernel_rfl) HST.out ?_;iterate 6 (refine wpN_read DP rfl (by decide) ?_;go_big_quiet_step (fail);refine wpQuiet_nil ?_)
    iterate 3 (first | (refine wpN_skip DP (by decide) rfl ?_;simp only [Act.put,List.setIfInBounds_toArray,List.set_cons_zero,List.set_cons_succ]) | (refine wpN_read DP rfl (by decide) ?_;go_big_quiet_step (fail);refine wpQuiet_nil ?_))
    first | (refine wpN_skip DP (by decide) rfl ?_;simp only [Act.put,List.setIfInBounds_toArray,List.set_cons_zero,List.set_cons_succ]) | (refine wpN_len DP rfl (by decide) rfl (fun W=>l1 _ W) ?_;simp only [Act.put,List.setIfInBounds_toArray,List.set_cons_zero,List.set_cons_succ])
    iterate 1 (first | (refine wpN_skip DP (by decide) rfl ?_;simp only [Act.put,List.setIfInBounds_toArray,List.set_cons_zero,List.set_cons_succ]) | (refine wpN_read DP rfl (by decide) ?_;go_big_quiet_step (fail);refine wpQuiet_nil ?_))
    iterate 2 (refine wpN_read DP rfl (by decide) ?_;go_big_quiet_step (fail);refine wpQuiet_nil ?_)
    refine wpN_store DP 51 (.tmp 45) (.tmp 35) rfl rfl (p:=.pointer (some ⟨p6,0,none⟩)) (u:=.agg #[.int .i64 a0,.int .i64 t0]) (by rfl) (by rfl) HS1.out ?_;simp only [Act.put,List.setIfInBounds_toArray,List.set_cons_zero,List.set_cons_succ]
    iterate 1 (refine wpN_read DP rfl (by decide) ?_;go_big_quiet_step (fail);refine wpQuiet_nil ?_)
    refine wpN_store DP 4 (.tmp 46) (.tmp 44) rfl rfl (p:=.pointer (some ⟨p7,0,none⟩)) (u:=_) (by rfl) (by rfl) HS2.out ?_;simp only [Act.put,List.setIfInBounds_toArray,List.set_cons_zero,List.set_cons_succ]
    intro wz hd;obtain ⟨B,hd⟩:=FBx.done hd;rw [HL.out] at hd;obtain ⟨g6,hd⟩:=List.forall_mem_cons.1 hd;obtain ⟨g7,hd⟩:=List.forall_mem_cons.1 hd;obtain ⟨g10,hd⟩:=List.forall_mem_cons.1 hd;obtain ⟨g2,hd⟩:=List.forall_mem_cons.1 hd;obtain ⟨g3,hd⟩:=List.forall_mem_cons.1 hd;dsimp only at g6 g7 g10 g2 g3;clear hd HST HL DP this;have HH:=hD (And.intro g2 (And.intro g3 (And.intro g6 (And.intro g7 B))))
    clear g2 g3 g6 g7 g10 B HS1 HS2;go_wp2
    go_roundg (2-1)
    case measure=>omega
    case rel=>exact ⟨1,by omega,rfl,by go_num,HH⟩
  ·obtain ⟨G2,G3,G6,G7,B⟩:=hh.out;go_wp2_with fail;refine (R1.out _ (HV1.out.below B)).mono ?_;rintro e wx ⟨rfl,b⟩
   have g2:=G2.below b;have g3:=G3.below b;have g6:=G6.below b;have g7:=G7.below b;replace B:=B.trans (b.mono B.size)
   clear b G2 G3 G6 G7 hh;go_upto_region 10 with (fail)
   refine wp_gen (fun V=>Bx V wx.heap.size 51 #[.int .i64 a1,.int .i64 t1]∧Below wx.heap.size wx V) ⟨Bx.at_ (by simp),(Below.refl _ _).alloc (Nat.le_refl _) _⟩ ?_;rintro wy ⟨g10,b⟩
   have d2:=g2.lt;have d3:=g3.lt;have d6:=g6.lt;have d7:=g7.lt;replace g2:=g2.below b;replace g3:=g3.below b;replace g6:=g6.below b;replace g7:=g7.below b;replace B:=B.trans (b.mono B.size)
   clear b;obtain ⟨p10,hp10⟩:=exq wx.heap.size;rw [←hp10] at g10 d2 d3 d6 d7 ⊢;clear hp10;obtain ⟨L,hL⟩:=exq ([Bk.mk p6 115 13 (fnd a0 t0 a1 t1 1) (fnd a0 t0 a1 t1 2),Bk.mk p7 52 15 (rgt b0 b1 1) (rgt b0 b1 2),Bk.mk p10 51 13 (#[.int .i64 a1,.int .i64 t1]) (#[.int .i64 a1,.int .i64 t1]),Bk.mk p2 51 13 (#[.int .i64 0,.int .i64 0]) (#[.int .i64 0,.int .i64 0]),Bk.mk p3 52 13 (#[.bool false,.bool false]) (#[.bool false,.bool false])])
   have ST:FBx w (w.heap.size) L (fun _=>false) (World.drew wy):=FBx.start B (by subst hL;exact List.forall_mem_cons.2 ⟨g6,List.forall_mem_cons.2 ⟨g7,List.forall_mem_cons.2 ⟨g10,List.forall_mem_cons.2 ⟨g2,List.forall_mem_cons.2 ⟨g3,fun _ h=>by cases h⟩⟩⟩⟩⟩)
   have DP:Dep (FBx w (w.heap.size) L) [13,15]:=FBx.dep (by subst hL;simp)
   have kb2:=fun x:FXN (FBx w (w.heap.size) L)=>FBx.cell (Bk.mk p10 51 13 (#[.int .i64 a1,.int .i64 t1]) (#[.int .i64 a1,.int .i64 t1])) (by subst hL;simp) rfl x;dsimp only at kb2;have kb3:=fun x:FXN (FBx w (w.heap.size) L)=>FBx.cell (Bk.mk p2 51 13 (#[.int .i64 0,.int .i64 0]) (#[.int .i64 0,.int .i64 0])) (by subst hL;simp) rfl x;dsimp only at kb3;have kb4:=fun x:FXN (FBx w (w.heap.size) L)=>FBx.cell (Bk.mk p3 52 13 (#[.bool false,.bool false]) (#[.bool false,.bool false])) (by subst hL;simp) rfl x;dsimp only at kb4;have S1:=FBx.stepRow (P:=Tryz.prog) (w0:=w) (B:=w.heap.size) (L:=L) (k:=13) (Bk.mk p6 115 13 (fnd a0 t0 a1 t1 1) (fnd a0 t0 a1 t1 2)) (by subst hL;simp) hB6 rfl (q:=2) (cells:=#[.int .i64 a1,.int .i64 t1]) (by simp [fnd,rgt]) (by simp [fnd,rgt]) (by simp [putL,fnd,rgt]) (by simp [putL,fnd,rgt]) (by subst hL;exact List.forall_mem_cons.2 ⟨.inl rfl,List.forall_mem_cons.2 ⟨.inr ⟨by show p7≠p6;omega,.inl (by show (15:Nat)≠13;decide)⟩,List.forall_mem_cons.2 ⟨.inr ⟨by show p10≠p6;omega,.inr rfl⟩,List.forall_mem_cons.2 ⟨.inr ⟨by show p2≠p6;omega,.inr rfl⟩,List.forall_mem_cons.2 ⟨.inr ⟨by show p3≠p6;omega,.inr rfl⟩,fun _ h=>by cases h⟩⟩⟩⟩⟩) (ty:=51) (by kernel_rfl) (by simp [Value.oneCell'])
   dsimp only at S1;have HS1:=hD S1;clear S1;have S1:=FBx.step1 (P:=Tryz.prog) (w0:=w) (B:=w.heap.size) (L:=L) (k:=15) (Bk.mk p7 52 15 (rgt b0 b1 1) (rgt b0 b1 2)) (by subst hL;simp) hB7 rfl (q:=1) (u:=.bool b1) (u0:=.bool false) (u1:=.bool b1) rfl rfl (by simp [rgt,fnd]) (by simp [rgt,fnd]) (by subst hL;exact List.forall_mem_cons.2 ⟨.inr ⟨by show p6≠p7;omega,.inl (by show (13:Nat)≠15;decide)⟩,List.forall_mem_cons.2 ⟨.inl rfl,List.forall_mem_cons.2 ⟨.inr ⟨by show p10≠p7;omega,.inr rfl⟩,List.forall_mem_cons.2 ⟨.inr ⟨by show p2≠p7;omega,.inr rfl⟩,List.forall_mem_cons.2 ⟨.inr ⟨by show p3≠p7;omega,.inr rfl⟩,fun _ h=>by cases h⟩⟩⟩⟩⟩) (ty:=4) (fun W u0 h1 h2=>store_bool (by kernel_rfl) W _ u0 _ h1 h2)
   dsimp only at S1;have HS2:=hD S1;clear S1;have HST:=hD ST;clear ST;have HL:=hD hL;clear hL
   haveI:Nonempty (FXN (FBx w (w.heap.size) L)):=⟨⟨_,_,HST.out⟩⟩
   clear kb3 kb4 g2 g3 g6 g7 g10 B d2 d3 d6 d7;rcases KK.out.2 with ⟨rfl,hq⟩ | ⟨hq,rfl⟩
   all_goals
    refine wp_region_N (FBx w (w.heap.size) L) [13,15] DP (by kernel_rfl) (by kernel_rfl) (by kernel_rfl) HST.out ?_;iterate 6 (refine wpN_read DP rfl (by decide) ?_;go_big_quiet_step (fail);refine wpQuiet_nil ?_)
    iterate 3 (first | (refine wpN_skip DP (by decide) rfl ?_;simp only [Act.put,List.setIfInBounds_toArray,List.set_cons_zero,List.set_cons_succ]) | (refine wpN_read DP rfl (by decide) ?_;go_big_quiet_step (fail);refine wpQuiet_nil ?_))
    first | (refine wpN_skip DP (by decide) rfl ?_;simp only [Act.put,List.setIfInBounds_toArray,List.set_cons_zero,List.set_cons_succ]) | (refine wpN_len DP rfl (by decide) rfl (fun W=>l1 _ W) ?_;simp only [Act.put,List.setIfInBounds_toArray,List.set_cons_zero,List.set_cons_succ])
    iterate 1 (first | (refine wpN_skip DP (by decide) rfl ?_;simp only [Act.put,List.setIfInBounds_toArray,List.set_cons_zero,List.set_cons_succ]) | (refine wpN_read DP rfl (by decide) ?_;go_big_quiet_step (fail);refine wpQuiet_nil ?_))
    iterate 2 (refine wpN_read DP rfl (by decide) ?_;go_big_quiet_step (fail);refine wpQuiet_nil ?_)
    refine wpN_store DP 51 (.tmp 45) (.tmp 35) rfl rfl (p:=.pointer (some ⟨p6,2,none⟩)) (u:=.agg #[.int .i64 a1,.int .i64 t1]) (by rfl) (by rfl) HS1.out ?_;simp only [Act.put,List.setIfInBounds_toArray,List.set_cons_zero,List.set_cons_succ]
    iterate 1 (refine wpN_read DP rfl (by decide) ?_;go_big_quiet_step (fail);refine wpQuiet_nil ?_)
    refine wpN_store DP 4 (.tmp 46) (.tmp 44) rfl rfl (p:=.pointer (some ⟨p7,1,none⟩)) (u:=_) (by rfl) (by rfl) HS2.out ?_;simp only [Act.put,List.setIfInBounds_toArray,List.set_cons_zero,List.set_cons_succ]
    intro wz hd;obtain ⟨B,hd⟩:=FBx.done hd;rw [HL.out] at hd;obtain ⟨g6,hd⟩:=List.forall_mem_cons.1 hd;obtain ⟨g7,hd⟩:=List.forall_mem_cons.1 hd;obtain ⟨g10,hd⟩:=List.forall_mem_cons.1 hd;obtain ⟨g2,hd⟩:=List.forall_mem_cons.1 hd;obtain ⟨g3,hd⟩:=List.forall_mem_cons.1 hd;dsimp only at g6 g7 g10 g2 g3;clear hd HST HL DP this;have HH:=hD (And.intro g2 (And.intro g3 (And.intro g6 (And.intro g7 B))))
    clear g2 g3 g6 g7 g10 B HS1 HS2;go_wp2
    go_roundg (2-2)
    case measure=>omega
    case rel=>exact ⟨2,by omega,rfl,by go_num,HH⟩
  ·obtain ⟨G2,G3,G6,G7,B⟩:=hh.out;have g2:=G2;have g3:=G3;have g6:=G6;have g7:=G7;have d2:=g2.lt;have d3:=g3.lt;have d6:=g6.lt;have d7:=g7.lt;clear G2 G3 G6 G7 hh ix0 ix1 R0 R1 HV0 HV1 sl0 sl1;cases b0
   ·cases b1
    ·obtain ⟨rfl,rfl,rfl⟩:=FF.out.2.2 rfl rfl;have c7:wr.cell? ⟨p7,0,none⟩=some (.bool false):=g7.cell 0;have c7b:wr.cell? ⟨p7,1,none⟩=some (.bool false):=g7.cell 1;have c2:=g2.cell;have f2:=g2.free;have c3:=g3.cell;have f3:=g3.free;go_wp2;refine bodyPost_ret (v:=.tuple #[.agg #[.int .i64 0,.int .i64 0],.agg #[.bool false,.bool false],.int .i64 50]) (by simp [results,Tryz.results12,go_sem,c2,c3,f2,f3]) rfl ⟨rfl,?_⟩
     (repeat (first | refine Below.setCell ?_ (by first | exact hB2 | exact hB3 | (simp <;> omega)) _));exact B
    ·obtain ⟨rfl,rfl,rfl⟩:=FF.out.2.1 rfl rfl;have c7:wr.cell? ⟨p7,0,none⟩=some (.bool false):=g7.cell 0;have c7b:wr.cell? ⟨p7,1,none⟩=some (.bool true):=g7.cell 1;go_upto_region 15 with (fail)
     clear c7 c7b;obtain ⟨L,hL⟩:=exq ([Bk.mk p2 51 3 (#[.int .i64 0,.int .i64 0]) (#[.int .i64 W,.int .i64 T]),Bk.mk p3 52 4 (#[.bool false,.bool false]) (#[.bool false,.bool true]),Bk.mk p6 115 3 (#[.int .i64 a0,.int .i64 t0,.int .i64 W,.int .i64 T]) (#[.int .i64 a0,.int .i64 t0,.int .i64 W,.int .i64 T]),Bk.mk p7 52 3 (#[.bool false,.bool true]) (#[.bool false,.bool true])])
     have ST:FBx w (w.heap.size) L (fun _=>false) (World.drew wr):=FBx.start B (by subst hL;exact List.forall_mem_cons.2 ⟨g2,List.forall_mem_cons.2 ⟨g3,List.forall_mem_cons.2 ⟨g6,List.forall_mem_cons.2 ⟨g7,fun _ h=>by cases h⟩⟩⟩⟩)
     have DP:Dep (FBx w (w.heap.size) L) [3,4]:=FBx.dep (by subst hL;simp)
     have kb2:=fun x:FXN (FBx w (w.heap.size) L)=>FBx.cell (Bk.mk p6 115 3 (#[.int .i64 a0,.int .i64 t0,.int .i64 W,.int .i64 T]) (#[.int .i64 a0,.int .i64 t0,.int .i64 W,.int .i64 T])) (by subst hL;simp) rfl x;dsimp only at kb2;have kb3:=fun x:FXN (FBx w (w.heap.size) L)=>FBx.cell (Bk.mk p7 52 3 (#[.bool false,.bool true]) (#[.bool false,.bool true])) (by subst hL;simp) rfl x;dsimp only at kb3;have S1:=FBx.stepRow (P:=Tryz.prog) (w0:=w) (B:=w.heap.size) (L:=L) (k:=3) (Bk.mk p2 51 3 (#[.int .i64 0,.int .i64 0]) (#[.int .i64 W,.int .i64 T])) (by subst hL;simp) hB2 rfl (q:=0) (cells:=#[.int .i64 W,.int .i64 T]) (by simp [fnd,rgt]) (by simp [fnd,rgt]) (by simp [putL,fnd,rgt]) (by simp [putL,fnd,rgt]) (by subst hL;exact List.forall_mem_cons.2 ⟨.inl rfl,List.forall_mem_cons.2 ⟨.inr ⟨by show p3≠p2;omega,.inl (by show (4:Nat)≠3;decide)⟩,List.forall_mem_cons.2 ⟨.inr ⟨by show p6≠p2;omega,.inr rfl⟩,List.forall_mem_cons.2 ⟨.inr ⟨by show p7≠p2;omega,.inr rfl⟩,fun _ h=>by cases h⟩⟩⟩⟩) (ty:=51) (by kernel_rfl) (by simp [Value.oneCell'])
     dsimp only at S1;have HS1:=hD S1;clear S1;have S1:=FBx.stepRow (P:=Tryz.prog) (w0:=w) (B:=w.heap.size) (L:=L) (k:=4) (Bk.mk p3 52 4 (#[.bool false,.bool false]) (#[.bool false,.bool true])) (by subst hL;simp) hB3 rfl (q:=0) (cells:=#[.bool false,.bool true]) (by simp [fnd,rgt]) (by simp [fnd,rgt]) (by simp [putL,fnd,rgt]) (by simp [putL,fnd,rgt]) (by subst hL;exact List.forall_mem_cons.2 ⟨.inr ⟨by show p2≠p3;omega,.inl (by show (3:Nat)≠4;decide)⟩,List.forall_mem_cons.2 ⟨.inl rfl,List.forall_mem_cons.2 ⟨.inr ⟨by show p6≠p3;omega,.inr rfl⟩,List.forall_mem_cons.2 ⟨.inr ⟨by show p7≠p3;omega,.inr rfl⟩,fun _ h=>by cases h⟩⟩⟩⟩) (ty:=52) (by kernel_rfl) (by simp [Value.oneCell'])
     dsimp only at S1;have HS2:=hD S1;clear S1;have HST:=hD ST;clear ST;have HL:=hD hL;clear hL
     haveI:Nonempty (FXN (FBx w (w.heap.size) L)):=⟨⟨_,_,HST.out⟩⟩
     clear g2 g3 g6 g7 B d2 d3 d6 d7;refine wp_region_N (FBx w (w.heap.size) L) [3,4] DP (by kernel_rfl) (by kernel_rfl) (by kernel_rfl) HST.out ?_;iterate 3 (refine wpN_read DP rfl (by decide) ?_;go_big_quiet_step (fail);refine wpQuiet_nil ?_)
     refine wpN_store DP 51 (.tmp 2) (.tmp 58) rfl rfl (p:=.pointer (some ⟨p2,0,none⟩)) (u:=_) (by rfl) (by rfl) HS1.out ?_;simp only [Act.put,List.setIfInBounds_toArray,List.set_cons_zero,List.set_cons_succ]
     refine wpN_store DP 52 (.tmp 3) (.tmp 59) rfl rfl (p:=.pointer (some ⟨p3,0,none⟩)) (u:=_) (by rfl) (by rfl) HS2.out ?_;simp only [Act.put,List.setIfInBounds_toArray,List.set_cons_zero,List.set_cons_succ]
     iterate 1 (refine wpN_read DP rfl (by decide) ?_;go_big_quiet_step (fail);refine wpQuiet_nil ?_)
     intro wz hd;obtain ⟨B,hd⟩:=FBx.done hd;rw [HL.out] at hd;obtain ⟨g2,hd⟩:=List.forall_mem_cons.1 hd;obtain ⟨g3,hd⟩:=List.forall_mem_cons.1 hd;obtain ⟨g6,hd⟩:=List.forall_mem_cons.1 hd;obtain ⟨g7,hd⟩:=List.forall_mem_cons.1 hd;dsimp only at g2 g3 g6 g7;clear hd HST HL DP this;have c2:=g2.cell;have f2:=g2.free;have c3:=g3.cell;have f3:=g3.free;go_wp2;refine bodyPost_ret (v:=.tuple #[.agg #[.int .i64 W,.int .i64 T],.agg #[.bool false,.bool true],.int .i64 0]) (by simp [results,Tryz.results12,go_sem,c2,c3,f2,f3]) rfl ⟨rfl,B⟩
   ·obtain ⟨rfl,rfl,rfl⟩:=FF.out.1 rfl;have c7:wr.cell? ⟨p7,0,none⟩=some (.bool true):=g7.cell 0;go_upto_region 13 with (fail)
    clear c7;obtain ⟨L,hL⟩:=exq ([Bk.mk p2 51 3 (#[.int .i64 0,.int .i64 0]) (#[.int .i64 W,.int .i64 T]),Bk.mk p3 52 4 (#[.bool false,.bool false]) (#[.bool true,.bool b1]),Bk.mk p6 115 3 (#[.int .i64 W,.int .i64 T,.int .i64 a1,.int .i64 t1]) (#[.int .i64 W,.int .i64 T,.int .i64 a1,.int .i64 t1]),Bk.mk p7 52 3 (#[.bool true,.bool b1]) (#[.bool true,.bool b1])])
    have ST:FBx w (w.heap.size) L (fun _=>false) (World.drew wr):=FBx.start B (by subst hL;exact List.forall_mem_cons.2 ⟨g2,List.forall_mem_cons.2 ⟨g3,List.forall_mem_cons.2 ⟨g6,List.forall_mem_cons.2 ⟨g7,fun _ h=>by cases h⟩⟩⟩⟩)
    have DP:Dep (FBx w (w.heap.size) L) [3,4]:=FBx.dep (by subst hL;simp)
    have kb2:=fun x:FXN (FBx w (w.heap.size) L)=>FBx.cell (Bk.mk p6 115 3 (#[.int .i64 W,.int .i64 T,.int .i64 a1,.int .i64 t1]) (#[.int .i64 W,.int .i64 T,.int .i64 a1,.int .i64 t1])) (by subst hL;simp) rfl x;dsimp only at kb2;have kb3:=fun x:FXN (FBx w (w.heap.size) L)=>FBx.cell (Bk.mk p7 52 3 (#[.bool true,.bool b1]) (#[.bool true,.bool b1])) (by subst hL;simp) rfl x;dsimp only at kb3;have S1:=FBx.stepRow (P:=Tryz.prog) (w0:=w) (B:=w.heap.size) (L:=L) (k:=3) (Bk.mk p2 51 3 (#[.int .i64 0,.int .i64 0]) (#[.int .i64 W,.int .i64 T])) (by subst hL;simp) hB2 rfl (q:=0) (cells:=#[.int .i64 W,.int .i64 T]) (by simp [fnd,rgt]) (by simp [fnd,rgt]) (by simp [putL,fnd,rgt]) (by simp [putL,fnd,rgt]) (by subst hL;exact List.forall_mem_cons.2 ⟨.inl rfl,List.forall_mem_cons.2 ⟨.inr ⟨by show p3≠p2;omega,.inl (by show (4:Nat)≠3;decide)⟩,List.forall_mem_cons.2 ⟨.inr ⟨by show p6≠p2;omega,.inr rfl⟩,List.forall_mem_cons.2 ⟨.inr ⟨by show p7≠p2;omega,.inr rfl⟩,fun _ h=>by cases h⟩⟩⟩⟩) (ty:=51) (by kernel_rfl) (by simp [Value.oneCell'])
    dsimp only at S1;have HS1:=hD S1;clear S1;have S1:=FBx.stepRow (P:=Tryz.prog) (w0:=w) (B:=w.heap.size) (L:=L) (k:=4) (Bk.mk p3 52 4 (#[.bool false,.bool false]) (#[.bool true,.bool b1])) (by subst hL;simp) hB3 rfl (q:=0) (cells:=#[.bool true,.bool b1]) (by simp [fnd,rgt]) (by simp [fnd,rgt]) (by simp [putL,fnd,rgt]) (by simp [putL,fnd,rgt]) (by subst hL;exact List.forall_mem_cons.2 ⟨.inr ⟨by show p2≠p3;omega,.inl (by show (3:Nat)≠4;decide)⟩,List.forall_mem_cons.2 ⟨.inl rfl,List.forall_mem_cons.2 ⟨.inr ⟨by show p6≠p3;omega,.inr rfl⟩,List.forall_mem_cons.2 ⟨.inr ⟨by show p7≠p3;omega,.inr rfl⟩,fun _ h=>by cases h⟩⟩⟩⟩) (ty:=52) (by kernel_rfl) (by simp [Value.oneCell'])
    dsimp only at S1;have HS2:=hD S1;clear S1;have HST:=hD ST;clear ST;have HL:=hD hL;clear hL
    haveI:Nonempty (FXN (FBx w (w.heap.size) L)):=⟨⟨_,_,HST.out⟩⟩
    clear g2 g3 g6 g7 B d2 d3 d6 d7;refine wp_region_N (FBx w (w.heap.size) L) [3,4] DP (by kernel_rfl) (by kernel_rfl) (by kernel_rfl) HST.out ?_;iterate 3 (refine wpN_read DP rfl (by decide) ?_;go_big_quiet_step (fail);refine wpQuiet_nil ?_)
    refine wpN_store DP 51 (.tmp 2) (.tmp 52) rfl rfl (p:=.pointer (some ⟨p2,0,none⟩)) (u:=_) (by rfl) (by rfl) HS1.out ?_;simp only [Act.put,List.setIfInBounds_toArray,List.set_cons_zero,List.set_cons_succ]
    refine wpN_store DP 52 (.tmp 3) (.tmp 53) rfl rfl (p:=.pointer (some ⟨p3,0,none⟩)) (u:=_) (by rfl) (by rfl) HS2.out ?_;simp only [Act.put,List.setIfInBounds_toArray,List.set_cons_zero,List.set_cons_succ]
    iterate 1 (refine wpN_read DP rfl (by decide) ?_;go_big_quiet_step (fail);refine wpQuiet_nil ?_)
    intro wz hd;obtain ⟨B,hd⟩:=FBx.done hd;rw [HL.out] at hd;obtain ⟨g2,hd⟩:=List.forall_mem_cons.1 hd;obtain ⟨g3,hd⟩:=List.forall_mem_cons.1 hd;obtain ⟨g6,hd⟩:=List.forall_mem_cons.1 hd;obtain ⟨g7,hd⟩:=List.forall_mem_cons.1 hd;dsimp only at g2 g3 g6 g7;clear hd HST HL DP this;have c2:=g2.cell;have f2:=g2.free;have c3:=g3.cell;have f3:=g3.free;go_wp2;refine bodyPost_ret (v:=.tuple #[.agg #[.int .i64 W,.int .i64 T],.agg #[.bool true,.bool b1],.int .i64 0]) (by simp [results,Tryz.results12,go_sem,c2,c3,f2,f3]) rfl ⟨rfl,B⟩
end
end Go.Proofs.YteejianjjpdimaaGreat
namespace Go.Proofs.YteejianjjpdimaaGreat.L19
open L02 L07 L13 L14 L15 L18 L20
def idx:List Hb→Int→Option Nat
 | [],_=>none
 | b :: O,a=>if b.at_=a then some 0 else (idx O a).map (·+1)
def refV (O:List Hb) (v:UInt64):UInt64:=match idx O v.toNat with | some i=>UInt64.ofNat (i+1) | none=>0
def fldV (O:List Hb) (k:UInt8) (v:UInt64):UInt64:=if k.toNat=3 then refV O v else v
def obFs (l:List UInt64) (T:List (List UInt8)) (O:List Hb) (b:Hb):List UInt64:=(List.range (kindsB T b).length).map fun i=>fldV O ((kindsB T b).getD i 0) (fw l b i)
def obOf (l:List UInt64) (T:List (List UInt8)) (O:List Hb) (b:Hb):Ob:=⟨b.ty,obFs l T O b⟩
def slOf (O:List Hb) (s:Sl):Sl:=if s.used=true then ⟨s.gen,true,match idx O s.at_ with | some i=>(i:Int) | none=>-1⟩ else s
def seen (l:List UInt64):Mo:=⟨T19 l,(O19 l).map (obOf l (T19 l) (O19 l)),(slots l).map (slOf (O19 l))⟩
def ofM (l:List UInt64):Mo:=if chk19 l=0 then seen l else .nil
theorem idx_some:∀{O:List Hb} {a:Int} {i:Nat},idx O a=some i→∃b,O[i]?=some b∧b.at_=a
 | [],a,i,h=>by cases h
 | b :: O,a,i,h=>by
  rw [idx] at h;by_cases hb:b.at_=a
  ·rw [if_pos hb] at h;injection h with h;subst h;exact ⟨b,rfl,hb⟩
  ·rw [if_neg hb] at h;cases h2:idx O a with
   | none=>rw [h2] at h;cases h
   | some j=>
    rw [h2] at h;injection h with h
    obtain ⟨c,h3,h4⟩:=idx_some h2;subst h;exact ⟨c,h3,h4⟩
theorem idx_none:∀{O:List Hb} {a:Int},idx O a=none↔¬IsObj O a
 | [],a=>⟨fun _ ⟨b,hb,_⟩=>(by cases hb),fun _=>rfl⟩
 | b :: O,a=>by
  rw [idx]
  by_cases hb:b.at_=a
  ·rw [if_pos hb]
   exact ⟨fun h=>(by cases h),fun h=>absurd ⟨b,List.mem_cons_self,hb⟩ h⟩
  ·rw [if_neg hb,Option.map_eq_none_iff,idx_none]
   constructor
   ·rintro h ⟨c,hc,e⟩
    rcases List.mem_cons.1 hc with rfl | hc
    ·exact hb e
    ·exact h ⟨c,hc,e⟩
   ·rintro h ⟨c,hc,e⟩;exact h ⟨c,List.mem_cons_of_mem _ hc,e⟩
theorem idx_of {O:List Hb} {a:Int} (h:IsObj O a):∃i b,idx O a=some i∧O[i]?=some b∧b.at_=a∧i<O.length:=by
 cases h2:idx O a with
 | none=>exact absurd h (idx_none.1 h2)
 | some i=>
  obtain ⟨b,h3,h4⟩:=idx_some h2;exact ⟨i,b,rfl,h3,h4,(List.getElem?_eq_some_iff.1 h3).1⟩
theorem obFs_len (l:List UInt64) (T:List (List UInt8)) (O:List Hb) (b:Hb):(obFs l T O b).length=(kindsB T b).length:=by simp [obFs]
theorem obFs_get {l:List UInt64} {T:List (List UInt8)} {O:List Hb} {b:Hb} {i:Nat} (h:i<(kindsB T b).length):(obFs l T O b)[i]?=some (fldV O ((kindsB T b).getD i 0) (fw l b i)):=by
 simp [obFs,List.getElem?_map,List.getElem?_range h]
theorem all_len {l:List UInt64} (h:allErr l=0):(allL l).length≤960:=by
 obtain ⟨hs,hp⟩:=allErr_ok h
 have:=chain_len (chain_iff.1 (parsed_ok.1 hp).1)
 have:=hs.2.1;omega
theorem objs_len {l:List UInt64} (h:allErr l=0):(O19 l).length≤960:=Nat.le_trans (List.length_filter_le _ _) (all_len h)
theorem objs_inj {l:List UInt64} (h:allErr l=0) {a b:Hb} (ha:a∈O19 l) (hb:b∈O19 l) (e:a.at_=b.at_):a=b:=by
 obtain ⟨_,_,_,h1,_,_,_,_,h2,_⟩:=objs_at h ha;obtain ⟨_,_,_,h3,_,_,_,_,h4,_⟩:=objs_at h hb;rcases all_apart h (objs_mem.1 ha).1 (objs_mem.1 hb).1 with h5 | h5 | h5
 ·exact h5
 ·omega
 ·omega
theorem T19_ok {l:List UInt64} (h:tabErr l (sT l)=0):(T19 l).length≤8∧∀t∈T19 l,kErr t=0:=by
 have h0:=h;unfold tabErr at h;split at h
 ·split at h
  ·rename_i h1 h2;split at h
   ·rename_i h3;have e:T19 l=tysTo l (sT l).toNat:=by unfold T19 tabT;rw [if_pos h0]
    refine ⟨by rw [e,tysTo_len];omega,fun t ht=>?_⟩
    rw [e] at ht;obtain ⟨i,hi,rfl⟩:=List.mem_map.1 ht;have hi':=List.mem_range.1 hi
    have:=h3 i (by omega)
    unfold TyOk at this;rw [if_pos hi'] at this;rw [rdL,if_pos this]
    exact this.2.1
   ·omega
  ·omega
 ·omega
theorem refV_lt {O:List Hb} {v:UInt64} (h:O.length≤960):(refV O v).toNat≤O.length:=by
 unfold refV;cases h2:idx O v.toNat with
 | none=>simp
 | some i=>
  obtain ⟨b,h3,_⟩:=idx_some h2
  have:=(List.getElem?_eq_some_iff.1 h3).1;show (UInt64.ofNat (i+1)).toNat≤_;rw [UInt64.toNat_ofNat',Nat.mod_eq_of_lt (by omega)];omega
theorem seen_slot {l:List UInt64} (h:Rt l) {s:Sl} (hs:s∈slots l):Right s:=by
 have hr:=allR_of h.sl;obtain ⟨x,hx,rfl⟩:=List.mem_map.1 hs;exact hr x hx
theorem seen_chk {l:List UInt64} (h:Rt l):L20.chk (seen l)=0:=by
 have hT:=T19_ok h.ty;have hO:=objs_len h.al;refine chk_zero (by show ¬(8<(T19 l).length∨960<((O19 l).map _).length);rw [List.length_map];omega) ⟨by show ((slots l).map _).length=16;rw [List.length_map];exact slots_len' h.sl,hT.2,fun o ho=>?_,fun s hs=>?_⟩
 ·obtain ⟨b,hb,rfl⟩:=List.mem_map.1 ho;obtain ⟨a,h1,h2,h3,h4,h5,h6,h7,h8,_⟩:=objs_at h.al hb;have hok:BkOk b:=by rw [h6];exact stand_ok h5
  have hty:=(h.good 8 (by omega) (by omega) b hb).1;refine ⟨⟨hok.bounds.2.2.2.2.1,hty⟩,obFs_len _ _ _ _,fun i hi=>?_⟩
  have hi':i<(kindsB (T19 l) b).length:=by
   have:i<(obFs l (T19 l) (O19 l) b).length:=hi;rw [obFs_len] at this;exact this
  show FdOk ((O19 l).map _).length ((kindsB (T19 l) b).getD i 0) ((obFs l (T19 l) (O19 l) b).getD i 0)
  rw [List.getD_eq_getElem?_getD (l:=obFs _ _ _ _),obFs_get hi',List.length_map]
  show FdOk _ _ (fldV _ _ _)
  refine ⟨fun h2=>?_,fun h3=>?_⟩
  ·rw [fldV,if_neg (by omega)]
   exact h.good 10 (by omega) (by omega) b hb i hi' h2
  ·rw [fldV,if_pos h3];exact refV_lt hO
 ·obtain ⟨s',hs',rfl⟩:=List.mem_map.1 hs;have hr:=seen_slot h hs';obtain ⟨r1,r2,r3,r4⟩:=hr;show SlOk ((O19 l).map _).length (slOf _ _)
  rw [List.length_map]
  unfold slOf;by_cases hu:s'.used=true
  ·rw [if_pos hu]
   obtain ⟨i,b,e1,_,_,e2⟩:=idx_of (h.slots s' hs' hu)
   rw [e1]
   exact ⟨⟨r1,r2⟩,fun e=>(by cases e),fun _=>⟨(r4 hu).1,by dsimp only;omega,by dsimp only;omega⟩⟩
  ·rw [if_neg hu]
   have hf:s'.used=false:=by simpa using hu
   exact ⟨⟨r1,r2⟩,fun _=>r3 hf,fun e=>absurd e hu⟩
theorem idx_inj {O:List Hb} {a c:Int} {i:Nat} (h1:idx O a=some i) (h2:idx O c=some i):a=c:=by
 obtain ⟨b,h3,h4⟩:=idx_some h1;obtain ⟨b',h5,h6⟩:=idx_some h2;rw [h3] at h5;injection h5 with h5;subst h5;rw [←h4,h6]
end Go.Proofs.YteejianjjpdimaaGreat.L19
namespace Go.Proofs.YteejianjjpdimaaGreat
section
open Go Go.RowKit
section
variable {P:Program} {ops:Array Oper} {rest:List Oper} {o:Oper} {a:Act} {Q:Exit→Act→World→Prop} {w:World}
theorem run_append_own2 (base:Nat) (t ty e:TypeId) (i:TypeInfo) (z:Value) (size bytes:Nat) (ht:P.underlying t=some (.slice e)) (hi:P.info? e=some i) (hz:i.zero=some z)
  (hsize:i.size=size) (hby:i.bytes=bytes) (hzs:z.cells.size=size) (hsz:0<size) (v:Value) (n:Nat) (xs:List Value) (hown:w.ownsRow base e size v n xs)
  (ad:Addr) (m c:Nat) (news:List Value) (hl:news.length=m*size) (hnews:∀j u,news[j]?=some u→w.cell? (ad.add j)=some u) (h1:∀u∈news,u.oneCell'=true)
  (h63:n+m≤maxLen) (hbytes:(n+m)*bytes≤140737488355328) (hbase:base≤w.heap.size):
  ∃v' w',(Builtin.append_ #[t,t] ty #[v,.slice (some ad) m c]).run P w=.ok v' w'∧w'.ownsRow base e size v' (n+m) (xs++news)∧w.grownBy w' v.ownBlock∧∀g,v'.ownBlock=some g→v.ownBlock=some g∨w.heap.size≤g:=by
 obtain ⟨v',w',hrun,r1,r2,_⟩:=run_append_own (P:=P) w base t ty e i z size bytes ht hi hz hsize hby hzs hsz v n xs hown ad m c news hl hnews h1 h63 hbytes hbase;refine ⟨v',w',hrun,r1,r2,fun g hg=>?_⟩
 rcases hown.2 with ⟨rfl,rfl⟩ | ⟨g0,cap,cur,rfl,hB,hg0,hc,hm,hcs,htk⟩
 ·have hxs:xs=[]:=List.eq_nil_of_length_eq_zero (by have:=hown.1;simpa using this)
  obtain ⟨v2,w2,hrun2,r3,_⟩:=run_append_own (P:=P) w w.heap.size t ty e i z size bytes ht hi hz hsize hby hzs hsz (.slice none 0 0) 0 [] (World.ownsRow_nil w _ _ _) ad m c news hl hnews h1 h63 hbytes (Nat.le_refl _)
  rw [hrun] at hrun2;injection hrun2 with e1 e2
  subst e1;subst e2;exact .inr (r3.lt g hg).1
 ·subst hsize;have hcell:∀j u,xs[j]?=some u→w.cell? ((⟨g0,0,none⟩:Addr).add j)=some u:=fun j u hu=>hown.cells (g:=g0) rfl j u hu;by_cases hroom:n+m≤cap
  ·have hr:=run_append_room_cells (P:=P) w t ty e i ht hi g0 0 n cap ad m c news hl hnews h1 hroom (fun j hj=>by
    have hlt:0+n*i.size+j<cur.size:=by
     have:(n+m)*i.size≤cap*i.size:=Nat.mul_le_mul hroom (Nat.le_refl _)
     rw [Nat.add_mul] at this;rw [hcs];rw [hl] at hj;omega
    have:=cell_of_row w g0 (0+n*i.size+j) cur e (0,0) hg0;rw [this,Array.getElem?_eq_getElem hlt];rfl) (fun j hj=>frozen_of_row w g0 _ cur e hg0)
   rw [hrun] at hr;injection hr with e1 e2
   subst e1;exact .inl hg
  ·obtain ⟨v2,w2,hrun2,r3,_⟩:=run_append_arg_grows (P:=P) w t ty e i z i.size bytes ht hi hz rfl hby hzs hsz ⟨g0,0,none⟩ n cap xs hown.1 hcell ad m c news hl hnews (by omega) h63 hbytes;rw [hrun] at hrun2;injection hrun2 with e1 e2
   subst e1;subst e2;exact .inr (r3.lt g hg).1
theorem wpList_append2 (hgd:Region.wanted o (yielded ops a.tmps)=true) {s x:Operand} {t e B sz by_:Nat} (ho:o.op=.call { callee:=.builtin .append,args:=#[s,x],argTypes:=#[t,t] })
  {v z:Value} {n m c:Nat} {xs ys:List Value} (hs:a.eval s=v) {ad:Addr} (hx:a.eval x=.slice (some ad) m c) (ht:P.underlying t=some (.slice e))
  (hi:(P.info? e).map (fun i=>(i.zero,i.size,i.bytes))=some (some z,sz,by_)) (hzs:z.cells.size=sz) (hsz:0<sz)
  (hown:w.ownsRow B e sz v n xs) (hrd:Rd w sz (.slice (some ad) m c) m ys) (h1:∀u∈ys,u.oneCell'=true) (hm:0<m) (h63:n+m≤9223372036854775807) (hbytes:(n+m)*by_≤140737488355328)
  {w0:World} (hb:Below B w0 w) (hB:B≤w0.heap.size)
  (h:∀v' w',w'.ownsRow B e sz v' (n+m) (xs++ys)→Below B w0 w'→w.grownBy w' v.ownBlock→(∀g,v'.ownBlock=some g→v.ownBlock=some g∨w.heap.size≤g)→wpList P ops Q rest (a.put o.dst v') w'):wpList P ops Q (o :: rest) a w:=by
 obtain ⟨i,hi1,hi2,hi3,hi4⟩:=info3 hi;have hcell:∀j u,ys[j]?=some u→w.cell? (ad.add j)=some u:=by
  obtain ⟨A,c',e1,s1,s2,s3,s4,s5⟩:=hrd;injection e1 with e1 _ _
  intro j u hu;obtain ⟨p1,p2,p3⟩:=s5 hm ad e1.symm;obtain ⟨b,q,sp⟩:=ad;simp at p1;subst p1;rw [show ((⟨b,q,none⟩:Addr).add j)=⟨b,q+j,none⟩ by unfold Addr.add;split <;> simp_all]
  exact p3 j u hu
 have hyl:ys.length=m*sz:=by obtain ⟨A,c',e1,s1,s2,s3,_⟩:=hrd;exact s3
 obtain ⟨v',w',hrun,r1,r2,r3⟩:=run_append_own2 (P:=P) (w:=w) B t o.type e i z sz by_ ht hi1 hi2 hi3 hi4 hzs hsz v n xs hown ad m c ys hyl hcell h1 (by unfold maxLen;omega) hbytes (Nat.le_trans hB hb.size)
 refine wpList_wanted hgd fun K hK=>?_;unfold Oper.wp;simp [execOp,ho,resolve,invoke,builtin,hs,hx,hrun,Result.andThen]
 exact hK _ _ (h v' w' r1 (hb.grown r2 (Nat.le_trans hB hb.size) fun k hk=>(hown.lt k hk).1) r2 r3)
end
end
end Go.Proofs.YteejianjjpdimaaGreat
