/- Contracts of the functions that the laws 'T' reach, part 25. No condition. -/
import Derived.Test.YteejianjjpdimaaGreatMTx
set_option linter.unusedVariables false
set_option linter.unusedSimpArgs false
set_option maxRecDepth 100000
set_option maxHeartbeats 8000000
namespace Go.Proofs.YteejianjjpdimaaGreat
section
open Go.RowKit L01 L02 L05 L06 L07 L13 L14 L15 L16 L18 L19 L20
theorem enter_spaceless (a b c:Value) (W:World):(callFunc 21 (#[]++#[a,b,c]++#[])).run Tryz.prog W=.ok (.enter 21 #[a,b,c]) W:=by
 kernel_rfl
theorem St.str {R S:World→Prop} {b0:Nat} {w0:World} {p9 p10:Nat} (h:St S) (hR:StR b0 w0 R p9 p10):StR b0 w0 S p9 p10:=
 ⟨h.below,fun W p t cs i u ht hb hs=>h.set W p t cs i u (by rcases ht with ⟨_,rfl⟩ | ⟨_,rfl⟩ <;> simp) hb hs,hR.ne,hR.le,hR.size⟩
theorem FSt.flag {b0:Nat} {w0:World} {R:World→Prop} {p9 p10:Nat} {t o s:Value} {h:Int×Int} {a b k:Nat} {φ:Nat→Bool} {W:World} (ha:k≠a) (hb:k≠b) (hF:FSt b0 w0 R p9 p10 t o s h a b φ W):FSt b0 w0 R p9 p10 t o s h a b (fun i=>i==k || φ i) W:=FSt.dep _ _ _ (fun j hj=>by
 simp only [List.mem_cons,List.not_mem_nil,or_false] at hj;rcases hj with rfl | rfl
 ·simp [Ne.symm ha]
 ·simp [Ne.symm hb]) hF
def Got (v tv ov sv:Value) (l:List UInt64) (m:Mo) (base:Nat) (y t o s:Value) (l':List UInt64) (m':Mo) (W:World):Prop:=
 (OwnW W base 42 y l'∧OwnM W base 37 t o s m')∨(y=v∧t=tv∧o=ov∧s=sv∧l'=l∧m'=m)
def Way (l:List UInt64) (w wx:World) (P:Pl) (mv cc:Array Value) (h1 h2:Int×Int) (y:Value) (r:Int):Prop:=
 ∃(E:List (Int×UInt64)) (M:Mo) (nv:Value×Value×Value) (s:Int×Int),(r=0→Stp l E M∧(0<s.2→0≤s.1∧s.1<16))∧
  Fm w wx P mv cc h1 h2 nv s s (fun V=>OwnE V w.heap.size y E∧(r=0→OwnM V w.heap.size 37 nv.1 nv.2.1 nv.2.2 M))
theorem Way.fin {l:List UInt64} {w W:World} {P:Pl} {mv cc:Array Value} {h1 h2:Int×Int} {y:Value} {r:Int} {E:List (Int×UInt64)} {M:Mo} {nv:Value×Value×Value} {s:Int×Int} {R:World→Prop} {a b c:Value}
  (hs:r=0→Stp l E M∧(0<s.2→0≤s.1∧s.1<16)) (hF:Fm w W P mv cc h1 h2 nv s s R) (hE:OwnE W w.heap.size y E) (hM:r=0→OwnM W w.heap.size 37 a b c M):Way l w (set3m W P.p15 a b c) P mv cc h1 h2 y r:=
 ⟨E,M,(a,b,c),s,hs,(hF.to (S:=fun V=>OwnE V w.heap.size y E∧(r=0→OwnM V w.heap.size 37 a b c M)) ((St.ent _ _ _).and (St.imp (St.model _ _ _ _ _))) (fun _=>⟨hE,hM⟩)).set15 a b c⟩
theorem Way.fin2 {l:List UInt64} {w W:World} {P:Pl} {mv cc:Array Value} {h1 h2:Int×Int} {y:Value} {r:Int} {E:List (Int×UInt64)} {M:Mo} {nv:Value×Value×Value} {s s0:Int×Int} {R:World→Prop} {a b c:Value}
  (hs:r=0→Stp l E M∧(0<s.2→0≤s.1∧s.1<16)) (hF:Fm w W P mv cc h1 h2 nv s s0 R) (hE:OwnE W w.heap.size y E) (hM:r=0→OwnM W w.heap.size 37 a b c M):Way l w (set2 (set3m W P.p15 a b c) P.p17 s) P mv cc h1 h2 y r:=
 ⟨E,M,(a,b,c),s,hs,((hF.to (S:=fun V=>OwnE V w.heap.size y E∧(r=0→OwnM V w.heap.size 37 a b c M)) ((St.ent _ _ _).and (St.imp (St.model _ _ _ _ _))) (fun _=>⟨hE,hM⟩)).set15 a b c).set17 s⟩
theorem nxt_rng {l:List UInt64} (rt:Rt l):(next (L18.slots l)).getD 0<16:=by
 cases hk:next (L18.slots l) with
 | none=>decide
 | some k=>
  obtain ⟨_,⟨s,hs,_⟩,_⟩:=nextFrom_some hk;rw [Nat.sub_zero] at hs
  have:=(List.getElem?_eq_some_iff.1 hs).1;rw [slots_len' rt.sl] at this;exact this
theorem oiS_rng {l:List UInt64} (rt:Rt l) (a g n:Int):0≤oiS l a g n∧oiS l a g n<16:=by
 have:=nxt_rng rt;unfold oiS newSlot;split
 ·split <;> omega
 ·omega
theorem aiS_rng {l:List UInt64} (rt:Rt l) (t:Int):0≤aiS l t∧aiS l t<16:=by
 have:=nxt_rng rt;unfold aiS aiK;split <;> omega
theorem Way.mk {l:List UInt64} {w wx:World} {P:Pl} {mv cc:Array Value} {h1 h2:Int×Int} {y:Value} {r:Int} {E:List (Int×UInt64)} {M:Mo} {nv:Value×Value×Value} {s:Int×Int} {R:World→Prop}
  (hs:r=0→Stp l E M∧(0<s.2→0≤s.1∧s.1<16)) (hF:Fm w wx P mv cc h1 h2 nv s s R) (hE:OwnE wx w.heap.size y E) (hM:r=0→OwnM wx w.heap.size 37 nv.1 nv.2.1 nv.2.2 M):Way l w wx P mv cc h1 h2 y r:=
 ⟨E,M,nv,s,hs,hF.to ((St.ent _ _ _).and (St.imp (St.model _ _ _ _ _))) (fun _=>⟨hE,hM⟩)⟩
theorem Called24_any (v hv:Value) (tA oA sA:Option Addr) (tn tc on oc sn sc:Nat) (l:List UInt64) (m:Mo) (fm:Nat→Nat) (L:List (Int×Int)) (op a b n:Int) (x:UInt64) (rt:Rt l) (iso:Iso fm m (L19.seen l)) (hL:HadOk L) (w:World) (h:Words w v l) (hm:Mod w (.slice tA tn tc) (.slice oA on oc) (.slice sA sn sc) m) (hh:Hnds w hv L):
  Calls Tryz.prog 8 #[v,.agg #[.slice tA tn tc,.slice oA on oc,.slice sA sn sc],hv,.agg #[.int .i64 op,.int .i64 a,.int .i64 b,.int .i64 n,.int .u64 x.toNat]] w fun e w'=>∃y t o s l' m' f' s1 s2,e=.returned (.tuple #[y,.agg #[t,o,s],.agg #[.int .i64 s1,.int .i64 s2],.bool true])∧Got v (.slice tA tn tc) (.slice oA on oc) (.slice sA sn sc) l m w.heap.size y t o s l' m' w'∧Rt l'∧Iso f' m' (L19.seen l')∧l'.length=l.length∧(0<s2→0≤s1∧s1<16)∧Below w.heap.size w w':=by
 have B:=Below.refl w.heap.size w;have H:=hD h;have HM:=hD hm;have HH:=hD hh;have RT:=hD rt;have ISO:=hD iso;obtain ⟨h1,hh1⟩:=exq (oneH L a)
 obtain ⟨h2,hh2⟩:=exq (oneH L b)
 have O1:=hD (one24_top hv L a h1.1 h1.2 (by rw [hh1]) (by rw [hh1]))
 have O2:=hD (one24_top hv L b h2.1 h2.2 (by rw [hh2]) (by rw [hh2]))
 have HK1:=hD (show 0≤h1.1∧h1.1<16 by rw [hh1];exact oneH_ok hL a)
 clear h hm hh hh1 hh2 rt iso hL;go_in;go_upto_region 1 with (fail)
 refine wpb1111 (31) (#[.slice tA tn tc,.slice oA on oc,.slice sA sn sc]) (44) (#[.int .i64 op,.int .i64 a,.int .i64 b,.int .i64 n,.int .u64 x.toNat]) (31) (#[.slice none 0 0,.slice none 0 0,.slice none 0 0]) (39) (#[.int .i64 0,.int .i64 0]) ?_;rintro wa1 ⟨g5,g7,g9,g10,b⟩
 replace B:=B.trans (b.mono B.size);clear b;replace c_g5:=g5.five;replace c_g7:=g7.five;replace c_g9:=g9.five;replace c_g10:=g10.five;refine wp_region_twoHC h1 h2 18 #[hv,.int .i64 a] #[hv,.int .i64 b] (by kernel_rfl) (by kernel_rfl) (by kernel_rfl) (by kernel_rfl) (fun W hW=>O1.out W (HH.out.below (B.trans (hW.mono B.size)))) (fun W hW=>O2.out W (HH.out.below (B.trans (hW.mono B.size)))) ?_;intro g;have c7:=fun x:FXN (FTH wa1 h1 h2 g)=>(g7.below x.belowTH).cell
 haveI:Nonempty (FXN (FTH wa1 h1 h2 g)):=⟨⟨_,_,FTH.start⟩⟩
 have DP:=(FTH.dep (w:=wa1) (b1:=h1) (b2:=h2) (g:=g)).more (ks:=[3,7,8,9,10,11]) (by simp)
 iterate 3 (refine wpM_read DP rfl (by decide) (by decide) ?_;go_big_quiet_step (fail);refine wpQuiet_nil ?_)
 refine wpM_new (by decide) rfl (by show TH3 _ _ _ 3 _;unfold TH3;rw [if_pos rfl];intro W;simp [execOp,resolve,invoke,Act.eval,go_sem]) ?_;simp only [Act.put,List.setIfInBounds_toArray,List.set_cons_zero,List.set_cons_succ]
 rw [show valH3 h1 h2 g 3=.agg #[.int .i64 h1.1,.int .i64 h1.2] from rfl]
 iterate 3 (refine wpM_read DP rfl (by decide) (by decide) ?_;go_big_quiet_step (fail);refine wpQuiet_nil ?_)
 refine wpM_new (by decide) rfl (by show TH3 _ _ _ 7 _;unfold TH3;rw [if_neg (by decide),if_pos rfl];intro W;simp [execOp,resolve,invoke,Act.eval,go_sem]) ?_;simp only [Act.put,List.setIfInBounds_toArray,List.set_cons_zero,List.set_cons_succ]
 rw [show valH3 h1 h2 g 7=.agg #[.int .i64 h2.1,.int .i64 h2.2] from rfl]
 refine wpM_new (by decide) rfl (by show TH3 _ _ _ _ _;unfold TH3;rw [if_neg (by decide),if_neg (by decide)];intro W;simp [execOp,go_sem,zeroH]) ?_;simp only [Act.put,List.setIfInBounds_toArray,List.set_cons_zero,List.set_cons_succ]
 rw [show valH3 h1 h2 g 8=.pointer (some ⟨g.1,0,none⟩) from rfl]
 refine wpM_new (by decide) rfl (by show TH3 _ _ _ _ _;unfold TH3;rw [if_neg (by decide),if_neg (by decide)];intro W;simp [execOp,go_sem,zeroH]) ?_;simp only [Act.put,List.setIfInBounds_toArray,List.set_cons_zero,List.set_cons_succ]
 rw [show valH3 h1 h2 g 9=.pointer (some ⟨g.2,0,none⟩) from rfl]
 refine wpM_store DP (by decide) rfl 39 (.tmp 12) (.tmp 27) rfl (by rfl) (p:=.pointer (some ⟨g.1,0,none⟩)) (u:=.agg #[.int .i64 h1.1,.int .i64 h1.2]) (by rfl) (by rfl) [8] (by kernel_rfl) (fun f W hF h0 h1=>?_) ?_
 ·obtain ⟨s1,s2,s3⟩:=hF.store1 (h1 8 (by simp)) h0;refine ⟨_,?_,s3⟩
  simp [go_sem,s1,s2,zeroH,set2]
 simp only [Act.put,List.setIfInBounds_toArray,List.set_cons_zero,List.set_cons_succ]
 refine wpM_store DP (by decide) rfl 39 (.tmp 13) (.tmp 31) rfl (by rfl) (p:=.pointer (some ⟨g.2,0,none⟩)) (u:=.agg #[.int .i64 h2.1,.int .i64 h2.2]) (by rfl) (by rfl) [9] (by kernel_rfl) (fun f W hF h0 h1=>?_) ?_
 ·obtain ⟨s1,s2,s3⟩:=hF.store2 (h1 9 (by simp)) h0;refine ⟨_,?_,s3⟩
  simp [go_sem,s1,s2,zeroH,set2]
 simp only [Act.put,List.setIfInBounds_toArray,List.set_cons_zero,List.set_cons_succ]
 refine wpM_nil ?_;intro w2 hF;obtain ⟨bW,_,_,f1,f2,f3⟩:=hF;obtain ⟨hp1,g12⟩:=f1 rfl;obtain ⟨hp2,g13⟩:=f2 rfl;have hpq:=f3 rfl rfl;replace g12:Bx w2 g.1 39 #[.int .i64 h1.1,.int .i64 h1.2]:=g12;replace g13:Bx w2 g.2 39 #[.int .i64 h2.1,.int .i64 h2.2]:=g13;have q5:=g5.lt;have q7:=g7.lt;have q9:=g9.lt;have q10:=g10.lt;have hz1:=B.size;replace g5:=g5.below bW;replace g7:=g7.below bW;replace g9:=g9.below bW;replace g10:=g10.below bW;replace B:=B.trans (bW.mono B.size)
 have hz2:=bW.size;have q12:=g12.lt;have q13:=g13.lt;clear f1 f2 f3 c7 this bW DP c_g5 c_g7 c_g9 c_g10;go_upto_region 5 with (fail)
 refine wpb111 (31) (#[.slice none 0 0,.slice none 0 0,.slice none 0 0]) (39) (#[.int .i64 0,.int .i64 0]) (39) (#[.int .i64 0,.int .i64 0]) ?_;rintro wa2 ⟨g15,g16,g17,b⟩
 replace g5:=g5.below b;replace c_g5:=g5.five;replace g7:=g7.below b;replace c_g7:=g7.five;replace g9:=g9.below b;replace c_g9:=g9.five;replace g10:=g10.below b;replace c_g10:=g10.five;replace g12:=g12.below b;replace c_g12:=g12.five;replace g13:=g13.below b;replace c_g13:=g13.five;replace B:=B.trans (b.mono B.size);clear b;replace c_g15:=g15.five;replace c_g16:=g16.five;replace c_g17:=g17.five;obtain ⟨p12,p13⟩:=g;dsimp only at g12 g13 hp1 hp2 hpq q12 q13;obtain ⟨P,hP⟩:∃P:Pl,P=⟨w.heap.size,w.heap.size+1,w.heap.size+1+1,w.heap.size+1+1+1,p12,p13,w2.heap.size,w2.heap.size+1,w2.heap.size+1+1⟩:=⟨_,rfl⟩
 have F0:Fm w wa2 ⟨w.heap.size,w.heap.size+1,w.heap.size+1+1,w.heap.size+1+1+1,p12,p13,w2.heap.size,w2.heap.size+1,w2.heap.size+1+1⟩ #[.slice tA tn tc,.slice oA on oc,.slice sA sn sc] #[.int .i64 op,.int .i64 a,.int .i64 b,.int .i64 n,.int .u64 x.toNat] h1 h2 (.slice none 0 0,.slice none 0 0,.slice none 0 0) (0,0) (0,0) (fun _=>True):=
  ⟨⟨by dsimp only;omega,by dsimp only;omega⟩,g5,g7,g9,g10,g12,g13,g15,g16,g17,trivial,St.triv,B⟩
 rw [←hP] at F0;obtain ⟨p5,hp5⟩:=exq w.heap.size;have e5:P.p5=w.heap.size:=by rw [hP]
 have e7:P.p7=w.heap.size+1:=by rw [hP]
 have e9:P.p9=w.heap.size+1+1:=by rw [hP]
 have e10:P.p10=w.heap.size+1+1+1:=by rw [hP]
 have e12:P.p12=(p12,p13).1:=by rw [hP]
 have e13:P.p13=(p12,p13).2:=by rw [hP]
 have e15:P.p15=w2.heap.size:=by rw [hP]
 have e16:P.p16=w2.heap.size+1:=by rw [hP]
 have e17:P.p17=w2.heap.size+1+1:=by rw [hP]
 rw [←e10,←e9,←e7,←e5,←e12,←e13,←e17,←e16,←e15]
 clear e5 e7 e9 e10 e12 e13 e15 e16 e17 hp5 p5 hP g5 g7 g9 g10 g12 g13 g15 g16 g17 B c_g5 c_g7 c_g9 c_g10 c_g12 c_g13 c_g15 c_g16 c_g17 hp1 hp2 hpq q5 q7 q9 q10 q12 q13 hz1 hz2;have c_7:=F0.g7.cell
 go_upto_block 0 with (fail)
 clear c_7;have HF0:=hD F0;clear F0
 go_cut [14,18,19] (fun y e f wx=>∃r:Int,e=.int .i64 r∧f=.int .i64 r∧Hid (Way l w wx P #[.slice tA tn tc,.slice oA on oc,.slice sA sn sc] #[.int .i64 op,.int .i64 a,.int .i64 b,.int .i64 n,.int .u64 x.toNat] h1 h2 y r))
 case first=>
  have F:=HF0.out;by_cases q1:op=1
  ·subst q1;obtain ⟨r,hr⟩:=exq (askI l h1.1 h1.2)
   obtain ⟨E,hE⟩:=exq (diL l h1.1 h1.2)
   obtain ⟨M,hM⟩:=exq (dropM m h1.1 h1.2)
   have T1:=hD (Drop23_any v l h1.1 h1.2 E r hE hr)
   have T2:=hD (Drop20_u (.slice tA tn tc) (.slice oA on oc) (.slice sA sn sc) m h1.1 h1.2 M r hM (by rw [hr];exact step_ask RT.out ISO.out _ _))
   have HS:=hD (show r=0→Stp l E M∧(0<(0:Int)→0≤(0:Int)∧(0:Int)<16) from fun h0=>⟨by rw [hE,hM];exact step_drop RT.out ISO.out (by rw [←hr];exact h0),fun h=>absurd h (by decide)⟩)
   clear hr hE hM;have c_5:=F.g5.cell;have c_7:=F.g7.cell;have c_12:=F.g12.cell;unfold hnA at c_12;go_wp2_with fail;refine (T1.out _ (H.out.below F.B)).mono ?_;rintro e wb ⟨y,rfl,oy,b⟩
   have oy:=own_mono oy F.B.size;have F1:=F.below b;clear F c_5 c_7 c_12 b;have c_5:=F1.g5.cell;have c_7:=F1.g7.cell;have c_12:=F1.g12.cell;unfold hnA at c_12;go_wp2_with fail;refine (T2.out _ (HM.out.below F1.B)).mono ?_;rintro e wc ⟨t',o',s',rfl,hm',om',b2⟩
   have om':=fun e=>(om' e).mono F1.B.size;have F2:=F1.below b2;have oy2:OwnE wc w.heap.size y E:=OwnE.below oy b2;obtain ⟨⟨t1,t2,t3,rfl⟩,⟨o1,o2,o3,rfl⟩,⟨s1,s2,s3,rfl⟩⟩:=mod_forms hm';have HW:=hD (Way.fin HS.out F2 oy2 om')
   have c_15:=F2.g15.cell;have f_15:=F2.g15.free;clear c_5 c_7 c_12 F1 F2 oy oy2 b2 om' hm' HS T1 T2;go_wp2
   go_meet
   case rel=>exact ⟨r,rfl,rfl,HW⟩
  by_cases q2:op=2
  ·subst q2;obtain ⟨r,hr⟩:=exq (fiE l h1.1 h1.2)
   obtain ⟨E,hE⟩:=exq (fiL l h1.1 h1.2)
   obtain ⟨M,hM⟩:=exq (freeM m h1.1 h1.2)
   have T1:=hD (Free23_any v l h1.1 h1.2 E r hE hr)
   have T2:=hD (Free20_u (.slice tA tn tc) (.slice oA on oc) (.slice sA sn sc) m h1.1 h1.2 M r hM (by rw [hr];exact step_freeE RT.out ISO.out _ _))
   have HS:=hD (show r=0→Stp l E M∧(0<(0:Int)→0≤(0:Int)∧(0:Int)<16) from fun h0=>⟨by rw [hE,hM];exact step_free RT.out ISO.out (by rw [←hr];exact h0),fun h=>absurd h (by decide)⟩)
   clear hr hE hM;have c_5:=F.g5.cell;have c_7:=F.g7.cell;have c_12:=F.g12.cell;unfold hnA at c_12;go_wp2_with fail;refine (T1.out _ (H.out.below F.B)).mono ?_;rintro e wb ⟨y,rfl,oy,b⟩
   have oy:=own_mono oy F.B.size;have F1:=F.below b;clear F c_5 c_7 c_12 b;have c_5:=F1.g5.cell;have c_7:=F1.g7.cell;have c_12:=F1.g12.cell;unfold hnA at c_12;go_wp2_with fail;refine (T2.out _ (HM.out.below F1.B)).mono ?_;rintro e wc ⟨t',o',s',rfl,hm',om',b2⟩
   have om':=fun e=>(om' e).mono F1.B.size;have F2:=F1.below b2;have oy2:OwnE wc w.heap.size y E:=OwnE.below oy b2;obtain ⟨⟨t1,t2,t3,rfl⟩,⟨o1,o2,o3,rfl⟩,⟨s1,s2,s3,rfl⟩⟩:=mod_forms hm';have HW:=hD (Way.fin HS.out F2 oy2 om')
   have c_15:=F2.g15.cell;have f_15:=F2.g15.free;clear c_5 c_7 c_12 F1 F2 oy oy2 b2 om' hm' HS T1 T2;go_wp2
   go_meet
   case rel=>exact ⟨r,rfl,rfl,HW⟩
  by_cases q3:op=3
  ·subst q3;obtain ⟨r,hr⟩:=exq (giE l h1.1 h1.2 n)
   obtain ⟨E,hE⟩:=exq (siL l h1.1 h1.2 n x)
   obtain ⟨M,hM⟩:=exq (setM m h1.1 h1.2 n x)
   have T1:=hD (Set24_any v l h1.1 h1.2 n x E r hE hr)
   have T2:=hD (Set20_u (.slice tA tn tc) (.slice oA on oc) (.slice sA sn sc) m h1.1 h1.2 n x M r hM (by rw [hr];exact step_getE RT.out ISO.out _ _ _))
   have HS:=hD (show r=0→Stp l E M∧(0<(0:Int)→0≤(0:Int)∧(0:Int)<16) from fun h0=>⟨by rw [hE,hM];exact step_set RT.out ISO.out x (by rw [←hr];exact h0),fun h=>absurd h (by decide)⟩)
   clear hr hE hM;have c_5:=F.g5.cell;have c_7:=F.g7.cell;have c_12:=F.g12.cell;unfold hnA at c_12;go_wp2_with fail;refine (T1.out _ (H.out.below F.B)).mono ?_;rintro e wb ⟨y,rfl,oy,b⟩
   have oy:=own_mono oy F.B.size;have F1:=F.below b;clear F c_5 c_7 c_12 b;have c_5:=F1.g5.cell;have c_7:=F1.g7.cell;have c_12:=F1.g12.cell;unfold hnA at c_12;go_wp2_with fail;refine (T2.out _ (HM.out.below F1.B)).mono ?_;rintro e wc ⟨t',o',s',rfl,hm',om',b2⟩
   have om':=fun e=>(om' e).mono F1.B.size;have F2:=F1.below b2;have oy2:OwnE wc w.heap.size y E:=OwnE.below oy b2;obtain ⟨⟨t1,t2,t3,rfl⟩,⟨o1,o2,o3,rfl⟩,⟨s1,s2,s3,rfl⟩⟩:=mod_forms hm';have HW:=hD (Way.fin HS.out F2 oy2 om')
   have c_15:=F2.g15.cell;have f_15:=F2.g15.free;clear c_5 c_7 c_12 F1 F2 oy oy2 b2 om' hm' HS T1 T2;go_wp2
   go_meet
   case rel=>exact ⟨r,rfl,rfl,HW⟩
  by_cases q4:op=4
  ·subst q4;obtain ⟨r,hr⟩:=exq (riE l h1.1 h1.2 n (some (h2.1,h2.2)))
   obtain ⟨E,hE⟩:=exq (riL l h1.1 h1.2 n (some (h2.1,h2.2)))
   obtain ⟨M,hM⟩:=exq (refM m h1.1 h1.2 n (some (h2.1,h2.2)))
   have T1:=hD (SetRef24_any v (.pointer (some ⟨P.p13,0,none⟩)) l h1.1 h1.2 n (some (h2.1,h2.2)) E r hE hr)
   have T2:=hD (SetRef20_u (.slice tA tn tc) (.slice oA on oc) (.slice sA sn sc) m h1.1 h1.2 n (.pointer (some ⟨P.p13,0,none⟩)) (some (h2.1,h2.2)) M r hM (by rw [hr];exact step_refE RT.out ISO.out _ _ _ _ _))
   have HS:=hD (show r=0→Stp l E M∧(0<(0:Int)→0≤(0:Int)∧(0:Int)<16) from fun h0=>⟨by rw [hE,hM];exact step_ref RT.out ISO.out (by rw [←hr];exact h0),fun h=>absurd h (by decide)⟩)
   clear hr hE hM;have c_5:=F.g5.cell;have c_7:=F.g7.cell;have c_12:=F.g12.cell;unfold hnA at c_12;go_wp2_with fail;refine (T1.out _ (H.out.below F.B) ⟨_,rfl,F.g13⟩).mono ?_;rintro e wb ⟨y,rfl,oy,b⟩
   have oy:=own_mono oy F.B.size;have F1:=F.below b;clear F c_5 c_7 c_12 b;have c_5:=F1.g5.cell;have c_7:=F1.g7.cell;have c_12:=F1.g12.cell;unfold hnA at c_12;go_wp2_with fail;refine (T2.out _ (HM.out.below F1.B) ⟨_,rfl,F1.g13⟩).mono ?_;rintro e wc ⟨t',o',s',rfl,hm',om',b2⟩
   have om':=fun e=>(om' e).mono F1.B.size;have F2:=F1.below b2;have oy2:OwnE wc w.heap.size y E:=OwnE.below oy b2;obtain ⟨⟨t1,t2,t3,rfl⟩,⟨o1,o2,o3,rfl⟩,⟨s1,s2,s3,rfl⟩⟩:=mod_forms hm';have HW:=hD (Way.fin HS.out F2 oy2 om')
   have c_15:=F2.g15.cell;have f_15:=F2.g15.free;clear c_5 c_7 c_12 F1 F2 oy oy2 b2 om' hm' HS T1 T2;go_wp2
   go_meet
   case rel=>exact ⟨r,rfl,rfl,HW⟩
  by_cases q0:op=0
  ·subst q0;obtain ⟨r,hr⟩:=exq (aiE l n)
   obtain ⟨E,hE⟩:=exq (aiL l n)
   obtain ⟨s1,hs1⟩:=exq (aiS l n)
   obtain ⟨s2,hs2⟩:=exq (aiG l n)
   obtain ⟨M,hM⟩:=exq (allM m n)
   have T1:=hD (Change_any v l n E s1 s2 r hE hs1 hs2 hr)
   by_cases h20:r=20
   ·skip
    have SN:=(step_all_no RT.out ISO.out (t:=n) (by rw [←hr,h20];decide)).2.2.2 (by rw [←hr];exact h20)
    obtain ⟨rm,hrm⟩:=exq (allE m n)
    obtain ⟨sm,hsm⟩:=exq (allS m n)
    obtain ⟨gm,hgm⟩:=exq (allG m n)
    have T2:=hD (Alloc20_u (.slice tA tn tc) (.slice oA on oc) (.slice sA sn sc) m n M rm sm gm hM hrm hsm hgm)
    have h8:(m.types.getD n.toNat []).length≤8:=by
     have hT:m.types=T19 l:=ISO.out.tys.symm;have hq:n.toNat<(T19 l).length:=by rw [←hT];have:=SN.1;have:=SN.2.1;omega
     rw [hT]
     exact (kErr_ok ((T19_ok RT.out.ty).2 _ (by rw [List.getD_eq_getElem?_getD,List.getElem?_eq_getElem hq];exact List.getElem_mem hq))).1
    have SP:=hD (spaceless_any v (.slice tA tn tc) (.slice oA on oc) (.slice sA sn sc) l m n ⟨SN.1,SN.2.1⟩ h8 SN.2.2)
    clear hr hE hs1 hs2 hM hrm hsm hgm SN h8 q1 q2 q3 q4;subst h20;have c_5:=F.g5.cell;have c_7:=F.g7.cell;have c_12:=F.g12.cell;unfold hnA at c_12;have c_16:=F.g16.cell;have f_16:=F.g16.free;unfold hnA at c_16;dsimp only at c_16;go_wp2_with fail;refine (T1.out _ (H.out.below F.B)).mono ?_;rintro e wb ⟨y,rfl,oy,b⟩
    have oy:=own_mono oy F.B.size;have F1:=F.below b;have HF1:=hD (And.intro (F1.set16 (s1,s2)) ((St.ent w.heap.size y E).set2 (s1,s2) F1.g16 oy))
    clear F c_5 c_7 c_12 c_16 f_16 b;have c_16:=F1.g16.cell;have f_16:=F1.g16.free;unfold hnA at c_16;dsimp only at c_16;clear F1 oy;go_upto_region 11 with (fail)
    refine wp_gen (fun V=>Fm w V P #[.slice tA tn tc,.slice oA on oc,.slice sA sn sc] #[.int .i64 0,.int .i64 a,.int .i64 b,.int .i64 n,.int .u64 x.toNat] h1 h2 (.slice none 0 0,.slice none 0 0,.slice none 0 0) (s1,s2) (0,0) (fun _=>True)∧OwnE V w.heap.size y E) HF1.out ?_;clear HF1 c_16 f_16;rintro wv ⟨F1,oy⟩
    have c_5:=F1.g5.cell;have c_7:=F1.g7.cell;have c_12:=F1.g12.cell;unfold hnA at c_12;go_wp2_with fail;refine (T2.out _ (HM.out.below F1.B)).mono ?_;rintro e wc ⟨t',o',s',rfl,hm',om',b2⟩
    have om':=fun e=>(om' e).mono F1.B.size;have F2:=F1.below b2;have oy2:OwnE wc w.heap.size y E:=OwnE.below oy b2;obtain ⟨⟨t1,t2,t3,rfl⟩,⟨o1,o2,o3,rfl⟩,⟨z1,z2,z3,rfl⟩⟩:=mod_forms hm';have HF3:=hD (((F2.to (S:=fun _=>True) St.triv (fun _=>trivial)).set15 (.slice t1 t2 t3) (.slice o1 o2 o3) (.slice z1 z2 z3)).set17 (sm,gm))
    have c_15:=F2.g15.cell;have f_15:=F2.g15.free;have n17:P.p17≠P.p15:=by have:=F2.ok.old;omega
    have c_17:=(F2.g17.far3m n17 (.slice t1 t2 t3) (.slice o1 o2 o3) (.slice z1 z2 z3)).cell;have f_17:=(F2.g17.far3m n17 (.slice t1 t2 t3) (.slice o1 o2 o3) (.slice z1 z2 z3)).free;unfold hnA at c_17;unfold set3m at c_17 f_17;dsimp only at c_17;clear c_5 c_7 c_12 F1 F2 oy oy2 b2 om' hm' T1 T2;go_upto_region 13 with (fail)
    refine wp_gen (fun V=>Fm w V P #[.slice tA tn tc,.slice oA on oc,.slice sA sn sc] #[.int .i64 0,.int .i64 a,.int .i64 b,.int .i64 n,.int .u64 x.toNat] h1 h2 (.slice t1 t2 t3,.slice o1 o2 o3,.slice z1 z2 z3) (s1,s2) (sm,gm) (fun _=>True)) HF3.out ?_;clear HF3 c_15 f_15 c_17 f_17;intro wq F3;have FQ:=F3.below ((Below.refl _ wq).drew)
    have START:FSt w.heap.size w (fun V=>Bx V P.p5 31 #[.slice tA tn tc,.slice oA on oc,.slice sA sn sc]∧Bx V P.p7 44 #[.int .i64 0,.int .i64 a,.int .i64 b,.int .i64 n,.int .u64 x.toNat]∧Bx V P.p15 31 #[.slice t1 t2 t3,.slice o1 o2 o3,.slice z1 z2 z3]∧Bx V P.p16 39 (hnA (s1,s2))∧True) P.p9 P.p10 (.slice tA tn tc) (.slice oA on oc) (.slice sA sn sc) (0,0) 9 10 (fun _=>false) wq.drew:=⟨FQ.B,FQ.rr,FQ.g9,FQ.g10⟩
    have STR:=F3.str;clear FQ F3;refine wp_region_N _ [9,10] FSt.dep (by kernel_rfl) (by kernel_rfl) (by kernel_rfl) START ?_
    haveI:Nonempty (FXN (FSt w.heap.size w (fun V=>Bx V P.p5 31 #[.slice tA tn tc,.slice oA on oc,.slice sA sn sc]∧Bx V P.p7 44 #[.int .i64 0,.int .i64 a,.int .i64 b,.int .i64 n,.int .u64 x.toNat]∧Bx V P.p15 31 #[.slice t1 t2 t3,.slice o1 o2 o3,.slice z1 z2 z3]∧Bx V P.p16 39 (hnA (s1,s2))∧True) P.p9 P.p10 (.slice tA tn tc) (.slice oA on oc) (.slice sA sn sc) (0,0) 9 10)):=⟨⟨_,_,START⟩⟩
    have c5:=fun y:FXN (FSt w.heap.size w (fun V=>Bx V P.p5 31 #[.slice tA tn tc,.slice oA on oc,.slice sA sn sc]∧Bx V P.p7 44 #[.int .i64 0,.int .i64 a,.int .i64 b,.int .i64 n,.int .u64 x.toNat]∧Bx V P.p15 31 #[.slice t1 t2 t3,.slice o1 o2 o3,.slice z1 z2 z3]∧Bx V P.p16 39 (hnA (s1,s2))∧True) P.p9 P.p10 (.slice tA tn tc) (.slice oA on oc) (.slice sA sn sc) (0,0) 9 10)=>y.st.1.cell;have c7:=fun y:FXN (FSt w.heap.size w (fun V=>Bx V P.p5 31 #[.slice tA tn tc,.slice oA on oc,.slice sA sn sc]∧Bx V P.p7 44 #[.int .i64 0,.int .i64 a,.int .i64 b,.int .i64 n,.int .u64 x.toNat]∧Bx V P.p15 31 #[.slice t1 t2 t3,.slice o1 o2 o3,.slice z1 z2 z3]∧Bx V P.p16 39 (hnA (s1,s2))∧True) P.p9 P.p10 (.slice tA tn tc) (.slice oA on oc) (.slice sA sn sc) (0,0) 9 10)=>y.st.2.1.cell;clear START;iterate 2 (refine wpN_read FSt.dep rfl (by decide) ?_;go_big_quiet_step (fail);refine wpQuiet_nil ?_)
    refine wpN_step FSt.dep rfl (by rfl) (v:=.agg #[.int .i64 0,.int .i64 0]) [] rfl (fun f W hF h0 _=>⟨W,by simp [execOp,go_sem],FSt.flag (by decide) (by decide) hF⟩) ?_;simp only [Act.put,List.setIfInBounds_toArray,List.set_cons_zero,List.set_cons_succ]
    iterate 2 (refine wpN_read FSt.dep rfl (by decide) ?_;go_big_quiet_step (fail);refine wpQuiet_nil ?_)
    refine wpN_step FSt.dep rfl (by rfl) (v:=.pointer (some ⟨P.p7,3,none⟩)) [] rfl (fun f W hF h0 _=>⟨W,by simp [execOp,Act.eval,go_sem],FSt.flag (by decide) (by decide) hF⟩) ?_;simp only [Act.put,List.setIfInBounds_toArray,List.set_cons_zero,List.set_cons_succ]
    refine wpN_read FSt.dep rfl (by decide) ?_;go_big_quiet_step (fail);refine wpQuiet_nil ?_
    refine wpN_call FSt.dep rfl #[v,.agg #[.slice tA tn tc,.slice oA on oc,.slice sA sn sc],.int .i64 n] (.bool true) rfl (by simp [Act.eval]) (fun W=>enter_spaceless _ _ _ W) [] rfl (fun f' W hF h0 _=>?_) ?_
    ·exact (SP.out W (H.out.below hF.1) (HM.out.below hF.1)).mono fun e W' ⟨e1,e2⟩=>⟨e1,FSt.flag (by decide) (by decide) (hF.below STR e2)⟩
    simp only [Act.put,List.setIfInBounds_toArray,List.set_cons_zero,List.set_cons_succ]
    refine wpN_read FSt.dep rfl (by decide) ?_;go_big_quiet_step (fail);refine wpQuiet_nil ?_
    refine wpN_storeD FSt.dep rfl 31 (.tmp 9) (.tmp 73) rfl (by rfl) (p:=.pointer (some ⟨P.p9,0,none⟩)) (u:=.agg #[.slice tA tn tc,.slice oA on oc,.slice sA sn sc]) (by rfl) (by rfl) [] rfl (fun f W hF h0 _=>?_) ?_
    ·obtain ⟨k1,k2,k3⟩:=hF.store9 STR (by decide) h0;refine ⟨_,?_,k3⟩
     simp [go_sem,k1,k2,zeroM,set3m]
    simp only [Act.put,List.setIfInBounds_toArray,List.set_cons_zero,List.set_cons_succ]
    refine wpN_storeD FSt.dep rfl 39 (.tmp 10) (.tmp 74) rfl (by rfl) (p:=.pointer (some ⟨P.p10,0,none⟩)) (u:=.agg #[.int .i64 0,.int .i64 0]) (by rfl) (by rfl) [] rfl (fun f W hF h0 _=>?_) ?_
    ·obtain ⟨k1,k2,k3⟩:=hF.store10 STR (by decide) h0;refine ⟨_,?_,k3⟩
     simp [go_sem,k1,k2,zeroH,set2]
    simp only [Act.put,List.setIfInBounds_toArray,List.set_cons_zero,List.set_cons_succ]
    refine wpN_read FSt.dep rfl (by decide) ?_;go_big_quiet_step (fail);refine wpQuiet_nil ?_
    show ∀w',_→_;intro wy hF;obtain ⟨hB,_,g9,g10⟩:=hF;replace g9:Bx wy P.p9 31 #[.slice tA tn tc,.slice oA on oc,.slice sA sn sc]:=g9;replace g10:Bx wy P.p10 39 #[.int .i64 0,.int .i64 0]:=g10;have c_9:=g9.cell;have c_10:=g10.cell;clear c5 c7 this STR SP g9 g10;go_wp2;refine bodyPost_ret (v:=.tuple #[v,.agg #[.slice tA tn tc,.slice oA on oc,.slice sA sn sc],.agg #[.int .i64 0,.int .i64 0],.bool true]) (by simp [results,Tryz.results8,go_sem,c_9,c_10]) rfl ?_;exact ⟨_,_,_,_,l,m,fm,0,0,rfl,.inr ⟨rfl,rfl,rfl,rfl,rfl,rfl⟩,RT.out,ISO.out,rfl,fun h=>absurd h (by decide),hB⟩
   ·skip
    have e20:(r==20)=false:=by rw [beq_eq_false_iff_ne];exact h20
    have HA:allE m n=aiE l n∧allS m n=aiS l n∧allG m n=aiG l n:=by
     by_cases h0:aiE l n=0
     ·obtain ⟨a1,a2,a3,_⟩:=step_all RT.out ISO.out h0;exact ⟨a1.trans h0.symm,a2,a3⟩
     ·obtain ⟨b1,b2,b3,_⟩:=step_all_no RT.out ISO.out h0;obtain ⟨c1,c2,c3⟩:=b3 (by rw [←hr];exact h20)
      exact ⟨c1,c2.trans b1.symm,c3.trans b2.symm⟩
    have T2:=hD (Alloc20_u (.slice tA tn tc) (.slice oA on oc) (.slice sA sn sc) m n M r s1 s2 hM (by rw [hr];exact HA.1.symm) (by rw [hs1];exact HA.2.1.symm) (by rw [hs2];exact HA.2.2.symm))
    have HS:=hD (show r=0→Stp l E M∧(0<s2→0≤s1∧s1<16) from fun h0=>⟨by rw [hE,hM];exact (step_all RT.out ISO.out (by rw [←hr];exact h0)).2.2.2,fun _=>by rw [hs1];exact aiS_rng RT.out _⟩)
    clear hr hE hs1 hs2 hM HA q1 q2 q3 q4 h20;have c_5:=F.g5.cell;have c_7:=F.g7.cell;have c_12:=F.g12.cell;unfold hnA at c_12;have c_16:=F.g16.cell;have f_16:=F.g16.free;unfold hnA at c_16;dsimp only at c_16;go_wp2_with fail;refine (T1.out _ (H.out.below F.B)).mono ?_;rintro e wb ⟨y,rfl,oy,b⟩
    have oy:=own_mono oy F.B.size;have F1:=F.below b;have HF1:=hD (And.intro (F1.set16 (s1,s2)) ((St.ent w.heap.size y E).set2 (s1,s2) F1.g16 oy))
    clear F c_5 c_7 c_12 c_16 f_16 b;have c_16:=F1.g16.cell;have f_16:=F1.g16.free;unfold hnA at c_16;dsimp only at c_16;clear F1 oy;go_upto_region 11 with (fail)
    refine wp_gen (fun V=>Fm w V P #[.slice tA tn tc,.slice oA on oc,.slice sA sn sc] #[.int .i64 0,.int .i64 a,.int .i64 b,.int .i64 n,.int .u64 x.toNat] h1 h2 (.slice none 0 0,.slice none 0 0,.slice none 0 0) (s1,s2) (0,0) (fun _=>True)∧OwnE V w.heap.size y E) HF1.out ?_;clear HF1 c_16 f_16;rintro wv ⟨F1,oy⟩
    have c_5:=F1.g5.cell;have c_7:=F1.g7.cell;have c_12:=F1.g12.cell;unfold hnA at c_12;go_wp2_with fail;refine (T2.out _ (HM.out.below F1.B)).mono ?_;rintro e wc ⟨t',o',s',rfl,hm',om',b2⟩
    have om':=fun e=>(om' e).mono F1.B.size;have F2:=F1.below b2;have oy2:OwnE wc w.heap.size y E:=OwnE.below oy b2;obtain ⟨⟨t1,t2,t3,rfl⟩,⟨o1,o2,o3,rfl⟩,⟨z1,z2,z3,rfl⟩⟩:=mod_forms hm';have HW:=hD (Way.fin2 HS.out F2 oy2 om')
    have c_15:=F2.g15.cell;have f_15:=F2.g15.free;have n17:P.p17≠P.p15:=by have:=F2.ok.old;omega
    have c_17:=(F2.g17.far3m n17 (.slice t1 t2 t3) (.slice o1 o2 o3) (.slice z1 z2 z3)).cell;have f_17:=(F2.g17.far3m n17 (.slice t1 t2 t3) (.slice o1 o2 o3) (.slice z1 z2 z3)).free;unfold hnA at c_17;unfold set3m at c_17 f_17;dsimp only at c_17;clear c_5 c_7 c_12 F1 F2 oy oy2 b2 om' hm' HS T1 T2;go_wp2
    go_meet
    case rel=>exact ⟨r,rfl,rfl,HW⟩
  have f0:(op==0)=false:=by rw [beq_eq_false_iff_ne];exact q0
  have f1:(op==1)=false:=by rw [beq_eq_false_iff_ne];exact q1
  have f2:(op==2)=false:=by rw [beq_eq_false_iff_ne];exact q2
  have f3:(op==3)=false:=by rw [beq_eq_false_iff_ne];exact q3
  have f4:(op==4)=false:=by rw [beq_eq_false_iff_ne];exact q4
  obtain ⟨r,hr⟩:=exq (oiE l h1.1 h1.2 n)
  obtain ⟨E,hE⟩:=exq (oiL l h1.1 h1.2 n)
  obtain ⟨s1,hs1⟩:=exq (oiS l h1.1 h1.2 n)
  obtain ⟨s2,hs2⟩:=exq (oiG l h1.1 h1.2 n)
  obtain ⟨M,hM⟩:=exq (rootM m h1.1 h1.2 n)
  have T1:=hD (Root24_any v l h1.1 h1.2 n E s1 s2 r hE hs1 hs2 hr)
  have RE:=step_rootE RT.out ISO.out h1.1 h1.2 n;have T2:=hD (Root20_u (.slice tA tn tc) (.slice oA on oc) (.slice sA sn sc) m h1.1 h1.2 n M r s1 s2 hM (by rw [hr];exact RE.1) (by rw [hs1];exact RE.2.1) (by rw [hs2];exact RE.2.2))
  have HS:=hD (show r=0→Stp l E M∧(0<s2→0≤s1∧s1<16) from fun h0=>⟨by rw [hE,hM];exact step_root RT.out ISO.out (by rw [←hr];exact h0),fun _=>by rw [hs1];exact oiS_rng RT.out _ _ _⟩)
  clear hr hE hs1 hs2 hM RE q0 q1 q2 q3 q4;have c_5:=F.g5.cell;have c_7:=F.g7.cell;have c_12:=F.g12.cell;unfold hnA at c_12;have c_16:=F.g16.cell;have f_16:=F.g16.free;unfold hnA at c_16;dsimp only at c_16;go_wp2_with fail;refine (T1.out _ (H.out.below F.B)).mono ?_;rintro e wb ⟨y,rfl,oy,b⟩
  have oy:=own_mono oy F.B.size;have F1:=F.below b;have HF1:=hD (And.intro (F1.set16 (s1,s2)) ((St.ent w.heap.size y E).set2 (s1,s2) F1.g16 oy))
  clear F c_5 c_7 c_12 c_16 f_16 b;have c_16:=F1.g16.cell;have f_16:=F1.g16.free;unfold hnA at c_16;dsimp only at c_16;clear F1 oy;go_upto_region 8 with (fail)
  refine wp_gen (fun V=>Fm w V P #[.slice tA tn tc,.slice oA on oc,.slice sA sn sc] #[.int .i64 op,.int .i64 a,.int .i64 b,.int .i64 n,.int .u64 x.toNat] h1 h2 (.slice none 0 0,.slice none 0 0,.slice none 0 0) (s1,s2) (0,0) (fun _=>True)∧OwnE V w.heap.size y E) HF1.out ?_;clear HF1 c_16 f_16;rintro wv ⟨F1,oy⟩
  have c_5:=F1.g5.cell;have c_7:=F1.g7.cell;have c_12:=F1.g12.cell;unfold hnA at c_12;go_wp2_with fail;refine (T2.out _ (HM.out.below F1.B)).mono ?_;rintro e wc ⟨t',o',s',rfl,hm',om',b2⟩
  have om':=fun e=>(om' e).mono F1.B.size;have F2:=F1.below b2;have oy2:OwnE wc w.heap.size y E:=OwnE.below oy b2;obtain ⟨⟨t1,t2,t3,rfl⟩,⟨o1,o2,o3,rfl⟩,⟨z1,z2,z3,rfl⟩⟩:=mod_forms hm';have HW:=hD (Way.fin2 HS.out F2 oy2 om')
  have c_15:=F2.g15.cell;have f_15:=F2.g15.free;have n17:P.p17≠P.p15:=by have:=F2.ok.old;omega
  have c_17:=(F2.g17.far3m n17 (.slice t1 t2 t3) (.slice o1 o2 o3) (.slice z1 z2 z3)).cell;have f_17:=(F2.g17.far3m n17 (.slice t1 t2 t3) (.slice o1 o2 o3) (.slice z1 z2 z3)).free;unfold hnA at c_17;unfold set3m at c_17 f_17;dsimp only at c_17;clear c_5 c_7 c_12 F1 F2 oy oy2 b2 om' hm' HS T1 T2;go_wp2
  go_meet
  case rel=>exact ⟨r,rfl,rfl,HW⟩
 case rest=>
  obtain ⟨r,rfl,rfl,hw⟩:=hcut;obtain ⟨E,M,⟨nv1,nv2,nv3⟩,⟨s1,s2⟩,hs,F⟩:=hw.out;have HST:=hD hs;dsimp only at F;clear hw hs;obtain ⟨x2,hx2⟩:=exq (giV l h1.1 h1.2 n)
  obtain ⟨g2,hg2⟩:=exq (giE l h1.1 h1.2 n)
  obtain ⟨q2,hq2⟩:=exq (rightErr m.slots h1.1 h1.2)
  obtain ⟨bb,hbb⟩:=exq (g2==28)
  have e28:(g2==28)=bb:=hbb.symm;have eq2:(q2 != 0)=bb:=by
   have:=step_stale RT.out ISO.out (a:=h1.1) (g:=h1.2) (n:=n) HK1.out;rw [←hg2,←hq2] at this;rw [hbb]
   by_cases h:g2=28
   ·rw [beq_iff_eq.2 h,bne_iff_ne];exact this.1 h
   ·rw [beq_eq_false_iff_ne.2 h,bne_eq_false_iff_eq]
    by_cases h9:q2=0
    ·exact h9
    ·exact absurd (this.2 h9) h
  have T3:=hD (Get24_any v l h1.1 h1.2 n x2 g2 hx2 hg2)
  have T4:=hD (Get20_any (.slice tA tn tc) (.slice oA on oc) (.slice sA sn sc) m h1.1 h1.2 n x2 g2 (by rw [hx2];exact step_getV RT.out ISO.out _ _ _) (by rw [hg2];exact step_getE RT.out ISO.out _ _ _))
  have T5:=hD (RightR_any (.slice sA sn sc) m.slots h1.1 h1.2 q2 hq2)
  have b1:(g2 != g2)=false:=by simp
  have b2:(x2.toNat != x2.toNat)=false:=by simp
  have b3:(bb != bb)=false:=by simp
  have b4:(r != r)=false:=by simp
  clear hx2 hg2 hq2 hbb HF0;have c_5:=F.g5.cell;have c_7:=F.g7.cell;have c_12:=F.g12.cell;have c_16:=F.g16.cell;have c_17:=F.g17.cell;unfold hnA at c_12 c_16 c_17;dsimp only at c_16 c_17;go_wp2_with fail;refine (T3.out _ (H.out.below F.B)).mono ?_;rintro e w3 ⟨rfl,bx⟩
  replace F:=F.below bx;clear c_5 c_7 c_12 c_16 c_17 bx;have c_5:=F.g5.cell;have c_7:=F.g7.cell;have c_12:=F.g12.cell;unfold hnA at c_12;go_wp2_with fail;refine (T4.out _ (HM.out.below F.B)).mono ?_;rintro e w4 ⟨rfl,bx⟩
  replace F:=F.below bx;clear c_5 c_7 c_12 bx;have c_5:=F.g5.cell;have c_7:=F.g7.cell;have c_12:=F.g12.cell;unfold hnA at c_12;go_wp2_with fail;refine (T5.out _ (HM.out.below F.B).s).mono ?_;rintro e w5 ⟨rfl,bx⟩
  replace F:=F.below bx;clear c_5 c_7 c_12 bx T3 T4 T5;by_cases h0:r=0
  ·skip
   subst h0;obtain ⟨⟨t1,t2,t3,rfl⟩,⟨o1,o2,o3,rfl⟩,⟨z1,z2,z3,rfl⟩⟩:=mod_forms (F.r.2 rfl).rd;obtain ⟨stp,hsr⟩:=HST.out rfl;replace F:=F.to (S:=fun V=>OwnE V w.heap.size u14 E∧OwnM V w.heap.size 37 (.slice t1 t2 t3) (.slice o1 o2 o3) (.slice z1 z2 z3) M) ((St.ent _ _ _).and (St.model _ _ _ _ _)) (fun h=>⟨h.1,h.2 rfl⟩)
   have FQ:=F.below ((Below.refl _ w5).drew)
   have STR:=F.str;dsimp only at FQ STR;have FQr:=FQ.rr;dsimp only at FQr;have START:FSt w.heap.size w (fun V=>Bx V P.p5 31 #[.slice tA tn tc,.slice oA on oc,.slice sA sn sc]∧Bx V P.p7 44 #[.int .i64 op,.int .i64 a,.int .i64 b,.int .i64 n,.int .u64 x.toNat]∧Bx V P.p15 31 #[.slice t1 t2 t3,.slice o1 o2 o3,.slice z1 z2 z3]∧Bx V P.p16 39 (hnA (s1,s2))∧OwnE V w.heap.size u14 E∧OwnM V w.heap.size 37 (.slice t1 t2 t3) (.slice o1 o2 o3) (.slice z1 z2 z3) M) P.p9 P.p10 (.slice t1 t2 t3) (.slice o1 o2 o3) (.slice z1 z2 z3) (s1,s2) 9 10 (fun _=>false) w5.drew:=⟨FQ.B,FQr,FQ.g9,FQ.g10⟩
   have ORD:=hD stp.ord;have HSTP:=hD stp;have HSR:=hD hsr;clear F FQ FQr stp hsr HST;go_upto_region 34 with (fail)
   refine wp_region_sg (Rg:=fun g V=>OwnW V w.heap.size 42 g (made l E)) 35 36 #[v,u14] #[v,u14,.int .i64 12] STR (fun g=>(St.words _ _ _).str STR) (by kernel_rfl) (by kernel_rfl) (by kernel_rfl) (by kernel_rfl) START (fun W hB hR=>?_) (fun W hB hR=>?_) ?_
   ·refine (Made_any v u14 l E (by have:=RT.out.sz.2.1;omega) W (H.out.below hB) hR.2.2.2.2.1.rd).mono ?_;rintro e W' ⟨y,rfl,k1,k2⟩
    exact ⟨y,rfl,own_mono k1 hB.size,k2⟩
   ·exact Ordered_any v u14 l E ORD.out.rng ORD.out.inc ORD.out.few W (H.out.below hB) hR.2.2.2.2.1.rd
   intro g;have DP:=(FSg.dep (b0:=w.heap.size) (w0:=w) (R:=(fun V=>Bx V P.p5 31 #[.slice tA tn tc,.slice oA on oc,.slice sA sn sc]∧Bx V P.p7 44 #[.int .i64 op,.int .i64 a,.int .i64 b,.int .i64 n,.int .u64 x.toNat]∧Bx V P.p15 31 #[.slice t1 t2 t3,.slice o1 o2 o3,.slice z1 z2 z3]∧Bx V P.p16 39 (hnA (s1,s2))∧OwnE V w.heap.size u14 E∧OwnM V w.heap.size 37 (.slice t1 t2 t3) (.slice o1 o2 o3) (.slice z1 z2 z3) M)) (p9:=P.p9) (p10:=P.p10) (t:=.slice t1 t2 t3) (o:=.slice o1 o2 o3) (s:=.slice z1 z2 z3) (h:=(s1,s2)) (Rg:=fun g V=>OwnW V w.heap.size 42 g (made l E)) (k:=2) (a:=9) (b:=10) (g:=g)).more (ks:=[2,7,9,10]) (by simp)
   haveI:Nonempty (FXN (FSg w.heap.size w (fun V=>Bx V P.p5 31 #[.slice tA tn tc,.slice oA on oc,.slice sA sn sc]∧Bx V P.p7 44 #[.int .i64 op,.int .i64 a,.int .i64 b,.int .i64 n,.int .u64 x.toNat]∧Bx V P.p15 31 #[.slice t1 t2 t3,.slice o1 o2 o3,.slice z1 z2 z3]∧Bx V P.p16 39 (hnA (s1,s2))∧OwnE V w.heap.size u14 E∧OwnM V w.heap.size 37 (.slice t1 t2 t3) (.slice o1 o2 o3) (.slice z1 z2 z3) M) P.p9 P.p10 (.slice t1 t2 t3) (.slice o1 o2 o3) (.slice z1 z2 z3) (s1,s2) (fun g V=>OwnW V w.heap.size 42 g (made l E)) 2 9 10 g)):=⟨⟨_,_,⟨START,fun e=>(by cases e)⟩⟩⟩
   have c15:=fun y:FXN (FSg w.heap.size w (fun V=>Bx V P.p5 31 #[.slice tA tn tc,.slice oA on oc,.slice sA sn sc]∧Bx V P.p7 44 #[.int .i64 op,.int .i64 a,.int .i64 b,.int .i64 n,.int .u64 x.toNat]∧Bx V P.p15 31 #[.slice t1 t2 t3,.slice o1 o2 o3,.slice z1 z2 z3]∧Bx V P.p16 39 (hnA (s1,s2))∧OwnE V w.heap.size u14 E∧OwnM V w.heap.size 37 (.slice t1 t2 t3) (.slice o1 o2 o3) (.slice z1 z2 z3) M) P.p9 P.p10 (.slice t1 t2 t3) (.slice o1 o2 o3) (.slice z1 z2 z3) (s1,s2) (fun g V=>OwnW V w.heap.size 42 g (made l E)) 2 9 10 g)=>y.sg.2.2.1.cell;have c16:∀(y:FXN (FSg w.heap.size w (fun V=>Bx V P.p5 31 #[.slice tA tn tc,.slice oA on oc,.slice sA sn sc]∧Bx V P.p7 44 #[.int .i64 op,.int .i64 a,.int .i64 b,.int .i64 n,.int .u64 x.toNat]∧Bx V P.p15 31 #[.slice t1 t2 t3,.slice o1 o2 o3,.slice z1 z2 z3]∧Bx V P.p16 39 (hnA (s1,s2))∧OwnE V w.heap.size u14 E∧OwnM V w.heap.size 37 (.slice t1 t2 t3) (.slice o1 o2 o3) (.slice z1 z2 z3) M) P.p9 P.p10 (.slice t1 t2 t3) (.slice o1 o2 o3) (.slice z1 z2 z3) (s1,s2) (fun g V=>OwnW V w.heap.size 42 g (made l E)) 2 9 10 g)) (i:Nat),y.W.cell? ⟨P.p16,i,none⟩=(#[.int .i64 s1,.int .i64 s2]:Array Value)[i]?:=fun y=>y.sg.2.2.2.1.cell;clear START;iterate 2 (refine wpM_read DP rfl (by decide) (by decide) ?_;go_big_quiet_step (fail);refine wpQuiet_nil ?_)
   refine wpM_new (by decide) rfl (by show THg _ _ _ _ 2 _;unfold THg;rw [if_pos rfl];intro W;simp [execOp,resolve,invoke,Act.eval,go_sem]) ?_;simp only [Act.put,List.setIfInBounds_toArray,List.set_cons_zero,List.set_cons_succ]
   rw [show valSg g 2=g from rfl]
   iterate 4 (refine wpM_read DP rfl (by decide) (by decide) ?_;go_big_quiet_step (fail);refine wpQuiet_nil ?_)
   refine wpM_new (by decide) rfl (by show THg _ _ _ _ 7 _;unfold THg;rw [if_neg (by decide)];intro W;simp [execOp,resolve,invoke,Act.eval,go_sem]) ?_;simp only [Act.put,List.setIfInBounds_toArray,List.set_cons_zero,List.set_cons_succ]
   rw [show valSg g 7=.bool true from rfl]
   refine wpM_read DP rfl (by decide) (by decide) ?_;go_big_quiet_step (fail);refine wpQuiet_nil ?_
   refine wpM_store DP (by decide) rfl 31 (.tmp 9) (.tmp 202) rfl (by rfl) (p:=.pointer (some ⟨P.p9,0,none⟩)) (u:=.agg #[.slice t1 t2 t3,.slice o1 o2 o3,.slice z1 z2 z3]) (by rfl) (by rfl) [] rfl (fun f W hF h0 _=>?_) ?_
   ·obtain ⟨k1,k2,k3⟩:=hF.store9 STR (fun g=>(St.words _ _ _).str STR) (by decide) (by decide) h0;refine ⟨_,?_,k3⟩
    simp [go_sem,k1,k2,zeroM,set3m]
   simp only [Act.put,List.setIfInBounds_toArray,List.set_cons_zero,List.set_cons_succ]
   refine wpM_store DP (by decide) rfl 39 (.tmp 10) (.tmp 203) rfl (by rfl) (p:=.pointer (some ⟨P.p10,0,none⟩)) (u:=.agg #[.int .i64 s1,.int .i64 s2]) (by rfl) (by rfl) [] rfl (fun f W hF h0 _=>?_) ?_
   ·obtain ⟨k1,k2,k3⟩:=hF.store10 STR (fun g=>(St.words _ _ _).str STR) (by decide) (by decide) h0;refine ⟨_,?_,k3⟩
    simp [go_sem,k1,k2,zeroH,set2]
   simp only [Act.put,List.setIfInBounds_toArray,List.set_cons_zero,List.set_cons_succ]
   refine wpM_read DP rfl (by decide) (by decide) ?_;go_big_quiet_step (fail);refine wpQuiet_nil ?_
   refine wpM_nil ?_;intro wy hF;obtain ⟨⟨hB,hR,g9,g10⟩,hW⟩:=hF;replace hW:=hW rfl;replace g9:Bx wy P.p9 31 #[.slice t1 t2 t3,.slice o1 o2 o3,.slice z1 z2 z3]:=g9;replace g10:Bx wy P.p10 39 #[.int .i64 s1,.int .i64 s2]:=g10;have HR:=hD (And.intro hR.2.2.2.2.2 (And.intro hW hB))
   have c_9:=g9.cell;have c_10:=g10.cell;clear c15 c16 this STR DP g9 g10 hR hW hB;go_wp2;refine bodyPost_ret (v:=.tuple #[g,.agg #[.slice t1 t2 t3,.slice o1 o2 o3,.slice z1 z2 z3],.agg #[.int .i64 s1,.int .i64 s2],.bool true]) (by simp [results,Tryz.results8,go_sem,c_9,c_10]) rfl ?_;obtain ⟨f',hf'⟩:=HSTP.out.iso;exact ⟨_,_,_,_,made l E,M,f',s1,s2,rfl,.inl ⟨HR.out.2.1,HR.out.1⟩,HSTP.out.rt,hf',made_len l E,HSR.out,HR.out.2.2⟩
  ·skip
   replace F:=F.to (S:=fun _=>True) St.triv (fun _=>trivial)
   have FQ:=F.below ((Below.refl _ w5).drew)
   have STR:=F.str;dsimp only at FQ STR;have FQr:=FQ.rr;dsimp only at FQr;have n0:(r != 0)=true:=by rw [bne_iff_ne];exact h0
   have START:FSt w.heap.size w (fun V=>Bx V P.p5 31 #[.slice tA tn tc,.slice oA on oc,.slice sA sn sc]∧Bx V P.p7 44 #[.int .i64 op,.int .i64 a,.int .i64 b,.int .i64 n,.int .u64 x.toNat]∧Bx V P.p15 31 #[nv1,nv2,nv3]∧Bx V P.p16 39 (hnA (s1,s2))∧True) P.p9 P.p10 (.slice tA tn tc) (.slice oA on oc) (.slice sA sn sc) (0,0) 4 5 (fun _=>false) w5.drew:=⟨FQ.B,FQr,FQ.g9,FQ.g10⟩
   clear F FQ FQr HST h0;go_upto_region 33 with (fail)
   refine wp_region_N _ [4,5] FSt.dep (by kernel_rfl) (by kernel_rfl) (by kernel_rfl) START ?_
   haveI:Nonempty (FXN (FSt w.heap.size w (fun V=>Bx V P.p5 31 #[.slice tA tn tc,.slice oA on oc,.slice sA sn sc]∧Bx V P.p7 44 #[.int .i64 op,.int .i64 a,.int .i64 b,.int .i64 n,.int .u64 x.toNat]∧Bx V P.p15 31 #[nv1,nv2,nv3]∧Bx V P.p16 39 (hnA (s1,s2))∧True) P.p9 P.p10 (.slice tA tn tc) (.slice oA on oc) (.slice sA sn sc) (0,0) 4 5)):=⟨⟨_,_,START⟩⟩
   have c5:=fun y:FXN (FSt w.heap.size w (fun V=>Bx V P.p5 31 #[.slice tA tn tc,.slice oA on oc,.slice sA sn sc]∧Bx V P.p7 44 #[.int .i64 op,.int .i64 a,.int .i64 b,.int .i64 n,.int .u64 x.toNat]∧Bx V P.p15 31 #[nv1,nv2,nv3]∧Bx V P.p16 39 (hnA (s1,s2))∧True) P.p9 P.p10 (.slice tA tn tc) (.slice oA on oc) (.slice sA sn sc) (0,0) 4 5)=>y.st.1.cell;clear START;iterate 2 (refine wpN_read FSt.dep rfl (by decide) ?_;go_big_quiet_step (fail);refine wpQuiet_nil ?_)
   refine wpN_step FSt.dep rfl (by rfl) (v:=.agg #[.int .i64 0,.int .i64 0]) [] rfl (fun f W hF h0 _=>⟨W,by simp [execOp,go_sem],FSt.flag (by decide) (by decide) hF⟩) ?_;simp only [Act.put,List.setIfInBounds_toArray,List.set_cons_zero,List.set_cons_succ]
   refine wpN_read FSt.dep rfl (by decide) ?_;go_big_quiet_step (fail);refine wpQuiet_nil ?_
   refine wpN_storeD FSt.dep rfl 31 (.tmp 9) (.tmp 197) rfl (by rfl) (p:=.pointer (some ⟨P.p9,0,none⟩)) (u:=.agg #[.slice tA tn tc,.slice oA on oc,.slice sA sn sc]) (by rfl) (by rfl) [] rfl (fun f W hF h0 _=>?_) ?_
   ·obtain ⟨k1,k2,k3⟩:=hF.store9 STR (by decide) h0;refine ⟨_,?_,k3⟩
    simp [go_sem,k1,k2,zeroM,set3m]
   simp only [Act.put,List.setIfInBounds_toArray,List.set_cons_zero,List.set_cons_succ]
   refine wpN_storeD FSt.dep rfl 39 (.tmp 10) (.tmp 198) rfl (by rfl) (p:=.pointer (some ⟨P.p10,0,none⟩)) (u:=.agg #[.int .i64 0,.int .i64 0]) (by rfl) (by rfl) [] rfl (fun f W hF h0 _=>?_) ?_
   ·obtain ⟨k1,k2,k3⟩:=hF.store10 STR (by decide) h0;refine ⟨_,?_,k3⟩
    simp [go_sem,k1,k2,zeroH,set2]
   simp only [Act.put,List.setIfInBounds_toArray,List.set_cons_zero,List.set_cons_succ]
   refine wpN_read FSt.dep rfl (by decide) ?_;go_big_quiet_step (fail);refine wpQuiet_nil ?_
   show ∀w',_→_;intro wy hF;obtain ⟨hB,_,g9,g10⟩:=hF;replace g9:Bx wy P.p9 31 #[.slice tA tn tc,.slice oA on oc,.slice sA sn sc]:=g9;replace g10:Bx wy P.p10 39 #[.int .i64 0,.int .i64 0]:=g10;have c_9:=g9.cell;have c_10:=g10.cell;clear c5 this STR g9 g10;go_wp2;refine bodyPost_ret (v:=.tuple #[v,.agg #[.slice tA tn tc,.slice oA on oc,.slice sA sn sc],.agg #[.int .i64 0,.int .i64 0],.bool true]) (by simp [results,Tryz.results8,go_sem,c_9,c_10]) rfl ?_;exact ⟨_,_,_,_,l,m,fm,0,0,rfl,.inr ⟨rfl,rfl,rfl,rfl,rfl,rfl⟩,RT.out,ISO.out,rfl,fun h=>absurd h (by decide),hB⟩
end
section
open Go.RowKit L02 L07 L13 L14 L15 L16 L18 L19 L20
structure GC where
 y:Value
 tA:Option Addr
 tn:Nat
 tc:Nat
 oA:Option Addr
 on:Nat
 oc:Nat
 sA:Option Addr
 sn:Nat
 sc:Nat
 c1:Int
 c2:Int
def GC.m (g:GC):Value×Value×Value:=(.slice g.tA g.tn g.tc,.slice g.oA g.on g.oc,.slice g.sA g.sn g.sc)
def GC.v (g:GC):Value:=.tuple #[g.y,.agg #[.slice g.tA g.tn g.tc,.slice g.oA g.on g.oc,.slice g.sA g.sn g.sc],.agg #[.int .i64 g.c1,.int .i64 g.c2],.bool true]
def FTC (w:World) (Rg:GC→World→Prop) (g:GC×Nat×Nat) (φ:Nat→Bool) (W:World):Prop:=
 Below w.heap.size w W∧(φ 7=true→Rg g.1 W)∧(φ 16=true→φ 13=true∧φ 7=true)∧(φ 17=true→φ 14=true∧φ 7=true)∧(φ 13=true→w.heap.size≤g.2.1∧Bx W g.2.1 31 (if φ 16=true then #[g.1.m.1,g.1.m.2.1,g.1.m.2.2] else zeroM))∧
  (φ 14=true→w.heap.size≤g.2.2∧Bx W g.2.2 39 (if φ 17=true then hnA (g.1.c1,g.1.c2) else zeroH))∧(φ 13=true→φ 14=true→g.2.1≠g.2.2)
def valTC (g:GC×Nat×Nat) (k:Nat):Value:=if k=7 then g.1.v else if k=13 then .pointer (some ⟨g.2.1,0,none⟩) else .pointer (some ⟨g.2.2,0,none⟩)
def AgTC (φ:Nat→Bool) (g g':GC×Nat×Nat):Prop:=(φ 7=true∨φ 16=true∨φ 17=true→g.1=g'.1)∧(φ 13=true→g.2.1=g'.2.1)∧(φ 14=true→g.2.2=g'.2.2)
def TTC (f:FuncId) (av:Array Value) (k:Nat) (s:Sem Next):Prop:=if k=7 then ∀W,s.run Tryz.prog W=.ok (.enter f av) W else if k=13 then ∀W,s.run Tryz.prog W=.ok (.value (.pointer (some ⟨W.heap.size,0,none⟩))) (W.alloc (.cells zeroM 31)) else ∀W,s.run Tryz.prog W=.ok (.value (.pointer (some ⟨W.heap.size,0,none⟩))) (W.alloc (.cells zeroH 39))
section
variable {w:World} {Rg:GC→World→Prop} {g g':GC×Nat×Nat} {φ:Nat→Bool} {W W':World}
theorem FTC.dep:Dep (FTC w Rg g) [7,13,14,16,17]:=by
 rintro φ ψ W h ⟨h1,h2,h3,h4,h5,h6,h7⟩
 have e1:=h 7 (by simp);have e2:=h 13 (by simp);have e3:=h 14 (by simp);have e4:=h 16 (by simp);have e5:=h 17 (by simp)
 rw [e1] at h2;rw [e4,e2,e1] at h3;rw [e5,e3,e1] at h4;rw [e2,e4] at h5;rw [e3,e5] at h6;rw [e2,e3] at h7;exact ⟨h1,h2,h3,h4,h5,h6,h7⟩
theorem FTC.agree (hA:AgTC φ g g') (h:FTC w Rg g φ W):FTC w Rg g' φ W:=by
 obtain ⟨h1,h2,h3,h4,h5,h6,h7⟩:=h;refine ⟨h1,fun e=>by rw [←hA.1 (.inl e)];exact h2 e,h3,h4,fun e=>?_,fun e=>?_,fun e e2=>by rw [←hA.2.1 e,←hA.2.2 e2];exact h7 e e2⟩
 ·rw [←hA.2.1 e]
  by_cases e4:φ 16=true
  ·have:=h5 e;rw [if_pos e4] at this ⊢;rw [←hA.1 (.inr (.inl e4))];exact this
  ·have:=h5 e;rw [if_neg e4] at this ⊢;exact this
 ·rw [←hA.2.2 e]
  by_cases e4:φ 17=true
  ·have:=h6 e;rw [if_pos e4] at this ⊢;rw [←hA.1 (.inr (.inr e4))];exact this
  ·have:=h6 e;rw [if_neg e4] at this ⊢;exact this
theorem FTC.start:FTC w Rg g (fun _=>false) w.drew:=⟨(Below.refl _ w).drew,fun e=>(by cases e),fun e=>(by cases e),fun e=>(by cases e),fun e=>(by cases e),fun e=>(by cases e),fun e=>(by cases e)⟩
theorem FTC.below (hS:∀g,St (Rg g)) (h:FTC w Rg g φ W) (hb:Below W.heap.size W W'):FTC w Rg g φ W':=by
 obtain ⟨h1,h2,h3,h4,h5,h6,h7⟩:=h;exact ⟨h1.trans (hb.mono h1.size),fun e=>(hS _).below _ _ (h2 e) hb,h3,h4,fun e=>⟨(h5 e).1,(h5 e).2.below hb⟩,fun e=>⟨(h6 e).1,(h6 e).2.below hb⟩,h7⟩
theorem FTC.alloc1 (hS:∀g,St (Rg g)) (h:FTC w Rg g φ W) (h0:φ 13=false):FTC w Rg (g.1,W.heap.size,g.2.2) (fun j=>j==13 || φ j) (W.alloc (.cells zeroM 31)):=by
 obtain ⟨h1,h2,h3,h4,h5,h6,h7⟩:=h;have h16:φ 16=false:=by
  cases e:φ 16
  ·rfl
  ·rw [(h3 e).1] at h0;cases h0
 have hb:Below W.heap.size W (W.alloc (.cells zeroM 31)):=(Below.refl _ _).alloc (Nat.le_refl _) _;refine ⟨h1.alloc h1.size _,fun e=>(hS _).below _ _ (h2 (by simpa using e)) hb,fun e=>⟨by simp,by simpa using (h3 (by simpa using e)).2⟩,fun e=>by simpa using h4 (by simpa using e),fun _=>⟨h1.size,?_⟩,fun e=>?_,fun _ e=>?_⟩
 ·simp [h16];exact Bx.new _ _ _
 ·obtain ⟨a1,a2⟩:=h6 (by simpa using e)
  exact ⟨a1,by simpa using a2.alloc _⟩
 ·have:=(h6 (by simpa using e)).2.lt;show W.heap.size≠g.2.2;omega
theorem FTC.alloc2 (hS:∀g,St (Rg g)) (h:FTC w Rg g φ W) (h0:φ 14=false):FTC w Rg (g.1,g.2.1,W.heap.size) (fun j=>j==14 || φ j) (W.alloc (.cells zeroH 39)):=by
 obtain ⟨h1,h2,h3,h4,h5,h6,h7⟩:=h;have h16:φ 17=false:=by
  cases e:φ 17
  ·rfl
  ·rw [(h4 e).1] at h0;cases h0
 have hb:Below W.heap.size W (W.alloc (.cells zeroH 39)):=(Below.refl _ _).alloc (Nat.le_refl _) _;refine ⟨h1.alloc h1.size _,fun e=>(hS _).below _ _ (h2 (by simpa using e)) hb,fun e=>by simpa using h3 (by simpa using e),fun e=>⟨by simp,by simpa using (h4 (by simpa using e)).2⟩,fun e=>?_,fun _=>⟨h1.size,?_⟩,fun e _=>?_⟩
 ·obtain ⟨a1,a2⟩:=h5 (by simpa using e)
  exact ⟨a1,by simpa using a2.alloc _⟩
 ·simp [h16];exact Bx.new _ _ _
 ·have:=(h5 (by simpa using e)).2.lt;show g.2.1≠W.heap.size;omega
theorem FTC.store1 (hS:∀g,St (Rg g)) (h:FTC w Rg g φ W) (h8:φ 13=true) (h9:φ 7=true) (h0:φ 16=false):
  (∀i,W.cell? ⟨g.2.1,i,none⟩=zeroM[i]?)∧(∀i,W.frozen? ⟨g.2.1,i,none⟩=false)∧FTC w Rg g (fun j=>j==16 || φ j) (set3m W g.2.1 g.1.m.1 g.1.m.2.1 g.1.m.2.2):=by
 obtain ⟨h1,h2,h3,h4,h5,h6,h7⟩:=h;obtain ⟨a1,a2⟩:=h5 h8;rw [h0] at a2;have a3:Bx W g.2.1 31 zeroM:=a2;refine ⟨a3.cell,a3.free,below_set3m h1 a1 _ _ _,fun e=>(hS _).set3 _ _ _ a3 (h2 (by simpa using e)),fun _=>⟨by simpa using h8,by simpa using h9⟩,fun e=>by simpa using h4 (by simpa using e),fun _=>⟨a1,by simpa using Bx.put3 a3 g.1.m.1 g.1.m.2.1 g.1.m.2.2⟩,fun e=>?_,fun _ e=>h7 h8 (by simpa using e)⟩
 obtain ⟨c1,c2⟩:=h6 (by simpa using e)
 exact ⟨c1,by simpa using c2.far3m (Ne.symm (h7 h8 (by simpa using e))) _ _ _⟩
theorem FTC.store2 (hS:∀g,St (Rg g)) (h:FTC w Rg g φ W) (h8:φ 14=true) (h9:φ 7=true) (h0:φ 17=false):
  (∀i,W.cell? ⟨g.2.2,i,none⟩=zeroH[i]?)∧(∀i,W.frozen? ⟨g.2.2,i,none⟩=false)∧FTC w Rg g (fun j=>j==17 || φ j) (set2 W g.2.2 (g.1.c1,g.1.c2)):=by
 obtain ⟨h1,h2,h3,h4,h5,h6,h7⟩:=h;obtain ⟨a1,a2⟩:=h6 h8;rw [h0] at a2;have a3:Bx W g.2.2 39 zeroH:=a2;refine ⟨a3.cell,a3.free,below_set2 h1 a1 _,fun e=>(hS _).set2 _ a3 (h2 (by simpa using e)),fun e=>by simpa using h3 (by simpa using e),fun _=>⟨by simpa using h8,by simpa using h9⟩,fun e=>?_,fun _=>⟨a1,by simpa using Bx.put2 a3 (g.1.c1,g.1.c2)⟩,fun e _=>h7 (by simpa using e) h8⟩
 obtain ⟨c1,c2⟩:=h5 (by simpa using e)
 exact ⟨c1,by simpa using c2.far2 (h7 (by simpa using e) h8) _⟩
theorem FXN.belowTC (x:FXN (FTC w Rg g)):Below w.heap.size w x.W:=by obtain ⟨V,φ,hF⟩:=x;exact hF.1
end
theorem wp_region_TC {id:Nat} {Q:Exit→Act→World→Prop} {ac:Act} {w:World} {l:List Oper} (Rg:GC→World→Prop) (hS:∀g,St (Rg g)) (f:FuncId) (av:Array Value)
  (hm:(Tryz.prog).follows .mixedOrders=true) (hB:Region.lexB .any l.toArray=true)
  (hf:(([7,13,14,16,17]:List Nat).all fun j=>(setAll l.length 0 (Array.replicate l.length false)).getD j false)=true)
  (hnj:(([7,13,14]:List Nat).all fun k=>([7,13,14,16,17]:List Nat).contains k && match l.toArray[k]? with | some o=>(([]:List Nat)).all (fun j=>o.after.any fun e=>Region.binds .any e && e.on==j) | none=>false)=true)
  (hc:∀W,Below w.heap.size w W→Calls Tryz.prog f av W fun e W'=>∃g:GC,e=.returned g.v∧Rg g W'∧Below W.heap.size W W')
  (h:∀g,wpM Tryz.prog .any l.toArray (CN (FTC w Rg g)) (fun i=>([7,13,14]:List Nat).contains i) (valTC g) (TTC f av) (fun a'=>∀w',FTC w Rg g (fun _=>true) w'→Q .normal a' w') l 0 ac):(Code.region id l.toArray true).wp Tryz.prog Q ac w:=by
 refine wp_region_M (G:=GC×Nat×Nat) valTC AgTC (FTC w Rg) [7,13,14,16,17] [7,13,14] (fun _=>[]) (TTC f av) (⟨.bool false,none,0,0,none,0,0,none,0,0,0,0⟩,0,0) (fun g=>FTC.dep) hm hB hf hnj
  (fun φ ψ g g' he h=>⟨fun e=>h.1 (by rw [he 7 (by simp),he 16 (by simp),he 17 (by simp)];exact e),fun e=>h.2.1 (by rw [he 13 (by simp)];exact e),fun e=>h.2.2 (by rw [he 14 (by simp)];exact e)⟩) (fun φ g=>⟨fun _=>rfl,fun _=>rfl,fun _=>rfl⟩) (fun φ g g' g'' h1 h2=>⟨fun e=>(h1.1 e).trans (h2.1 e),fun e=>(h1.2.1 e).trans (h2.2.1 e),fun e=>(h1.2.2 e).trans (h2.2.2 e)⟩) (fun φ k g g' h hk=>⟨fun e=>h.1 (by rcases e with e | e | e <;> simp [e]),fun e=>h.2.1 (by simp [e]),fun e=>h.2.2 (by simp [e])⟩) ?_ (fun φ g g' W h hF=>FTC.agree h hF) (fun g=>⟨fun e=>(by rcases e with e | e | e <;> cases e),fun e=>(by cases e),fun e=>(by cases e)⟩) FTC.start ?_ h
 ·intro φ k g g' hk h0 hA;simp only [List.mem_cons,List.not_mem_nil,or_false] at hk;rcases hk with rfl | rfl | rfl
  ·have e:=hA.1 (by simp)
   simp [valTC,e]
  ·have e:=hA.2.1 (by simp)
   simp [valTC,e]
  ·have e:=hA.2.2 (by simp)
   simp [valTC,e]
 ·intro k s φ W g hk hT h0 _ hF;simp only [List.mem_cons,List.not_mem_nil,or_false] at hk;rcases hk with rfl | rfl | rfl
  ·have hT':∀W,s.run Tryz.prog W=.ok (.enter f av) W:=hT;rw [hT' W]
   refine (hc W hF.1).mono fun e W' ⟨q,e1,e2,e3⟩=>⟨_,e1,(q,g.2),⟨fun e=>?_,fun _=>rfl,fun _=>rfl⟩,rfl,?_⟩
   ·rcases e with e | e | e
    ·rw [h0] at e;cases e
    ·rw [(hF.2.2.1 e).2] at h0;cases h0
    ·rw [(hF.2.2.2.1 e).2] at h0;cases h0
   ·have hb:=hF.below hS e3;obtain ⟨k1,k2,k3,k4,k5,k6,k7⟩:=hb;have n16:φ 16=false:=by
     cases e:φ 16
     ·rfl
     ·rw [(k3 e).2] at h0;cases h0
    have n17:φ 17=false:=by
     cases e:φ 17
     ·rfl
     ·rw [(k4 e).2] at h0;cases h0
    rw [n16] at k5;rw [n17] at k6;refine ⟨k1,fun _=>e2,fun e=>?_,fun e=>?_,fun e=>?_,fun e=>?_,fun a b=>k7 (by simpa using a) (by simpa using b)⟩
    ·have:φ 16=true:=by simpa using e
     rw [n16] at this;cases this
    ·have:φ 17=true:=by simpa using e
     rw [n17] at this;cases this
    ·have:=k5 (by simpa using e)
     simpa [n16] using this
    ·have:=k6 (by simpa using e)
     simpa [n17] using this
  ·have hT':∀W,s.run Tryz.prog W=.ok (.value (.pointer (some ⟨W.heap.size,0,none⟩))) (W.alloc (.cells zeroM 31)):=hT;rw [hT' W]
   exact ⟨(g.1,W.heap.size,g.2.2),⟨fun _=>rfl,fun e=>(by rw [h0] at e;cases e),fun _=>rfl⟩,rfl,hF.alloc1 hS h0⟩
  ·have hT':∀W,s.run Tryz.prog W=.ok (.value (.pointer (some ⟨W.heap.size,0,none⟩))) (W.alloc (.cells zeroH 39)):=hT;rw [hT' W]
   exact ⟨(g.1,g.2.1,W.heap.size),⟨fun _=>rfl,fun _=>rfl,fun e=>(by rw [h0] at e;cases e)⟩,rfl,hF.alloc2 hS h0⟩
end
section
open Go.RowKit L01 L02 L05 L14 L15
theorem OwnW.at_ {w:World} {base:Nat} {v:Value} {l:List UInt64} (h:OwnW w base 42 v l) {k:Nat} (hk:k<l.length):
  ∃ad,(∀W,(Instr.indexAt 22 v (.int .i64 (k:Int))).run Tryz.prog W=.ok (.pointer (some ad)) W)∧w.cell? ad=some (.int .u64 (l.getD k 0).toNat)∧w.frozen? ad=false∧base≤ad.block∧v.ownBlock=some ad.block∧∀x:UInt64,OwnW (w.setCell ad (.int .u64 x.toNat)) base 42 v (l.set k x):=by
 obtain ⟨g,cap,cur,rfl,hB,hg,hnc,hcm,hcs,htake⟩:=own_form h (by omega)
 have hrd:=Rd.of_own h;have hix:=fun W=>Rd.ixN hrd Tryz.underlying22 one_u64 hk W;have hcell:=Rd.cell hrd (j:=k) (u:=.int .u64 (l.getD k 0).toNat) (by rw [List.getElem?_map,List.getElem?_eq_getElem hk,List.getD_eq_getElem?_getD,List.getElem?_eq_getElem hk];rfl)
 have e1:cellAt (.slice (some ⟨g,0,none⟩) l.length cap) (k*1)=⟨g,k,none⟩:=by simp [cellAt]
 have e2:cellAt (.slice (some ⟨g,0,none⟩) l.length cap) k=⟨g,k,none⟩:=by simp [cellAt]
 rw [e2] at hcell;exact ⟨⟨g,k,none⟩,fun W=>by rw [←e1];exact hix W,hcell,World.ownsRow.frozenAt h k,hB,rfl,fun x=>OwnW.set (World.ownsRow.stored h k _).1⟩
end
end Go.Proofs.YteejianjjpdimaaGreat
