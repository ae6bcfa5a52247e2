/- Contracts of the functions that the laws 'C' reach, part 12. No condition. -/
import Derived.Test.YteejianjjpdimaaMCk
set_option linter.unusedVariables false
set_option linter.unusedSimpArgs false
set_option maxRecDepth 100000
set_option maxHeartbeats 8000000
namespace Go.Proofs.Yteejianjjpdimaa
section
open Go.RowKit L02 L13 L18 L20
structure GA where
 a1:Option Addr
 n1:Nat
 c1:Nat
 a2:Option Addr
 n2:Nat
 c2:Nat
 a3:Option Addr
 n3:Nat
 c3:Nat
 p:Nat
def GA.m (g:GA):Value×Value×Value:=(.slice g.a1 g.n1 g.c1,.slice g.a2 g.n2 g.c2,.slice g.a3 g.n3 g.c3)
def valA (g:GA) (k:Nat):Value:=if k=1 then .agg #[.int .i64 0,.int .i64 1] else if k=2 then .tuple #[.agg #[.slice g.a1 g.n1 g.c1,.slice g.a2 g.n2 g.c2,.slice g.a3 g.n3 g.c3],.int .i64 0] else .pointer (some ⟨g.p,0,none⟩)
def AgA (φ:Nat→Bool) (g g':GA):Prop:=(φ 2=true→g.m=g'.m)∧(φ 6=true→g.p=g'.p)
def FA (w:World) (z:Nat) (g:GA) (φ:Nat→Bool) (W:World):Prop:=
 (Below w.heap.size w W∧z≤W.heap.size)∧(φ 2=true→OwnM W z 48 g.m.1 g.m.2.1 g.m.2.2 exN)∧(φ 7=true→φ 6=true∧φ 2=true)∧(φ 6=true→z≤g.p∧Bx W g.p 26 (if φ 7=true then #[g.m.1,g.m.2.1,g.m.2.2] else #[.slice none 0 0,.slice none 0 0,.slice none 0 0]))
theorem FA.dep {w:World} {z:Nat} {g:GA}:Dep (FA w z g) [1,2,6,7]:=by
 rintro φ ψ W h ⟨h1,h2,h3,h4⟩
 have e2:=h 2 (by simp);have e6:=h 6 (by simp);have e7:=h 7 (by simp)
 rw [e2] at h2;rw [e7,e6,e2] at h3;rw [e6,e7] at h4;exact ⟨h1,h2,h3,h4⟩
theorem FA.agree {w:World} {z:Nat} {g g':GA} {φ:Nat→Bool} {W:World} (hA:AgA φ g g') (h:FA w z g φ W):FA w z g' φ W:=by
 obtain ⟨h1,h2,h3,h4⟩:=h;refine ⟨h1,fun e=>by rw [←hA.1 e];exact h2 e,h3,fun e=>?_⟩
 rw [←hA.2 e]
 refine ⟨(h4 e).1,?_⟩
 have:=(h4 e).2;cases h7:φ 7
 ·rw [h7] at this;exact this
 ·rw [h7] at this;rw [←hA.1 (h3 h7).2];exact this
def TA (av:Array Value) (k:Nat) (s:Sem Next):Prop:=if k=1 then (∀W,s.run Try.prog W=.ok (.enter 17 #[.int .i64 0]) W) else if k=2 then (∀W,s.run Try.prog W=.ok (.enter 21 av) W) else ∀W,s.run Try.prog W=.ok (.value (.pointer (some ⟨W.heap.size,0,none⟩))) (W.alloc (.cells #[.slice none 0 0,.slice none 0 0,.slice none 0 0] 26))
theorem alive20_any (w:World):Calls Try.prog 5 #[] w fun e w'=>e=.returned (.bool true)∧Below w.heap.size w w':=by
 have B:=Below.refl w.heap.size w;have FRE:=hD (fun t o s w h=>Free20_any t o s exM 1 1 _ 45 rfl ex_free.symm w h)
 have DA:=hD (fun t o s w h=>Drop20_any t o s exM 1 1 exD 0 ex_d1.symm ex_a1.symm w h)
 have DB:=hD (fun t o s w h=>Drop20_own t o s exD 0 1 exN 0 ex_d2.symm ex_a2.symm ex_a2 w h)
 have CA:=hD (fun t o s w h=>Canon20_any t o s exD exD_chk _ exD_rs w h)
 have CB:=hD (fun t o s w h=>Canon20_any t o s exN exN_chk _ exN_rs w h)
 go_in;go_wp2_with fail;refine (example20_any _).mono ?_;rintro e wa1 ⟨t1,o1,s1,rfl,k1,b⟩
 replace B:=B.trans (b.mono B.size);clear b;go_wp2_with fail;refine (slot20_any 1 _).mono ?_;rintro e wa2 ⟨rfl,b⟩
 replace k1:=k1.below b;replace B:=B.trans (b.mono B.size);clear b;go_wp2_with fail;refine (FRE.out _ _ _ _ k1.rd).mono ?_;rintro e wa3 ⟨t2,o2,s2,rfl,k2,b⟩
 replace k1:=k1.below b;replace B:=B.trans (b.mono B.size);clear b;obtain ⟨⟨t2A,t2n,t2c,rfl⟩,⟨o2A,o2n,o2c,rfl⟩,⟨s2A,s2n,s2c,rfl⟩⟩:=k2.forms;clear k1;go_upto_region 2 with (fail)
 refine wpb1 (26) (#[.slice t2A t2n t2c,.slice o2A o2n o2c,.slice s2A s2n s2c]) ?_;rintro wa4 ⟨g1,b⟩
 replace B:=B.trans (b.mono B.size);clear b;replace c_g1:=g1.five;clear g1 c_g1;go_wp2_with fail;refine (example20_any _).mono ?_;rintro e wa5 ⟨t3,o3,s3,rfl,k3,b⟩
 replace B:=B.trans (b.mono B.size);clear b;go_wp2_with fail;refine (slot20_any 1 _).mono ?_;rintro e wa6 ⟨rfl,b⟩
 replace k3:=k3.below b;replace B:=B.trans (b.mono B.size);clear b;go_wp2_with fail;refine (DA.out _ _ _ _ k3.rd).mono ?_;rintro e wa7 ⟨t4,o4,s4,rfl,k4,b⟩
 replace k3:=k3.below b;replace B:=B.trans (b.mono B.size);clear b;obtain ⟨⟨t4A,t4n,t4c,rfl⟩,⟨o4A,o4n,o4c,rfl⟩,⟨s4A,s4n,s4c,rfl⟩⟩:=k4.forms;clear k3;go_upto_region 3 with (fail)
 refine wpb1 (26) (#[.slice t4A t4n t4c,.slice o4A o4n o4c,.slice s4A s4n s4c]) ?_;rintro wa8 ⟨g2,b⟩
 replace k4:=k4.below b;replace B:=B.trans (b.mono B.size);clear b;replace c_g2:=g2.five;go_wp2_with fail;refine (CA.out _ _ _ _ k4).mono ?_;rintro e wa9 ⟨t5,o5,s5,rfl,k5,b⟩
 replace k4:=k4.below b;replace g2:=g2.below b;replace c_g2:=g2.five;replace B:=B.trans (b.mono B.size);clear b;have l5:=k5.o.len;rw [exD_len] at l5;obtain ⟨⟨t5A,t5n,t5c,rfl⟩,⟨o5A,o5n,o5c,rfl⟩,⟨s5A,s5n,s5c,rfl⟩⟩:=k5.forms;clear k5;go_upto_region 4 with (fail)
 refine wpb1 (26) (#[.slice t5A t5n t5c,.slice o5A o5n o5c,.slice s5A s5n s5c]) ?_;rintro wa10 ⟨g3,b⟩
 replace k4:=k4.below b;replace g2:=g2.below b;replace c_g2:=g2.five;replace B:=B.trans (b.mono B.size);clear b;replace c_g3:=g3.five;have hz1:=B.size;have h2:=g2.lt;have h3:=g3.lt;refine wp_region_M (G:=GA) valA AgA (FA wa10 wa10.heap.size) [1,2,6,7] [1,2,6] (fun _=>[]) (TA #[.agg #[.slice t4A t4n t4c,.slice o4A o4n o4c,.slice s4A s4n s4c],.agg #[.int .i64 0,.int .i64 1]]) ⟨none,0,0,none,0,0,none,0,0,0⟩ (fun g=>FA.dep) (by kernel_rfl) (by kernel_rfl) (by kernel_rfl) (by kernel_rfl)
  (fun φ ψ g g' he h=>⟨fun e=>h.1 (by rw [he 2 (by simp)];exact e),fun e=>h.2 (by rw [he 6 (by simp)];exact e)⟩) (fun φ g=>⟨fun _=>rfl,fun _=>rfl⟩) (fun φ g g' g'' h1 h2=>⟨fun e=>(h1.1 e).trans (h2.1 e),fun e=>(h1.2 e).trans (h2.2 e)⟩) (fun φ k g g' h hk=>⟨fun e=>h.1 (by simp [e]),fun e=>h.2 (by simp [e])⟩) ?_ (fun φ g g' W h hF=>FA.agree h hF) (fun g=>⟨fun e=>(by cases e),fun e=>(by cases e)⟩) ⟨⟨(Below.refl _ wa10).drew,Nat.le_refl _⟩,fun e=>(by cases e),fun e=>(by cases e),fun e=>(by cases e)⟩ ?_ ?_
 ·intro φ k g g' hk h0 hA;simp only [List.mem_cons,List.not_mem_nil,or_false] at hk;rcases hk with rfl | rfl | rfl
  ·rfl
  ·have e:=hA.1 (by simp)
   simp only [GA.m,Prod.mk.injEq] at e;simp [valA,e.1,e.2.1,e.2.2]
  ·have e:=hA.2 (by simp)
   simp [valA,e]
 ·intro k s φ W g hk hT h0 _ hF;simp only [List.mem_cons,List.not_mem_nil,or_false] at hk;obtain ⟨⟨f0,fz⟩,f1,f2,f3⟩:=hF;have h7:k=2∨k=6→φ 7=false:=fun h=>by
   cases e:φ 7
   ·rfl
   ·obtain ⟨x1,x2⟩:=f2 e;rcases h with rfl | rfl
    ·rw [h0] at x2;cases x2
    ·rw [h0] at x1;cases x1
  rcases hk with rfl | rfl | rfl
  ·have hT':∀W,s.run Try.prog W=.ok (.enter 17 #[.int .i64 0]) W:=hT;rw [hT' W]
   refine (slot20_any 0 W).mono ?_;rintro e W' ⟨rfl,bb⟩
   refine ⟨_,rfl,g,⟨fun _=>rfl,fun _=>rfl⟩,rfl,⟨f0.trans (bb.mono f0.size),Nat.le_trans fz bb.size⟩,fun e=>(f1 (by simpa using e)).below bb,by simpa using f2,fun e=>?_⟩
   obtain ⟨x1,x2⟩:=f3 (by simpa using e)
   exact ⟨x1,by simpa using x2.below bb⟩
  ·have hT':∀W,s.run Try.prog W=.ok (.enter 21 #[.agg #[.slice t4A t4n t4c,.slice o4A o4n o4c,.slice s4A s4n s4c],.agg #[.int .i64 0,.int .i64 1]]) W:=hT;rw [hT' W]
   refine (DB.out _ _ _ W (k4.below f0)).mono ?_;rintro e W' ⟨t',o',s',rfl,om,bb⟩
   obtain ⟨⟨tA,tn,tc,rfl⟩,⟨oA,on,oc,rfl⟩,⟨sA,sn,sc,rfl⟩⟩:=om.rd.forms;refine ⟨_,rfl,⟨tA,tn,tc,oA,on,oc,sA,sn,sc,g.p⟩,⟨fun e=>(by rw [h0] at e;cases e),fun _=>rfl⟩,rfl,⟨f0.trans (bb.mono f0.size),Nat.le_trans fz bb.size⟩,fun e=>om.mono fz,by simp [h7 (.inl rfl)],fun e=>?_⟩
   obtain ⟨x1,x2⟩:=f3 (by simpa using e)
   have h77:=h7 (.inl rfl)
   rw [h77] at x2;refine ⟨x1,?_⟩
   have:(2==7 || φ 7)=false:=by rw [h77];rfl
   simp only [h77]
   exact x2.below bb
  ·have hT':∀W,s.run Try.prog W=.ok (.value (.pointer (some ⟨W.heap.size,0,none⟩))) (W.alloc (.cells #[.slice none 0 0,.slice none 0 0,.slice none 0 0] 26)):=hT;rw [hT' W]
   have bb:Below W.heap.size W (W.alloc (.cells #[.slice none 0 0,.slice none 0 0,.slice none 0 0] 26)):=(Below.refl _ _).alloc (Nat.le_refl _) _;refine ⟨⟨g.a1,g.n1,g.c1,g.a2,g.n2,g.c2,g.a3,g.n3,g.c3,W.heap.size⟩,⟨fun _=>rfl,fun e=>(by rw [h0] at e;cases e)⟩,rfl,⟨f0.trans (bb.mono f0.size),Nat.le_trans fz bb.size⟩,fun e=>(f1 (by simpa using e)).below bb,fun e=>?_,fun e=>⟨fz,?_⟩⟩
   ·have h77:=h7 (.inr rfl)
    simp [h77] at e
   ·have h77:=h7 (.inr rfl)
    simp only [h77]
    exact Bx.new _ _ _
 intro g;have c_2:=fun x:FXN (FA wa10 wa10.heap.size g)=>(by obtain ⟨V,φ,hF⟩:=x;exact (g2.below hF.1.1).cell:∀i,x.W.cell? ⟨wa7.heap.size,i,none⟩=(#[.slice t4A t4n t4c,.slice o4A o4n o4c,.slice s4A s4n s4c]:Array Value)[i]?)
 haveI:Nonempty (FXN (FA wa10 wa10.heap.size g)):=⟨⟨wa10.drew,fun _=>false,⟨⟨(Below.refl _ wa10).drew,Nat.le_refl _⟩,fun e=>(by cases e),fun e=>(by cases e),fun e=>(by cases e)⟩⟩⟩
 iterate 1 (refine wpM_read FA.dep rfl (by decide) (by decide) ?_;go_big_quiet_step (fail);refine wpQuiet_nil ?_)
 refine wpM_new (by decide) rfl (by show TA _ 1 _;unfold TA;rw [if_pos rfl];intro W;simp [execOp,resolve,invoke,Act.eval,go_sem]) ?_;simp only [Act.put,List.setIfInBounds_toArray,List.set_cons_zero,List.set_cons_succ]
 rw [show valA g 1=.agg #[.int .i64 0,.int .i64 1] from rfl]
 refine wpM_new (by decide) rfl (by show TA _ 2 _;unfold TA;rw [if_neg (by decide),if_pos rfl];intro W;simp [execOp,resolve,invoke,Act.eval,go_sem]) ?_;simp only [Act.put,List.setIfInBounds_toArray,List.set_cons_zero,List.set_cons_succ]
 rw [show valA g 2=.tuple #[.agg #[.slice g.a1 g.n1 g.c1,.slice g.a2 g.n2 g.c2,.slice g.a3 g.n3 g.c3],.int .i64 0] from rfl]
 iterate 3 (refine wpM_read FA.dep rfl (by decide) (by decide) ?_;go_big_quiet_step (fail);refine wpQuiet_nil ?_)
 refine wpM_new (by decide) rfl (by show TA _ 6 _;unfold TA;rw [if_neg (by decide),if_neg (by decide)];intro W;simp [execOp,go_sem]) ?_;simp only [Act.put,List.setIfInBounds_toArray,List.set_cons_zero,List.set_cons_succ]
 rw [show valA g 6=.pointer (some ⟨g.p,0,none⟩) from rfl]
 refine wpM_store FA.dep (by decide) rfl 26 (.tmp 7) (.tmp 32) rfl (by rfl) (p:=.pointer (some ⟨g.p,0,none⟩)) (u:=.agg #[.slice g.a1 g.n1 g.c1,.slice g.a2 g.n2 g.c2,.slice g.a3 g.n3 g.c3]) (by rfl) (by rfl) [6,2] (by kernel_rfl) (fun f W hF h0 h1=>?_) ?_
 ·have h6:=h1 6 (by simp);have h2:=h1 2 (by simp)
  obtain ⟨⟨f0,fz⟩,f1,f2,f3⟩:=hF;obtain ⟨x1,x2⟩:=f3 h6;rw [h0] at x2;have x3:Bx W g.p 26 #[.slice none 0 0,.slice none 0 0,.slice none 0 0]:=x2;have k0:=x3.cell;have kf:=x3.free;refine ⟨((W.setCell ⟨g.p,0,none⟩ (.slice g.a1 g.n1 g.c1)).setCell ⟨g.p,1,none⟩ (.slice g.a2 g.n2 g.c2)).setCell ⟨g.p,2,none⟩ (.slice g.a3 g.n3 g.c3),by simp [go_sem,k0,kf],⟨((f0.setCell (p:=⟨g.p,0,none⟩) x1 _).setCell (p:=⟨g.p,1,none⟩) x1 _).setCell (p:=⟨g.p,2,none⟩) x1 _,by simpa [World.setCell] using fz⟩,fun _=>OwnM.set3 (f1 h2) x3,fun _=>⟨by simp [h6],by simp [h2]⟩,fun _=>⟨x1,?_⟩⟩
  have:=((x3.set (i:=0) (.slice g.a1 g.n1 g.c1)).set (i:=1) (.slice g.a2 g.n2 g.c2)).set (i:=2) (.slice g.a3 g.n3 g.c3)
  simpa [GA.m] using this
 simp only [Act.put,List.setIfInBounds_toArray,List.set_cons_zero,List.set_cons_succ]
 refine wpM_read FA.dep rfl (by decide) (by decide) ?_;go_big_quiet_step (fail);refine wpQuiet_nil ?_
 refine wpM_nil ?_;intro wy hF;obtain ⟨⟨bW,_⟩,f1,f2,f3⟩:=hF;have om0:=f1 rfl;obtain ⟨x1,g40⟩:=f3 rfl;have g4:Bx wy g.p 26 #[.slice g.a1 g.n1 g.c1,.slice g.a2 g.n2 g.c2,.slice g.a3 g.n3 g.c3]:=g40;have om:OwnM wy wa10.heap.size 48 (.slice g.a1 g.n1 g.c1) (.slice g.a2 g.n2 g.c2) (.slice g.a3 g.n3 g.c3) exN:=om0;clear om0 g40;replace B:=B.trans (bW.mono hz1)
 replace g3:=g3.below bW;have k6:=om.rd;have l7:=k6.o.len;rw [show exN.objs.length=2 from rfl] at l7;have c_g3:=g3.cell;have c_g4:=g4.cell
 generalize g.a1=tA at *;generalize g.n1=tn at *;generalize g.c1=tc at*
 generalize g.a2=oA at *;generalize g.n2=on at *;generalize g.c2=oc at*
 generalize g.a3=sA at *;generalize g.n3=sn at *;generalize g.c3=sc at*
 generalize g.p=p7 at*
 clear x1 f1 f2 f3 bW hz1 h2 h3 om this c_2 k4 g2;go_wp2_with fail;have m5:∀ty W,(Builtin.len_ #[23] ty #[.slice o5A o5n o5c]).run Try.prog W=.ok (.int .i64 2) W:=l5;have m7:∀ty W,(Builtin.len_ #[23] ty #[.slice oA on oc]).run Try.prog W=.ok (.int .i64 2) W:=l7;clear l5 l7;go_wp2_with fail;refine (CB.out _ _ _ _ k6).mono ?_;rintro e wa11 ⟨t8,o8,s8,rfl,k8,b⟩
 replace g3:=g3.below b;replace c_g3:=g3.five;replace g4:=g4.below b;replace c_g4:=g4.five;replace B:=B.trans (b.mono B.size);clear b;have l8:=k8.o.len;rw [exN_len] at l8;obtain ⟨⟨t8A,t8n,t8c,rfl⟩,⟨o8A,o8n,o8c,rfl⟩,⟨s8A,s8n,s8c,rfl⟩⟩:=k8.forms;have m8:∀ty W,(Builtin.len_ #[23] ty #[.slice o8A o8n o8c]).run Try.prog W=.ok (.int .i64 0) W:=l8;clear l8;go_upto_region 6 with (fail)
 refine wpb1 (26) (#[.slice t8A t8n t8c,.slice o8A o8n o8c,.slice s8A s8n s8c]) ?_;rintro wa12 ⟨g5,b⟩
 replace g3:=g3.below b;replace c_g3:=g3.five;replace g4:=g4.below b;replace c_g4:=g4.five;replace k8:=k8.below b;replace B:=B.trans (b.mono B.size);clear b;replace c_g5:=g5.five;go_wp2
 go_ret
 exact ⟨rfl,B⟩
end
section
open Go.RowKit L02 L13 L18 L20
theorem fit_any (tv ov sv:Value) (m:Mo) (b:Bool) (hb:b=decide (¬Great m∧chk m=0)) (w:World) (h:Mod w tv ov sv m):
  Calls Try.prog 6 #[.agg #[tv,ov,sv]] w fun e w'=>e=.returned (.bool b)∧Below w.heap.size w w':=by
 have B:=Below.refl w.heap.size w;have H:=hD h;obtain ⟨z,hz⟩:=exq (decide (Great m))
 have GT:=hD (Great20_any tv ov sv m z hz)
 obtain ⟨c,hc⟩:=exq (chk m)
 have CT:=hD (CheckR20_any tv ov sv m c hc)
 cases z
 ·have hng:¬Great m:=by rw [eq_comm,decide_eq_false_iff_not] at hz;exact hz
  have hb2:b=decide (c=0):=by rw [hb,hc];simp [hng]
  clear hz hng hc hb h;go_in;go_upto_region 1 with (fail)
  refine wpb1 (26) (#[tv,ov,sv]) ?_;rintro wa1 ⟨g1,b⟩
  replace B:=B.trans (b.mono B.size);clear b;replace c_g1:=g1.five;go_wp2_with fail;refine (GT.out _ (H.out.below B)).mono ?_;rintro e wa2 ⟨rfl,b⟩
  replace g1:=g1.below b;replace c_g1:=g1.five;replace B:=B.trans (b.mono B.size);clear b;go_wp2_with fail;refine (CT.out _ (H.out.below B)).mono ?_;rintro e wa3 ⟨rfl,b⟩
  replace g1:=g1.below b;replace c_g1:=g1.five;replace B:=B.trans (b.mono B.size);clear b;go_wp2
  go_ret
  rw [hb2]
  exact ⟨rfl,B⟩
 ·have hg:Great m:=by rw [eq_comm,decide_eq_true_iff] at hz;exact hz
  have hb2:b=false:=by rw [hb];simp [hg]
  clear hz hg hc hb h;go_in;go_upto_region 1 with (fail)
  refine wpb1 (26) (#[tv,ov,sv]) ?_;rintro wa1 ⟨g1,b⟩
  replace B:=B.trans (b.mono B.size);clear b;replace c_g1:=g1.five;go_wp2_with fail;refine (GT.out _ (H.out.below B)).mono ?_;rintro e wa2 ⟨rfl,b⟩
  replace g1:=g1.below b;replace c_g1:=g1.five;replace B:=B.trans (b.mono B.size);clear b;go_wp2
  go_ret
  rw [hb2]
  exact ⟨rfl,B⟩
end
section
open Go Go.RowKit
def FS2 (ks rs:List Nat) (Ws:Nat→World):(Nat→Bool)→World→Prop:=fun f W=>
 ∃d,d≤ks.length∧(∀i k,ks[i]?=some k→f k=decide (i<d))∧W=Ws d∧(0<d→∀r∈rs,f r=true)
section
variable {ks rs:List Nat} {Ws:Nat→World}
theorem FS2.dep:Dep (FS2 ks rs Ws) (rs++ks):=by
 rintro f g W hfg ⟨d,h1,h2,h3,h4⟩
 refine ⟨d,h1,fun i k hk=>?_,h3,fun hm r hr=>?_⟩
 ·rw [←hfg k (List.mem_append_right _ (List.mem_of_getElem? hk))];exact h2 i k hk
 ·rw [←hfg r (List.mem_append_left _ hr)];exact h4 hm r hr
theorem FS2.start:FS2 ks rs Ws (fun _=>false) (Ws 0):=⟨0,Nat.zero_le _,fun i k _=>by simp,rfl,fun h=>by omega⟩
theorem FS2.done {W:World} (h:FS2 ks rs Ws (fun _=>true) W):W=Ws ks.length:=by
 obtain ⟨d,h1,h2,h3,h4⟩:=h;rw [h3]
 congr 1;by_cases hd:d=ks.length
 ·exact hd
 ·have hlt:d<ks.length:=by omega
  have:=h2 d ks[d] (List.getElem?_eq_getElem hlt)
  simp at this
theorem FS2.step {i k:Nat} (hk:ks[i]?=some k) (hn:ks.Nodup) (hrk:k∉rs) {f:Nat→Bool} {W:World} (h:FS2 ks rs Ws f W) (h0:f k=false) (hp:∀p,i=p+1→∀k',ks[p]?=some k'→f k'=true) (hm:i=0→∀r∈rs,f r=true):
  W=Ws i∧FS2 ks rs Ws (fun j=>j==k || f j) (Ws (i+1)):=by
 obtain ⟨d,h1,h2,h3,h4⟩:=h;have hil:i<ks.length:=(List.getElem?_eq_some_iff.1 hk).1;have hd1:¬i<d:=by have:=h2 i k hk;rw [h0] at this;simpa using this.symm
 have hd2:i≤d:=by
  rcases i with _ | p
  ·omega
  ·have hp':ks[p]?=some ks[p]:=List.getElem?_eq_getElem (by omega)
   have e1:=hp p rfl _ hp';rw [h2 p _ hp'] at e1
   have:=of_decide_eq_true e1;omega
 obtain rfl:d=i:=by omega
 refine ⟨h3,d+1,by omega,fun j k' hk'=>?_,rfl,fun hmd r hr=>?_⟩
 ·by_cases hj:j=d
  ·subst hj;rw [hk] at hk';injection hk' with hk';subst hk'
   simp
  ·have hne:k'≠k:=fun e=>by
    subst e;exact hj ((List.getElem?_inj (List.getElem?_eq_some_iff.1 hk').1 hn).1 (hk'.trans hk.symm))
   have e1:(k'==k)=false:=by rw [beq_eq_false_iff_ne];exact hne
   simp only [e1,Bool.false_or]
   rw [h2 j k' hk']
   have:(j<d)=(j<d+1):=by rw [eq_iff_iff];omega
   simp only [this]
 ·rcases Nat.eq_zero_or_pos d with h | h
  ·simp [hm h r hr]
  ·simp [h4 h r hr]
theorem FS2.prev {p q:Nat} {f:Nat→Bool} (hq:ks[p]?=some q) (h:f q=true):∀p',p+1=p'+1→∀k',ks[p']?=some k'→f k'=true:=by
 intro p' hp k' hk;obtain rfl:p=p':=by omega
 rw [hq] at hk;injection hk with hk;subst hk;exact h
theorem FS2.read {r:Nat} (hr:r∈rs) (hk:r∉ks) {f:Nat→Bool} {W:World} (h:FS2 ks rs Ws f W) (h0:f r=false):W=Ws 0∧FS2 ks rs Ws (fun j=>j==r || f j) W:=by
 obtain ⟨d,h1,h2,h3,h4⟩:=h;have hd:d=0:=by
  rcases Nat.eq_zero_or_pos d with h | h
  ·exact h
  ·have:=h4 h r hr;rw [h0] at this;cases this
 subst hd;refine ⟨h3,0,h1,fun i k hk'=>?_,h3,fun h=>by omega⟩
 have hne:(k==r)=false:=by rw [beq_eq_false_iff_ne];exact fun e=>hk (e ▸ List.mem_of_getElem? hk')
 simp only [hne,Bool.false_or]
 exact h2 i k hk'
theorem FS2.all {p:World→Prop} (h:∀d,d≤ks.length→p (Ws d)) (x:FXN (FS2 ks rs Ws)):p x.W:=by
 obtain ⟨W,f,d,h1,_,h3,_⟩:=x;subst h3;exact h d h1
end
end
end Go.Proofs.Yteejianjjpdimaa
namespace Go.Proofs.Yteejianjjpdimaa.L20
open L02 L13 L18
def mvV (f:Nat→Nat) (k:UInt8) (v:UInt64):UInt64:=if k.toNat=3∧0<v.toNat then UInt64.ofNat (f (v.toNat-1)+1) else v
def mvO (f:Nat→Nat) (T:List (List UInt8)) (o:Ob):Ob:=⟨o.ty,(List.range o.fs.length).map fun j=>mvV f ((ty T o).getD j 0) (o.fs.getD j 0)⟩
def mvS (f:Nat→Nat) (s:Sl):Sl:=if s.used=true then ⟨s.gen,true,(f s.at_.toNat:Nat)⟩ else s
theorem mvO_len (f:Nat→Nat) (T:List (List UInt8)) (o:Ob):(mvO f T o).fs.length=o.fs.length:=by simp [mvO]
theorem mvO_ty (f:Nat→Nat) (T:List (List UInt8)) (o:Ob):ty T (mvO f T o)=ty T o:=rfl
theorem mvO_get {f:Nat→Nat} {T:List (List UInt8)} {o:Ob} {j:Nat} (h:j<o.fs.length):(mvO f T o).fs.getD j 0=mvV f ((ty T o).getD j 0) (o.fs.getD j 0):=by
 rw [List.getD_eq_getElem?_getD];simp [mvO,h]
theorem mvV_ref {f:Nat→Nat} {k:UInt8} {v:UInt64} (h:k.toNat=3) (h0:0<v.toNat) (h1:f (v.toNat-1)≤1000000):(mvV f k v).toNat=f (v.toNat-1)+1:=by
 rw [mvV,if_pos ⟨h,h0⟩,UInt64.toNat_ofNat_of_lt' (by unfold UInt64.size;omega)]
theorem mvV_other {f:Nat→Nat} {k:UInt8} {v:UInt64} (h:¬(k.toNat=3∧0<v.toNat)):mvV f k v=v:=if_neg h
theorem filterMap_eq {α β:Type} {f g:α→Option β}:∀{l:List α},(∀x∈l,f x=g x)→l.filterMap f=l.filterMap g
 | [],_=>rfl
 | a :: l,h=>by
  rw [List.filterMap_cons,List.filterMap_cons,h a List.mem_cons_self,filterMap_eq fun x hx=>h x (List.mem_cons_of_mem _ hx)]
structure Emb (p:Nat→Prop) (f:Nat→Nat) (m n:Mo):Prop where
 tys:n.types=m.types
 sls:n.slots=m.slots.map (mvS f)
 obs:∀i,p i→ob n (f i)=mvO f m.types (ob m i)
 low:∀i,p i→i<m.objs.length
 lt:∀i,p i→f i<n.objs.length
 inj:∀i j,p i→p j→f i=f j→i=j
 kid:∀i,p i→∀k∈kids m i,p k
 root:∀i∈roots m,p i
 few:n.objs.length≤1000000
section
variable {p:Nat→Prop} {f:Nat→Nat} {m n:Mo}
theorem kid_in {m:Mo} {i j:Nat} (hj:j<(ob m i).fs.length) (h3:((ty m.types (ob m i)).getD j 0).toNat=3) (h0:0<((ob m i).fs.getD j 0).toNat):((ob m i).fs.getD j 0).toNat-1∈kids m i:=by
 rw [kids,kidsTo,List.mem_filterMap]
 exact ⟨j,List.mem_range.2 hj,by rw [kidAt,if_pos ⟨h3,h0⟩]⟩
theorem Emb.kids (h:Emb p f m n) {i:Nat} (hi:p i):kids n (f i)=(kids m i).map f:=by
 rw [L20.kids,L20.kids,kidsTo,kidsTo,h.obs i hi,mvO_len,List.map_filterMap]
 refine filterMap_eq fun j hj=>?_;have hj:=List.mem_range.1 hj;rw [kidAt,kidAt,h.tys,mvO_ty,mvO_get hj]
 by_cases h3:((ty m.types (ob m i)).getD j 0).toNat=3
 ·by_cases h0:0<((ob m i).fs.getD j 0).toNat
  ·have hk:=kid_in hj h3 h0;have hlt:=h.lt _ (h.kid i hi _ hk)
   have:=h.few;rw [mvV_ref h3 h0 (by omega),if_pos ⟨h3,by omega⟩,if_pos ⟨h3,h0⟩];rfl
  ·rw [mvV_other (by omega),if_neg (by omega)];rfl
 ·rw [if_neg (by omega),if_neg (by omega)];rfl
theorem Emb.roots (h:Emb p f m n):roots n=(roots m).map f:=by
 rw [L20.roots,L20.roots,h.sls,List.filterMap_map,List.map_filterMap]
 refine filterMap_eq fun s hs=>?_;show rootOf (mvS f s)=_;unfold rootOf mvS;by_cases hu:s.used=true
 ·rw [if_pos hu,if_pos hu,if_pos rfl];simp
 ·rw [if_neg hu,if_neg hu];rfl
theorem Emb.rs (h:Emb p f m n) {ord l out:List Nat} (hr:Rs m ord l out):(∀x∈ord,p x)→(∀x∈l,p x)→Rs n (ord.map f) (l.map f) (out.map f):=by
 induction hr with
 | nil ord=>intro _ _;exact .nil _
 | @seen ord l out x h1 h2 ih=>
  intro a b;exact .seen (List.mem_map_of_mem h1) (ih a fun y hy=>b y (List.mem_cons_of_mem _ hy))
 | @new ord l out x h1 h2 ih=>
  intro a b;have hx:=b x List.mem_cons_self;have ih:=ih (fun y hy=>by
   rcases List.mem_append.1 hy with hy | hy
   ·exact a y hy
   ·rw [List.mem_singleton.1 hy];exact hx) (fun y hy=>by
   rcases List.mem_append.1 hy with hy | hy
   ·exact h.kid x hx y hy
   ·exact b y (List.mem_cons_of_mem _ hy))
  rw [List.map_append,List.map_append,←h.kids hx] at ih;refine .new (fun hm=>?_) ih;obtain ⟨y,hy,he⟩:=List.mem_map.1 hm;exact h1 (by rw [←h.inj y x (a y hy) hx he];exact hy)
theorem Emb.found (h:Emb p f m n) {out:List Nat} (hr:Rs m [] (L20.roots m) out):Rs n [] (L20.roots n) (out.map f):=by
 have:=h.rs hr (by simp) h.root;rw [h.roots];exact this
theorem Emb.all (h:Emb p f m n) {out:List Nat} (hr:Rs m [] (L20.roots m) out):∀x∈out,p x:=hr.all h.kid (by simp) h.root
theorem idxOf_map {f:Nat→Nat} {x:Nat}:∀{l:List Nat},(∀y∈l,f y=f x→y=x)→(l.map f).idxOf (f x)=l.idxOf x
 | [],_=>rfl
 | a :: l,h=>by
  rw [List.map_cons,List.idxOf_cons,List.idxOf_cons]
  by_cases e:a=x
  ·subst e;simp
  ·have e2:f a≠f x:=fun e2=>e (h a List.mem_cons_self e2)
   rw [beq_eq_false_iff_ne.2 e,beq_eq_false_iff_ne.2 e2,idxOf_map fun y hy=>h y (List.mem_cons_of_mem _ hy)]
theorem mem_map_inj {f:Nat→Nat} {x:Nat} {l:List Nat} (h:∀y∈l,f y=f x→y=x):f x∈l.map f↔x∈l:=by
 constructor
 ·intro hm;obtain ⟨y,hy,he⟩:=List.mem_map.1 hm;rw [←h y hy he];exact hy
 ·exact fun h=>List.mem_map_of_mem h
theorem Emb.reach (h:Emb p f m n) {out:List Nat} (hr:Reach m out):Reach n (out.map f):=by
 have hp:=h.all hr.rs;have nd:(out.map f).Nodup:=by
  have:=hr.nd;rw [List.nodup_iff_pairwise_ne,List.pairwise_map]
  exact (List.nodup_iff_pairwise_ne.1 this).imp_of_mem fun ha hb hne e=>hne (h.inj _ _ (hp _ ha) (hp _ hb) e)
 have lt:∀x∈out.map f,x<n.objs.length:=fun x hx=>by
  obtain ⟨y,hy,rfl⟩:=List.mem_map.1 hx;exact h.lt y (hp y hy)
 exact ⟨h.found hr.rs,nd,lt,nodup_lt nd lt⟩
theorem Emb.canon (h:Emb p f m n) {out:List Nat} (hc:chk m=0) (hr:Reach m out):canM n (out.map f)=canM m out:=by
 have hp:=h.all hr.rs;have hr':=h.reach hr;have hfew:=h.few;have hfew2:=(chk_ok hc).2.1;have hidx:∀x∈out,(canN n (out.map f)).getD (f x) 0=(canN m out).getD x 0:=fun x hx=>by
  have hinj:∀y∈out,f y=f x→y=x:=fun y hy e=>h.inj y x (hp y hy) (hp x hx) e;rw [List.getD_eq_getElem?_getD,List.getD_eq_getElem?_getD,canN_get (h.lt x (hp x hx)),canN_get (h.low x (hp x hx)),if_pos ((mem_map_inj hinj).2 hx),if_pos hx,idxOf_map hinj]
 rw [canM_eq hr,canM_eq hr',h.tys,List.map_map,h.sls,List.map_map]
 congr 1
 ·refine List.map_congr_left fun i hi=>?_;show mapO _ _ (ob n (f i)) _=_;rw [h.obs i (hp i hi),mvO_len]
  unfold mapO;rw [mvO_len,mvO_ty]
  show (⟨(ob m i).ty,_⟩:Ob)=_;congr 1;refine List.map_congr_left fun j hj=>?_;have hj:=List.mem_range.1 hj;rw [if_pos hj,if_pos hj,mvO_get hj]
  unfold numV;by_cases h3:((ty m.types (ob m i)).getD j 0).toNat=3
  ·by_cases h0:0<((ob m i).fs.getD j 0).toNat
   ·have hk:=hr.closed i hi _ (kid_in hj h3 h0)
    have hlt:=h.lt _ (hp _ hk)
    rw [mvV_ref h3 h0 (by omega),if_pos ⟨h3,by omega⟩,if_pos ⟨h3,h0⟩,Nat.add_sub_cancel,hidx _ hk]
   ·rw [mvV_other (by omega),if_neg (by omega),if_neg (by omega)]
  ·rw [mvV_other (by omega),if_neg (by omega),if_neg (by omega)]
 ·refine List.map_congr_left fun s hs=>?_;show numS _ (mvS f s)=numS _ s;unfold numS mvS;by_cases hu:s.used=true
  ·rw [if_pos hu,if_pos hu,if_pos rfl]
   have hm:s.at_.toNat∈out:=hr.rs.mem _ (by rw [L20.roots,List.mem_filterMap];exact ⟨s,hs,by rw [rootOf,if_pos hu]⟩)
   have:=hidx _ hm;show (⟨s.gen,true,_⟩:Sl)=_;congr 1
  ·rw [if_neg hu,if_neg hu,if_neg hu]
theorem Emb.right (h:Emb p f m n) (hc:chk m=0) (hs:∀j,j<n.objs.length→∃i,p i∧f i=j) (hl:n.objs.length≤960):chk n=0:=by
 obtain ⟨c1,c2,c3⟩:=chk_ok hc;refine chk_zero (by rw [h.tys];omega) ⟨by rw [h.sls,List.length_map];exact c3.1,by rw [h.tys];exact c3.2.1,fun o ho=>?_,fun s hs'=>?_⟩
 ·obtain ⟨j,hj⟩:=List.getElem?_of_mem ho;have hj1:=(List.getElem?_eq_some_iff.1 hj).1;obtain ⟨i,hi,rfl⟩:=hs j hj1;have hob:ob n (f i)=o:=by rw [ob,List.getD_eq_getElem?_getD,hj];rfl
  have hlow:=h.low i hi;have hoo:ObOk m.types m.objs.length (ob m i):=c3.2.2.1 _ (by rw [ob,List.getD_eq_getElem?_getD,List.getElem?_eq_getElem hlow];exact List.getElem_mem hlow)
  have e:=h.obs i hi;rw [hob] at e;rw [h.tys,e]
  refine ⟨hoo.1,by rw [mvO_len,mvO_ty];exact hoo.2.1,fun j hj=>?_⟩
  rw [mvO_len] at hj;rw [mvO_get hj,mvO_ty]
  have hfd:=hoo.2.2 j hj;by_cases h3:((ty m.types (ob m i)).getD j 0).toNat=3
  ·by_cases h0:0<((ob m i).fs.getD j 0).toNat
   ·have hk:=h.lt _ (h.kid i hi _ (kid_in hj h3 h0))
    refine ⟨fun e=>by omega,fun _=>?_⟩
    rw [mvV_ref h3 h0 (by omega)];omega
   ·rw [mvV_other (by omega)]
    exact ⟨hfd.1,fun _=>by omega⟩
  ·rw [mvV_other (by omega)]
   exact ⟨hfd.1,fun e=>absurd e h3⟩
 ·rw [h.sls] at hs';obtain ⟨s0,hs0,rfl⟩:=List.mem_map.1 hs';have hso:=c3.2.2.2 s0 hs0;unfold mvS;by_cases hu:s0.used=true
  ·rw [if_pos hu]
   have hr:s0.at_.toNat∈L20.roots m:=by rw [L20.roots,List.mem_filterMap];exact ⟨s0,hs0,by rw [rootOf,if_pos hu]⟩
   have:=h.lt _ (h.root _ hr)
   have h2:=hso.2.2 hu;exact ⟨hso.1,fun e=>(by cases e),fun _=>⟨h2.1,by show (0:Int)≤((f s0.at_.toNat:Nat):Int);omega,by show ((f s0.at_.toNat:Nat):Int)<_;omega⟩⟩
  ·rw [if_neg hu]
   exact ⟨hso.1,hso.2.1,fun e=>absurd e hu⟩
end
theorem can_emb {m:Mo} {out:List Nat} (hc:chk m=0) (hr:Reach m out):Emb (·∈out) (fun i=>out.idxOf i) m (canM m out)∧(canM m out).objs.length=out.length:=by
 have e:=canM_eq hr;have hol:(canM m out).objs.length=out.length:=by rw [e];simp
 have hfew:=(chk_ok hc).2.1;have hlen:=hr.len;have hg:∀x∈out,∀d,(canN m out).getD x d=(out.idxOf x:Int):=fun x hx d=>by
  rw [List.getD_eq_getElem?_getD,canN_get (hr.lt x hx),if_pos hx];rfl
 refine ⟨⟨by rw [e],?_,fun i hi=>?_,hr.lt,fun i hi=>?_,fun i j hi hj he=>?_,hr.closed,fun i hi=>hr.rs.mem i hi,by omega⟩,hol⟩
 ·rw [e]
  refine List.map_congr_left fun s hs=>?_;unfold numS mvS;by_cases hu:s.used=true
  ·rw [if_pos hu,if_pos hu]
   have hm:s.at_.toNat∈out:=hr.rs.mem _ (by rw [roots,List.mem_filterMap];exact ⟨s,hs,by rw [rootOf,if_pos hu]⟩)
   rw [hg _ hm]
  ·rw [if_neg hu,if_neg hu]
 ·have hl:=List.idxOf_lt_length_of_mem hi;rw [e,ob,List.getD_eq_getElem?_getD]
  show (((out.map _)[out.idxOf i]?).getD _)=_;rw [List.getElem?_map,List.getElem?_eq_getElem hl,List.getElem_idxOf]
  show mapO _ _ (ob m i) _=_;unfold mapO mvO;congr 1;refine List.map_congr_left fun j hj=>?_;have hj:=List.mem_range.1 hj;rw [if_pos hj]
  by_cases h3:((ty m.types (ob m i)).getD j 0).toNat=3∧0<((ob m i).fs.getD j 0).toNat
  ·have hk:=hr.closed i hi _ (kid_in hj h3.1 h3.2)
   rw [numV,if_pos h3,mvV,if_pos h3,hg _ hk]
   congr 1
  ·rw [numV,if_neg h3,mvV,if_neg h3]
 ·have:=List.idxOf_lt_length_of_mem hi;rw [hol];exact this
 ·have h1:=List.idxOf_lt_length_of_mem hi;have h2:=List.idxOf_lt_length_of_mem hj;have e1:out[out.idxOf i]?=some i:=by rw [List.getElem?_eq_getElem h1,List.getElem_idxOf]
  have e2:out[out.idxOf j]?=some j:=by rw [List.getElem?_eq_getElem h2,List.getElem_idxOf]
  have he:out.idxOf i=out.idxOf j:=he;rw [he,e2] at e1;injection e1 with e1;exact e1.symm
theorem can_can {m:Mo} {out:List Nat} (hc:chk m=0) (hr:Reach m out):∃out',chk (canM m out)=0∧Reach (canM m out) out'∧canM (canM m out) out'=canM m out∧out'.length=out.length∧(canM m out).objs.length=out.length:=by
 obtain ⟨h,hl⟩:=can_emb hc hr;have hfew:=(chk_ok hc).2.1;have hlen:=hr.len;refine ⟨_,h.right hc (fun j hj=>?_) (by omega),h.reach hr,h.canon hc hr,by rw [List.length_map],hl⟩
 rw [hl] at hj;refine ⟨out[j],List.getElem_mem hj,?_⟩
 have:=(idxOf_eq hr.nd (List.getElem_mem hj)).2 (List.getElem?_eq_getElem hj)
 exact this
structure Ren (N:Nat) (ns:List Int):Prop where
 len:ns.length=N
 rng:∀(i:Nat) x,ns[i]?=some x→0≤x∧x<N
 inj:∀(i j:Nat) x,ns[i]?=some x→ns[j]?=some x→i=j
theorem Ren.sur {N:Nat} {ns:List Int} (h:Ren N ns) {w:Nat} (hw:w<N):∃k,k<N∧ns[k]?=some (w:Int):=by
 by_cases hm:(w:Int)∈ns
 ·obtain ⟨k,hk⟩:=List.getElem?_of_mem hm;exact ⟨k,by rw [←h.len];exact (List.getElem?_eq_some_iff.1 hk).1,hk⟩
 ·exfalso;have nd:(w :: ns.map Int.toNat).Nodup:=by
   rw [List.nodup_cons]
   refine ⟨fun hx=>?_,?_⟩
   ·obtain ⟨x,hx,e⟩:=List.mem_map.1 hx;obtain ⟨k,hk⟩:=List.getElem?_of_mem hx
    have:=h.rng k x hk;exact hm (by rw [←e,Int.toNat_of_nonneg this.1];exact hx)
   ·rw [List.nodup_iff_pairwise_ne,List.pairwise_map,List.pairwise_iff_getElem]
    intro i j hi hj hij e;have e1:=h.rng i _ (List.getElem?_eq_getElem hi)
    have e2:=h.rng j _ (List.getElem?_eq_getElem hj)
    have e3:ns[i]=ns[j]:=by omega
    have:=h.inj i j ns[i] (List.getElem?_eq_getElem hi) (by rw [e3];exact List.getElem?_eq_getElem hj)
    omega
  have:=nodup_lt (N:=N) nd (fun x hx=>by
   rcases List.mem_cons.1 hx with rfl | hx
   ·exact hw
   ·obtain ⟨y,hy,rfl⟩:=List.mem_map.1 hx;obtain ⟨k,hk⟩:=List.getElem?_of_mem hy
    have:=h.rng k y hk;omega)
  rw [List.length_cons,List.length_map,h.len] at this;omega
theorem Ren.id (N:Nat):Ren N (natI (List.range N)):=by
 have hg:∀(i:Nat) x,(natI (List.range N))[i]?=some x→i<N∧x=i:=fun i x hx=>by
  rw [natI,List.getElem?_map] at hx;rcases Nat.lt_or_ge i N with h | h
  ·rw [List.getElem?_range h] at hx;injection hx with hx;exact ⟨h,hx.symm⟩
  ·rw [List.getElem?_eq_none (by simpa using h)] at hx;cases hx
 exact ⟨by simp [natI],fun i x hx=>by have:=hg i x hx;omega,fun i j x hi hj=>by have:=hg i x hi;have:=hg j x hj;omega⟩
theorem Ren.swap {N:Nat} {ns:List Int} (h:Ren N ns) {a b:Nat} {x y:Int} (ha:ns[a]?=some x) (hb:ns[b]?=some y):Ren N ((ns.set a y).set b x):=by
 have la:=(List.getElem?_eq_some_iff.1 ha).1;have lb:=(List.getElem?_eq_some_iff.1 hb).1;have hg:∀(i:Nat) z,((ns.set a y).set b x)[i]?=some z→(i=b∧z=x)∨(i≠b∧i=a∧z=y)∨(i≠b∧i≠a∧ns[i]?=some z):=fun i z hz=>by
  by_cases e:i=b
  ·subst e;rw [List.getElem?_set_self (by rw [List.length_set];exact lb)] at hz;injection hz with hz;exact .inl ⟨rfl,hz.symm⟩
  ·rw [List.getElem?_set_ne (Ne.symm e)] at hz;by_cases e2:i=a
   ·subst e2;rw [List.getElem?_set_self la] at hz;injection hz with hz;exact .inr (.inl ⟨e,rfl,hz.symm⟩)
   ·rw [List.getElem?_set_ne (Ne.symm e2)] at hz;exact .inr (.inr ⟨e,e2,hz⟩)
 refine ⟨by rw [List.length_set,List.length_set];exact h.len,fun i z hz=>?_,fun i j z hi hj=>?_⟩
 ·rcases hg i z hz with ⟨_,rfl⟩ | ⟨_,_,rfl⟩ | ⟨_,_,h1⟩
  ·exact h.rng a _ ha
  ·exact h.rng b _ hb
  ·exact h.rng i _ h1
 ·rcases hg i z hi with ⟨e1,rfl⟩ | ⟨e1,e2,rfl⟩ | ⟨e1,e2,h1⟩ <;> rcases hg j _ hj with ⟨f1,f2⟩ | ⟨f1,f3,f2⟩ | ⟨f1,f3,h2⟩
  ·omega
  ·have:=h.inj a b _ ha (by rw [f2];exact hb);omega
  ·have:=h.inj a j _ ha h2;omega
  ·have:=h.inj a b _ ha (by rw [←f2];exact hb);omega
  ·omega
  ·have:=h.inj b j _ hb h2;omega
  ·have:=h.inj a i _ ha (by rw [←f2];exact h1);omega
  ·have:=h.inj b i _ hb (by rw [←f2];exact h1);omega
  ·exact h.inj i j _ h1 h2
theorem Ren.emb {m:Mo} {ns:List Int} (h:Ren m.objs.length ns) (hc:chk m=0):Emb (·<m.objs.length) (fun i=>(ns.getD i 0).toNat) m (numM m ns)∧(numM m ns).objs.length=m.objs.length:=by
 have hl:=h.len;have hfew:=(chk_ok hc).2.1;have hget:∀i,i<m.objs.length→∃w:Nat,w<m.objs.length∧ns[i]?=some (w:Int):=fun i hi=>by
  have e:ns[i]?=some ns[i]:=List.getElem?_eq_getElem (by omega)
  have:=h.rng i _ e;obtain ⟨w,hw⟩:=Int.eq_ofNat_of_zero_le this.1;exact ⟨w,by omega,by rw [e,hw]⟩
 have hN:∀w k,w<m.objs.length→k<m.objs.length→ns[k]?=some (w:Int)→numN m ns w ns.length=[numO m ns (ob m k)]:=fun w k hw hk e=>by
  have e1:(List.range ns.length).filter (fun n=>decide (ns.getD n (-2)=(w:Int)))=(List.range ns.length).filter (fun n=>decide (n=k)):=by
   refine List.filter_congr fun n hn=>?_;have hn:=List.mem_range.1 hn;congr 1;rw [eq_iff_iff]
   constructor
   ·intro h1;have h2:ns[n]?=some (w:Int):=by rw [List.getElem?_eq_getElem hn,←h1,List.getD_eq_getElem?_getD,List.getElem?_eq_getElem hn];rfl
    exact h.inj n k _ h2 e
   ·rintro rfl;rw [List.getD_eq_getElem?_getD,e];rfl
  rw [numN,e1,range_filter,if_pos (by omega)];rfl
 have hJ:∀j,j≤m.objs.length→(numJ m ns j).length=j∧∀w k,w<j→k<m.objs.length→ns[k]?=some (w:Int)→(numJ m ns j)[w]?=some (numO m ns (ob m k)):=fun j=>by
  induction j with
  | zero=>intro _;exact ⟨rfl,fun w k h=>by omega⟩
  | succ j ih=>
   intro hj;obtain ⟨i1,i2⟩:=ih (by omega)
   obtain ⟨k0,hk0,e0⟩:=h.sur (w:=j) (by omega)
   rw [numJ_succ,hN j k0 (by omega) hk0 e0]
   refine ⟨by rw [List.length_append,i1];rfl,fun w k hw hk e=>?_⟩
   by_cases hwj:w<j
   ·rw [List.getElem?_append_left (by omega)];exact i2 w k hwj hk e
   ·obtain rfl:w=j:=by omega
    rw [List.getElem?_append_right (by omega),i1,Nat.sub_self]
    obtain rfl:=h.inj k k0 _ e e0;rfl
 have hol:(numM m ns).objs.length=m.objs.length:=by
  have:=(hJ ns.length (by omega)).1;rw [numM];show (numJ m ns ns.length).length=_;omega
 have hgd:∀(i w:Nat),ns[i]?=some (w:Int)→(ns.getD i 0).toNat=w∧ns.getD i 0=(w:Int):=fun i w e=>by rw [List.getD_eq_getElem?_getD,e];exact ⟨rfl,rfl⟩
 refine ⟨⟨rfl,?_,fun i hi=>?_,fun i hi=>hi,fun i hi=>?_,fun i j hi hj he=>?_,fun i hi=>kids_lt hc i hi,roots_lt hc,by omega⟩,hol⟩
 ·refine List.map_congr_left fun s hs=>?_;unfold numS mvS;by_cases hu:s.used=true
  ·rw [if_pos hu,if_pos hu]
   have:=roots_lt hc s.at_.toNat (by rw [roots,List.mem_filterMap];exact ⟨s,hs,by rw [rootOf,if_pos hu]⟩)
   obtain ⟨w,hw,e⟩:=hget _ this
   have:=hgd _ w e;show (⟨s.gen,true,ns.getD s.at_.toNat 0⟩:Sl)=⟨s.gen,true,(((ns.getD s.at_.toNat 0).toNat:Nat):Int)⟩
   rw [this.1,this.2]
  ·rw [if_neg hu,if_neg hu]
 ·obtain ⟨w,hw,e⟩:=hget i hi;have h1:=hgd i w e;try dsimp only
  rw [h1.1,ob,List.getD_eq_getElem?_getD]
  show ((numJ m ns ns.length)[w]?).getD _=_;rw [(hJ ns.length (by omega)).2 w i (by omega) hi e]
  show numO m ns (ob m i)=_;unfold numO mvO;congr 1;refine List.map_congr_left fun j hj=>?_;have hj:=List.mem_range.1 hj;by_cases h3:((ty m.types (ob m i)).getD j 0).toNat=3∧0<((ob m i).fs.getD j 0).toNat
  ·have hk:=kids_lt hc i hi _ (kid_in hj h3.1 h3.2)
   obtain ⟨w2,hw2,e2⟩:=hget _ hk;have h4:=hgd _ w2 e2;rw [numV,if_pos h3,mvV,if_pos h3,h4.2]
   congr 1
  ·rw [numV,if_neg h3,mvV,if_neg h3]
 ·obtain ⟨w,hw,e⟩:=hget i hi;have h1:=hgd i w e;try dsimp only
  rw [h1.1,hol];exact hw
 ·obtain ⟨w,hw,e⟩:=hget i hi;obtain ⟨w2,hw2,e2⟩:=hget j hj;have h1:=(hgd i w e).1;have h2:=(hgd j w2 e2).1;try dsimp only at he
  rw [h1,h2] at he;subst he;exact h.inj i j _ e e2
theorem Ren.ok {m:Mo} {ns:List Int} (h:Ren m.objs.length ns) (hc:chk m=0):NumOk m ns:=by
 have hfew:=(chk_ok hc).2.1;refine ⟨h.len,fun x hx=>?_⟩
 obtain ⟨k,hk⟩:=List.getElem?_of_mem hx
 have:=h.rng k x hk;omega
theorem ren_can {m:Mo} {ns:List Int} {out:List Nat} (h:Ren m.objs.length ns) (hc:chk m=0) (hr:Reach m out):∃out',chk (numM m ns)=0∧Reach (numM m ns) out'∧canM (numM m ns) out'=canM m out:=by
 obtain ⟨e,hl⟩:=h.emb hc;have hfew:=(chk_ok hc).2.1;refine ⟨_,e.right hc (fun j hj=>?_) (by omega),e.reach hr,e.canon hc hr⟩
 rw [hl] at hj;obtain ⟨k,hk,e1⟩:=h.sur hj;exact ⟨k,hk,by rw [List.getD_eq_getElem?_getD,e1];rfl⟩
end Go.Proofs.Yteejianjjpdimaa.L20
namespace Go.Proofs.Yteejianjjpdimaa
section
open Go.RowKit L02 L13 L18 L20
theorem size_pair:(Try.prog.info? 31).map (·.size)=some 2:=by kernel_rfl
theorem pair_ix0 (b o:Nat) (W:World):(Instr.indexAt 31 (.pointer (some ⟨b,o,none⟩)) (.int .i64 0)).run Try.prog W=.ok (.pointer (some ⟨b,o,none⟩)) W:=by
 simp [Instr.indexAt,go_sem,Try.underlying31]
theorem pair_ix1 (b o:Nat) (W:World):(Instr.indexAt 31 (.pointer (some ⟨b,o,none⟩)) (.int .i64 1)).run Try.prog W=.ok (.pointer (some ⟨b,o+1,none⟩)) W:=by
 simp [Instr.indexAt,go_sem,Try.underlying31]
theorem pair_at {w:World} {v:Value} {L:List (Int×Int)} (h:Hnds w v L) {k:Nat} (hk:k<L.length):
  ∃b o s,(∀W,(Instr.indexAt 27 v (.int .i64 (k:Int))).run Try.prog W=.ok (.pointer (some ⟨b,o,none⟩)) W)∧w.cell? ⟨b,o,none⟩=some (.int .i64 s.1)∧w.cell? ⟨b,o+1,none⟩=some (.int .i64 s.2)∧Hid (L[k]?=some s):=by
 have hix:=fun W=>Rd.ixN (P:=Try.prog) h Try.underlying27 size_pair hk W;obtain ⟨b,o,c,rfl,hb,hc,hcell⟩:=Rd.form h (by omega)
 have hs:L[k]?=some L[k]:=List.getElem?_eq_getElem hk;have t0:=tabH_get L k _ hs 0 (by omega)
 have t1:=tabH_get L k _ hs 1 (by omega)
 exact ⟨b,o+k*2,L[k],fun W=>hix W,hcell _ _ t0,hcell _ _ t1,hD hs⟩
theorem enter_Same20 (x y:Value) (W:World):(callFunc 9 (#[]++#[x,y]++#[])).run Try.prog W=.ok (.enter 9 #[x,y]) W:=by
 simp [go_sem]
theorem enter_Check20 (x:Value) (W:World):(callFunc 10 (#[]++#[x]++#[])).run Try.prog W=.ok (.enter 10 #[x]) W:=by
 simp [go_sem]
theorem enter_Found20 (x:Value) (W:World):(callFunc 11 (#[]++#[x]++#[])).run Try.prog W=.ok (.enter 11 #[x]) W:=by
 simp [go_sem]
def VCan (K:Nat) (k:Nat) (v:Value):Prop:=(k=16∨k=21→v=.bool true)∧(k=25→v=.int .i64 0)∧(k=30∨k=42→∀ty W,(Builtin.len_ #[30] ty #[v]).run Try.prog W=.ok (.int .i64 (K:Int)) W)
theorem VCan.ex {K:Nat} (hK:∃v,∀ty W,(Builtin.len_ #[30] ty #[v]).run Try.prog W=.ok (.int .i64 (K:Int)) W) (k:Nat):∃v,VCan K k v:=by
 by_cases h1:k=30∨k=42
 ·obtain ⟨v,hv⟩:=hK;exact ⟨v,fun h=>by omega,fun h=>by omega,fun _=>hv⟩
 ·by_cases h2:k=25
  ·exact ⟨.int .i64 0,fun h=>by omega,fun _=>rfl,fun h=>absurd h h1⟩
  ·exact ⟨.bool true,fun _=>rfl,fun h=>absurd h h2,fun h=>absurd h h1⟩
theorem VCan.len (K:Nat):∃v,∀ty W,(Builtin.len_ #[30] ty #[v]).run Try.prog W=.ok (.int .i64 (K:Int)) W:=
 ⟨.slice none K 0,fun ty W=>by simp [go_sem,Builtin.len_,Try.underlying30]⟩
def wsX (w:World) (g a b:Nat) (x y:Int):Nat→World
 | 0=>w.drew
 | 1=>w.drew.setCell ⟨g,a,none⟩ (.int .i64 y)
 | _=>(w.drew.setCell ⟨g,a,none⟩ (.int .i64 y)).setCell ⟨g,b,none⟩ (.int .i64 x)
end
end Go.Proofs.Yteejianjjpdimaa
