/- Contracts of the functions that the laws 'C' reach, part 7. No condition. -/
import Derived.Test.YteejianjjpdimaaMCf
set_option linter.unusedVariables false
set_option linter.unusedSimpArgs false
set_option maxRecDepth 100000
set_option maxHeartbeats 8000000
namespace Go.Proofs.Yteejianjjpdimaa
section
open Go.RowKit L02 L13 L18 L20
theorem right_case {L:List Sl} {k:Nat} {s:Sl} {g r:Int} (hs:L[k]?=some s) (hr:r=rightErr L k g):(s.used=false∧r=28)∨(s.used=true∧(s.gen != g)=true∧r=28)∨(s.used=true∧(s.gen != g)=false∧r=0):=by
 have hk:k<L.length:=(List.getElem?_eq_some_iff.1 hs).1;have hgd:L.getD (k:Int).toNat .none=s:=by simp [List.getD_eq_getElem?_getD,hs]
 have hrr:r=if s.used=true∧s.gen=g then 0 else 28:=by rw [hr,rightErr,if_pos (by omega),hgd]
 obtain ⟨gn,us,a⟩:=s;dsimp only at *;cases us
 ·exact .inl ⟨rfl,by rw [hrr,if_neg (by simp)]⟩
 ·by_cases hg:gn=g
  ·exact .inr (.inr ⟨rfl,by rw [bne_eq_false_iff_eq];exact hg,by rw [hrr,if_pos ⟨rfl,hg⟩]⟩)
  ·exact .inr (.inl ⟨rfl,by rw [bne_iff_ne];exact hg,by rw [hrr,if_neg (fun h=>hg h.2)]⟩)
theorem find20_any (tv ov sv:Value) (m:Mo) (sl g:Int) (r:Int) (hr:r=rightErr m.slots sl g) (w:World) (h:Mod w tv ov sv m):
  Calls Try.prog 39 #[.agg #[tv,ov,sv],.agg #[.int .i64 sl,.int .i64 g]] w fun e w'=>e=.returned (.int .i64 r)∧Below w.heap.size w w':=by
 have B:=Below.refl w.heap.size w;have ls:=h.s.len;obtain ⟨NS,hNS⟩:=exq m.slots.length;rw [←hNS] at ls;by_cases hin:0≤sl∧sl<NS
 ·obtain ⟨h0,h1⟩:=hin;obtain ⟨k,rfl⟩:=Int.eq_ofNat_of_zero_le h0;obtain ⟨b,o,s,ia,m0,m1,m2,hs⟩:=h.s.at_ (P:=Try.prog) Try.underlying24 size_slot (k:=k) (by omega)
  have hcase:=right_case hs.out hr;have n1:¬(k:Int)<0:=by omega
  have n2:¬(NS:Int)≤(k:Int):=by omega
  have n3:¬NS≤k:=by omega
  obtain ⟨gn,us,a⟩:=s;dsimp only at m0 m1 m2 hcase;clear hr h hs hNS h0 h1;rcases hcase with ⟨rfl,rfl⟩ | ⟨rfl,hne,rfl⟩ | ⟨rfl,hne,rfl⟩
  all_goals
   go_in;go_upto_region 1 with (fail)
   refine wpb11 (26) (#[tv,ov,sv]) (50) (#[.int .i64 k,.int .i64 g]) ?_;rintro wa1 ⟨g1,g2,b⟩
   replace m0:=cell_later b m0;replace m1:=cell_later b m1;replace m2:=cell_later b m2;replace B:=B.trans (b.mono B.size);clear b;replace c_g1:=g1.five;replace c_g2:=g2.five;go_wp2
   go_ret
   refine ⟨rfl,?_⟩
   exact bdn
 ·have hr0:r=2:=by rw [hr,rightErr,if_neg (by omega)]
  clear hr h hNS;subst hr0;have hcase:sl<0∨¬sl<0∧(NS:Int)≤sl:=by omega
  clear hin;rcases hcase with h1 | ⟨h1,h2⟩
  all_goals
   go_in;go_upto_region 1 with (fail)
   refine wpb11 (26) (#[tv,ov,sv]) (50) (#[.int .i64 sl,.int .i64 g]) ?_;rintro wa1 ⟨g1,g2,b⟩
   replace B:=B.trans (b.mono B.size);clear b;replace c_g1:=g1.five;replace c_g2:=g2.five;go_wp2
   go_ret
   exact ⟨rfl,B⟩
theorem enter_copied (x:Value) (W:World):(callFunc 24 (#[]++#[x]++#[])).run Try.prog W=.ok (.enter 24 #[x]) W:=by
 simp [go_sem]
structure GMod where
 t:Value
 o:Value
 s:Value
 W1:World
def GMod.val (g:GMod):Value:=.agg #[g.t,g.o,g.s]
def wsC (w:World) (p:Nat) (g:GMod):Nat→World
 | 0=>w.drew
 | 1=>g.W1
 | _=>((g.W1.setCell ⟨p,0,none⟩ g.t).setCell ⟨p,1,none⟩ g.o).setCell ⟨p,2,none⟩ g.s
theorem open20_no (tv ov sv:Value) (m:Mo) (sl g:Int) (r:Int) (hr:r=asked m sl g) (h0:r≠0) (w:World) (h:Mod w tv ov sv m):
  Calls Try.prog 40 #[.agg #[tv,ov,sv],.agg #[.int .i64 sl,.int .i64 g]] w fun e w'=>e=.returned (.tuple #[.agg #[.slice none 0 0,.slice none 0 0,.slice none 0 0],.int .i64 0,.int .i64 r])∧Below w.heap.size w w':=by
 have B:=Below.refl w.heap.size w;obtain ⟨c,hc⟩:=exq (chk m)
 have CT:=hD (Check20_any tv ov sv m c hc)
 have H:=hD h;by_cases hc0:c=0
 ·have hr1:r=rightErr m.slots sl g:=by rw [hr,asked_eq (by rw [←hc];exact hc0)]
  have FT:=hD (find20_any tv ov sv m sl g r hr1)
  have hne:(r != 0)=true:=by rw [bne_iff_ne];exact h0
  subst hc0;clear hr hr1 h hc h0;go_in;go_upto_region 1 with (fail)
  refine wpb111 (26) (#[tv,ov,sv]) (50) (#[.int .i64 sl,.int .i64 g]) (26) (#[.slice none 0 0,.slice none 0 0,.slice none 0 0]) ?_;rintro wa1 ⟨g1,g2,g3,b⟩
  replace B:=B.trans (b.mono B.size);clear b;replace c_g1:=g1.five;replace c_g2:=g2.five;replace c_g3:=g3.five;go_wp2_with fail;refine (CT.out _ (H.out.below B)).mono ?_;rintro e wa2 ⟨rfl,b⟩
  replace g1:=g1.below b;replace c_g1:=g1.five;replace g2:=g2.below b;replace c_g2:=g2.five;replace g3:=g3.below b;replace c_g3:=g3.five;replace B:=B.trans (b.mono B.size);clear b;go_wp2_with fail;refine (FT.out _ (H.out.below B)).mono ?_;rintro e wa3 ⟨rfl,b⟩
  replace g1:=g1.below b;replace c_g1:=g1.five;replace g2:=g2.below b;replace c_g2:=g2.five;replace g3:=g3.below b;replace c_g3:=g3.five;replace B:=B.trans (b.mono B.size);clear b;go_wp2;refine bodyPost_ret (v:=.tuple #[.agg #[.slice none 0 0,.slice none 0 0,.slice none 0 0],.int .i64 0,.int .i64 r]) (by simp [results,Try.results40,go_sem,c_g1,c_g2,c_g3]) rfl ?_;refine ⟨rfl,?_⟩
  exact bdn
 ·have hr1:r=c:=by rw [hr,asked_no (by rw [←hc];exact hc0),hc]
  have hne:(c != 0)=true:=by rw [bne_iff_ne];exact hc0
  subst hr1;clear hr h hc h0 hc0;go_in;go_upto_region 1 with (fail)
  refine wpb111 (26) (#[tv,ov,sv]) (50) (#[.int .i64 sl,.int .i64 g]) (26) (#[.slice none 0 0,.slice none 0 0,.slice none 0 0]) ?_;rintro wa1 ⟨g1,g2,g3,b⟩
  replace B:=B.trans (b.mono B.size);clear b;replace c_g1:=g1.five;replace c_g2:=g2.five;replace c_g3:=g3.five;go_wp2_with fail;refine (CT.out _ (H.out.below B)).mono ?_;rintro e wa2 ⟨rfl,b⟩
  replace g1:=g1.below b;replace c_g1:=g1.five;replace g2:=g2.below b;replace c_g2:=g2.five;replace g3:=g3.below b;replace c_g3:=g3.five;replace B:=B.trans (b.mono B.size);clear b;go_wp2;refine bodyPost_ret (v:=.tuple #[.agg #[.slice none 0 0,.slice none 0 0,.slice none 0 0],.int .i64 0,.int .i64 r]) (by simp [results,Try.results40,go_sem,c_g1,c_g2,c_g3]) rfl ?_;refine ⟨rfl,?_⟩
  exact bdn
theorem OwnM.forms {w:World} {B E:Nat} {tv ov sv:Value} {m:Mo} (h:OwnM w B E tv ov sv m):(∃A n c,tv=.slice A n c)∧(∃A n c,ov=.slice A n c)∧∃A n c,sv=.slice A n c:=by
 obtain ⟨⟨_,_,z2,_⟩,⟨_,_,y2,_⟩,s⟩:=h;obtain ⟨A,c,e⟩:=own_form' z2;obtain ⟨A',c',e'⟩:=own_form' y2;obtain ⟨A'',c'',e''⟩:=own_form' s;exact ⟨⟨A,_,c,e⟩,⟨A',_,c',e'⟩,⟨A'',_,c'',e''⟩⟩
theorem open20_ok (tv ov sv:Value) (m:Mo) (sl g:Int) (n:Nat) (h0:asked m sl g=0) (hn:own m sl=n) (w:World) (h:Mod w tv ov sv m):
  Calls Try.prog 40 #[.agg #[tv,ov,sv],.agg #[.int .i64 sl,.int .i64 g]] w fun e w'=>∃tv' ov' sv',e=.returned (.tuple #[.agg #[tv',ov',sv'],.int .i64 n,.int .i64 0])∧OwnM w' w.heap.size 48 tv' ov' sv' m∧Below w.heap.size w w':=by
 have B:=Below.refl w.heap.size w;obtain ⟨c0,hr0,k,s,n',o,t,hk,hk16,hs,hu,hg,hso,hat,hown,_⟩:=asked_ok h0;obtain rfl:n'=n:=by rw [←hown,hn]
 subst hk;have CT:=hD (Check20_any tv ov sv m 0 c0.symm)
 have FT:=hD (find20_any tv ov sv m k g 0 hr0.symm)
 have CP:=hD (copied_any tv ov sv m (small_chk c0))
 have hkl:k<m.slots.length:=(List.getElem?_eq_some_iff.1 hs).1;obtain ⟨b,q,s',ia,m0,m1,m2,hs'⟩:=h.s.at_ (P:=Try.prog) Try.underlying24 size_slot hkl;obtain rfl:s'=s:=by have:=hs'.out;rw [hs] at this;injection this with this;exact this.symm
 rw [hat] at m2;have H:=hD h;clear h0 hr0 hs hs' hu hg hso hat hown hn c0 h m0 m1 hkl;go_in;go_upto_region 1 with (fail)
 refine wpb111 (26) (#[tv,ov,sv]) (50) (#[.int .i64 k,.int .i64 g]) (26) (#[.slice none 0 0,.slice none 0 0,.slice none 0 0]) ?_;rintro wa1 ⟨g1,g2,g3,b⟩
 replace B:=B.trans (b.mono B.size);clear b;replace c_g1:=g1.five;replace c_g2:=g2.five;replace c_g3:=g3.five;go_wp2_with fail;refine (CT.out _ (H.out.below B)).mono ?_;rintro e wa2 ⟨rfl,b⟩
 replace g1:=g1.below b;replace c_g1:=g1.five;replace g2:=g2.below b;replace c_g2:=g2.five;replace g3:=g3.below b;replace c_g3:=g3.five;replace B:=B.trans (b.mono B.size);clear b;go_wp2_with fail;refine (FT.out _ (H.out.below B)).mono ?_;rintro e wa3 ⟨rfl,b⟩
 replace g1:=g1.below b;replace c_g1:=g1.five;replace g2:=g2.below b;replace c_g2:=g2.five;replace g3:=g3.below b;replace c_g3:=g3.five;replace B:=B.trans (b.mono B.size);clear b;go_upto_region 7 with (fail)
 have HG:=hD (And.intro g1 (And.intro g2 (And.intro g3 B)))
 have hB:=B.size;clear c_g1 c_g2 c_g3;refine wp_region_G (val:=GMod.val) (V:=fun g=>OwnM g.W1 wa3.heap.size 48 g.t g.o g.s m∧Below wa3.heap.size wa3 g.W1)
  (F:=fun g=>FL [1,9] (wsC wa3 (w.heap.size+1+1) g) 1 2) [1,1,9] 1 ⟨undef,undef,undef,wa3⟩ 24 #[.agg #[tv,ov,sv]] (fun g=>FL.dep) (by kernel_rfl) (by kernel_rfl) (by kernel_rfl) (fun g g' φ W hφ hF=>FL.agree (Ws:=wsC wa3 (w.heap.size+1+1) g) (Ws':=wsC wa3 (w.heap.size+1+1) g') (k0:=1) rfl rfl hφ hF) FL.start (by decide) ?_ ?_
 ·intro φ W hφ hF;obtain ⟨rfl,_⟩:=FL.step (i:=0) rfl (by decide) hF hφ (by intro p hp;omega) (by omega)
  refine (CP.out wa3.drew (H.out.below B.drew)).mono ?_;rintro e W1 ⟨t',o',s',rfl,om,b1⟩
  have b1':Below wa3.heap.size wa3 W1:=(Below.refl _ wa3).drew.trans b1;have hF':=FL.agree (Ws:=wsC wa3 (w.heap.size+1+1) ⟨undef,undef,undef,wa3⟩) (Ws':=wsC wa3 (w.heap.size+1+1) ⟨t',o',s',W1⟩) (k0:=1) rfl rfl hφ hF;exact ⟨⟨t',o',s',W1⟩,⟨om,b1'⟩,rfl,(FL.step (i:=0) rfl (by decide) hF' hφ (by intro p hp;omega) (by omega)).2⟩
 ·rintro ⟨t',o',s',W1⟩ ⟨om,b1⟩
  dsimp only at om b1 ⊢;obtain ⟨⟨tA,tn,tc,rfl⟩,⟨oA,on,oc,rfl⟩,⟨sA,sn,sc,rfl⟩⟩:=om.forms;have r3:=g3.below b1;have AL:∀d,d≤2→Below w.heap.size w (wsC wa3 (w.heap.size+1+1) ⟨.slice tA tn tc,.slice oA on oc,.slice sA sn sc,W1⟩ d)∧Bx (wsC wa3 (w.heap.size+1+1) ⟨.slice tA tn tc,.slice oA on oc,.slice sA sn sc,W1⟩ d) w.heap.size 26 #[tv,ov,sv]∧Bx (wsC wa3 (w.heap.size+1+1) ⟨.slice tA tn tc,.slice oA on oc,.slice sA sn sc,W1⟩ d) (w.heap.size+1) 50 #[.int .i64 k,.int .i64 g]:=by
   intro d hd;rcases d with _ | _ | d
   ·exact ⟨B.drew,g1,g2⟩
   ·exact ⟨B.trans (b1.mono hB),g1.below b1,g2.below b1⟩
   ·refine ⟨?_,?_,?_⟩
    ·exact (((B.trans (b1.mono hB)).setCell (p:=⟨w.heap.size+1+1,0,none⟩) (by simp;omega) _).setCell (p:=⟨w.heap.size+1+1,1,none⟩) (by simp;omega) _).setCell (p:=⟨w.heap.size+1+1,2,none⟩) (by simp;omega) _
    ·exact (((g1.below b1).far (p:=⟨w.heap.size+1+1,0,none⟩) (by show _≠w.heap.size+1+1;omega) _).far (p:=⟨w.heap.size+1+1,1,none⟩) (by show _≠w.heap.size+1+1;omega) _).far (p:=⟨w.heap.size+1+1,2,none⟩) (by show _≠w.heap.size+1+1;omega) _
    ·exact (((g2.below b1).far (p:=⟨w.heap.size+1+1,0,none⟩) (by show _≠w.heap.size+1+1;omega) _).far (p:=⟨w.heap.size+1+1,1,none⟩) (by show _≠w.heap.size+1+1;omega) _).far (p:=⟨w.heap.size+1+1,2,none⟩) (by show _≠w.heap.size+1+1;omega) _
  have AA:=hD (fun x:FXN (FL [1,9] (wsC wa3 (w.heap.size+1+1) ⟨.slice tA tn tc,.slice oA on oc,.slice sA sn sc,W1⟩) 1 2)=>FL.all (ks:=[1,9]) (Ws:=wsC wa3 (w.heap.size+1+1) ⟨.slice tA tn tc,.slice oA on oc,.slice sA sn sc,W1⟩) (p:=fun W=>Below w.heap.size w W∧Bx W w.heap.size 26 #[tv,ov,sv]∧Bx W (w.heap.size+1) 50 #[.int .i64 k,.int .i64 g]) AL x)
  have ca:=fun x:FXN (FL [1,9] (wsC wa3 (w.heap.size+1+1) ⟨.slice tA tn tc,.slice oA on oc,.slice sA sn sc,W1⟩) 1 2)=>(AA.out x).2.1.cell;have cb:=fun x:FXN (FL [1,9] (wsC wa3 (w.heap.size+1+1) ⟨.slice tA tn tc,.slice oA on oc,.slice sA sn sc,W1⟩) 1 2)=>(AA.out x).2.2.cell;have cc:=fun x:FXN (FL [1,9] (wsC wa3 (w.heap.size+1+1) ⟨.slice tA tn tc,.slice oA on oc,.slice sA sn sc,W1⟩) 1 2)=>cell_later (AA.out x).1 m2
  haveI:Nonempty (FXN (FL [1,9] (wsC wa3 (w.heap.size+1+1) ⟨.slice tA tn tc,.slice oA on oc,.slice sA sn sc,W1⟩) 1 2)):=⟨⟨_,_,FL.start⟩⟩
  refine wpG_read FL.dep rfl (by decide) (by decide) ?_;go_big_quiet_step (fail);refine wpQuiet_nil ?_
  refine wpG_call #[.agg #[tv,ov,sv]] rfl (by simp [Act.eval]) (enter_copied _) ?_;simp only [Act.put,List.setIfInBounds_toArray,List.set_cons_zero,List.set_cons_succ]
  iterate 7 (refine wpG_read FL.dep rfl (by decide) (by decide) ?_;go_big_quiet_step (fail);refine wpQuiet_nil ?_)
  have c3:=r3.cell;have f3:=r3.free;refine wpG_store FL.dep (by decide) rfl 26 (.tmp 4) (.tmp 23) rfl (by rfl) (p:=.pointer (some ⟨w.heap.size+1+1,0,none⟩)) (u:=.agg #[.slice tA tn tc,.slice oA on oc,.slice sA sn sc]) (by rfl) (by rfl) [1] (by kernel_rfl) (fun f W hF h0 h1=>?_) ?_
  ·obtain ⟨rfl,h2⟩:=FL.step (i:=1) rfl (by decide) hF h0 (FL.prev (p:=0) (q:=1) rfl (h1 1 (by simp))) (by omega)
   refine ⟨_,?_,h2⟩
   simp [go_sem,wsC,c3,f3]
  simp only [Act.put,List.setIfInBounds_toArray,List.set_cons_zero,List.set_cons_succ]
  iterate 2 (refine wpG_read FL.dep rfl (by decide) (by decide) ?_;go_big_quiet_step (fail);refine wpQuiet_nil ?_)
  refine wpG_nil ?_;intro w' hw';obtain rfl:=FL.done hw';have HM:=hD (OwnM.set3 (a:=.slice tA tn tc) (b:=.slice oA on oc) (c:=.slice sA sn sc) (om.mono hB) r3)
  have BB:=hD (AL 2 (Nat.le_refl _)).1;have g3':Bx ((((W1.setCell ⟨w.heap.size+1+1,0,none⟩ (.slice tA tn tc)).setCell ⟨w.heap.size+1+1,1,none⟩ (.slice oA on oc)).setCell ⟨w.heap.size+1+1,2,none⟩ (.slice sA sn sc))) (w.heap.size+1+1) 26 #[.slice tA tn tc,.slice oA on oc,.slice sA sn sc]:=by
   have:=((r3.set (i:=0) (.slice tA tn tc)).set (i:=1) (.slice oA on oc)).set (i:=2) (.slice sA sn sc)
   simpa using this
  have c3':=g3'.cell;clear this ca cb cc c3 f3 AL AA om b1 g1 g2 g3 B r3 hw';show _
  generalize hW:(((W1.setCell ⟨w.heap.size+1+1,0,none⟩ (.slice tA tn tc)).setCell ⟨w.heap.size+1+1,1,none⟩ (.slice oA on oc)).setCell ⟨w.heap.size+1+1,2,none⟩ (.slice sA sn sc))=W4 at c3' HM
  have hw4:wsC wa3 (w.heap.size+1+1) ⟨.slice tA tn tc,.slice oA on oc,.slice sA sn sc,W1⟩ [1,9].length=W4:=hW;rw [hw4]
  have BB2:=BB.out;rw [show wsC wa3 (w.heap.size+1+1) ⟨.slice tA tn tc,.slice oA on oc,.slice sA sn sc,W1⟩ 2=W4 from hW] at BB2;have BB3:=hD BB2;clear hW hw4 BB BB2 g3';go_wp2;refine bodyPost_ret (v:=.tuple #[.agg #[.slice tA tn tc,.slice oA on oc,.slice sA sn sc],.int .i64 n',.int .i64 0]) (by simp [results,Try.results40,go_sem,c3']) rfl ?_;exact ⟨_,_,_,rfl,HM.out,BB3.out⟩
end
end Go.Proofs.Yteejianjjpdimaa
namespace Go.Proofs.Yteejianjjpdimaa.L18
open L02
end Go.Proofs.Yteejianjjpdimaa.L18
namespace Go.Proofs.Yteejianjjpdimaa
section
open Go.RowKit L02 L13 L18 L20
theorem tabL_set (S:List Sl) (k:Nat) (s:Sl) (hk:k<S.length):(((tabL S).set (k*3) (.int .i64 s.gen)).set (k*3+1) (.bool s.used)).set (k*3+2) (.int .i64 s.at_)=tabL (S.set k s):=by
 apply List.ext_getElem?;intro i;by_cases hi:i<S.length*3
 ·obtain ⟨q,r,hr,rfl⟩:∃q r,r<3∧i=q*3+r:=⟨i / 3,i % 3,Nat.mod_lt _ (by omega),by omega⟩
  have hq:q<S.length:=by omega
  by_cases hqk:q=k
  ·subst hqk;have h1:=tabL_get (S.set q s) q s (by simp [hq]) r hr;rw [h1]
   have hl:(tabL S).length=S.length*3:=tabL_len S
   have:r=0∨r=1∨r=2:=by omega
   rcases this with rfl | rfl | rfl
   ·rw [List.getElem?_set_ne (by omega),List.getElem?_set_ne (by omega),Nat.add_zero,List.getElem?_set_self (by omega)];rfl
   ·rw [List.getElem?_set_ne (by omega),List.getElem?_set_self (by simp;omega)];rfl
   ·rw [List.getElem?_set_self (by simp;omega)];rfl
  ·have hs:S[q]?=some S[q]:=List.getElem?_eq_getElem hq;have h1:=tabL_get (S.set k s) q S[q] (by rw [List.getElem?_set_ne (Ne.symm hqk)];exact hs) r hr;have h2:=tabL_get S q S[q] hs r hr;rw [h1,List.getElem?_set_ne (by omega),List.getElem?_set_ne (by omega),List.getElem?_set_ne (by omega),h2]
 ·rw [List.getElem?_eq_none (by simp [tabL_len];omega),List.getElem?_eq_none (by simp [tabL_len];omega)]
theorem OwnS.put3 {w:World} {B E g n c k:Nat} {S:List Sl} (h:OwnS w B E (.slice (some ⟨g,0,none⟩) n c) S) (hk:k<S.length) (s:Sl):
  OwnS (((w.setCell ⟨g,k*3,none⟩ (.int .i64 s.gen)).setCell ⟨g,k*3+1,none⟩ (.bool s.used)).setCell ⟨g,k*3+2,none⟩ (.int .i64 s.at_)) B E (.slice (some ⟨g,0,none⟩) n c) (S.set k s)∧
   w.grownBy (((w.setCell ⟨g,k*3,none⟩ (.int .i64 s.gen)).setCell ⟨g,k*3+1,none⟩ (.bool s.used)).setCell ⟨g,k*3+2,none⟩ (.int .i64 s.at_)) (some g)∧B≤g∧g<w.heap.size∧∀j,w.frozen? ⟨g,j,none⟩=false:=by
 have hn:n=S.length:=by
  obtain ⟨g',cap,cur,hv,_⟩:=own_form h (by omega)
  injection hv
 subst hn;have h1:=World.ownsRow.stored h (k*3) (.int .i64 s.gen)
 have h2:=World.ownsRow.stored h1.1 (k*3+1) (.bool s.used)
 have h3:=World.ownsRow.stored h2.1 (k*3+2) (.int .i64 s.at_)
 have hl:=h.lt g rfl;refine ⟨?_,⟨rfl,rfl,rfl,?_,fun q hq hne=>?_⟩,hl.1,hl.2,fun j=>h.frozenAt j⟩
 ·unfold OwnS;rw [←tabL_set S k s hk,List.length_set]
  exact h3.1
 ·simp [World.setCell]
 ·exact (h3.2.block q (by simpa [World.setCell] using hq) hne).trans ((h2.2.block q (by simpa [World.setCell] using hq) hne).trans (h1.2.block q hq hne))
theorem OwnS.form {w:World} {B E:Nat} {v:Value} {S:List Sl} (h:OwnS w B E v S) (hn:0<S.length):∃g n c,v=.slice (some ⟨g,0,none⟩) n c∧n=S.length:=by
 obtain ⟨g,cap,cur,hv,_⟩:=own_form h hn;exact ⟨g,_,cap,hv,rfl⟩
theorem OwnS.cells {w:World} {B E g n c k:Nat} {S:List Sl} {s:Sl} (h:OwnS w B E (.slice (some ⟨g,0,none⟩) n c) S) (hs:S[k]?=some s):
  (∀W,(Instr.indexAt 24 (.slice (some ⟨g,0,none⟩) n c) (.int .i64 (k:Int))).run Try.prog W=.ok (.pointer (some ⟨g,k*3,none⟩)) W)∧w.cell? ⟨g,k*3,none⟩=some (.int .i64 s.gen)∧w.cell? ⟨g,k*3+1,none⟩=some (.bool s.used)∧w.cell? ⟨g,k*3+2,none⟩=some (.int .i64 s.at_):=by
 have hk:k<S.length:=(List.getElem?_eq_some_iff.1 hs).1;have t0:=Rd.cell (OwnS.rd h) (tabL_get S k s hs 0 (by omega))
 have t1:=Rd.cell (OwnS.rd h) (tabL_get S k s hs 1 (by omega))
 have t2:=Rd.cell (OwnS.rd h) (tabL_get S k s hs 2 (by omega))
 refine ⟨fun W=>?_,?_,?_,?_⟩
 ·have:=Rd.ixN (P:=Try.prog) (OwnS.rd h) Try.underlying24 size_slot hk W;simpa [cellAt] using this
 ·simpa [cellAt] using t0
 ·simpa [cellAt] using t1
 ·simpa [cellAt] using t2
theorem OwnM.slots {w W:World} {B g n c:Nat} {tv ov:Value} {m:Mo} {S:List Sl} (h:OwnM w B 48 tv ov (.slice (some ⟨g,0,none⟩) n c) m) (hg:w.grownBy W (some g)) (hS:OwnS W B 48 (.slice (some ⟨g,0,none⟩) n c) S):
  OwnM W B 48 tv ov (.slice (some ⟨g,0,none⟩) n c) ⟨m.types,m.objs,S⟩:=by
 refine ⟨OwnT.kept h.t h.s hg (by decide) (by decide),?_,hS⟩
 obtain ⟨vs,a1,a2,a4,a5⟩:=h.o;exact ⟨vs,a1,World.ownsRow.kept a2 hg (own_unlike a2 h.s (by decide)),fun i x l h5 h6=>World.ownsRow.kept (a4 i x l h5 h6) hg (own_unlike (a4 i x l h5 h6) h.s (by decide)),a5⟩
def Keep (w w':World) (row:Option Nat):Prop:=w.heap.size≤w'.heap.size∧∀k,k<w.heap.size→some k≠row→w'.heap[k]?=w.heap[k]?
theorem Keep.of_below {w w':World} {row:Option Nat} (h:Below w.heap.size w w'):Keep w w' row:=⟨h.size,fun k hk _=>h.block k hk⟩
theorem Keep.grown {w w' w'':World} {row:Option Nat} (h:Keep w w' row) (hg:w'.grownBy w'' row):Keep w w'' row:=⟨Nat.le_trans h.1 hg.size,fun k hk hr=>(hg.block k (Nat.lt_of_lt_of_le hk h.1) hr).trans (h.2 k hk hr)⟩
theorem Keep.setCell {w w':World} {row:Option Nat} (h:Keep w w' row) {p:Addr} (hp:w.heap.size≤p.block) (u:Value):Keep w (w'.setCell p u) row:=
 ⟨by simpa [World.setCell] using h.1,fun k hk hr=>(Below.heap_setCell w' p u k (by omega)).trans (h.2 k hk hr)⟩
theorem Bx.keep {w w':World} {g:Nat} {t:TypeId} {cs:Array Value} {row:Option Nat} (h:Bx w g t cs) (hk:Keep w w' row) (hne:row=none∨row≠some g):Bx w' g t cs:=by
 have hl:=h.lt;unfold Bx at *;rw [hk.2 g hl (by
  rcases hne with rfl | h
  ·simp
  ·exact fun e=>h e.symm)]
 exact h
end
section
open Go.RowKit L02 L13 L18 L20
def OwnF (w:World) (base:Nat) (v:Value) (L:List Ob) (n gf:Nat):Prop:=∃(vs:List Value) (nf cf:Nat),vs.length=L.length∧w.ownsRow base 45 2 v L.length (obC L vs)∧(∀(i:Nat) x o,vs[i]?=some x→L[i]?=some o→OwnW w base 46 x o.fs)∧
 (∀(i j:Nat) x y,i≠j→vs[i]?=some x→vs[j]?=some y→x.ownBlock=none∨x.ownBlock≠y.ownBlock)∧vs[n]?=some (.slice (some ⟨gf,0,none⟩) nf cf)
theorem OwnF.own {w:World} {base n gf:Nat} {v:Value} {L:List Ob} (h:OwnF w base v L n gf):OwnO w base v L:=by
 obtain ⟨vs,nf,cf,h1,h2,h4,h5,_⟩:=h;exact ⟨vs,h1,h2,h4,h5⟩
theorem OwnF.below {w w':World} {base n gf:Nat} {v:Value} {L:List Ob} (h:OwnF w base v L n gf) (hb:Below w.heap.size w w'):OwnF w' base v L n gf:=by
 obtain ⟨vs,nf,cf,h1,h2,h4,h5,h6⟩:=h;exact ⟨vs,nf,cf,h1,own_below h2 hb,fun i x l h5 h6=>(h4 i x l h5 h6).below hb,h5,h6⟩
theorem OwnF.mono {w:World} {base base' n gf:Nat} {v:Value} {L:List Ob} (h:OwnF w base v L n gf) (hb:base'≤base):OwnF w base' v L n gf:=by
 obtain ⟨vs,nf,cf,h1,h2,h4,h5,h6⟩:=h;exact ⟨vs,nf,cf,h1,own_mono h2 hb,fun i x l h5 h6=>own_mono (h4 i x l h5 h6) hb,h5,h6⟩
theorem OwnF.set {w:World} {B p i n gf:Nat} {v u:Value} {L:List Ob} {t:TypeId} {cs:Array Value} (h:OwnF w B v L n gf) (hg:Bx w p t cs) (h1:45≠t) (h2:46≠t):OwnF (w.setCell ⟨p,i,none⟩ u) B v L n gf:=by
 obtain ⟨vs,nf,cf,a1,a2,a4,a5,a6⟩:=h;exact ⟨vs,nf,cf,a1,own_set a2 hg h1,fun i x l h5 h6=>own_set (a4 i x l h5 h6) hg h2,a5,a6⟩
theorem OwnF.cell {w:World} {base n gf i:Nat} {v:Value} {L:List Ob} {o:Ob} {x:UInt64} (h:OwnF w base v L n gf) (ho:L[n]?=some o) (hx:o.fs[i]?=some x):
  w.cell? ⟨gf,i,none⟩=some (.int .u64 x.toNat)∧w.frozen? ⟨gf,i,none⟩=false∧base≤gf∧gf<w.heap.size:=by
 obtain ⟨vs,nf,cf,h1,h2,h4,h5,h6⟩:=h;have hr:=h4 n _ _ h6 ho;have hi:i<o.fs.length:=(List.getElem?_eq_some_iff.1 hx).1;have hn:nf=o.fs.length:=by
  obtain ⟨g',cap,cur,hv,_⟩:=own_form hr (by omega)
  injection hv
 subst hn;have hl:=hr.lt gf rfl;have hc:=Rd.cell (OwnW.rd hr) (j:=i) (u:=u64 x) (by rw [List.getElem?_map,hx];rfl)
 refine ⟨?_,hr.frozenAt i,hl.1,hl.2⟩
 simpa [cellAt,u64] using hc
theorem OwnO.at_ {w:World} {base:Nat} {v:Value} {L:List Ob} (h:OwnO w base v L) {n:Nat} {o:Ob} (ho:L[n]?=some o) (hf:0<o.fs.length):
  ∃b q gf nf cf,(∀W,(Instr.indexAt 23 v (.int .i64 (n:Int))).run Try.prog W=.ok (.pointer (some ⟨b,q,none⟩)) W)∧w.cell? ⟨b,q,none⟩=some (.int .i64 o.ty)∧w.cell? ⟨b,q+1,none⟩=some (.slice (some ⟨gf,0,none⟩) nf cf)∧b<w.heap.size∧OwnF w base v L n gf∧nf=o.fs.length∧
   ∀i,i<o.fs.length→∀W,(Instr.indexAt 43 (.slice (some ⟨gf,0,none⟩) nf cf) (.int .i64 (i:Int))).run Try.prog W=.ok (.pointer (some ⟨gf,i,none⟩)) W:=by
 obtain ⟨vs,h1,h2,h4,h5⟩:=h;have hk:n<L.length:=(List.getElem?_eq_some_iff.1 ho).1;have hv:vs[n]?=some vs[n]:=List.getElem?_eq_getElem (by omega)
 have hr:=h4 n _ _ hv ho;obtain ⟨gf,cap,cur,hvv,_⟩:=own_form hr hf;have hix:=fun W=>Rd.ixN (P:=Try.prog) (Rd.of_own h2) Try.underlying23 size_obj hk W;obtain ⟨b,q,c,rfl,hb,hc,hcell⟩:=Rd.form (Rd.of_own h2) (by omega)
 obtain ⟨c0,c1⟩:=obC_get ho hv;rw [hvv] at c1 hv hr;refine ⟨b,q+n*2,gf,_,cap,fun W=>hix W,hcell _ _ c0,hcell _ _ c1,hb,⟨vs,_,cap,h1,h2,h4,h5,hv⟩,rfl,fun i hi W=>?_⟩
 have:=Rd.ixN (P:=Try.prog) (OwnW.rd hr) Try.underlying43 one_u64 hi W;simpa [cellAt] using this
theorem obC_setFs:∀{L:List Ob} {vs:List Value} {n:Nat} {o:Ob} {f:List UInt64},L[n]?=some o→obC (L.set n ⟨o.ty,f⟩) vs=obC L vs
 | [],_,_,_,_,h=>by simp at h
 | o :: L,[],0,o',f,h=>rfl
 | o :: L,x :: vs,0,o',f,h=>by simp at h;subst h;rfl
 | o :: L,[],n+1,o',f,h=>rfl
 | o :: L,x :: vs,n+1,o',f,h=>by
  rw [List.set_cons_succ,obC,obC,obC_setFs (by simpa using h)]
theorem OwnM.storeF {w:World} {B n gf i:Nat} {tv ov sv:Value} {m:Mo} {o:Ob} {x0:UInt64} (h:OwnM w B 48 tv ov sv m) (hf:OwnF w B ov m.objs n gf) (ho:m.objs[n]?=some o) (hx:o.fs[i]?=some x0) (x:UInt64):
  OwnM (w.setCell ⟨gf,i,none⟩ (.int .u64 x.toNat)) B 48 tv ov sv (putF m n i x)∧OwnF (w.setCell ⟨gf,i,none⟩ (.int .u64 x.toNat)) B ov (putF m n i x).objs n gf∧w.grownBy (w.setCell ⟨gf,i,none⟩ (.int .u64 x.toNat)) (some gf):=by
 obtain ⟨vs,nf,cf,h1,h2,h4,h5,h6⟩:=hf;have hob:ob m n=o:=by simp [ob,List.getD_eq_getElem?_getD,ho]
 have hr:=h4 n _ _ h6 ho;have hi:i<o.fs.length:=(List.getElem?_eq_some_iff.1 hx).1;have hn:nf=o.fs.length:=by
  obtain ⟨g',cap,cur,hv,_⟩:=own_form hr (by omega)
  injection hv
 subst hn;have hst:=World.ownsRow.stored hr i (u64 x)
 have hg:=hst.2;have ho2:(w.setCell ⟨gf,i,none⟩ (u64 x)).ownsRow B 45 2 ov m.objs.length (obC m.objs vs):=World.ownsRow.kept h2 hg (own_unlike h2 hr (by decide))
 have hF:OwnF (w.setCell ⟨gf,i,none⟩ (u64 x)) B ov (putF m n i x).objs n gf:=by
  refine ⟨vs,_,cf,by simp [L20.putF,h1],?_,fun j y l hy hl=>?_,h5,h6⟩
  ·show World.ownsRow _ B _ 2 ov (m.objs.set n ⟨(ob m n).ty,(ob m n).fs.set i x⟩).length (obC (m.objs.set n ⟨(ob m n).ty,(ob m n).fs.set i x⟩) vs)
   rw [hob,obC_setFs ho,List.length_set];exact ho2
  ·by_cases hj:j=n
   ·subst hj;have e1:(putF m j i x).objs[j]?=some ⟨(ob m j).ty,(ob m j).fs.set i x⟩:=by
     show (m.objs.set j _)[j]?=_;rw [List.getElem?_set_self (List.getElem?_eq_some_iff.1 ho).1]
    rw [e1] at hl;injection hl with hl;subst hl
    rw [h6] at hy;injection hy with hy;subst hy
    refine OwnW.of hst.1 ?_;rw [hob];simp only [List.map_set]
   ·have e1:(putF m n i x).objs[j]?=m.objs[j]?:=by
     show (m.objs.set n _)[j]?=_;rw [List.getElem?_set_ne (Ne.symm hj)]
    rw [e1] at hl;exact World.ownsRow.kept (h4 j y l hy hl) hg (h5 j n y _ hj hy h6)
 exact ⟨⟨OwnT.kept h.t hr hg (by decide) (by decide),hF.own,World.ownsRow.kept h.s hg (own_unlike h.s hr (by decide))⟩,hF,hg⟩
end
section
open Go.RowKit L02 L13 L18 L20
end
section
open Go.RowKit L02 L13 L18 L20
theorem OwnM.nil (w:World) (base:Nat):OwnM w base 48 (.slice none 0 0) (.slice none 0 0) (.slice none 0 0) .nil:=⟨OwnT.nil _ _,OwnO.nil _ _,OwnS.nil _ _ _⟩
end
section
open Go.RowKit
def PtrH (w:World) (v:Value) (tt:Option (Int×Int)):Prop:=match tt with
 | none=>v=.pointer none
 | some t=>∃g,v=.pointer (some ⟨g,0,none⟩)∧Bx w g 50 #[.int .i64 t.1,.int .i64 t.2]
theorem PtrH.below {w w':World} {v:Value} {tt:Option (Int×Int)} (h:PtrH w v tt) (hb:Below w.heap.size w w'):PtrH w' v tt:=by
 cases tt with
 | none=>exact h
 | some t=>obtain ⟨g,h1,h2⟩:=h;exact ⟨g,h1,h2.below hb⟩
end
section
open Go.RowKit L02 L13 L18 L20
end
section
open Go.RowKit L02 L13 L18 L20
def FHandle (w:World) (R:Bool→World→Prop) (ps:List (Nat×TypeId×Array Value)) (gf i:Nat) (x:Int) (a b:Int) (z:Nat) (g:Nat):(Nat→Bool)→World→Prop:=fun φ W=>
 (R (φ 6) W∧z≤W.heap.size)∧Below w.heap.size w W∧(∀p∈ps,Bx W p.1 p.2.1 p.2.2)∧W.cell? ⟨gf,i,none⟩=some (.int .u64 x)∧(φ 11=true→φ 10=true)∧(φ 10=true→(∀p∈ps,g≠p.1)∧gf≠g∧z≤g)∧(φ 10=true→φ 11=false→Bx W g 50 #[.int .i64 0,.int .i64 0])∧(φ 11=true→Bx W g 50 #[.int .i64 a,.int .i64 b])
theorem FHandle.dep {w:World} {R:Bool→World→Prop} {ps:List (Nat×TypeId×Array Value)} {gf i:Nat} {x a b:Int} {z g:Nat}:Dep (FHandle w R ps gf i x a b z g) [6,10,11]:=by
 rintro φ ψ W h ⟨h1,h2,h3,h4,h5,h6,h7,h8⟩
 have e1:=h 6 (by simp);have e2:=h 10 (by simp);have e3:=h 11 (by simp)
 rw [e1] at h1;rw [e2,e3] at h5;rw [e2] at h6;rw [e2,e3] at h7;rw [e3] at h8;exact ⟨h1,h2,h3,h4,h5,h6,h7,h8⟩
theorem FHandle.agree {w:World} {R:Bool→World→Prop} {ps:List (Nat×TypeId×Array Value)} {gf i:Nat} {x a b:Int} {z g g':Nat} {φ:Nat→Bool} {W:World} (h:φ 10=true→g=g') (hF:FHandle w R ps gf i x a b z g φ W):FHandle w R ps gf i x a b z g' φ W:=by
 by_cases h10:φ 10=true
 ·rw [←h h10];exact hF
 ·obtain ⟨h1,h2,h3,h4,h5,h6,h7,h8⟩:=hF;exact ⟨h1,h2,h3,h4,h5,fun e=>absurd e h10,fun e=>absurd e h10,fun e=>absurd (h5 e) h10⟩
theorem FHandle.alloc {w:World} {R:Bool→World→Prop} {ps:List (Nat×TypeId×Array Value)} {gf i:Nat} {x a b:Int} {z g:Nat} {φ:Nat→Bool} {W:World} (hF:FHandle w R ps gf i x a b z g φ W) (h10:φ 10=false) (hR:∀c W o,R c W→R c (W.alloc o)):
  FHandle w R ps gf i x a b z W.heap.size (fun j=>j==10 || φ j) (W.alloc (.cells #[.int .i64 0,.int .i64 0] 50)):=by
 obtain ⟨h1,h2,h3,h4,h5,h6,h7,h8⟩:=hF;have h11:φ 11=false:=by
  cases e:φ 11
  ·rfl
  ·rw [h5 e] at h10;cases h10
 have hlt:=World.block_lt_of_cell? W _ h4;refine ⟨⟨by simpa using hR _ _ _ h1.1,by simp;omega⟩,h2.alloc h2.size _,fun p hp=>(h3 p hp).alloc _,cell_later ((Below.refl _ W).alloc (Nat.le_refl _) _) h4,by simp,fun _=>⟨fun p hp=>by have:=(h3 p hp).lt;omega,by simp at hlt;omega,h1.2⟩,fun _ _=>Bx.new _ _ _,by simp [h11]⟩
theorem FHandle.call {w:World} {R:Bool→World→Prop} {ps:List (Nat×TypeId×Array Value)} {gf i:Nat} {x a b:Int} {z g:Nat} {φ:Nat→Bool} {W W':World} {row:Option Nat} (hF:FHandle w R ps gf i x a b z g φ W) (hk:Keep W W' row) (hps:∀p∈ps,row≠some p.1) (hgf:row≠some gf) (hrow:∀k,row=some k→k<z)
  (hR:R true W') (hB:Below w.heap.size w W'):FHandle w R ps gf i x a b z g (fun j=>j==6 || φ j) W':=by
 obtain ⟨h1,h2,h3,h4,h5,h6,h7,h8⟩:=hF;have hlt:=World.block_lt_of_cell? W _ h4;have hrg:φ 10=true→row=none∨row≠some g:=fun e=>by
  rcases row with _ | k
  ·exact .inl rfl
  ·have h:=hrow k rfl;have h':=(h6 e).2.2;exact .inr (fun e=>by injection e with e;omega)
 refine ⟨⟨by simpa using hR,Nat.le_trans h1.2 hk.1⟩,hB,fun p hp=>(h3 p hp).keep hk (.inr (hps p hp)),?_,by simpa using h5,by simpa using h6,fun e1 e2=>?_,fun e=>?_⟩
 ·rw [World.cell?_of_block (hk.2 gf hlt (fun e=>hgf e.symm))];exact h4
 ·have e1':φ 10=true:=by simpa using e1
  exact (h7 e1' (by simpa using e2)).keep hk (hrg e1')
 ·have e':φ 11=true:=by simpa using e
  exact (h8 e').keep hk (hrg (h5 e'))
theorem FHandle.store {w:World} {R:Bool→World→Prop} {ps:List (Nat×TypeId×Array Value)} {gf i:Nat} {x a b:Int} {z g:Nat} {φ:Nat→Bool} {W:World} (hF:FHandle w R ps gf i x a b z g φ W) (hz:w.heap.size≤z) (h10:φ 10=true) (h11:φ 11=false)
  (hR:∀c W p cs u,Bx W g 50 cs→R c W→R c (W.setCell ⟨g,p,none⟩ u)):
  (W.cell? ⟨g,0,none⟩=some (.int .i64 0)∧W.cell? ⟨g,1,none⟩=some (.int .i64 0)∧∀j,W.frozen? ⟨g,j,none⟩=false)∧FHandle w R ps gf i x a b z g (fun j=>j==11 || φ j) ((W.setCell ⟨g,0,none⟩ (.int .i64 a)).setCell ⟨g,1,none⟩ (.int .i64 b)):=by
 obtain ⟨h1,h2,h3,h4,h5,h6,h7,h8⟩:=hF;have hb:=h7 h10 h11;obtain ⟨k1,k2,k3⟩:=h6 h10;have k4:=Nat.le_trans hz k3;refine ⟨⟨hb.cell 0,hb.cell 1,fun j=>hb.free j⟩,⟨?_,by simpa [World.setCell] using h1.2⟩,(h2.setCell (p:=⟨g,0,none⟩) k4 _).setCell (p:=⟨g,1,none⟩) k4 _,fun p hp=>((h3 p hp).far (p:=⟨g,0,none⟩) (Ne.symm (k1 p hp)) _).far (p:=⟨g,1,none⟩) (Ne.symm (k1 p hp)) _,cell_far (cell_far h4 k2) k2,fun _=>by simpa using h10,fun _=>⟨k1,k2,k3⟩,fun _ e=>by simp at e,fun _=>?_⟩
 ·have:=hR _ _ 1 _ (.int .i64 b) (hb.set (i:=0) (.int .i64 a)) (hR _ _ 0 _ (.int .i64 a) hb h1.1)
  simpa using this
 ·have:=(hb.set (i:=0) (.int .i64 a)).set (i:=1) (.int .i64 b)
  simpa using this
def FTwoR (w:World) (B0:Nat) (t o s:Value) (m:Mo) (p7 p4 gq:Nat) (p3:Nat) (a b:Int):(Nat→Bool)→World→Prop:=fun f W=>
 Below w.heap.size w W∧OwnM W B0 48 t o s m∧Bx W p3 26 (if f 2=true then #[t,o,s] else #[.slice none 0 0,.slice none 0 0,.slice none 0 0])∧Bx W p7 50 (if f 3=true then #[.int .i64 a,.int .i64 b] else #[.int .i64 0,.int .i64 0])∧
  Bx W p4 26 #[t,o,s]∧Bx W gq 50 #[.int .i64 a,.int .i64 b]
theorem FTwoR.dep {w:World} {B0:Nat} {t o s:Value} {m:Mo} {p7 p4 gq p3:Nat} {a b:Int}:Dep (FTwoR w B0 t o s m p7 p4 gq p3 a b) [2,3]:=by
 rintro f g W h ⟨h1,h2,h3,h4,h5,h6⟩
 have e1:=h 2 (by simp);have e2:=h 3 (by simp)
 rw [e1] at h3;rw [e2] at h4;exact ⟨h1,h2,h3,h4,h5,h6⟩
end
section
open Go.RowKit L02 L13 L18 L20
end
section
open Go.RowKit L02 L13 L18 L20
end
section
open Go.RowKit L02 L13 L18 L20
end
section
open Go.RowKit L02 L13 L18 L20
end
section
open Go.RowKit L02 L13 L18 L20
end
section
open Go.RowKit L02 L13 L18 L20
end
section
open Go.RowKit L02 L13 L18 L20
theorem Drop20_any (tv ov sv:Value) (m:Mo) (sl g:Int) (M:Mo) (r:Int) (hM:M=dropM m sl g) (hr:r=asked m sl g) (w:World) (h:Mod w tv ov sv m):
  Calls Try.prog 21 #[.agg #[tv,ov,sv],.agg #[.int .i64 sl,.int .i64 g]] w fun e w'=>∃t' o' s',e=.returned (.tuple #[.agg #[t',o',s'],.int .i64 r])∧Mod w' t' o' s' M∧Below w.heap.size w w':=by
 have B:=Below.refl w.heap.size w;have H:=hD h;by_cases ha:asked m sl g=0
 ·obtain ⟨c0,hr0,k,s,n',o,t,hk,hk16,hs,hu,hg,hso,hat,hown,_⟩:=asked_ok ha;have OT:=hD (open20_ok tv ov sv m sl g n' ha hown)
  obtain ⟨_,_,h16,_⟩:=chk_ok c0;have hr1:r=0:=by rw [hr,ha]
  have hM1:M=⟨m.types,m.objs,m.slots.set k ⟨g,false,0⟩⟩:=by rw [hM,dropM,if_pos ha,hk,Int.toNat_natCast]
  subst hk;subst hr1;subst hM1;have HS:=hD hs;have H16:=hD h16;clear hr hM ha c0 hr0 hu hso hat hown h hs h16;go_in;go_upto_region 1 with (fail)
  refine wpb111 (26) (#[tv,ov,sv]) (50) (#[.int .i64 k,.int .i64 g]) (26) (#[.slice none 0 0,.slice none 0 0,.slice none 0 0]) ?_;rintro wa1 ⟨g1,g2,g3,b⟩
  replace B:=B.trans (b.mono B.size);clear b;replace c_g1:=g1.five;replace c_g2:=g2.five;replace c_g3:=g3.five;have hz1:=B.size;have hp1:=g3.lt;go_wp2_with fail;refine (OT.out _ (H.out.below B)).mono ?_;rintro e wa2 ⟨t',o',s',rfl,om,b⟩
  replace g1:=g1.below b;replace c_g1:=g1.five;replace g2:=g2.below b;replace c_g2:=g2.five;replace g3:=g3.below b;replace c_g3:=g3.five;replace B:=B.trans (b.mono B.size);clear b;obtain ⟨⟨tA,tn,tc,rfl⟩,⟨oA,on,oc,rfl⟩,_⟩:=om.forms;obtain ⟨gS,sc,rfl⟩:∃g c,s'=.slice (some ⟨g,0,none⟩) 16 c:=by obtain ⟨g,n,c,e,e2⟩:=om.s.form (by have:=H16.out;omega);rw [e2,H16.out] at e;exact ⟨g,c,e⟩
  have hgS:=om.s.lt gS rfl;go_upto_region 2 with (fail)
  refine wpb1 (26) (#[.slice tA tn tc,.slice oA on oc,.slice (some ⟨gS,0,none⟩) 16 sc]) ?_;rintro wa3 ⟨g4,b⟩
  replace g1:=g1.below b;replace c_g1:=g1.five;replace g2:=g2.below b;replace c_g2:=g2.five;replace g3:=g3.below b;replace c_g3:=g3.five;replace om:=om.below b;replace B:=B.trans (b.mono B.size);clear b;replace c_g4:=g4.five;have HP:=hD (OwnS.put3 (k:=k) om.s (by have:=H16.out;omega) ⟨g,false,0⟩)
  obtain ⟨ix,p0,p1,p2⟩:=OwnS.cells om.s HS.out;have fz:=HP.out.2.2.2.2;have hM3:=OwnM.slots om HP.out.2.1 HP.out.1;have nx:=fun {q:Nat} {tq:TypeId} {cs:Array Value} (hb:Bx wa3 q tq cs) (hne:gS≠q)=>hb.grown HP.out.2.1 (.inr (fun e=>hne (by injection e)))
  have r3:=nx g3 (by omega);have r4:=nx g4 (by omega)
  have hb3:=B.grown HP.out.2.1 B.size (fun k hk=>by injection hk with hk;rw [←hk];have:=HP.out.2.2.1;omega)
  have HH:=hD (And.intro hM3 (And.intro r3 (And.intro r4 hb3)))
  clear nx r3 r4 hb3 hM3;go_upto_region 5 with (fail)
  refine wp_gen (fun Wv=>OwnM Wv wa1.heap.size 48 (.slice tA tn tc) (.slice oA on oc) (.slice (some ⟨gS,0,none⟩) 16 sc) ⟨m.types,m.objs,m.slots.set k ⟨g,false,0⟩⟩∧Bx Wv (w.heap.size+1+1) 26 #[.slice none 0 0,.slice none 0 0,.slice none 0 0]∧Bx Wv wa2.heap.size 26 #[.slice tA tn tc,.slice oA on oc,.slice (some ⟨gS,0,none⟩) 16 sc]∧Below w.heap.size w Wv) HH.out ?_;rintro wz ⟨om2,r3,r4,B2⟩
  clear HH om g1 g2 g3 g4 B p0 p1 p2 fz ix HP c_g1 c_g2 c_g3 c_g4;have c3:=r3.cell;have f3:=r3.free;have c4:=r4.cell;go_wp2;refine bodyPost_ret (v:=.tuple #[.agg #[.slice tA tn tc,.slice oA on oc,.slice (some ⟨gS,0,none⟩) 16 sc],.int .i64 0]) (by simp [results,Try.results21,go_sem,c3,f3]) rfl ?_;refine ⟨_,_,_,rfl,(OwnM.set3 om2 r3).rd,?_⟩
  exact ((B2.setCell (p:=⟨w.heap.size+1+1,0,none⟩) (by simp;omega) _).setCell (p:=⟨w.heap.size+1+1,1,none⟩) (by simp;omega) _).setCell (p:=⟨w.heap.size+1+1,2,none⟩) (by simp;omega) _
 ·have OT:=hD (open20_no tv ov sv m sl g r hr (by rw [hr];exact ha))
  have hM1:M=.nil:=by rw [hM,dropM,if_neg ha]
  have hne:(r != 0)=true:=by rw [bne_iff_ne,hr];exact ha
  subst hM1;clear hr hM ha h;go_in;go_upto_region 1 with (fail)
  refine wpb111 (26) (#[tv,ov,sv]) (50) (#[.int .i64 sl,.int .i64 g]) (26) (#[.slice none 0 0,.slice none 0 0,.slice none 0 0]) ?_;rintro wa1 ⟨g1,g2,g3,b⟩
  replace B:=B.trans (b.mono B.size);clear b;replace c_g1:=g1.five;replace c_g2:=g2.five;replace c_g3:=g3.five;go_wp2_with fail;refine (OT.out _ (H.out.below B)).mono ?_;rintro e wa2 ⟨rfl,b⟩
  replace g1:=g1.below b;replace c_g1:=g1.five;replace g2:=g2.below b;replace c_g2:=g2.five;replace g3:=g3.below b;replace c_g3:=g3.five;replace B:=B.trans (b.mono B.size);clear b;go_upto_region 2 with (fail)
  refine wpb1 (26) (#[.slice none 0 0,.slice none 0 0,.slice none 0 0]) ?_;rintro wa3 ⟨g4,b⟩
  replace g1:=g1.below b;replace c_g1:=g1.five;replace g2:=g2.below b;replace c_g2:=g2.five;replace g3:=g3.below b;replace c_g3:=g3.five;replace B:=B.trans (b.mono B.size);clear b;replace c_g4:=g4.five;go_wp2;refine bodyPost_ret (v:=.tuple #[.agg #[.slice none 0 0,.slice none 0 0,.slice none 0 0],.int .i64 r]) (by simp [results,Try.results21,go_sem,c_g3]) rfl ?_;refine ⟨_,_,_,rfl,Mod.nil _,?_⟩
  exact bdn
end
section
open Go.RowKit L02 L13 L18 L20
end
section
open Go.RowKit L02 L13 L18 L20
end
section
open Go.RowKit L02 L13 L18 L20
theorem ob_at {m:Mo} {i:Nat} {o:Ob} (h:m.objs[i]?=some o):ob m i=o:=by simp [ob,List.getD_eq_getElem?_getD,h]
end
section
open Go.RowKit L02 L13 L18 L20
theorem OwnS.put1 {w:World} {B E g n c k:Nat} {S:List Sl} {s:Sl} (h:OwnS w B E (.slice (some ⟨g,0,none⟩) n c) S) (hs:S[k]?=some s) (a:Int):
  OwnS (w.setCell ⟨g,k*3+2,none⟩ (.int .i64 a)) B E (.slice (some ⟨g,0,none⟩) n c) (S.set k ⟨s.gen,s.used,a⟩)∧
   w.grownBy (w.setCell ⟨g,k*3+2,none⟩ (.int .i64 a)) (some g)∧B≤g∧g<w.heap.size∧∀j,w.frozen? ⟨g,j,none⟩=false:=by
 have hk:k<S.length:=(List.getElem?_eq_some_iff.1 hs).1;have hn:n=S.length:=by
  obtain ⟨g',cap,cur,hv,_⟩:=own_form h (by omega)
  injection hv
 subst hn;have h3:=World.ownsRow.stored h (k*3+2) (.int .i64 a)
 have hl:=h.lt g rfl;have hsame:∀i:Nat,i<3→∀u,(slC s)[i]?=some u→(tabL S).set (k*3+i) u=tabL S:=by
  intro i hi u hu;have t0:=tabL_get S k s hs i hi;rw [hu] at t0;apply List.ext_getElem?;intro j;by_cases hj:j=k*3+i
  ·subst hj;rw [List.getElem?_set_self (List.getElem?_eq_some_iff.1 t0).1,t0]
  ·rw [List.getElem?_set_ne (Ne.symm hj)]
 have h0:=hsame 0 (by omega) (.int .i64 s.gen) rfl;have h1:=hsame 1 (by omega) (.bool s.used) rfl;rw [Nat.add_zero] at h0;refine ⟨?_,h3.2,hl.1,hl.2,fun j=>h.frozenAt j⟩
 unfold OwnS;rw [←tabL_set S k ⟨s.gen,s.used,a⟩ hk,List.length_set]
 show World.ownsRow _ _ _ _ _ _ ((((tabL S).set (k*3) (.int .i64 s.gen)).set (k*3+1) (.bool s.used)).set (k*3+2) (.int .i64 a))
 rw [h0,h1]
 exact h3.1
theorem own_ne_bx {w:World} {B e sz n n' p g c:Nat} {xs:List Value} {t:TypeId} {cs:Array Value} (h:w.ownsRow B e sz (.slice (some ⟨g,0,none⟩) n c) n' xs) (hg:Bx w p t cs) (hne:e≠t):g≠p:=by
 rintro rfl;rcases own_not_bx h hg hne with h | h
 ·cases h
 ·exact h rfl
end
end Go.Proofs.Yteejianjjpdimaa
