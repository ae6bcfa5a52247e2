/- Contracts of the functions that the laws 'T' reach, part 20. No condition. -/
import Derived.Test.YteejianjjpdimaaGreatMTs
set_option linter.unusedVariables false
set_option linter.unusedSimpArgs false
set_option maxRecDepth 100000
set_option maxHeartbeats 8000000
namespace Go.Proofs.YteejianjjpdimaaGreat
section
open Go.RowKit L02 L13 L18 L20
theorem fld_ref {m:Mo} {sl g n:Int} (h:kErrF m sl g n=0) (hk:(kind m sl g n).toNat=3):(fld m sl n).toNat≤960:=by
 obtain ⟨ha,hn0,hnl⟩:=kErrF_inv h;obtain ⟨c0,hr0,k,s,n2,o,t,_,hk16,hs,hu,hg,hso,hat,hown2,ho2,hob,hoo,ht,htt,hkinds,hfl⟩:=asked_ok ha;obtain ⟨h1,h2,h3⟩:=chk_ok c0;obtain ⟨i,rfl⟩:=Int.eq_ofNat_of_zero_le hn0;rw [hkinds] at hnl;have hi:i<o.fs.length:=by omega
 have hf:=hoo.2.2 i hi;have e1:kind m sl g i=(ty m.types o).getD i 0:=by rw [kind,if_pos h,hkinds,htt];rfl
 have e2:fld m sl i=o.fs.getD i 0:=by
  show (ob m (own m sl)).fs.getD (i:Int).toNat 0=_;rw [hown2,hob,Int.toNat_natCast]
 rw [←e1,←e2] at hf
 have:=hf.2 hk;omega
theorem Root20_own (tv ov sv:Value) (m:Mo) (sl g n:Int) (M:Mo) (r hs hg:Int) (hM:M=rootM m sl g n) (hr:r=rootE m sl g n) (hhs:hs=rootS m sl g n) (hhg:hg=rootG m sl g n) (w:World) (h:Mod w tv ov sv m):
  Calls Tryz.prog 31 #[.agg #[tv,ov,sv],.agg #[.int .i64 sl,.int .i64 g],.int .i64 n] w fun e w'=>∃t' o' s',e=.returned (.tuple #[.agg #[t',o',s'],.agg #[.int .i64 hs,.int .i64 hg],.int .i64 r])∧OwnM w' w.heap.size 37 t' o' s' M∧Below w.heap.size w w':=by
 have B:=Below.refl w.heap.size w;have H:=hD h;have hno:r≠0→M=.nil∧hs=0∧hg=0:=fun h=>⟨by rw [hM,rootM,←hr,if_neg h],by rw [hhs,rootS,←hr,if_neg h],by rw [hhg,rootG,←hr,if_neg h]⟩
 by_cases h0:kErrF m sl g n=0
 ·obtain ⟨i,n',o,x,rfl,hown,ho,hx,hfx,hchk⟩:=fld_ok h0;obtain ⟨kd,hkd⟩:=exq (kind m sl g i)
  have FT:=hD (field_ok tv ov sv m sl g i kd o n' h0 hkd hown ho)
  have HO:=hD (And.intro ho hx)
  by_cases hk:kd.toNat=3
  ·have k3:((kd.toNat:Int) != 3)=false:=by rw [bne_eq_false_iff_eq];omega
   have hx960:=fld_ref h0 (by rw [←hkd];exact hk)
   rw [hfx] at hx960;by_cases hx0:x=0
   ·have hr1:r=6:=by rw [hr,rootE,if_pos h0,←hkd,if_pos hk,hfx,if_pos hx0]
    obtain ⟨e1,e2,e3⟩:=hno (by rw [hr1];decide)
    have x0:((x.toNat:Int)==0)=true:=by rw [hx0];rfl
    subst hr1;subst e1;subst e2;subst e3;clear hr hM hhs hhg hno h0 hown ho hx hfx hkd hk h hx0;go_in;go_upto_region 1 with (fail)
    refine wpb1111 (31) (#[tv,ov,sv]) (39) (#[.int .i64 sl,.int .i64 g]) (31) (#[.slice none 0 0,.slice none 0 0,.slice none 0 0]) (39) (#[.int .i64 0,.int .i64 0]) ?_;rintro wa1 ⟨g1,g2,g3,g7,b⟩
    replace B:=B.trans (b.mono B.size);clear b;replace c_g1:=g1.five;replace c_g2:=g2.five;replace c_g3:=g3.five;replace c_g7:=g7.five;have hp1:=g7.lt;have hz1:=B.size;go_wp2_with fail;refine (FT.out _ (H.out.below B)).mono ?_;rintro e wa2 ⟨t',o',s',gf,rfl,om,of_,b⟩
    replace g1:=g1.below b;replace c_g1:=g1.five;replace g2:=g2.below b;replace c_g2:=g2.five;replace g3:=g3.below b;replace c_g3:=g3.five;replace g7:=g7.below b;replace c_g7:=g7.five;replace B:=B.trans (b.mono B.size);clear b;obtain ⟨⟨tA,tn,tc,rfl⟩,⟨oA,on,oc,rfl⟩,⟨sA,sn,sc,rfl⟩⟩:=om.forms;have hgf:=(of_.cell HO.out.1 HO.out.2).2.2;have m0:=(of_.cell HO.out.1 HO.out.2).1;go_upto_region 2 with (fail)
    refine wpb1 (31) (#[.slice tA tn tc,.slice oA on oc,.slice sA sn sc]) ?_;rintro wa3 ⟨g4,b⟩
    replace g1:=g1.below b;replace c_g1:=g1.five;replace g2:=g2.below b;replace c_g2:=g2.five;replace g3:=g3.below b;replace c_g3:=g3.five;replace g7:=g7.below b;replace c_g7:=g7.five;replace om:=om.below b;replace of_:=of_.below b;replace m0:=cell_later b m0;replace B:=B.trans (b.mono B.size);clear b;replace c_g4:=g4.five;go_wp2;refine bodyPost_ret (v:=.tuple #[.agg #[.slice none 0 0,.slice none 0 0,.slice none 0 0],.agg #[.int .i64 0,.int .i64 0],.int .i64 6]) (by simp [results,Tryz.results31,go_sem,c_g3,c_g7]) rfl ?_;refine ⟨_,_,_,rfl,OwnM.nil _ _,?_⟩
    exact bdn
   ·have x0:((x.toNat:Int)==0)=false:=by rw [beq_eq_false_iff_ne];intro e;exact hx0 (UInt64.toNat_inj.1 (by simpa using (by omega:x.toNat=0)))
    have hxp:0<x.toNat:=by have:=(beq_eq_false_iff_ne.1 x0);omega
    obtain ⟨nn,hnn⟩:∃nn:Int,nn=(x.toNat:Int)-1:=⟨_,rfl⟩
    have hw1:IntKind.u64.wrap ((x.toNat:Int)-1)=nn:=by rw [hnn];show ((x.toNat:Int)-1) % 18446744073709551616=_;omega
    have hw2:IntKind.i64.wrap nn=nn:=IntWalk.i64_in _ (by omega)
    obtain ⟨a,b,ok,m2,hHC,hway⟩:=handle_way (m:=m) (n:=nn) hchk (by omega)
    have HC:=hD hHC;have HW:=hD hway;have hr1:next m.slots=none→r=23:=fun hn=>by rw [hr,rootE,if_pos h0,←hkd,if_pos hk,hfx,if_neg hx0,if_pos hn]
    have hr2:∀k,next m.slots=some k→r=0:=fun k hn=>by rw [hr,rootE,if_pos h0,←hkd,if_pos hk,hfx,if_neg hx0,if_neg (by rw [hn];exact fun e=>by cases e)]
    have HR1:=hD hr1;have HR2:=hD hr2;have HNO:=hD hno;have hyes:r=0→M=⟨m.types,m.objs,givS m ((x.toNat-1:Nat):Int) ((next m.slots).getD 0)⟩∧hs=((next m.slots).getD 0:Nat)∧hg=(m.slots.getD ((next m.slots).getD 0) .none).gen+1:=fun h=>⟨by rw [hM,rootM,←hr,if_pos h,hfx],by rw [hhs,rootS,←hr,if_pos h],by rw [hhg,rootG,←hr,if_pos h]⟩
    have HYES:=hD hyes;have HNN:=hD hnn;have HX1:=hD hxp;clear hr hM hhs hhg hno h0 hown ho hx hfx hkd hk h hx0 hHC hway hr1 hr2 hyes hnn;go_in;go_upto_region 1 with (fail)
    refine wpb1111 (31) (#[tv,ov,sv]) (39) (#[.int .i64 sl,.int .i64 g]) (31) (#[.slice none 0 0,.slice none 0 0,.slice none 0 0]) (39) (#[.int .i64 0,.int .i64 0]) ?_;rintro wa1 ⟨g1,g2,g3,g7,b⟩
    replace B:=B.trans (b.mono B.size);clear b;replace c_g1:=g1.five;replace c_g2:=g2.five;replace c_g3:=g3.five;replace c_g7:=g7.five;have hp1:=g7.lt;have hz1:=B.size;go_wp2_with fail;refine (FT.out _ (H.out.below B)).mono ?_;rintro e wa2 ⟨t',o',s',gf,rfl,om,of_,b⟩
    replace g1:=g1.below b;replace c_g1:=g1.five;replace g2:=g2.below b;replace c_g2:=g2.five;replace g3:=g3.below b;replace c_g3:=g3.five;replace g7:=g7.below b;replace c_g7:=g7.five;replace B:=B.trans (b.mono B.size);clear b;obtain ⟨⟨tA,tn,tc,rfl⟩,⟨oA,on,oc,rfl⟩,⟨sA,sn,sc,rfl⟩⟩:=om.forms;have hgf:=(of_.cell HO.out.1 HO.out.2).2.2;have m0:=(of_.cell HO.out.1 HO.out.2).1;go_upto_region 2 with (fail)
    refine wpb1 (31) (#[.slice tA tn tc,.slice oA on oc,.slice sA sn sc]) ?_;rintro wa3 ⟨g4,b⟩
    replace g1:=g1.below b;replace c_g1:=g1.five;replace g2:=g2.below b;replace c_g2:=g2.five;replace g3:=g3.below b;replace c_g3:=g3.five;replace g7:=g7.below b;replace c_g7:=g7.five;replace om:=om.below b;replace of_:=of_.below b;replace m0:=cell_later b m0;replace B:=B.trans (b.mono B.size);clear b;replace c_g4:=g4.five;go_upto_region 8 with (fail)
    have hp2:=g4.lt;have hp3:=g7.lt;have hs3:=ne_of_or (own_not_bx om.s g3 (by decide));have hs7:=ne_of_or (own_not_bx om.s g7 (by decide));have hs4:=ne_of_or (own_not_bx om.s g4 (by decide))
    have hsgf:(Value.slice sA sn sc).ownBlock≠some gf:=by
     obtain ⟨vs,nf,cf,_,_,f4,_,f6⟩:=of_;exact ne_of_or (own_unlike om.s (f4 n' _ _ f6 HO.out.1) (by decide))
    have hrow:∀k,(Value.slice sA sn sc).ownBlock=some k→k<wa3.heap.size:=fun k hk=>(om.s.lt k hk).2;have hzz:=B.size;have hB0:=hz1;have START:FHandle w (fun c W=>OwnM W wa1.heap.size 37 (.slice tA tn tc) (.slice oA on oc) (.slice sA sn sc) (cond c m2 m)) [(w.heap.size+1+1,31,#[.slice none 0 0,.slice none 0 0,.slice none 0 0]),(w.heap.size+1+1+1,39,#[.int .i64 0,.int .i64 0]),(wa2.heap.size,31,#[.slice tA tn tc,.slice oA on oc,.slice sA sn sc])] gf i x.toNat a b wa3.heap.size 0 (fun _=>false) wa3.drew:=
     ⟨⟨⟨om.t,om.o,om.s⟩,Nat.le_refl _⟩,B.drew,List.forall_mem_cons.2 ⟨g3,List.forall_mem_cons.2 ⟨g7,List.forall_mem_cons.2 ⟨g4,fun _ h=>by cases h⟩⟩⟩,m0,(fun h=>by cases h),(fun h=>by cases h),(fun h=>by cases h),(fun h=>by cases h)⟩
    have HSTART:=hD START;clear START om of_ g1 g2 g3 g4 g7 m0 B c_g1 c_g2 c_g3 c_g4 c_g7;refine wp_region_handle w (fun c W=>OwnM W wa1.heap.size 37 (.slice tA tn tc) (.slice oA on oc) (.slice sA sn sc) (cond c m2 m)) [(w.heap.size+1+1,31,#[.slice none 0 0,.slice none 0 0,.slice none 0 0]),(w.heap.size+1+1+1,39,#[.int .i64 0,.int .i64 0]),(wa2.heap.size,31,#[.slice tA tn tc,.slice oA on oc,.slice sA sn sc])] gf i x.toNat a b ok wa3.heap.size #[.agg #[.slice tA tn tc,.slice oA on oc,.slice sA sn sc],.int .i64 nn] (Value.slice sA sn sc).ownBlock
     (by kernel_rfl) (by kernel_rfl) (by kernel_rfl) (by kernel_rfl) HSTART.out hzz (List.forall_mem_cons.2 ⟨hs3,List.forall_mem_cons.2 ⟨hs7,List.forall_mem_cons.2 ⟨hs4,fun _ h=>by cases h⟩⟩⟩) hsgf hrow (fun c W o h=>h.below ((Below.refl _ W).alloc (Nat.le_refl _) _)) ?_ ?_
    ·intro W hR hzW hBW;have h1:wa1.heap.size≤W.heap.size:=by have:=hgf;omega
     refine (HC.out _ _ _ _ W hR h1).mono fun e W' ⟨e1,e2,e3,e4⟩=>⟨e1,e2,hBW.trans (e3.mono hz1),e4⟩
    ·intro gq
     haveI:Nonempty (FXN (FHandle w (fun c W=>OwnM W wa1.heap.size 37 (.slice tA tn tc) (.slice oA on oc) (.slice sA sn sc) (cond c m2 m)) [(w.heap.size+1+1,31,#[.slice none 0 0,.slice none 0 0,.slice none 0 0]),(w.heap.size+1+1+1,39,#[.int .i64 0,.int .i64 0]),(wa2.heap.size,31,#[.slice tA tn tc,.slice oA on oc,.slice sA sn sc])] gf i x.toNat a b wa3.heap.size gq)):=⟨⟨_,_,FHandle.agree (by simp) HSTART.out⟩⟩
     have ca:=fun x:FXN (FHandle w (fun c W=>OwnM W wa1.heap.size 37 (.slice tA tn tc) (.slice oA on oc) (.slice sA sn sc) (cond c m2 m)) [(w.heap.size+1+1,31,#[.slice none 0 0,.slice none 0 0,.slice none 0 0]),(w.heap.size+1+1+1,39,#[.int .i64 0,.int .i64 0]),(wa2.heap.size,31,#[.slice tA tn tc,.slice oA on oc,.slice sA sn sc])] gf i x.toNat a b wa3.heap.size gq)=>(by obtain ⟨_,h⟩:=x.h;exact h.2.2.1 (wa2.heap.size,31,#[.slice tA tn tc,.slice oA on oc,.slice sA sn sc]) (by simp):Bx x.W wa2.heap.size 31 #[.slice tA tn tc,.slice oA on oc,.slice sA sn sc]).cell;have cb:=fun y:FXN (FHandle w (fun c W=>OwnM W wa1.heap.size 37 (.slice tA tn tc) (.slice oA on oc) (.slice sA sn sc) (cond c m2 m)) [(w.heap.size+1+1,31,#[.slice none 0 0,.slice none 0 0,.slice none 0 0]),(w.heap.size+1+1+1,39,#[.int .i64 0,.int .i64 0]),(wa2.heap.size,31,#[.slice tA tn tc,.slice oA on oc,.slice sA sn sc])] gf i x.toNat a b wa3.heap.size gq)=>(by obtain ⟨_,h⟩:=y.h;exact h.2.2.2.1:y.W.cell? ⟨gf,i,none⟩=some (.int .u64 x.toNat))
     iterate 2 (refine wpM_read FHandle.dep rfl (by decide) (by decide) ?_;go_big_quiet_step (fail);refine wpQuiet_nil ?_)
     refine wpM_pure FHandle.dep (by decide) (by decide) rfl (v:=.pointer (some ⟨gf,i,none⟩)) (fun W=>by simp [execOp,Act.eval,go_sem]) ?_;simp only [Act.put,List.setIfInBounds_toArray,List.set_cons_zero,List.set_cons_succ]
     iterate 3 (refine wpM_read FHandle.dep rfl (by decide) (by decide) ?_;go_big_quiet_step (fail);refine wpQuiet_nil ?_)
     refine wpM_new (by decide) rfl (by show TH _ 6 _;unfold TH;rw [if_pos rfl];intro W;simp [execOp,resolve,invoke,Act.eval,go_sem]) ?_;simp only [Act.put,List.setIfInBounds_toArray,List.set_cons_zero,List.set_cons_succ]
     rw [show valH (.tuple #[.agg #[.int .i64 a,.int .i64 b],.bool ok]) gq 6=.tuple #[.agg #[.int .i64 a,.int .i64 b],.bool ok] from rfl]
     iterate 3 (refine wpM_read FHandle.dep rfl (by decide) (by decide) ?_;go_big_quiet_step (fail);refine wpQuiet_nil ?_)
     refine wpM_new (by decide) rfl (by show TH _ 10 _;unfold TH;rw [if_neg (by decide)];intro W;simp [execOp,go_sem]) ?_;simp only [Act.put,List.setIfInBounds_toArray,List.set_cons_zero,List.set_cons_succ]
     rw [show valH (.tuple #[.agg #[.int .i64 a,.int .i64 b],.bool ok]) gq 10=.pointer (some ⟨gq,0,none⟩) from rfl]
     refine wpM_store FHandle.dep (by decide) rfl 39 (.tmp 13) (.tmp 50) rfl (by rfl) (p:=.pointer (some ⟨gq,0,none⟩)) (u:=.agg #[.int .i64 a,.int .i64 b]) (by rfl) (by rfl) [10] (by kernel_rfl) (fun f W hF h0 h1=>?_) ?_
     ·obtain ⟨⟨k0,k1,k2⟩,h2⟩:=FHandle.store hF hzz (h1 10 (by simp)) h0 (fun c W p cs u hg hR=>OwnM.setH hR hg)
      refine ⟨_,?_,h2⟩
      simp [go_sem,k0,k1,k2]
     simp only [Act.put,List.setIfInBounds_toArray,List.set_cons_zero,List.set_cons_succ]
     refine wpM_read FHandle.dep rfl (by decide) (by decide) ?_;go_big_quiet_step (fail);refine wpQuiet_nil ?_
     refine wpM_nil ?_;intro wy hF;clear this ca cb HSTART;obtain ⟨⟨om,_⟩,B,hps,_,_,h6,_,h8⟩:=hF;have g3:=hps _ List.mem_cons_self;have g7:=hps _ (List.mem_cons_of_mem _ List.mem_cons_self)
     have g4:=hps _ (List.mem_cons_of_mem _ (List.mem_cons_of_mem _ List.mem_cons_self))
     have g9:=h8 rfl;obtain ⟨h6a,h6b,h6c⟩:=h6 rfl;have hq3:=h6a _ List.mem_cons_self;have hq7:=h6a _ (List.mem_cons_of_mem _ List.mem_cons_self)
     dsimp only at g3 g7 g4 g9 hq3 hq7 om;rw [show (cond true m2 m)=m2 from rfl] at om;clear hps h6 h8 h6a;cases ok
     ·have hn:next m.slots=none:=by
       rcases HW.out with ⟨_,h⟩ | ⟨h,_⟩
       ·exact h
       ·cases h
      obtain rfl:r=23:=HR1.out hn;obtain ⟨rfl,rfl,rfl⟩:=HNO.out (by decide)
      have c3:=g3.cell;have f3:=g3.free;have c7:=g7.cell;have f7:=g7.free;go_wp2;refine bodyPost_ret (v:=.tuple #[.agg #[.slice none 0 0,.slice none 0 0,.slice none 0 0],.agg #[.int .i64 0,.int .i64 0],.int .i64 23]) (by simp [results,Tryz.results31,go_sem,c3,f3,c7,f7]) rfl ?_;refine ⟨_,_,_,rfl,OwnM.nil _ _,?_⟩
      exact bdn
     ·obtain ⟨k,s,hnx,hsk,ea,eb,em⟩:∃k s,next m.slots=some k∧m.slots[k]?=some s∧a=(k:Int)∧b=s.gen+1∧m2=⟨m.types,m.objs,m.slots.set k ⟨s.gen+1,true,nn⟩⟩:=by
       rcases HW.out with ⟨h,_⟩ | ⟨_,h⟩
       ·cases h
       ·exact h
      obtain rfl:r=0:=HR2.out k hnx;obtain ⟨e1,e2,e3⟩:=HYES.out rfl;rw [hnx] at e1 e2 e3;have hgd:m.slots.getD k .none=s:=by simp [List.getD_eq_getElem?_getD,hsk]
      have hMM:M=m2:=by
       rw [e1,em]
       show (⟨m.types,m.objs,m.slots.set k ⟨(m.slots.getD k .none).gen+1,true,_⟩⟩:Mo)=_;rw [hgd]
       have:=HNN.out;have:=HX1.out;rw [show ((x.toNat-1:Nat):Int)=nn by omega]
      have hha:hs=a:=by rw [e2,ea];rfl
      have hhb:hg=b:=by rw [e3,eb];show (m.slots.getD k .none).gen+1=_;rw [hgd]
      subst hMM;subst hha;subst hhb;clear e1 e2 e3 ea eb em hgd hnx hsk;go_upto_region 11 with (fail)
      have START:(FTwoR w wa1.heap.size (.slice tA tn tc) (.slice oA on oc) (.slice sA sn sc) M (w.heap.size+1+1+1) wa2.heap.size gq (w.heap.size+1+1) hs hg) (fun _=>false) wy.drew:=⟨B.drew,⟨om.t,om.o,om.s⟩,g3,g7,g4,g9⟩
      have n4a:wa2.heap.size≠w.heap.size+1+1:=by have:=hgf;omega
      have n4b:wa2.heap.size≠w.heap.size+1+1+1:=by have:=hgf;omega
      haveI:Nonempty (FXN (FTwoR w wa1.heap.size (.slice tA tn tc) (.slice oA on oc) (.slice sA sn sc) M (w.heap.size+1+1+1) wa2.heap.size gq (w.heap.size+1+1) hs hg)):=⟨⟨_,_,START⟩⟩
      have ca:=fun x:FXN (FTwoR w wa1.heap.size (.slice tA tn tc) (.slice oA on oc) (.slice sA sn sc) M (w.heap.size+1+1+1) wa2.heap.size gq (w.heap.size+1+1) hs hg)=>(by obtain ⟨_,h⟩:=x.h;exact h.2.2.2.2.1:Bx x.W wa2.heap.size 31 #[.slice tA tn tc,.slice oA on oc,.slice sA sn sc]).cell;have cb:=fun x:FXN (FTwoR w wa1.heap.size (.slice tA tn tc) (.slice oA on oc) (.slice sA sn sc) M (w.heap.size+1+1+1) wa2.heap.size gq (w.heap.size+1+1) hs hg)=>(by obtain ⟨_,h⟩:=x.h;exact h.2.2.2.2.2:Bx x.W gq 39 #[.int .i64 hs,.int .i64 hg]).cell;clear om B g3 g7 g4 g9;refine wp_region_N (FTwoR w wa1.heap.size (.slice tA tn tc) (.slice oA on oc) (.slice sA sn sc) M (w.heap.size+1+1+1) wa2.heap.size gq (w.heap.size+1+1) hs hg) [2,3] FTwoR.dep (by kernel_rfl) (by kernel_rfl) (by kernel_rfl) START ?_;iterate 2 (refine wpN_read FTwoR.dep rfl (by decide) ?_;go_big_quiet_step (fail);refine wpQuiet_nil ?_)
      refine wpN_storeD FTwoR.dep rfl 31 (.tmp 6) (.tmp 56) rfl (by rfl) (p:=.pointer (some ⟨w.heap.size+1+1,0,none⟩)) (u:=.agg #[.slice tA tn tc,.slice oA on oc,.slice sA sn sc]) (by rfl) (by rfl) [] (by kernel_rfl) (fun f W hF h0 h1=>?_) ?_
      ·obtain ⟨k0,k1,h2⟩:=FTwoR.store2 hF h0 (by omega) (by omega) n4a hq3;refine ⟨_,?_,h2⟩
       simp [go_sem,k0,k1]
      simp only [Act.put,List.setIfInBounds_toArray,List.set_cons_zero,List.set_cons_succ]
      refine wpN_storeD FTwoR.dep rfl 39 (.tmp 7) (.tmp 57) rfl (by rfl) (p:=.pointer (some ⟨w.heap.size+1+1+1,0,none⟩)) (u:=.agg #[.int .i64 hs,.int .i64 hg]) (by rfl) (by rfl) [] (by kernel_rfl) (fun f W hF h0 h1=>?_) ?_
      ·obtain ⟨k0,k1,h2⟩:=FTwoR.store3 hF h0 (by omega) (by omega) n4b hq7;refine ⟨_,?_,h2⟩
       simp [go_sem,k0,k1]
      simp only [Act.put,List.setIfInBounds_toArray,List.set_cons_zero,List.set_cons_succ]
      iterate 1 (refine wpN_read FTwoR.dep rfl (by decide) ?_;go_big_quiet_step (fail);refine wpQuiet_nil ?_)
      show ∀w',_→_;intro w' hF;obtain ⟨B,om,g3,g7,_,_⟩:=hF;have c3:=g3.cell;have c7:=g7.cell;simp only [if_true] at c3 c7;clear this ca cb START;go_wp2;refine bodyPost_ret (v:=.tuple #[.agg #[.slice tA tn tc,.slice oA on oc,.slice sA sn sc],.agg #[.int .i64 hs,.int .i64 hg],.int .i64 0]) (by simp [results,Tryz.results31,go_sem,c3,c7]) rfl ?_;exact ⟨_,_,_,rfl,om.mono (by first | assumption | omega),B⟩
  ·have hr1:r=42:=by rw [hr,rootE,if_pos h0,←hkd,if_neg hk]
   obtain ⟨e1,e2,e3⟩:=hno (by rw [hr1];decide)
   have k3:((kd.toNat:Int) != 3)=true:=by rw [bne_iff_ne];omega
   subst hr1;subst e1;subst e2;subst e3;clear hr hM hhs hhg hno h0 hown ho hx hfx hkd hk h hchk;go_in;go_upto_region 1 with (fail)
   refine wpb1111 (31) (#[tv,ov,sv]) (39) (#[.int .i64 sl,.int .i64 g]) (31) (#[.slice none 0 0,.slice none 0 0,.slice none 0 0]) (39) (#[.int .i64 0,.int .i64 0]) ?_;rintro wa1 ⟨g1,g2,g3,g7,b⟩
   replace B:=B.trans (b.mono B.size);clear b;replace c_g1:=g1.five;replace c_g2:=g2.five;replace c_g3:=g3.five;replace c_g7:=g7.five;have hp1:=g7.lt;have hz1:=B.size;go_wp2_with fail;refine (FT.out _ (H.out.below B)).mono ?_;rintro e wa2 ⟨t',o',s',gf,rfl,om,of_,b⟩
   replace g1:=g1.below b;replace c_g1:=g1.five;replace g2:=g2.below b;replace c_g2:=g2.five;replace g3:=g3.below b;replace c_g3:=g3.five;replace g7:=g7.below b;replace c_g7:=g7.five;replace B:=B.trans (b.mono B.size);clear b;obtain ⟨⟨tA,tn,tc,rfl⟩,⟨oA,on,oc,rfl⟩,⟨sA,sn,sc,rfl⟩⟩:=om.forms;have hgf:=(of_.cell HO.out.1 HO.out.2).2.2;have m0:=(of_.cell HO.out.1 HO.out.2).1;go_upto_region 2 with (fail)
   refine wpb1 (31) (#[.slice tA tn tc,.slice oA on oc,.slice sA sn sc]) ?_;rintro wa3 ⟨g4,b⟩
   replace g1:=g1.below b;replace c_g1:=g1.five;replace g2:=g2.below b;replace c_g2:=g2.five;replace g3:=g3.below b;replace c_g3:=g3.five;replace g7:=g7.below b;replace c_g7:=g7.five;replace om:=om.below b;replace of_:=of_.below b;replace m0:=cell_later b m0;replace B:=B.trans (b.mono B.size);clear b;replace c_g4:=g4.five;go_wp2;refine bodyPost_ret (v:=.tuple #[.agg #[.slice none 0 0,.slice none 0 0,.slice none 0 0],.agg #[.int .i64 0,.int .i64 0],.int .i64 42]) (by simp [results,Tryz.results31,go_sem,c_g3,c_g7]) rfl ?_;refine ⟨_,_,_,rfl,OwnM.nil _ _,?_⟩
   exact bdn
 ·have hr1:r=kErrF m sl g n:=by rw [hr,rootE,if_neg h0]
  have FT:=hD (field_no tv ov sv m sl g n r hr1 (by rw [hr1];exact h0))
  obtain ⟨e1,e2,e3⟩:=hno (by rw [hr1];exact h0)
  have hne:(r != 0)=true:=by rw [bne_iff_ne,hr1];exact h0
  subst e1;subst e2;subst e3;clear hr hM hhs hhg hr1 h0 h hno;go_in;go_upto_region 1 with (fail)
  refine wpb1111 (31) (#[tv,ov,sv]) (39) (#[.int .i64 sl,.int .i64 g]) (31) (#[.slice none 0 0,.slice none 0 0,.slice none 0 0]) (39) (#[.int .i64 0,.int .i64 0]) ?_;rintro wa1 ⟨g1,g2,g3,g7,b⟩
  replace B:=B.trans (b.mono B.size);clear b;replace c_g1:=g1.five;replace c_g2:=g2.five;replace c_g3:=g3.five;replace c_g7:=g7.five;go_wp2_with fail;refine (FT.out _ (H.out.below B)).mono ?_;rintro e wa2 ⟨rfl,b⟩
  replace g1:=g1.below b;replace c_g1:=g1.five;replace g2:=g2.below b;replace c_g2:=g2.five;replace g3:=g3.below b;replace c_g3:=g3.five;replace g7:=g7.below b;replace c_g7:=g7.five;replace B:=B.trans (b.mono B.size);clear b;go_upto_region 2 with (fail)
  refine wpb1 (31) (#[.slice none 0 0,.slice none 0 0,.slice none 0 0]) ?_;rintro wa3 ⟨g4,b⟩
  replace g1:=g1.below b;replace c_g1:=g1.five;replace g2:=g2.below b;replace c_g2:=g2.five;replace g3:=g3.below b;replace c_g3:=g3.five;replace g7:=g7.below b;replace c_g7:=g7.five;replace B:=B.trans (b.mono B.size);clear b;replace c_g4:=g4.five;go_wp2;refine bodyPost_ret (v:=.tuple #[.agg #[.slice none 0 0,.slice none 0 0,.slice none 0 0],.agg #[.int .i64 0,.int .i64 0],.int .i64 r]) (by simp [results,Tryz.results31,go_sem,c_g3,c_g7]) rfl ?_;refine ⟨_,_,_,rfl,OwnM.nil _ _,?_⟩
  exact bdn
end
section
open Go.RowKit L02 L13 L18 L20
end
section
open Go.RowKit L02 L13 L18 L20
end
section
open Go.RowKit L02 L13 L18 L20
end
section
open Go.RowKit L02 L13 L18 L20
end
section
open Go.RowKit L02 L13 L18 L20
end
section
open Go.RowKit L02 L13 L18 L20
theorem OwnS.put2 {w:World} {B E g n c k:Nat} {S:List Sl} {s:Sl} (h:OwnS w B E (.slice (some ⟨g,0,none⟩) n c) S) (hs:S[k]?=some s) (u:Bool) (a:Int):
  OwnS ((w.setCell ⟨g,k*3+1,none⟩ (.bool u)).setCell ⟨g,k*3+2,none⟩ (.int .i64 a)) B E (.slice (some ⟨g,0,none⟩) n c) (S.set k ⟨s.gen,u,a⟩)∧
   w.grownBy ((w.setCell ⟨g,k*3+1,none⟩ (.bool u)).setCell ⟨g,k*3+2,none⟩ (.int .i64 a)) (some g)∧B≤g∧g<w.heap.size∧∀j,w.frozen? ⟨g,j,none⟩=false:=by
 have hk:k<S.length:=(List.getElem?_eq_some_iff.1 hs).1;have hn:n=S.length:=by
  obtain ⟨g',cap,cur,hv,_⟩:=own_form h (by omega)
  injection hv
 subst hn;have h2:=World.ownsRow.stored h (k*3+1) (.bool u)
 have h3:=World.ownsRow.stored h2.1 (k*3+2) (.int .i64 a)
 have hl:=h.lt g rfl;have hsame:(tabL S).set (k*3) (.int .i64 s.gen)=tabL S:=by
  apply List.ext_getElem?;intro i;by_cases hi:i=k*3
  ·subst hi;have t0:=tabL_get S k s hs 0 (by omega)
   rw [Nat.add_zero] at t0;rw [List.getElem?_set_self (List.getElem?_eq_some_iff.1 t0).1,t0];rfl
  ·rw [List.getElem?_set_ne (Ne.symm hi)]
 refine ⟨?_,⟨rfl,rfl,rfl,?_,fun q hq hne=>?_⟩,hl.1,hl.2,fun j=>h.frozenAt j⟩
 ·unfold OwnS;rw [←tabL_set S k ⟨s.gen,u,a⟩ hk,List.length_set]
  show World.ownsRow _ _ _ _ _ _ ((((tabL S).set (k*3) (.int .i64 s.gen)).set (k*3+1) (.bool u)).set (k*3+2) (.int .i64 a))
  rw [hsame]
  exact h3.1
 ·simp [World.setCell]
 ·exact (h3.2.block q (by simpa [World.setCell] using hq) hne).trans (h2.2.block q hq hne)
theorem Drop20_any (tv ov sv:Value) (m:Mo) (sl g:Int) (M:Mo) (r:Int) (hM:M=dropM m sl g) (hr:r=asked m sl g) (w:World) (h:Mod w tv ov sv m):
  Calls Tryz.prog 23 #[.agg #[tv,ov,sv],.agg #[.int .i64 sl,.int .i64 g]] w fun e w'=>∃t' o' s',e=.returned (.tuple #[.agg #[t',o',s'],.int .i64 r])∧Mod w' t' o' s' M∧Below w.heap.size w w':=by
 have B:=Below.refl w.heap.size w;have H:=hD h;by_cases ha:asked m sl g=0
 ·obtain ⟨c0,hr0,k,s,n',o,t,hk,hk16,hs,hu,hg,hso,hat,hown,_⟩:=asked_ok ha;have OT:=hD (open20_ok tv ov sv m sl g n' ha hown)
  obtain ⟨_,_,h16,_⟩:=chk_ok c0;have hr1:r=0:=by rw [hr,ha]
  have hM1:M=⟨m.types,m.objs,m.slots.set k ⟨g,false,0⟩⟩:=by rw [hM,dropM,if_pos ha,hk,Int.toNat_natCast]
  subst hk;subst hr1;subst hM1;have HS:=hD hs;have H16:=hD h16;clear hr hM ha c0 hr0 hu hso hat hown h hs h16;go_in;go_upto_region 1 with (fail)
  refine wpb111 (31) (#[tv,ov,sv]) (39) (#[.int .i64 k,.int .i64 g]) (31) (#[.slice none 0 0,.slice none 0 0,.slice none 0 0]) ?_;rintro wa1 ⟨g1,g2,g3,b⟩
  replace B:=B.trans (b.mono B.size);clear b;replace c_g1:=g1.five;replace c_g2:=g2.five;replace c_g3:=g3.five;have hz1:=B.size;have hp1:=g3.lt;go_wp2_with fail;refine (OT.out _ (H.out.below B)).mono ?_;rintro e wa2 ⟨t',o',s',rfl,om,b⟩
  replace g1:=g1.below b;replace c_g1:=g1.five;replace g2:=g2.below b;replace c_g2:=g2.five;replace g3:=g3.below b;replace c_g3:=g3.five;replace B:=B.trans (b.mono B.size);clear b;obtain ⟨⟨tA,tn,tc,rfl⟩,⟨oA,on,oc,rfl⟩,_⟩:=om.forms;obtain ⟨gS,sc,rfl⟩:∃g c,s'=.slice (some ⟨g,0,none⟩) 16 c:=by obtain ⟨g,n,c,e,e2⟩:=om.s.form (by have:=H16.out;omega);rw [e2,H16.out] at e;exact ⟨g,c,e⟩
  have hgS:=om.s.lt gS rfl;go_upto_region 2 with (fail)
  refine wpb1 (31) (#[.slice tA tn tc,.slice oA on oc,.slice (some ⟨gS,0,none⟩) 16 sc]) ?_;rintro wa3 ⟨g4,b⟩
  replace g1:=g1.below b;replace c_g1:=g1.five;replace g2:=g2.below b;replace c_g2:=g2.five;replace g3:=g3.below b;replace c_g3:=g3.five;replace om:=om.below b;replace B:=B.trans (b.mono B.size);clear b;replace c_g4:=g4.five;have HP:=hD (OwnS.put3 (k:=k) om.s (by have:=H16.out;omega) ⟨g,false,0⟩)
  obtain ⟨ix,p0,p1,p2⟩:=OwnS.cells om.s HS.out;have fz:=HP.out.2.2.2.2;have hM3:=OwnM.slots om HP.out.2.1 HP.out.1;have nx:=fun {q:Nat} {tq:TypeId} {cs:Array Value} (hb:Bx wa3 q tq cs) (hne:gS≠q)=>hb.grown HP.out.2.1 (.inr (fun e=>hne (by injection e)))
  have r3:=nx g3 (by omega);have r4:=nx g4 (by omega)
  have hb3:=B.grown HP.out.2.1 B.size (fun k hk=>by injection hk with hk;rw [←hk];have:=HP.out.2.2.1;omega)
  have HH:=hD (And.intro hM3 (And.intro r3 (And.intro r4 hb3)))
  clear nx r3 r4 hb3 hM3;go_upto_region 5 with (fail)
  refine wp_gen (fun Wv=>OwnM Wv wa1.heap.size 37 (.slice tA tn tc) (.slice oA on oc) (.slice (some ⟨gS,0,none⟩) 16 sc) ⟨m.types,m.objs,m.slots.set k ⟨g,false,0⟩⟩∧Bx Wv (w.heap.size+1+1) 31 #[.slice none 0 0,.slice none 0 0,.slice none 0 0]∧Bx Wv wa2.heap.size 31 #[.slice tA tn tc,.slice oA on oc,.slice (some ⟨gS,0,none⟩) 16 sc]∧Below w.heap.size w Wv) HH.out ?_;rintro wz ⟨om2,r3,r4,B2⟩
  clear HH om g1 g2 g3 g4 B p0 p1 p2 fz ix HP c_g1 c_g2 c_g3 c_g4;have c3:=r3.cell;have f3:=r3.free;have c4:=r4.cell;go_wp2;refine bodyPost_ret (v:=.tuple #[.agg #[.slice tA tn tc,.slice oA on oc,.slice (some ⟨gS,0,none⟩) 16 sc],.int .i64 0]) (by simp [results,Tryz.results23,go_sem,c3,f3]) rfl ?_;refine ⟨_,_,_,rfl,(OwnM.set3 om2 r3).rd,?_⟩
  exact ((B2.setCell (p:=⟨w.heap.size+1+1,0,none⟩) (by simp;omega) _).setCell (p:=⟨w.heap.size+1+1,1,none⟩) (by simp;omega) _).setCell (p:=⟨w.heap.size+1+1,2,none⟩) (by simp;omega) _
 ·have OT:=hD (open20_no tv ov sv m sl g r hr (by rw [hr];exact ha))
  have hM1:M=.nil:=by rw [hM,dropM,if_neg ha]
  have hne:(r != 0)=true:=by rw [bne_iff_ne,hr];exact ha
  subst hM1;clear hr hM ha h;go_in;go_upto_region 1 with (fail)
  refine wpb111 (31) (#[tv,ov,sv]) (39) (#[.int .i64 sl,.int .i64 g]) (31) (#[.slice none 0 0,.slice none 0 0,.slice none 0 0]) ?_;rintro wa1 ⟨g1,g2,g3,b⟩
  replace B:=B.trans (b.mono B.size);clear b;replace c_g1:=g1.five;replace c_g2:=g2.five;replace c_g3:=g3.five;go_wp2_with fail;refine (OT.out _ (H.out.below B)).mono ?_;rintro e wa2 ⟨rfl,b⟩
  replace g1:=g1.below b;replace c_g1:=g1.five;replace g2:=g2.below b;replace c_g2:=g2.five;replace g3:=g3.below b;replace c_g3:=g3.five;replace B:=B.trans (b.mono B.size);clear b;go_upto_region 2 with (fail)
  refine wpb1 (31) (#[.slice none 0 0,.slice none 0 0,.slice none 0 0]) ?_;rintro wa3 ⟨g4,b⟩
  replace g1:=g1.below b;replace c_g1:=g1.five;replace g2:=g2.below b;replace c_g2:=g2.five;replace g3:=g3.below b;replace c_g3:=g3.five;replace B:=B.trans (b.mono B.size);clear b;replace c_g4:=g4.five;go_wp2;refine bodyPost_ret (v:=.tuple #[.agg #[.slice none 0 0,.slice none 0 0,.slice none 0 0],.int .i64 r]) (by simp [results,Tryz.results23,go_sem,c_g3]) rfl ?_;refine ⟨_,_,_,rfl,Mod.nil _,?_⟩
  exact bdn
end
section
open Go.RowKit L02 L13 L18 L20
theorem OwnT.at1 {w:World} {base:Nat} {v:Value} {L:List (List UInt8)} (h:OwnT w base v L) {k:Nat} {l:List UInt8} (hl:L[k]?=some l):
  ∃ad y,(∀W,(Instr.indexAt 27 v (.int .i64 (k:Int))).run Tryz.prog W=.ok (.pointer (some ad)) W)∧w.cell? ad=some y∧(∀ty W,(Builtin.len_ #[66] ty #[y]).run Tryz.prog W=.ok (.int .i64 (l.length:Int)) W)∧v.ownBlock=some ad.block:=by
 obtain ⟨vs,h1,h2,h4⟩:=h;have hk:k<L.length:=(List.getElem?_eq_some_iff.1 hl).1;have hv:vs[k]?=some vs[k]:=List.getElem?_eq_getElem (by omega)
 have hr:=h4 k _ _ hv hl;obtain ⟨g,c,cur,e,hg,_⟩:=own_form h2 (by omega)
 refine ⟨cellAt v (k*1),vs[k],fun W=>Rd.ixN (Rd.of_own h2) Tryz.underlying27 one_bytes hk W,by rw [Nat.mul_one];exact Rd.cell (Rd.of_own h2) hv,Rd.len (OwnB.rd hr) Tryz.underlying66,?_⟩
 rw [e];rfl
theorem run_make_words {w:World} (n:Nat) (hn:n≤1000):∃w',(Instr.makeSlice 22 (.int .i64 (n:Int)) (.int .i64 (n:Int))).run Tryz.prog w=.ok (.slice (some ⟨w.heap.size,0,none⟩) n n) w'∧OwnW w' w.heap.size 42 (.slice (some ⟨w.heap.size,0,none⟩) n n) (List.replicate n 0)∧Below w.heap.size w w':=by
 obtain ⟨i,hi1,hi2,hi3,hi4⟩:=info3 info_u64;obtain ⟨w',hrun,g1,g2⟩:=run_make_full (P:=Tryz.prog) w w.heap.size 22 _ i _ 1 Tryz.underlying22 hi1 hi2 hi3 .i64 .i64 n (by rw [hi4];omega) (by unfold maxLen;omega) (Nat.le_refl _)
 refine ⟨w',hrun,OwnW.of g1 ?_,(Below.refl _ w).grown g2 (Nat.le_refl _) (fun _ hk=>by cases hk)⟩
 rw [Nat.mul_one,show (Value.int IntKind.u64 0).cells=#[Value.int IntKind.u64 0] from rfl,toList_madeCells_one]
 simp [u64]
theorem Alloc20_own (tv ov sv:Value) (m:Mo) (t:Int) (M:Mo) (r hs hg:Int) (hM:M=allM m t) (hr:r=allE m t) (hhs:hs=allS m t) (hhg:hg=allG m t) (w:World) (h:Mod w tv ov sv m):
  Calls Tryz.prog 20 #[.agg #[tv,ov,sv],.int .i64 t] w fun e w'=>∃t' o' s',e=.returned (.tuple #[.agg #[t',o',s'],.agg #[.int .i64 hs,.int .i64 hg],.int .i64 r])∧OwnM w' w.heap.size 37 t' o' s' M∧Below w.heap.size w w':=by
 have B:=Below.refl w.heap.size w;have H:=hD h;have hno:r≠0→M=.nil∧hs=0∧hg=0:=fun h=>⟨by rw [hM,allM,←hr,if_neg h],by rw [hhs,allS,←hr,if_neg h],by rw [hhg,allG,←hr,if_neg h]⟩
 obtain ⟨c,hc⟩:=exq (chk m)
 have CT:=hD (Check20_any tv ov sv m c hc)
 have lt:=h.t.len;obtain ⟨NT,hNT⟩:=exq m.types.length;rw [←hNT] at lt;by_cases h0:chk m=0
 ·have hc0:c=0:=by rw [hc,h0]
  subst hc0;by_cases ht:0≤t∧t<NT
  ·obtain ⟨q,rfl⟩:=Int.eq_ofNat_of_zero_le ht.1;have n1:¬(q:Int)<0:=by omega
   have n2:¬(NT:Int)≤(q:Int):=by omega
   have n3:¬NT≤q:=by omega
   have hq:q<m.types.length:=by omega
   obtain ⟨l,hl⟩:∃l,m.types[q]?=some l:=⟨_,List.getElem?_eq_getElem hq⟩
   obtain ⟨k1,k2,k3⟩:=chk_ok h0;have hl8:l.length≤8:=(kErr_ok (k3.2.1 l (List.mem_of_getElem? hl))).1;have CP:=hD (copied_any tv ov sv m (small_chk h0))
   obtain ⟨NO,hNO⟩:=exq m.objs.length;obtain ⟨a,b,ok,m2,hHC,hway⟩:=handle_way (m:=m) (n:=(NO:Int)) h0 (by omega)
   have HC:=hD hHC;have HW:=hD hway;have hr1:next m.slots=none→r=23:=fun hn=>by rw [hr,allE,if_pos h0,if_pos (by omega),if_pos hn]
   have hr2:∀k,next m.slots=some k→NO=960→r=4:=fun k hn h9=>by rw [hr,allE,if_pos h0,if_pos (by omega),if_neg (by rw [hn];exact fun e=>by cases e),if_pos (by omega)]
   have hr3:∀k,next m.slots=some k→¬NO=960→r=0:=fun k hn h9=>by rw [hr,allE,if_pos h0,if_pos (by omega),if_neg (by rw [hn];exact fun e=>by cases e),if_neg (by omega)]
   have hyes:r=0→M=⟨m.types,m.objs++[⟨(q:Int),List.replicate l.length 0⟩],givS m m.objs.length ((next m.slots).getD 0)⟩∧hs=((next m.slots).getD 0:Nat)∧hg=(m.slots.getD ((next m.slots).getD 0) .none).gen+1:=fun h=>⟨by rw [hM,allM,←hr,if_pos h,newO];simp [List.getD_eq_getElem?_getD,hl],by rw [hhs,allS,←hr,if_pos h],by rw [hhg,allG,←hr,if_pos h]⟩
   have HR1:=hD hr1;have HR2:=hD hr2;have HR3:=hD hr3;have HNO:=hD hno;have HYES:=hD hyes;have HLL:=hD hl;have HNN:=hD hNO;have HX960:=hD k2;clear hr hM hhs hhg hno h0 h hHC hway hr1 hr2 hr3 hyes hc ht hq k1 k2 k3 hl hNO hNT;go_in;go_upto_region 1 with (fail)
   refine wpb111 (31) (#[tv,ov,sv]) (31) (#[.slice none 0 0,.slice none 0 0,.slice none 0 0]) (39) (#[.int .i64 0,.int .i64 0]) ?_;rintro wa1 ⟨g1,g3,g7,b⟩
   replace B:=B.trans (b.mono B.size);clear b;obtain ⟨c_g1,f_g1,a_g1,d_g1,e_g1⟩:=g1.five;obtain ⟨c_g3,f_g3,a_g3,d_g3,e_g3⟩:=g3.five;obtain ⟨c_g7,f_g7,a_g7,d_g7,e_g7⟩:=g7.five;go_wp2_with fail;refine (CT.out _ (H.out.below B)).mono ?_;rintro e wa2 ⟨rfl,b⟩
   try clear c_g1 f_g1 a_g1 d_g1 e_g1
   replace g1:=g1.below b;obtain ⟨c_g1,f_g1,a_g1,d_g1,e_g1⟩:=g1.five;try clear c_g3 f_g3 a_g3 d_g3 e_g3
   replace g3:=g3.below b;obtain ⟨c_g3,f_g3,a_g3,d_g3,e_g3⟩:=g3.five;try clear c_g7 f_g7 a_g7 d_g7 e_g7
   replace g7:=g7.below b;obtain ⟨c_g7,f_g7,a_g7,d_g7,e_g7⟩:=g7.five;replace B:=B.trans (b.mono B.size);clear b;have hz1:=B.size;have hp7:=g7.lt;go_wp2_with fail;refine (CP.out _ (H.out.below B)).mono ?_;rintro e wa3 ⟨t',o',s',rfl,om,b⟩
   try clear c_g1 f_g1 a_g1 d_g1 e_g1
   replace g1:=g1.below b;obtain ⟨c_g1,f_g1,a_g1,d_g1,e_g1⟩:=g1.five;try clear c_g3 f_g3 a_g3 d_g3 e_g3
   replace g3:=g3.below b;obtain ⟨c_g3,f_g3,a_g3,d_g3,e_g3⟩:=g3.five;try clear c_g7 f_g7 a_g7 d_g7 e_g7
   replace g7:=g7.below b;obtain ⟨c_g7,f_g7,a_g7,d_g7,e_g7⟩:=g7.five;replace B:=B.trans (b.mono B.size);clear b;replace om:OwnM _ w.heap.size 37 t' o' s' m:=OwnM.mono om hz1;obtain ⟨⟨tA,tn,tc,rfl⟩,⟨oA,on,oc,rfl⟩,⟨sA,sn,sc,rfl⟩⟩:=om.forms;have lo:=om.rd.o.len;rw [←HNN.out] at lo;have hpc:=g7.lt;go_upto_region 7 with (fail)
   refine wpb1 (31) (#[.slice tA tn tc,.slice oA on oc,.slice sA sn sc]) ?_;rintro wa4 ⟨g4,b⟩
   try clear c_g1 f_g1 a_g1 d_g1 e_g1
   replace g1:=g1.below b;obtain ⟨c_g1,f_g1,a_g1,d_g1,e_g1⟩:=g1.five;try clear c_g3 f_g3 a_g3 d_g3 e_g3
   replace g3:=g3.below b;obtain ⟨c_g3,f_g3,a_g3,d_g3,e_g3⟩:=g3.five;try clear c_g7 f_g7 a_g7 d_g7 e_g7
   replace g7:=g7.below b;obtain ⟨c_g7,f_g7,a_g7,d_g7,e_g7⟩:=g7.five;replace om:=om.below b;replace B:=B.trans (b.mono B.size);clear b;obtain ⟨c_g4,f_g4,a_g4,d_g4,e_g4⟩:=g4.five;go_wp2_with fail;have hs1:=own_not_bx om.s g1 (by decide);have hs3:=own_not_bx om.s g3 (by decide);have hs7:=own_not_bx om.s g7 (by decide);have hs4:=own_not_bx om.s g4 (by decide)
   refine (HC.out _ _ _ w.heap.size _ om B.size).mono ?_;rintro e w5 ⟨rfl,om2,B2,K⟩
   replace g1:=g1.keep K hs1;replace g3:=g3.keep K hs3;replace g7:=g7.keep K hs7;replace g4:=g4.keep K hs4;replace B:=B.trans B2;clear om B2 K hs1 hs3 hs7 hs4 c_g1 f_g1 a_g1 d_g1 e_g1 c_g3 f_g3 a_g3 d_g3 e_g3 c_g7 f_g7 a_g7 d_g7 e_g7 c_g4 f_g4 a_g4 d_g4 e_g4;have c_g1:=g1.cell;have c_g3:=g3.cell;have f_g3:=g3.free;have c_g7:=g7.cell;have f_g7:=g7.free;have c_g4:=g4.cell;have om:=om2;clear om2;have hp34:=g4.lt;go_upto_region 8 with (fail)
   refine wpb1 (39) (#[.int .i64 a,.int .i64 b]) ?_;rintro wa5 ⟨g9,b⟩
   try clear c_g1 f_g1 a_g1 d_g1 e_g1
   replace g1:=g1.below b;obtain ⟨c_g1,f_g1,a_g1,d_g1,e_g1⟩:=g1.five;try clear c_g3 f_g3 a_g3 d_g3 e_g3
   replace g3:=g3.below b;obtain ⟨c_g3,f_g3,a_g3,d_g3,e_g3⟩:=g3.five;try clear c_g7 f_g7 a_g7 d_g7 e_g7
   replace g7:=g7.below b;obtain ⟨c_g7,f_g7,a_g7,d_g7,e_g7⟩:=g7.five;try clear c_g4 f_g4 a_g4 d_g4 e_g4
   replace g4:=g4.below b;obtain ⟨c_g4,f_g4,a_g4,d_g4,e_g4⟩:=g4.five;replace om:=om.below b;replace B:=B.trans (b.mono B.size);clear b;obtain ⟨c_g9,f_g9,a_g9,d_g9,e_g9⟩:=g9.five;cases ok
   ·have hn:next m.slots=none:=by
     rcases HW.out with ⟨_,h⟩ | ⟨h,_⟩
     ·exact h
     ·cases h
    obtain rfl:r=23:=HR1.out hn;obtain ⟨rfl,rfl,rfl⟩:=HNO.out (by decide)
    clear om;go_wp2;refine bodyPost_ret (v:=.tuple #[.agg #[.slice none 0 0,.slice none 0 0,.slice none 0 0],.agg #[.int .i64 0,.int .i64 0],.int .i64 23]) (by simp [results,Tryz.results20,go_sem,c_g3,f_g3,c_g7,f_g7]) rfl ?_;refine ⟨_,_,_,rfl,OwnM.nil _ _,?_⟩
    exact bdn
   ·obtain ⟨k,s,hnx,hsk,ea,eb,em⟩:∃k s,next m.slots=some k∧m.slots[k]?=some s∧a=(k:Int)∧b=s.gen+1∧m2=⟨m.types,m.objs,m.slots.set k ⟨s.gen+1,true,(NO:Int)⟩⟩:=by
     rcases HW.out with ⟨h,_⟩ | ⟨_,h⟩
     ·cases h
     ·exact h
    by_cases h9:NO=960
    ·obtain rfl:r=4:=HR2.out k hnx h9;obtain ⟨rfl,rfl,rfl⟩:=HNO.out (by decide)
     have q9:((NO:Int)==960)=true:=by rw [beq_iff_eq];omega
     clear om;go_wp2;refine bodyPost_ret (v:=.tuple #[.agg #[.slice none 0 0,.slice none 0 0,.slice none 0 0],.agg #[.int .i64 0,.int .i64 0],.int .i64 4]) (by simp [results,Tryz.results20,go_sem,c_g3,f_g3,c_g7,f_g7]) rfl ?_;refine ⟨_,_,_,rfl,OwnM.nil _ _,?_⟩
     exact bdn
    ·obtain rfl:r=0:=HR3.out k hnx h9;have q9:((NO:Int)==960)=false:=by rw [beq_eq_false_iff_ne];omega
     obtain ⟨e1,e2,e3⟩:=HYES.out rfl;rw [hnx] at e1 e2 e3;have hgd:m.slots.getD k .none=s:=by simp [List.getD_eq_getElem?_getD,hsk]
     have hMM:M=⟨m2.types,m2.objs++[⟨(q:Int),List.replicate l.length 0⟩],m2.slots⟩:=by
      rw [e1,em,←HNN.out]
      show (⟨m.types,_,m.slots.set k ⟨(m.slots.getD k .none).gen+1,true,_⟩⟩:Mo)=_;rw [hgd]
     have hha:hs=a:=by rw [e2,ea];rfl
     have hhb:hg=b:=by rw [e3,eb];show (m.slots.getD k .none).gen+1=_;rw [hgd]
     have hT2:m2.types[q]?=some l:=by rw [em];exact HLL.out
     have hO2:m2.objs.length=NO:=by rw [em];exact HNN.out.symm
     subst hha;subst hhb;have HMM:=hD hMM;have HT2:=hD hT2;have HO2:=hD hO2;have hNO:NO<960:=by have:m.objs.length≤960:=HX960.out;have:=HNN.out;omega
     clear e1 e2 e3 ea eb em hgd hnx hsk hMM hT2 hO2 h9;go_upto_region 12 with (fail)
     have h59:=g9.lt;have hB:=B.size;obtain ⟨W1,r1,oy,b1⟩:=run_make_words (w:=wa5.drew) l.length (by omega)
     replace r1:(Instr.makeSlice 22 (.int .i64 (l.length:Int)) (.int .i64 (l.length:Int))).run Tryz.prog wa5.drew=.ok (.slice (some ⟨wa5.heap.size,0,none⟩) l.length l.length) W1:=r1;replace oy:OwnW W1 wa5.heap.size 42 (.slice (some ⟨wa5.heap.size,0,none⟩) l.length l.length) (List.replicate l.length 0):=oy;replace b1:Below wa5.heap.size wa5 W1:=(Below.refl _ wa5).drew.trans b1;obtain ⟨ad,yr,it,mad,lyr,had⟩:=om.t.at1 HT2.out;obtain ⟨tvs,t1,t2,t4⟩:=om.t;obtain ⟨vs,z1,z2,z4,z5⟩:=om.o;have hz:=b1.size;obtain ⟨v,W3,r3,o3,gr3⟩:=run_append_rd (P:=Tryz.prog) (w:=W1.alloc (.cells #[i64 (q:Int),.slice (some ⟨wa5.heap.size,0,none⟩) l.length l.length] 68)) (ty:=28) (B:=w.heap.size) Tryz.underlying28 info_obj rfl (by omega) (own_below z2 (b1.alloc hz _)) lit_obj (one_obj rfl) (by have:=HO2.out;omega) (by have:=HO2.out;omega) (by simp;omega)
     have hs9:=own_not_bx z2 g9 (by decide);have hs7:=own_not_bx z2 g7 (by decide)
     have MM:=hD (copyO_mem (o:=⟨(q:Int),List.replicate l.length 0⟩) (a:=w.heap.size) (b:=w.heap.size+1) (p:=wa3.heap.size) z1 z2 z4 z5 oy b1 o3 gr3 g1 g3 g4 om.t om.s B hB (by omega) (by omega) (by omega) g9 hs9 (by omega))
     have b3:=b1.alloc hz (.cells #[i64 (q:Int),.slice (some ⟨wa5.heap.size,0,none⟩) l.length l.length] 68)
     have z2':=own_below z2 b3;have q43:Bx W3 wa3.heap.size 31 #[.slice tA tn tc,.slice oA on oc,.slice sA sn sc]:=Bx.grown (g4.below b3) gr3 (own_not_bx z2' (g4.below b3) (by decide))
     have q7:Bx (W3.setCell ⟨wa3.heap.size,1,none⟩ v) (w.heap.size+1+1) 39 #[.int .i64 0,.int .i64 0]:=((g7.below b3).grown gr3 hs7).far (p:=⟨wa3.heap.size,1,none⟩) (by show w.heap.size+1+1≠wa3.heap.size;omega) v;have hadO:some ad.block≠(Value.slice oA on oc).ownBlock:=by
      have:=own_unlike t2 z2 (by decide)
      rw [had] at this;rcases this with h | h
      ·cases h
      ·exact h
     have hadP:ad.block≠wa3.heap.size:=by
      have:=ne_of_or (own_not_bx t2 g4 (by decide))
      rw [had] at this;exact fun e=>this (by rw [e])
     have m3:W3.cell? ad=some yr:=gr3.cell (cell_later b3 mad) hadO;obtain ⟨vA,vn,vc,rfl⟩:∃A n c,v=.slice A n c:=by obtain ⟨A,c,e⟩:=own_form' o3;exact ⟨A,_,c,e⟩
     have AL:∀d,d≤5→((wsO wa5 wa3.heap.size (q:Int) ⟨.slice (some ⟨wa5.heap.size,0,none⟩) l.length l.length,W1,.slice vA vn vc,W3⟩) d).cell? ⟨wa3.heap.size,0,none⟩=some (.slice tA tn tc)∧((wsO wa5 wa3.heap.size (q:Int) ⟨.slice (some ⟨wa5.heap.size,0,none⟩) l.length l.length,W1,.slice vA vn vc,W3⟩) d).cell? ad=some yr:=by
      intro d hd;rcases d with _ | _ | _ | _ | _ | d
      ·exact ⟨g4.cell 0,mad⟩
      ·exact ⟨(g4.below b1).cell 0,cell_later b1 mad⟩
      ·exact ⟨(g4.below b1).cell 0,cell_later b1 mad⟩
      ·exact ⟨(g4.below b3).cell 0,cell_later b3 mad⟩
      ·exact ⟨q43.cell 0,m3⟩
      ·exact ⟨MM.out.2.2.2.2.1.cell 0,cell_far m3 hadP⟩
     have ca:=fun x:FXN (FL [9,10,11,12,14] (wsO wa5 wa3.heap.size (q:Int) ⟨.slice (some ⟨wa5.heap.size,0,none⟩) l.length l.length,W1,.slice vA vn vc,W3⟩) 1 3)=>(FL.all (ks:=[9,10,11,12,14]) (Ws:=(wsO wa5 wa3.heap.size (q:Int) ⟨.slice (some ⟨wa5.heap.size,0,none⟩) l.length l.length,W1,.slice vA vn vc,W3⟩)) (p:=fun W=>W.cell? ⟨wa3.heap.size,0,none⟩=some (.slice tA tn tc)∧W.cell? ad=some yr) AL x).1;have cb:=fun x:FXN (FL [9,10,11,12,14] (wsO wa5 wa3.heap.size (q:Int) ⟨.slice (some ⟨wa5.heap.size,0,none⟩) l.length l.length,W1,.slice vA vn vc,W3⟩) 1 3)=>(FL.all (ks:=[9,10,11,12,14]) (Ws:=(wsO wa5 wa3.heap.size (q:Int) ⟨.slice (some ⟨wa5.heap.size,0,none⟩) l.length l.length,W1,.slice vA vn vc,W3⟩)) (p:=fun W=>W.cell? ⟨wa3.heap.size,0,none⟩=some (.slice tA tn tc)∧W.cell? ad=some yr) AL x).2;have p0:=g4.cell 1;have p1:=(g4.below b1).cell 1;have p3:=(g4.below b3).cell 1
     haveI:Nonempty (FXN (FL [9,10,11,12,14] (wsO wa5 wa3.heap.size (q:Int) ⟨.slice (some ⟨wa5.heap.size,0,none⟩) l.length l.length,W1,.slice vA vn vc,W3⟩) 1 3)):=⟨⟨_,_,FL.start⟩⟩
     clear c_g1 f_g1 a_g1 d_g1 e_g1 c_g3 f_g3 a_g3 d_g3 e_g3 c_g7 f_g7 a_g7 d_g7 e_g7 c_g4 f_g4 a_g4 d_g4 e_g4 c_g9 f_g9 a_g9 d_g9 e_g9;refine wp_region_N (FL [9,10,11,12,14] (wsO wa5 wa3.heap.size (q:Int) ⟨.slice (some ⟨wa5.heap.size,0,none⟩) l.length l.length,W1,.slice vA vn vc,W3⟩) 1 3) [1,9,10,11,12,14] FL.dep (by kernel_rfl) (by kernel_rfl) (by kernel_rfl) FL.start ?_;refine wpN_read FL.dep rfl (by decide) ?_;go_big_quiet_step (fail);refine wpQuiet_nil ?_
     refine wpN_step FL.dep rfl (by rfl) (v:=.slice oA on oc) [] rfl (fun f W hF h0 _=>?_) ?_
     ·obtain ⟨⟨d,hd,hd2,rfl⟩,hF'⟩:=FL.read (by decide) hF h0;refine ⟨_,?_,hF'⟩
      have hc:((wsO wa5 wa3.heap.size (q:Int) ⟨.slice (some ⟨wa5.heap.size,0,none⟩) l.length l.length,W1,.slice vA vn vc,W3⟩) d).cell? ⟨wa3.heap.size,1,none⟩=some (.slice oA on oc):=by
       rcases d with _ | _ | _ | _ | d
       ·exact p0
       ·exact p1
       ·exact p1
       ·exact p3
       ·omega
      simp [execOp,go_sem,hc]
     simp only [Act.put,List.setIfInBounds_toArray,List.set_cons_zero,List.set_cons_succ]
     iterate 6 (refine wpN_read FL.dep rfl (by decide) ?_;go_big_quiet_step (fail);refine wpQuiet_nil ?_)
     refine wpN_len FL.dep rfl (by decide) rfl (fun W=>lyr _ W) ?_;simp only [Act.put,List.setIfInBounds_toArray,List.set_cons_zero,List.set_cons_succ]
     refine wpN_step FL.dep rfl (by rfl) (v:=.slice (some ⟨wa5.heap.size,0,none⟩) l.length l.length) [] (by kernel_rfl) (fun f W hF h0 h1=>?_) ?_
     ·obtain ⟨rfl,h2⟩:=FL.step (i:=0) rfl (by decide) hF h0 (by intro p hp;omega) (by omega)
      exact ⟨_,by simp [execOp,Act.eval,wsO,r1],h2⟩
     simp only [Act.put,List.setIfInBounds_toArray,List.set_cons_zero,List.set_cons_succ]
     refine wpN_step FL.dep rfl (by rfl) (v:=.agg #[i64 (q:Int),.slice (some ⟨wa5.heap.size,0,none⟩) l.length l.length]) [9] (by kernel_rfl) (fun f W hF h0 h1=>?_) ?_
     ·obtain ⟨rfl,h2⟩:=FL.step (i:=1) rfl (by decide) hF h0 (FL.prev (p:=0) (q:=9) rfl (h1 9 (by simp))) (by omega)
      exact ⟨_,by simp [execOp,go_sem,wsO,i64],h2⟩
     simp only [Act.put,List.setIfInBounds_toArray,List.set_cons_zero,List.set_cons_succ]
     refine wpN_step FL.dep rfl (by rfl) (v:=.slice (some ⟨W1.heap.size,0,none⟩) 1 1) [10] (by kernel_rfl) (fun f W hF h0 h1=>?_) ?_
     ·obtain ⟨rfl,h2⟩:=FL.step (i:=2) rfl (by decide) hF h0 (FL.prev (p:=1) (q:=10) rfl (h1 10 (by simp))) (by omega)
      exact ⟨_,by simp [execOp,go_sem,wsO,i64],h2⟩
     simp only [Act.put,List.setIfInBounds_toArray,List.set_cons_zero,List.set_cons_succ]
     refine wpN_step FL.dep rfl (by rfl) (v:=.slice vA vn vc) [11,1] (by kernel_rfl) (fun f W hF h0 h1=>?_) ?_
     ·obtain ⟨rfl,h2⟩:=FL.step (i:=3) rfl (by decide) hF h0 (FL.prev (p:=2) (q:=11) rfl (h1 11 (by simp))) (fun _=>h1 1 (by simp))
      exact ⟨_,by simp [execOp,resolve,invoke,builtin,Act.eval,wsO,r3],h2⟩
     simp only [Act.put,List.setIfInBounds_toArray,List.set_cons_zero,List.set_cons_succ]
     refine wpN_read FL.dep rfl (by decide) ?_;go_big_quiet_step (fail);refine wpQuiet_nil ?_
     refine wpN_storeD FL.dep rfl 28 (.tmp 62) (.tmp 61) rfl (by rfl) (p:=.pointer (some ⟨wa3.heap.size,1,none⟩)) (u:=.slice vA vn vc) (by rfl) (by rfl) [12] (by kernel_rfl) (fun f W hF h0 h1=>?_) ?_
     ·obtain ⟨rfl,h2⟩:=FL.step (i:=4) rfl (by decide) hF h0 (FL.prev (p:=3) (q:=12) rfl (h1 12 (by simp))) (by omega)
      refine ⟨_,?_,h2⟩
      have hc:=MM.out.1.1;have hf:=MM.out.1.2;simp [go_sem,wsO,hc,hf]
     simp only [Act.put]
     show ∀w',_→_;intro w' hw';obtain rfl:=FL.done hw';have HM:=hD (And.intro MM.out.2 q7)
     clear this ca cb AL MM q7 q43 m3 p0 p1 p3 om B g1 g3 g7 g4 g9 z1 z2 z4 z5 t1 t2 t4 z2' b1 b3 r1 r3 o3 gr3 oy mad hs9 hs7 hw';go_upto_region 13 with (fail)
     obtain ⟨⟨k1,k2,k3,k4,k5,k6,k7,_,k9⟩,k8⟩:=HM.out;have oM:OwnM (W3.setCell ⟨wa3.heap.size,1,none⟩ (.slice vA vn vc)) w.heap.size 37 (.slice tA tn tc) (.slice vA vn vc) (.slice sA sn sc) M:=by rw [HMM.out];exact ⟨k5,k1,k6⟩
     refine wp_gen (fun Wv=>OwnM Wv w.heap.size 37 (.slice tA tn tc) (.slice vA vn vc) (.slice sA sn sc) M∧Bx Wv (w.heap.size+1) 31 #[.slice none 0 0,.slice none 0 0,.slice none 0 0]∧Bx Wv (w.heap.size+1+1) 39 #[.int .i64 0,.int .i64 0]∧Bx Wv wa3.heap.size 31 #[.slice tA tn tc,.slice vA vn vc,.slice sA sn sc]∧Bx Wv w5.heap.size 39 #[.int .i64 hs,.int .i64 hg]∧Below w.heap.size w Wv) ⟨oM,k3,k8,k4,k9,k7⟩ ?_;rintro wz ⟨om,g3,g7,g4,g9,B⟩
     clear k1 k2 k3 k4 k5 k6 k7 k8 k9 oM HM;have START:(FTwoR w w.heap.size (.slice tA tn tc) (.slice vA vn vc) (.slice sA sn sc) M (w.heap.size+1+1) wa3.heap.size w5.heap.size (w.heap.size+1) hs hg) (fun _=>false) wz.drew:=⟨B.drew,⟨om.t,om.o,om.s⟩,g3,g7,g4,g9⟩
     haveI:Nonempty (FXN (FTwoR w w.heap.size (.slice tA tn tc) (.slice vA vn vc) (.slice sA sn sc) M (w.heap.size+1+1) wa3.heap.size w5.heap.size (w.heap.size+1) hs hg)):=⟨⟨_,_,START⟩⟩
     have ca:=fun x:FXN (FTwoR w w.heap.size (.slice tA tn tc) (.slice vA vn vc) (.slice sA sn sc) M (w.heap.size+1+1) wa3.heap.size w5.heap.size (w.heap.size+1) hs hg)=>(by obtain ⟨_,h⟩:=x.h;exact h.2.2.2.2.1:Bx x.W wa3.heap.size 31 #[.slice tA tn tc,.slice vA vn vc,.slice sA sn sc]).cell;have cb:=fun x:FXN (FTwoR w w.heap.size (.slice tA tn tc) (.slice vA vn vc) (.slice sA sn sc) M (w.heap.size+1+1) wa3.heap.size w5.heap.size (w.heap.size+1) hs hg)=>(by obtain ⟨_,h⟩:=x.h;exact h.2.2.2.2.2:Bx x.W w5.heap.size 39 #[.int .i64 hs,.int .i64 hg]).cell;clear om B g3 g7 g4 g9;refine wp_region_N (FTwoR w w.heap.size (.slice tA tn tc) (.slice vA vn vc) (.slice sA sn sc) M (w.heap.size+1+1) wa3.heap.size w5.heap.size (w.heap.size+1) hs hg) [2,3] FTwoR.dep (by kernel_rfl) (by kernel_rfl) (by kernel_rfl) START ?_;iterate 2 (refine wpN_read FTwoR.dep rfl (by decide) ?_;go_big_quiet_step (fail);refine wpQuiet_nil ?_)
     refine wpN_storeD FTwoR.dep rfl 31 (.tmp 4) (.tmp 63) rfl (by rfl) (p:=.pointer (some ⟨w.heap.size+1,0,none⟩)) (u:=.agg #[.slice tA tn tc,.slice vA vn vc,.slice sA sn sc]) (by rfl) (by rfl) [] (by kernel_rfl) (fun f W hF h0 h1=>?_) ?_
     ·obtain ⟨k0,k1,h2⟩:=FTwoR.store2 hF h0 (by omega) (by omega) (by omega) (by omega)
      refine ⟨_,?_,h2⟩
      simp [go_sem,k0,k1]
     simp only [Act.put,List.setIfInBounds_toArray,List.set_cons_zero,List.set_cons_succ]
     refine wpN_storeD FTwoR.dep rfl 39 (.tmp 5) (.tmp 64) rfl (by rfl) (p:=.pointer (some ⟨w.heap.size+1+1,0,none⟩)) (u:=.agg #[.int .i64 hs,.int .i64 hg]) (by rfl) (by rfl) [] (by kernel_rfl) (fun f W hF h0 h1=>?_) ?_
     ·obtain ⟨k0,k1,h2⟩:=FTwoR.store3 hF h0 (by omega) (by omega) (by omega) (by omega)
      refine ⟨_,?_,h2⟩
      simp [go_sem,k0,k1]
     simp only [Act.put,List.setIfInBounds_toArray,List.set_cons_zero,List.set_cons_succ]
     iterate 1 (refine wpN_read FTwoR.dep rfl (by decide) ?_;go_big_quiet_step (fail);refine wpQuiet_nil ?_)
     show ∀w',_→_;intro w' hF;obtain ⟨B,om,g3,g7,_,_⟩:=hF;have c3:=g3.cell;have c7:=g7.cell;simp only [if_true] at c3 c7;clear this ca cb START;go_wp2;refine bodyPost_ret (v:=.tuple #[.agg #[.slice tA tn tc,.slice vA vn vc,.slice sA sn sc],.agg #[.int .i64 hs,.int .i64 hg],.int .i64 0]) (by simp [results,Tryz.results20,go_sem,c3,c7]) rfl ?_;exact ⟨_,_,_,rfl,om,B⟩
  ·have hr1:r=2:=by rw [hr,allE,if_pos h0,if_neg (by omega)]
   obtain ⟨e1,e2,e3⟩:=hno (by rw [hr1];decide)
   have hcase:t<0∨¬t<0∧(NT:Int)≤t:=by omega
   subst hr1;subst e1;subst e2;subst e3;clear hr hM hhs hhg hno h0 h hc ht hNT;rcases hcase with n1 | ⟨n1,n2⟩
   all_goals
    go_in;go_upto_region 1 with (fail)
    refine wpb111 (31) (#[tv,ov,sv]) (31) (#[.slice none 0 0,.slice none 0 0,.slice none 0 0]) (39) (#[.int .i64 0,.int .i64 0]) ?_;rintro wa1 ⟨g1,g3,g7,b⟩
    replace B:=B.trans (b.mono B.size);clear b;obtain ⟨c_g1,f_g1,a_g1,d_g1,e_g1⟩:=g1.five;obtain ⟨c_g3,f_g3,a_g3,d_g3,e_g3⟩:=g3.five;obtain ⟨c_g7,f_g7,a_g7,d_g7,e_g7⟩:=g7.five;go_wp2_with fail;refine (CT.out _ (H.out.below B)).mono ?_;rintro e wa2 ⟨rfl,b⟩
    try clear c_g1 f_g1 a_g1 d_g1 e_g1
    replace g1:=g1.below b;obtain ⟨c_g1,f_g1,a_g1,d_g1,e_g1⟩:=g1.five;try clear c_g3 f_g3 a_g3 d_g3 e_g3
    replace g3:=g3.below b;obtain ⟨c_g3,f_g3,a_g3,d_g3,e_g3⟩:=g3.five;try clear c_g7 f_g7 a_g7 d_g7 e_g7
    replace g7:=g7.below b;obtain ⟨c_g7,f_g7,a_g7,d_g7,e_g7⟩:=g7.five;replace B:=B.trans (b.mono B.size);clear b;go_wp2;refine bodyPost_ret (v:=.tuple #[.agg #[.slice none 0 0,.slice none 0 0,.slice none 0 0],.agg #[.int .i64 0,.int .i64 0],.int .i64 2]) (by simp [results,Tryz.results20,go_sem,c_g3,f_g3,c_g7,f_g7]) rfl ?_;refine ⟨_,_,_,rfl,OwnM.nil _ _,?_⟩
    exact bdn
 ·have hr1:r=c:=by rw [hr,allE,if_neg h0,hc]
  have hne:(c != 0)=true:=by rw [bne_iff_ne,hc];exact h0
  obtain ⟨e1,e2,e3⟩:=hno (by rw [hr1,hc];exact h0)
  subst hr1;subst e1;subst e2;subst e3;clear hr hM hhs hhg hno h0 h hc hNT;go_in;go_upto_region 1 with (fail)
  refine wpb111 (31) (#[tv,ov,sv]) (31) (#[.slice none 0 0,.slice none 0 0,.slice none 0 0]) (39) (#[.int .i64 0,.int .i64 0]) ?_;rintro wa1 ⟨g1,g3,g7,b⟩
  replace B:=B.trans (b.mono B.size);clear b;obtain ⟨c_g1,f_g1,a_g1,d_g1,e_g1⟩:=g1.five;obtain ⟨c_g3,f_g3,a_g3,d_g3,e_g3⟩:=g3.five;obtain ⟨c_g7,f_g7,a_g7,d_g7,e_g7⟩:=g7.five;go_wp2_with fail;refine (CT.out _ (H.out.below B)).mono ?_;rintro e wa2 ⟨rfl,b⟩
  try clear c_g1 f_g1 a_g1 d_g1 e_g1
  replace g1:=g1.below b;obtain ⟨c_g1,f_g1,a_g1,d_g1,e_g1⟩:=g1.five;try clear c_g3 f_g3 a_g3 d_g3 e_g3
  replace g3:=g3.below b;obtain ⟨c_g3,f_g3,a_g3,d_g3,e_g3⟩:=g3.five;try clear c_g7 f_g7 a_g7 d_g7 e_g7
  replace g7:=g7.below b;obtain ⟨c_g7,f_g7,a_g7,d_g7,e_g7⟩:=g7.five;replace B:=B.trans (b.mono B.size);clear b;go_wp2;refine bodyPost_ret (v:=.tuple #[.agg #[.slice none 0 0,.slice none 0 0,.slice none 0 0],.agg #[.int .i64 0,.int .i64 0],.int .i64 r]) (by simp [results,Tryz.results20,go_sem,c_g3,f_g3,c_g7,f_g7]) rfl ?_;refine ⟨_,_,_,rfl,OwnM.nil _ _,?_⟩
  exact bdn
end
section
open Go.RowKit L02 L13 L18 L20
end
section
open Go.RowKit L02 L13 L18 L20
theorem ob_at {m:Mo} {i:Nat} {o:Ob} (h:m.objs[i]?=some o):ob m i=o:=by simp [ob,List.getD_eq_getElem?_getD,h]
theorem busy_cases (d:Int) (sl:Int) (s:Sl) (n:Nat):((d != sl)=false)∨((d != sl)=true∧s.used=false)∨((d != sl)=true∧s.used=true∧(s.at_==(n:Int))=false)∨((d != sl)=true∧s.used=true∧(s.at_==(n:Int))=true):=by
 by_cases h:d=sl
 ·exact .inl (by rw [bne_eq_false_iff_eq];exact h)
 ·have h':(d != sl)=true:=by rw [bne_iff_ne];exact h
  cases hu:s.used
  ·exact .inr (.inl ⟨h',rfl⟩)
  ·by_cases ha:s.at_=n
   ·exact .inr (.inr (.inr ⟨h',rfl,by rw [beq_iff_eq];exact ha⟩))
   ·exact .inr (.inr (.inl ⟨h',rfl,by rw [beq_eq_false_iff_ne];exact ha⟩))
end
section
open Go.RowKit Go.Maps L02 L13 L18 L20
def MapN (P:Program) (k e:TypeId) (z0:Lit) (W:World) (g n:Nat) (f:Int→Lit) (K:Int→Bool):Prop:=
 ∃D:DataW Unit,W.ownsMap P k (plainElem P e) g n D∧(∀a,D.atKey (.int .i64 a) (.lit z0)=.lit (f a))∧size D=n∧∀a,has D (.int .i64 a)=K a
section
variable {P:Program} {k e:TypeId} {z0:Lit} {W:World} {g n:Nat} {f:Int→Lit} {K:Int→Bool}
theorem MapN.mapL (h:MapN P k e z0 W g n f K):MapL P k e z0 W g n f:=by obtain ⟨D,h1,h2,_⟩:=h;exact ⟨D,h1,h2⟩
theorem MapN.made (W:World):MapN P k e z0 (W.alloc (.map #[] 0)) W.heap.size 0 (fun _=>z0) (fun _=>false):=
 ⟨.map [],World.ownsMap_made W P k _,fun a=>rfl,rfl,fun a=>rfl⟩
theorem MapN.kept {W':World} {row:Option Nat} (h:MapN P k e z0 W g n f K) (hg:W.grownBy W' row) (hne:some g≠row):MapN P k e z0 W' g n f K:=by
 obtain ⟨D,h1,h2⟩:=h;exact ⟨D,h1.kept hg hne,h2⟩
theorem MapN.below {W':World} (h:MapN P k e z0 W g n f K) (hb:Below W.heap.size W W'):MapN P k e z0 W' g n f K:=by
 obtain ⟨D,⟨es,clock,hh,F,hs,hD⟩,h2⟩:=h;exact ⟨D,⟨es,clock,(hb.block g (Array.getElem?_eq_some_iff.1 hh).1).trans hh,F,hs,hD⟩,h2⟩
theorem MapL.block (h:MapL P k e z0 W g n f):∃es clock,W.heap[g]?=some (.map es clock):=by
 obtain ⟨D,⟨es,clock,hh,_⟩,_⟩:=h;exact ⟨es,clock,hh⟩
theorem MapN.len {t:TypeId} (h:MapN P k e z0 W g n f K) (ht:P.underlying t=some (.map k e)):∀ty,(Builtin.len_ #[t] ty #[.map (some g)]).run P W=.ok (.int .i64 (n:Int)) W:=by
 obtain ⟨D,h1,_,h3,_⟩:=h;intro ty;rw [h1.len ht ty,h3]
theorem MapN.put {t:TypeId} (h:MapN P k e z0 W g n f K) (hk:P.underlying k=some (.int .i64)) (ht:P.underlying t=some (.map k e)) (hn:n<maxLen) {a:Int} (ha:i64Ok a) (hK:K a=false) {v:Value} {l:Lit} (hv:plainElem (H:=Unit) P e v=some (.lit l,[])):
  ∃W',(Instr.mapUpdate t (.map (some g)) (.int .i64 a) v).run P W=.ok () W'∧MapN P k e z0 W' g (n+1) (fun b=>if b=a then l else f b) (fun b=>decide (b=a) || K b)∧W.grownBy W' (some g):=by
 obtain ⟨D,h1,h2,h3,h4⟩:=h;obtain ⟨W',r1,r2,r3⟩:=h1.update (int_keyed hk) ht hn (keyOf_int_mk hk (lit_wf ha)) hv;refine ⟨W',r1,⟨_,r2,fun b=>?_,?_,fun b=>?_⟩,r3⟩
 ·by_cases hb:b=a
  ·subst hb;show _=DataW.lit (if b=b then l else f b)
   rw [if_pos rfl]
   exact atKey_put_same (h1.isMap) ((int_keyed hk).key (keyOf_int_mk hk (lit_wf ha))) _ _
  ·show _=DataW.lit (if b=a then l else f b)
   rw [if_neg hb,atKey_put_other (by intro e;injection e with _ e;exact hb e),h2]
 ·rw [size_put (h1.tidy (int_keyed hk)),h4,hK,h3];rfl
 ·by_cases hb:b=a
  ·subst hb;rw [has_put_same h1.isMap ((int_keyed hk).key (keyOf_int_mk hk (lit_wf ha)))];simp
  ·rw [has_put_other (by intro e;injection e with _ e;exact hb e),h4];simp [hb]
theorem wpList_mapPutN {ops:Array Oper} {rest:List Oper} {o:Oper} {a:Act} {Q:Exit→Act→World→Prop} (hg:o.guard=none) {m x v:Operand} {t:TypeId} (hop:o.op=Op.mapUpdate t m x v) (hk:P.underlying k=some (.int .i64)) (ht:P.underlying t=some (.map k e))
  (hm:a.eval m=.map (some g)) {key:Int} {val:Value} {l:Lit} (hx:a.eval x=.int .i64 key) (hv:a.eval v=val) (h:MapN P k e z0 W g n f K) (hn:n<maxLen) (hkey:i64Ok key) (hK:K key=false) (hval:plainElem (H:=Unit) P e val=some (.lit l,[]))
  (hC:∀W',MapN P k e z0 W' g (n+1) (fun b=>if b=key then l else f b) (fun b=>decide (b=key) || K b)→W.grownBy W' (some g)→wpList P ops Q rest (a.put o.dst undef) W'):wpList P ops Q (o :: rest) a W:=by
 refine wpList_plain hg fun K' hK'=>?_;obtain ⟨W',hrun,r1,r2⟩:=h.put hk ht hn hkey hK hval;unfold Oper.wp;simp [execOp,hop,hm,hx,hv,hrun,Result.andThen]
 exact hK' _ _ (hC W' r1 r2)
theorem own_ne_map {B e' sz n':Nat} {v:Value} {xs:List Value} {es:Array MapEntry} {clock:Nat} (h:W.ownsRow B e' sz v n' xs) (hm:W.heap[g]?=some (.map es clock)):v.ownBlock=none∨v.ownBlock≠some g:=by
 rcases h.2 with ⟨rfl,_⟩ | ⟨g',cap,cur,rfl,_,hg',_⟩
 ·exact .inl rfl
 ·refine .inr ?_;intro he;simp [Value.ownBlock] at he;subst he;rw [hg'] at hm;injection hm with hm
  cases hm
theorem Bx.ne_map {p:Nat} {t:TypeId} {cs:Array Value} {es:Array MapEntry} {clock:Nat} (h:Bx W p t cs) (hm:W.heap[g]?=some (.map es clock)):g≠p:=by
 rintro rfl;unfold Bx at h;rw [h] at hm;injection hm with hm
 cases hm
theorem row_keptM {W':World} {B e' sz n':Nat} {v:Value} {xs:List Value} {es:Array MapEntry} {clock:Nat} (h:W.ownsRow B e' sz v n' xs) (hm:W.heap[g]?=some (.map es clock)) (hg:W.grownBy W' (some g)):W'.ownsRow B e' sz v n' xs:=
 World.ownsRow.kept h hg (own_ne_map h hm)
theorem OwnT.keptM {W':World} {B:Nat} {v:Value} {L:List (List UInt8)} {es:Array MapEntry} {clock:Nat} (h:OwnT W B v L) (hm:W.heap[g]?=some (.map es clock)) (hg:W.grownBy W' (some g)):OwnT W' B v L:=by
 obtain ⟨vs,a1,a2,a4⟩:=h;exact ⟨vs,a1,row_keptM a2 hm hg,fun i x l h5 h6=>row_keptM (a4 i x l h5 h6) hm hg⟩
theorem Bx.keptM {W':World} {p:Nat} {t:TypeId} {cs:Array Value} {es:Array MapEntry} {clock:Nat} (h:Bx W p t cs) (hm:W.heap[g]?=some (.map es clock)) (hg:W.grownBy W' (some g)):Bx W' p t cs:=
 h.grown hg (.inr (fun e=>h.ne_map hm (by injection e)))
end
end
end Go.Proofs.YteejianjjpdimaaGreat
