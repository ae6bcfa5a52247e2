/- Contracts of the functions that the laws 'T' reach, part 3. No condition. -/
import Derived.Test.YteejianjjpdimaaGreatMTb
set_option linter.unusedVariables false
set_option linter.unusedSimpArgs false
set_option maxRecDepth 100000
set_option maxHeartbeats 8000000
namespace Go.Proofs.YteejianjjpdimaaGreat
section
open Go.RowKit L01 L02 L18
def slC (s:Sl):List Value:=[.int .i64 s.gen,.bool s.used,.int .i64 s.at_]
def tabL (L:List Sl):List Value:=L.flatMap slC
def tab (L:List Sl):Array Value:=(tabL L).toArray
def tabOf (l:List UInt64):List Sl:=if openErr l=0 then slots l else List.replicate 16 .none
theorem tabL_len (L:List Sl):(tabL L).length=L.length*3:=by
 induction L with
 | nil=>rfl
 | cons s L ih=>rw [tabL,List.flatMap_cons,List.length_append,←tabL,ih];simp [slC];omega
theorem tabL_get:∀(L:List Sl) (k:Nat) (s:Sl),L[k]?=some s→∀i,i<3→(tabL L)[k*3+i]?=(slC s)[i]?
 | [],_,_,h,_,_=>by cases h
 | t :: L,0,s,h,i,hi=>by
  simp at h;subst h;rw [tabL,List.flatMap_cons,Nat.zero_mul,Nat.zero_add,List.getElem?_append_left (by simpa [slC] using hi)]
 | t :: L,k+1,s,h,i,hi=>by
  rw [tabL,List.flatMap_cons,List.getElem?_append_right (by simp [slC];omega)]
  rw [show (k+1)*3+i-(slC t).length=k*3+i by simp [slC];omega]
  exact tabL_get L k s (by simpa using h) i hi
theorem tabL_one (L:List Sl):∀u∈tabL L,u.oneCell'=true:=by
 intro u hu;obtain ⟨s,_,hs⟩:=List.mem_flatMap.1 hu;simp [slC] at hs;rcases hs with rfl | rfl | rfl <;> rfl
theorem tab_size (L:List Sl):(tab L).size=L.length*3:=by simp [tab,tabL_len]
theorem ws_len {l:List UInt64} (h:SizeOk l.length):(ws l).length=16:=by
 have:=h.1;simp [ws];omega
theorem ws_get {l:List UInt64} {k:Nat} {x:UInt64} (hk:k<16) (h:l[112+k]?=some x):(ws l)[k]?=some x:=by
 rw [ws,List.getElem?_take,if_pos hk,List.getElem?_drop];exact h
theorem slots_len {l:List UInt64} (h:SizeOk l.length):(slots l).length=16:=by rw [slots,List.length_map,ws_len h]
theorem tabOf_len (l:List UInt64):(tabOf l).length=16:=by
 unfold tabOf;split
 ·rename_i h;unfold openErr at h;split at h
  ·exact slots_len ‹_›
  ·omega
 ·simp
theorem tabOf_size (l:List UInt64):(tab (tabOf l)).size=48:=by rw [tab_size,tabOf_len]
theorem size_table:(Tryz.prog.info? 123).map (·.size)=some 48:=by kernel_rfl
theorem size_slot:(Tryz.prog.info? 37).map (·.size)=some 3:=by kernel_rfl
theorem z48_one:(#[.int .i64 0,.bool false,.int .i64 0,.int .i64 0,.bool false,.int .i64 0,.int .i64 0,.bool false,.int .i64 0,.int .i64 0,.bool false,.int .i64 0,.int .i64 0,.bool false,.int .i64 0,.int .i64 0,.bool false,.int .i64 0,.int .i64 0,.bool false,.int .i64 0,.int .i64 0,.bool false,.int .i64 0,.int .i64 0,.bool false,.int .i64 0,.int .i64 0,.bool false,.int .i64 0,.int .i64 0,.bool false,.int .i64 0,.int .i64 0,.bool false,.int .i64 0,.int .i64 0,.bool false,.int .i64 0,.int .i64 0,.bool false,.int .i64 0,.int .i64 0,.bool false,.int .i64 0,.int .i64 0,.bool false,.int .i64 0]:Array Value).all (·.oneCell')=true:=by simp [Value.oneCell']
theorem slot_one (s:Sl):(#[.int .i64 s.gen,.bool s.used,.int .i64 s.at_]:Array Value).all (·.oneCell')=true:=by simp [Value.oneCell']
def TabTo (S:List Sl) (k:Nat) (cs:Array Value):Prop:=cs.size=48∧∀j,j<k*3→cs[j]?=(tabL S)[j]?
theorem TabTo.zero (S:List Sl) {cs:Array Value} (h:cs.size=48):TabTo S 0 cs:=⟨h,fun j hj=>by omega⟩
theorem TabTo.succ {S:List Sl} {k:Nat} {cs:Array Value} {s:Sl} (h:TabTo S k cs) (hs:S[k]?=some s) (hk:k<16):TabTo S (k+1) (putL cs (k*3) (slC s)):=by
 refine ⟨by rw [putL_size];exact h.1,fun j hj=>?_⟩
 rw [putL_get _ _ _ _ (by rw [h.1];simp [slC];omega)]
 by_cases h1:k*3≤j
 ·rw [if_pos ⟨h1,by simp [slC];omega⟩]
  have:=tabL_get S k s hs (j-k*3) (by omega)
  rw [show k*3+(j-k*3)=j by omega] at this;exact this.symm
 ·rw [if_neg (by omega)]
  exact h.2 j (by omega)
theorem TabTo.done {S:List Sl} {cs:Array Value} (h:TabTo S 16 cs) (hS:S.length=16):cs=tab S:=by
 apply Array.ext_getElem?;intro j;by_cases hj:j<48
 ·rw [h.2 j hj];simp [tab]
 ·rw [Array.getElem?_eq_none (by rw [h.1];omega),Array.getElem?_eq_none (by rw [tab_size,hS];omega)]
theorem openErr_of {l:List UInt64} (h:SizeOk l.length) (h2:∀x∈(ws l).take 16,Right (spl x)):openErr l=0:=by
 rw [openErr,if_pos h,if_pos]
 intro x hx;exact h2 x (by rw [List.take_of_length_le (by rw [ws_len h];omega)];exact hx)
theorem openErr_no {l:List UInt64} (h:SizeOk l.length) {k:Nat} {x:UInt64} (hx:(ws l)[k]?=some x) (hn:¬Right (spl x)):openErr l=50:=by
 rw [openErr,if_pos h,if_neg]
 intro hall;exact hn (hall x (List.mem_of_getElem? hx))
theorem right_take {l:List UInt64} {k:Nat} {x:UInt64} (h:∀y∈(ws l).take k,Right (spl y)) (hx:(ws l)[k]?=some x) (hr:Right (spl x)):∀y∈(ws l).take (k+1),Right (spl y):=by
 intro y hy;rw [List.take_add_one,hx] at hy;rcases List.mem_append.1 hy with hy | hy
 ·exact h y hy
 ·simp at hy;subst hy;exact hr
theorem tabNo (l:List UInt64) (h:openErr l≠0):tab (tabOf l)=#[.int .i64 0,.bool false,.int .i64 0,.int .i64 0,.bool false,.int .i64 0,.int .i64 0,.bool false,.int .i64 0,.int .i64 0,.bool false,.int .i64 0,.int .i64 0,.bool false,.int .i64 0,.int .i64 0,.bool false,.int .i64 0,.int .i64 0,.bool false,.int .i64 0,.int .i64 0,.bool false,.int .i64 0,.int .i64 0,.bool false,.int .i64 0,.int .i64 0,.bool false,.int .i64 0,.int .i64 0,.bool false,.int .i64 0,.int .i64 0,.bool false,.int .i64 0,.int .i64 0,.bool false,.int .i64 0,.int .i64 0,.bool false,.int .i64 0,.int .i64 0,.bool false,.int .i64 0,.int .i64 0,.bool false,.int .i64 0]:=by rw [tabOf,if_neg h];rfl
theorem open_any (v:Value) (l:List UInt64) (V:Array Value) (hV:V=tab (tabOf l)) (r:Int) (hr:r=openErr l) (w:World) (h:Words w v l):
  Calls Tryz.prog 57 #[v] w fun e w'=>e=.returned (.tuple #[.agg V,.int .i64 r])∧Below w.heap.size w w':=by
 have B:=Below.refl w.heap.size w;have HV:=hD hV;have HR:=hD hr;clear hV hr;have CT:=fun w h=>Check_any v l w h;by_cases hs:SizeOk l.length
 ·rw [chk_ok hs] at CT;have HC:=hD CT;have H:=hD h;have HS:=hD hs;have hlen:=hs.1;clear h hs CT;go_in;go_wp2_with fail;refine clb1 (123) (#[.int .i64 0,.bool false,.int .i64 0,.int .i64 0,.bool false,.int .i64 0,.int .i64 0,.bool false,.int .i64 0,.int .i64 0,.bool false,.int .i64 0,.int .i64 0,.bool false,.int .i64 0,.int .i64 0,.bool false,.int .i64 0,.int .i64 0,.bool false,.int .i64 0,.int .i64 0,.bool false,.int .i64 0,.int .i64 0,.bool false,.int .i64 0,.int .i64 0,.bool false,.int .i64 0,.int .i64 0,.bool false,.int .i64 0,.int .i64 0,.bool false,.int .i64 0,.int .i64 0,.bool false,.int .i64 0,.int .i64 0,.bool false,.int .i64 0,.int .i64 0,.bool false,.int .i64 0,.int .i64 0,.bool false,.int .i64 0]) ?_;rintro w' ⟨q0,b⟩
  replace B:=B.trans (b.mono B.size);clear b;have hz1:w.heap.size<w'.heap.size:=q0.lt;obtain ⟨w1,hw1⟩:=exq w';subst hw1;refine (HC.out _ (H.out.below B)).mono ?_;rintro e w2 ⟨rfl,rfl⟩
  go_wp2;refine wpb1 (123) (#[.int .i64 0,.bool false,.int .i64 0,.int .i64 0,.bool false,.int .i64 0,.int .i64 0,.bool false,.int .i64 0,.int .i64 0,.bool false,.int .i64 0,.int .i64 0,.bool false,.int .i64 0,.int .i64 0,.bool false,.int .i64 0,.int .i64 0,.bool false,.int .i64 0,.int .i64 0,.bool false,.int .i64 0,.int .i64 0,.bool false,.int .i64 0,.int .i64 0,.bool false,.int .i64 0,.int .i64 0,.bool false,.int .i64 0,.int .i64 0,.bool false,.int .i64 0,.int .i64 0,.bool false,.int .i64 0,.int .i64 0,.bool false,.int .i64 0,.int .i64 0,.bool false,.int .i64 0,.int .i64 0,.bool false,.int .i64 0]) ?_;rintro w' ⟨q1,b⟩
  replace q0:=q0.below b;replace B:=B.trans (b.mono B.size);clear b;have hq:w1.heap.size≠w.heap.size:=by have:=hz1;omega
  obtain ⟨S,hS⟩:=exq (slots l)
  have HSS:=hD hS;clear hS;have HB:=hD B;have HG:=hD (And.intro q0 q1);clear B q0 q1
  go_loopw [15] (fun i wr=>∃k:Nat,k≤16∧i=.int .i64 k∧Hid (Bx wr w.heap.size 123 #[.int .i64 0,.bool false,.int .i64 0,.int .i64 0,.bool false,.int .i64 0,.int .i64 0,.bool false,.int .i64 0,.int .i64 0,.bool false,.int .i64 0,.int .i64 0,.bool false,.int .i64 0,.int .i64 0,.bool false,.int .i64 0,.int .i64 0,.bool false,.int .i64 0,.int .i64 0,.bool false,.int .i64 0,.int .i64 0,.bool false,.int .i64 0,.int .i64 0,.bool false,.int .i64 0,.int .i64 0,.bool false,.int .i64 0,.int .i64 0,.bool false,.int .i64 0,.int .i64 0,.bool false,.int .i64 0,.int .i64 0,.bool false,.int .i64 0,.int .i64 0,.bool false,.int .i64 0,.int .i64 0,.bool false,.int .i64 0]∧(∃cs,Bx wr w1.heap.size 123 cs∧TabTo S k cs)∧∀x∈(ws l).take k,Right (spl x))∧Below w.heap.size w wr) (fun i _=>16-(intOf i).toNat)
  case atStart=>exact ⟨0,by omega,rfl,hD ⟨HG.out.1,⟨_,HG.out.2,TabTo.zero _ rfl⟩,by simp⟩,HB.out⟩
  case round=>
   obtain ⟨k,hk,rfl,hh,B⟩:=hrel;by_cases hlt:k<16
   ·obtain ⟨ad,x,ia,ca,hx⟩:=(H.out.below B).atI Tryz.underlying22 one_u64 (k:=112+(k:Int)) (by omega) (by omega)
    have hx':(ws l)[k]?=some x:=ws_get hlt (by have:=hx.out;rwa [show (112+(k:Int)).toNat=112+k by omega] at this)
    have HX:=hD hx';clear hx hx';by_cases hr:Right (spl x)
    ·have SP:=Split_r x (spl x) 0 (by rw [spl0,if_pos hr]) (by rw [splErr,if_pos hr])
     obtain ⟨s,hs⟩:=exq (spl x)
     rw [←hs] at SP;have HSP:=hD SP;have HRR:=hD hr;have HSX:=hD hs;clear SP hr hs;go_wp2_with fail;refine (HSP.out _).mono ?_;rintro e w2 ⟨rfl,b⟩
     obtain ⟨gg0,⟨cs,gg1,ht⟩,hright⟩:=hh.out;have b0:=gg0.below b;have b1:=gg1.below b;replace B:=B.trans (b.mono B.size)
     clear b gg0 gg1;have HT:=hD ht;have HRT:=hD hright;have hcs:k*3+3≤cs.size:=by rw [ht.1];omega
     clear ht hright;go_wp2_with ((with_reducible refine at_store 37 33 32 ?_);refine wpList_storePart rfl _ _ _ rfl _ _ _ rfl rfl (b1.alloc _) size_slot (by simpa using hcs) (slot_one _) ?_;intro W c1 S1)
     have hgS:S[k]?=some s:=by rw [HSS.out,slots,List.getElem?_map,HX.out,HSX.out];rfl
     have HGS:=hD hgS;have HC1:=hD c1;have HS1:=hD S1;have HB0:=hD b0;have HB:=hD B;clear hgS c1 S1 b0 B b1 hcs hh
     go_roundw
     case rel=>
      refine ⟨k+1,by omega,by go_num,hD ⟨HS1.out.2 (by omega) (HB0.out.alloc _),⟨_,HC1.out,?_⟩,right_take HRT.out HX.out HRR.out⟩,HS1.out.1 (HB.out.alloc HB.out.size _) (by omega)⟩
      have:=HT.out.succ HGS.out hlt;exact this
     case measure=>simp [intOf];omega
    ·have SP:=Split_r x .none 50 (by rw [spl0,if_neg hr]) (by rw [splErr,if_neg hr])
     have he:=openErr_no HS.out HX.out hr;have hz:=tabNo l (by rw [he];omega)
     have HSP:=hD SP;have HE:=hD he;have HZ:=hD hz;clear SP hr he hz;go_wp2_with fail;refine (HSP.out _).mono ?_;rintro e w2 ⟨rfl,b⟩
     obtain ⟨gg0,⟨cs,gg1,ht⟩,hright⟩:=hh.out;have b0:=gg0.below b;replace B:=B.trans (b.mono B.size)
     clear b gg0 gg1 ht hright hh;go_wp2_with ((with_reducible refine at_store 123 2 29 ?_);refine wpList_storeRow rfl _ _ _ rfl _ _ rfl rfl (b0.alloc _) size_table rfl z48_one ?_;intro W g0 S0)
     refine bodyPost_ret (results_row rfl _ rfl g0 _ Tryz.underlying123 rfl size_table) rfl ⟨?_,S0.1 (B.alloc B.size _) (Nat.le_refl _)⟩
     rw [HV.out,HZ.out,HR.out,HE.out];rfl
   ·obtain rfl:k=16:=by omega
    obtain ⟨gg0,⟨cs,gg1,ht⟩,hright⟩:=hh.out;have he:=openErr_of HS.out hright;have hcs:=ht.done (by rw [HSS.out];exact slots_len HS.out)
    have hV:V=cs:=by rw [HV.out,tabOf,if_pos he,←HSS.out,hcs]
    subst hV;have hsz:V.size=48:=ht.1;have h1:V.all (·.oneCell')=true:=by rw [hcs];exact all_oneCell_toArray (tabL_one S)
    have HCS:=hD hcs;have HE:=hD he;clear hcs he hright ht hh;have HSZ:=hD hsz;have H1:=hD h1;clear hsz h1;go_wp2_with (first
     | ((with_reducible refine at_load 35 123 5 ?_);refine wpList_loadRow rfl _ _ rfl _ rfl gg1 _ Tryz.underlying123 rfl (by rw [HSZ.out];exact size_table) ?_)
     | ((with_reducible refine at_store 123 2 35 ?_);refine wpList_storeRow rfl _ _ _ rfl _ _ rfl rfl gg0 (by rw [HSZ.out];exact size_table) (by rw [HSZ.out];rfl) H1.out ?_;intro W g0 S0))
    refine bodyPost_ret (results_row rfl _ rfl g0 _ Tryz.underlying123 rfl (by rw [HSZ.out];exact size_table)) rfl ⟨?_,S0.1 B (Nat.le_refl _)⟩
    rw [HR.out,HE.out];rfl
 ·have hr8:openErr l=8:=by rw [openErr,if_neg hs]
  have hz:=tabNo l (by rw [hr8];omega)
  rw [chk_no hs] at CT;have HZ:=hD hz;have HR8:=hD hr8;have HC:=hD CT;have H:=hD h;clear h hs hz hr8 CT;go_in;go_wp2_with fail;refine clb1 (123) (#[.int .i64 0,.bool false,.int .i64 0,.int .i64 0,.bool false,.int .i64 0,.int .i64 0,.bool false,.int .i64 0,.int .i64 0,.bool false,.int .i64 0,.int .i64 0,.bool false,.int .i64 0,.int .i64 0,.bool false,.int .i64 0,.int .i64 0,.bool false,.int .i64 0,.int .i64 0,.bool false,.int .i64 0,.int .i64 0,.bool false,.int .i64 0,.int .i64 0,.bool false,.int .i64 0,.int .i64 0,.bool false,.int .i64 0,.int .i64 0,.bool false,.int .i64 0,.int .i64 0,.bool false,.int .i64 0,.int .i64 0,.bool false,.int .i64 0,.int .i64 0,.bool false,.int .i64 0,.int .i64 0,.bool false,.int .i64 0]) ?_;rintro w' ⟨q0,b⟩
  replace B:=B.trans (b.mono B.size);clear b;refine (HC.out _ (H.out.below B)).mono ?_;rintro e w1 ⟨rfl,rfl⟩
  go_wp2_with ((with_reducible refine at_store 123 2 13 ?_);refine wpList_storeRow rfl _ _ _ rfl _ _ rfl rfl q0 size_table rfl z48_one ?_;intro W g0 S0)
  refine bodyPost_ret (results_row rfl _ rfl g0 _ Tryz.underlying123 rfl size_table) rfl ⟨?_,S0.1 B (Nat.le_refl _)⟩
  rw [HV.out,HZ.out,HR.out,HR8.out];rfl
end
section
open Go.RowKit L01 L02 L18
theorem tab_one (L:List Sl):(tab L).all (·.oneCell')=true:=all_oneCell_toArray (tabL_one L)
theorem tab_get3 {L:List Sl} {k:Nat} {s:Sl} (h:L[k]?=some s):(tab L)[k*3]?=some (.int .i64 s.gen)∧(tab L)[k*3+1]?=some (.bool s.used)∧(tab L)[k*3+2]?=some (.int .i64 s.at_):=by
 have h0:=tabL_get L k s h 0 (by omega)
 have h1:=tabL_get L k s h 1 (by omega)
 have h2:=tabL_get L k s h 2 (by omega)
 simp only [tab,List.getElem?_toArray]
 exact ⟨h0,h1,h2⟩
def findS (L:List Sl) (sl g:Int):Sl:=if rightErr L sl g=0 then L.getD sl.toNat .none else .none
theorem find_any (L:List Sl) (hL:L.length=16) (V:Array Value) (hV:V=tab L) (sl g:Int) (s:Sl) (r:Int) (hs:s=findS L sl g) (hr:r=rightErr L sl g) (w:World):
  Calls Tryz.prog 99 #[.agg V,.agg #[.int .i64 sl,.int .i64 g]] w fun e w'=>e=.returned (.tuple #[.agg #[.int .i64 s.gen,.bool s.used,.int .i64 s.at_],.int .i64 r])∧Below w.heap.size w w':=by
 have B:=Below.refl w.heap.size w;have HV:=hD hV;by_cases hin:0≤sl∧sl<16
 ·obtain ⟨h0,h1⟩:=hin;obtain ⟨k,rfl⟩:=Int.eq_ofNat_of_zero_le h0;have hk:k<16:=by omega
  have hx:L[k]?=some (L[k]'(by omega)):=List.getElem?_eq_getElem (by omega)
  obtain ⟨x,hxx⟩:=exq (L[k]'(by omega))
  rw [←hxx] at hx;clear hxx;obtain ⟨t0,t1,t2⟩:=tab_get3 hx;rw [←hV] at t0 t1 t2;have hgd:L.getD (k:Int).toNat .none=x:=by simp [List.getD_eq_getElem?_getD,hx]
  by_cases hu:x.used=true∧x.gen=g
  ·have hr0:r=0:=by rw [hr,rightErr,if_pos (by omega),hgd,if_pos hu]
   have hs0:s=x:=by rw [hs,findS,←hr,if_pos hr0,hgd]
   clear hr hs hgd hx hV hL;obtain ⟨hu1,hu2⟩:=hu;subst hu2 hr0 hs0;obtain ⟨gn,us,a⟩:=s;dsimp only at hu1 t0 t1 t2 ⊢;subst hu1;go_in;go_upto_region 1 with (fail)
   refine wpb111 (123) (V) (39) (#[.int .i64 k,.int .i64 gn]) (37) (#[.int .i64 0,.bool false,.int .i64 0]) ?_;rintro w' ⟨g1,g2,g0,b⟩
   replace B:=B.trans (b.mono B.size);clear b;replace c_g1:=g1.five;replace c_g2:=g2.five;replace c_g0:=g0.five;go_wp2;refine bodyPost_ret (v:=.tuple #[.agg #[.int .i64 gn,.bool true,.int .i64 a],.int .i64 0]) (by simp [results,Tryz.results99,go_sem,c_g1,c_g2,c_g0]) rfl ?_;refine ⟨rfl,?_⟩
   exact bdn
  ·have hr0:r=28:=by rw [hr,rightErr,if_pos (by omega),hgd,if_neg hu]
   have hs0:s=.none:=by rw [hs,findS,←hr,hr0];rfl
   clear hr hs hgd hx hV hL;subst hr0 hs0;obtain ⟨gn,us,a⟩:=x;dsimp only at hu t0 t1 t2 ⊢;unfold Sl.none;dsimp only;have hcase:us=false∨us=true∧(gn != g)=true:=by
    cases us
    ·exact .inl rfl
    ·refine .inr ⟨rfl,?_⟩
     rw [bne_iff_ne];exact fun h=>hu ⟨rfl,h⟩
   clear hu;rcases hcase with rfl | ⟨rfl,hne⟩
   all_goals
    go_in;go_upto_region 1 with (fail)
    refine wpb111 (123) (V) (39) (#[.int .i64 k,.int .i64 g]) (37) (#[.int .i64 0,.bool false,.int .i64 0]) ?_;rintro w' ⟨g1,g2,g0,b⟩
    replace B:=B.trans (b.mono B.size);clear b;replace c_g1:=g1.five;replace c_g2:=g2.five;replace c_g0:=g0.five;go_wp2;refine bodyPost_ret (v:=.tuple #[.agg #[.int .i64 0,.bool false,.int .i64 0],.int .i64 28]) (by simp [results,Tryz.results99,go_sem,c_g1,c_g2,c_g0]) rfl ?_;refine ⟨rfl,?_⟩
    exact bdn
 ·have hr0:r=2:=by rw [hr,rightErr,if_neg (by omega)]
  have hs0:s=.none:=by rw [hs,findS,←hr,hr0];rfl
  clear hr hs hV hL;subst hr0 hs0;unfold Sl.none;dsimp only;have hcase:sl<0∨16≤sl:=by omega
  clear hin;rcases hcase with hneg | hneg
  all_goals
   go_in;go_upto_region 1 with (fail)
   refine wpb111 (123) (V) (39) (#[.int .i64 sl,.int .i64 g]) (37) (#[.int .i64 0,.bool false,.int .i64 0]) ?_;rintro w' ⟨g1,g2,g0,b⟩
   replace B:=B.trans (b.mono B.size);clear b;replace c_g1:=g1.five;replace c_g2:=g2.five;replace c_g0:=g0.five;go_wp2;refine bodyPost_ret (v:=.tuple #[.agg #[.int .i64 0,.bool false,.int .i64 0],.int .i64 2]) (by simp [results,Tryz.results99,go_sem,c_g1,c_g2,c_g0]) rfl ?_;refine ⟨rfl,?_⟩
   exact bdn
def Slots (w:World) (v:Value) (L:List Sl):Prop:=Rd w 3 v L.length (tabL L)
def OwnS (w:World) (base E:Nat) (v:Value) (L:List Sl):Prop:=w.ownsRow base E 3 v L.length (tabL L)
theorem OwnS.rd {w:World} {base E:Nat} {v:Value} {L:List Sl} (h:OwnS w base E v L):Slots w v L:=Rd.of_own h
theorem Slots.below {w w':World} {v:Value} {L:List Sl} (h:Slots w v L) (hb:Below w.heap.size w w'):Slots w' v L:=Rd.below h hb
theorem OwnS.below {w w':World} {base E:Nat} {v:Value} {L:List Sl} (h:OwnS w base E v L) (hb:Below w.heap.size w w'):OwnS w' base E v L:=own_below h hb
theorem OwnS.nil (w:World) (base E:Nat):OwnS w base E (.slice none 0 0) []:=World.ownsRow_nil w base E 3
theorem Bx.ownS {w:World} {g base:Nat} {t:TypeId} {cs:Array Value} {L:List Sl} (h:Bx w g t cs) (hb:base≤g) (hc:cs=tab L) (hL:L.length=16):OwnS w base t (.slice (some ⟨g,0,none⟩) 16 16) L:=by
 subst hc;unfold OwnS;rw [hL]
 refine ⟨by rw [tabL_len,hL],.inr ⟨g,16,tab L,rfl,hb,h,Nat.le_refl _,by simp [maxLen],by rw [tab_size,hL],?_⟩⟩
 rw [List.take_of_length_le (by simp [tab,tabL_len];omega)]
 simp [tab]
theorem all_nil {l:List UInt64} (h:openErr l≠0):all l=[]:=if_neg h
theorem all_ok {l:List UInt64} (h:openErr l=0):all l=slots l:=if_pos h
theorem tabOf_ok {l:List UInt64} (h:openErr l=0):tabOf l=slots l:=if_pos h
theorem slots16 {l:List UInt64} (h:openErr l=0):(slots l).length=16:=by rw [←tabOf_ok h,tabOf_len]
theorem All18_any (v:Value) (l:List UInt64) (L:List Sl) (r:Int) (hL:L=all l) (hr:r=openErr l) (w:World) (h:Words w v l):
  Calls Tryz.prog 14 #[v] w fun e w'=>∃x E,e=.returned (.tuple #[x,.int .i64 r])∧OwnS w' w.heap.size E x L∧Below w.heap.size w w':=by
 have B:=Below.refl w.heap.size w;obtain ⟨V,hV⟩:=exq (tab (tabOf l))
 have OT:=fun w h=>open_any v l V hV r hr w h;have HOT:=hD OT;have H:=hD h;clear OT h;by_cases h0:openErr l=0
 ·have hr0:r=0:=hr.trans h0;have hVs:V.size=48:=by rw [hV];exact tabOf_size l
  have hV1:V.all (·.oneCell')=true:=by rw [hV];exact tab_one _
  have hLS:L=slots l:=hL.trans (all_ok h0)
  have hVL:V=tab L:=by rw [hV,tabOf_ok h0,hLS]
  have hL16:L.length=16:=by rw [hLS];exact slots16 h0
  subst hr0;have HVs:=hD hVs;have HV1:=hD hV1;have HVL:=hD hVL;have HL16:=hD hL16;clear hr h0 hVs hV1 hLS hVL hL16 hV hL;go_in;go_wp2_with fail;refine (HOT.out _ (H.out.below B)).mono ?_;rintro e w' ⟨rfl,b⟩
  replace B:=B.trans (b.mono B.size);clear b;go_wp2_with ((with_reducible refine at_store 123 4 9 ?_);refine wpList_storeNew rfl _ _ _ rfl rfl V rfl rfl (by rw [HVs.out];exact size_table) (by rw [HVs.out];rfl) HV1.out ?_;intro W q1 b1)
  go_ret2
  exact ⟨_,_,rfl,q1.ownS B.size HVL.out HL16.out,B.trans (b1.mono B.size)⟩
 ·have hne:(r != 0)=true:=by rw [bne_iff_ne,hr];exact h0
  have hVs:V.size=48:=by rw [hV];exact tabOf_size l
  have hV1:V.all (·.oneCell')=true:=by rw [hV];exact tab_one _
  have hL0:L=[]:=hL.trans (all_nil h0)
  have HVs:=hD hVs;have HV1:=hD hV1;clear hr h0 hVs hV1 hV hL;subst hL0;go_in;go_wp2_with fail;refine (HOT.out _ (H.out.below B)).mono ?_;rintro e w' ⟨rfl,b⟩
  replace B:=B.trans (b.mono B.size);clear b;go_wp2_with ((with_reducible refine at_store 123 4 9 ?_);refine wpList_storeNew rfl _ _ _ rfl rfl V rfl rfl (by rw [HVs.out];exact size_table) (by rw [HVs.out];rfl) HV1.out ?_;intro W q1 b1)
  go_ret2
  exact ⟨_,0,rfl,OwnS.nil _ _ _,B.trans (b1.mono B.size)⟩
theorem Resolve_any (v:Value) (l:List UInt64) (sl g:Int) (x r:Int) (hx:x=res l sl g) (hr:r=resErr l sl g) (w:World) (h:Words w v l):
  Calls Tryz.prog 79 #[v,.agg #[.int .i64 sl,.int .i64 g]] w fun e w'=>e=.returned (.tuple #[.int .i64 x,.int .i64 r])∧Below w.heap.size w w':=by
 have B:=Below.refl w.heap.size w;obtain ⟨V,hV⟩:=exq (tab (tabOf l))
 obtain ⟨oe,hoe⟩:=exq (openErr l)
 have OT:=fun w h=>open_any v l V hV oe hoe w h;have HOT:=hD OT;have H:=hD h;clear OT h;have hVs:V.size=48:=by rw [hV];exact tabOf_size l
 have hV1:V.all (·.oneCell')=true:=by rw [hV];exact tab_one _
 have HVs:=hD hVs;have HV1:=hD hV1;clear hVs hV1;by_cases h0:openErr l=0
 ·have hr0:r=rightErr (slots l) sl g:=by rw [hr,resErr,if_pos h0]
  obtain ⟨s,hs⟩:=exq (findS (slots l) sl g)
  have hx0:x=s.at_:=by
   rw [hx,res,resErr,if_pos h0,hs,findS]
   split <;> rfl
  have FT:=fun w=>find_any (slots l) (slots16 h0) V (by rw [hV,tabOf_ok h0]) sl g s r hs hr0 w;have HFT:=hD FT;rw [h0] at hoe;subst hoe hx0;clear FT hr h0 hV hs hx hr0;go_in;go_upto_region 1 with (fail)
  refine wpb1 (39) (#[.int .i64 sl,.int .i64 g]) ?_;rintro w' ⟨g1,b⟩
  replace B:=B.trans (b.mono B.size);clear b;replace c_g1:=g1.five;go_wp2_with fail;refine (HOT.out _ (H.out.below B)).mono ?_;rintro e w' ⟨rfl,b⟩
  replace g1:=g1.below b;replace c_g1:=g1.five;replace B:=B.trans (b.mono B.size);clear b;go_wp2_with (first
   | ((with_reducible refine at_store 123 6 12 ?_);refine wpList_storeNew rfl _ _ _ rfl rfl V rfl rfl (by rw [HVs.out];exact size_table) (by rw [HVs.out];rfl) HV1.out ?_;intro W q1 b1;have k1:=(g1.below b1).cell)
   | ((with_reducible refine at_load 18 123 6 ?_);refine wpList_loadRow rfl _ _ rfl _ rfl q1 _ Tryz.underlying123 rfl (by rw [HVs.out];exact size_table) ?_))
  refine (HFT.out _).mono ?_;rintro e w' ⟨rfl,b⟩
  replace B:=(B.trans (b1.mono B.size)).trans (b.mono (Nat.le_trans B.size b1.size))
  clear k1 b b1 q1;go_wp2
  go_ret2
  exact ⟨rfl,by exact bdn⟩
 ·have hne:(oe != 0)=true:=by rw [bne_iff_ne,hoe];exact h0
  have hr0:r=oe:=by rw [hr,resErr,if_neg h0,hoe]
  have hx0:x=0:=by rw [hx,res,resErr,if_neg h0,if_neg h0]
  clear hr h0 hV hx hoe;subst hr0 hx0;go_in;go_upto_region 1 with (fail)
  refine wpb1 (39) (#[.int .i64 sl,.int .i64 g]) ?_;rintro w' ⟨g1,b⟩
  replace B:=B.trans (b.mono B.size);clear b;replace c_g1:=g1.five;go_wp2_with fail;refine (HOT.out _ (H.out.below B)).mono ?_;rintro e w' ⟨rfl,b⟩
  replace g1:=g1.below b;replace c_g1:=g1.five;replace B:=B.trans (b.mono B.size);clear b;go_wp2_with ((with_reducible refine at_store 123 6 12 ?_);refine wpList_storeNew rfl _ _ _ rfl rfl V rfl rfl (by rw [HVs.out];exact size_table) (by rw [HVs.out];rfl) HV1.out ?_;intro W q1 b1)
  go_ret2
  exact ⟨rfl,B.trans (b1.mono B.size)⟩
end
section
open Go.RowKit L01 L02 L18
def entV (a:Int) (x:UInt64):Value:=.agg #[.int .i64 a,.int .u64 x.toNat]
theorem index_tab {L:List Sl} {k:Nat} {s:Sl} (hL:L.length=16) (V:Array Value) (hV:V=tab L) (h:L[k]?=some s) (W:World):(Instr.index 123 (.agg V) (.int .i64 (k:Int))).run Tryz.prog W=.ok (.agg #[.int .i64 s.gen,.bool s.used,.int .i64 s.at_]) W:=by
 subst hV;have hk:k<16:=by have:=(List.getElem?_eq_some_iff.1 h).1;omega
 obtain ⟨t0,t1,t2⟩:=tab_get3 h;obtain ⟨i,hi,hsz⟩:=Option.map_eq_some_iff.1 size_slot;have he:(tab L).extract (k*3) (k*3+3)=#[.int .i64 s.gen,.bool s.used,.int .i64 s.at_]:=by
  apply Array.ext_getElem?;intro j;rw [Array.getElem?_extract]
  have hz:(tab L).size=48:=by rw [tab_size,hL]
  match j with
  | 0=>rw [if_pos (by rw [hz];omega)];exact t0
  | 1=>rw [if_pos (by rw [hz];omega)];exact t1
  | 2=>rw [if_pos (by rw [hz];omega)];exact t2
  | j+3=>rw [if_neg (by rw [hz];omega)];simp
 simp [Instr.index,run_underlying Tryz.underlying123,asIntOf,hk,sizeOf,typeInfo,go_sem,hi,hsz]
 exact he
theorem New18_ok (v:Value) (l:List UInt64) (a:Int) (w:World) (h:Words w v l) (h0:openErr l=0) (ha:128≤a∧a<2048):
  Calls Tryz.prog 62 #[v,.int .i64 a] w fun e w'=>e=.returned (.tuple #[.agg #[.int .i64 (newSlot l a),.int .i64 (newGen l a)],entV (newAt l a) (newVal l a),.int .i64 (L18.newErr l a)])∧Below w.heap.size w w':=by
 have B:=Below.refl w.heap.size w;obtain ⟨V,hV⟩:=exq (tab (tabOf l))
 have OT:=fun w h=>open_any v l V hV 0 h0.symm w h;have HOT:=hD OT;have H:=hD h;clear OT h;have hVs:V.size=48:=by rw [hV];exact tabOf_size l
 have hV1:V.all (·.oneCell')=true:=by rw [hV];exact tab_one _
 have HVs:=hD hVs;have HV1:=hD hV1;clear hVs hV1;rw [tabOf_ok h0] at hV;have HV:=hD hV;have H0:=hD h0;have HA:=hD ha;obtain ⟨a1,a2⟩:=ha;clear hV h0;go_in;go_upto_region 1 with (fail)
 refine wpb11 (39) (#[.int .i64 0,.int .i64 0]) (131) (#[.int .i64 0,.int .u64 0]) ?_;rintro w' ⟨g4,g5,b⟩
 replace B:=B.trans (b.mono B.size);clear b;replace c_g4:=g4.five;replace c_g5:=g5.five;go_wp2_with fail;refine (HOT.out _ (H.out.below B)).mono ?_;rintro e w' ⟨rfl,b⟩
 replace g4:=g4.below b;replace c_g4:=g4.five;replace g5:=g5.below b;replace c_g5:=g5.five;replace B:=B.trans (b.mono B.size);clear b;go_wp2_with (first
  | ((with_reducible refine at_store 123 7 15 ?_);refine wpList_storeNew rfl _ _ _ rfl rfl V rfl rfl (by rw [HVs.out];exact size_table) (by rw [HVs.out];rfl) HV1.out ?_;intro W q1 b1)
  | ((with_reducible refine at_load 30 123 7 ?_);refine wpList_loadRow rfl _ _ rfl _ rfl q1 _ Tryz.underlying123 rfl (by rw [HVs.out];exact size_table) ?_))
 replace g4:=g4.below b1;replace g5:=g5.below b1;replace B:=B.trans (b1.mono B.size)
 have HG:=hD (And.intro g4 g5);have HB:=hD B;clear q1 b1 B;clear c_g4 c_g5;clear g4 g5
 go_loopw [31] (fun i wr=>∃k:Nat,k≤16∧i=.int .i64 k∧Hid ((Bx wr w.heap.size 39 #[.int .i64 0,.int .i64 0]∧Bx wr (w.heap.size+1) 131 #[.int .i64 0,.int .u64 0])∧nextFrom ((slots l).drop k) k=next (slots l))∧Below w.heap.size w wr) (fun i _=>16-(intOf i).toNat)
 case atStart=>exact ⟨0,by omega,rfl,hD ⟨HG.out,rfl⟩,HB.out⟩
 case round=>
  clear HG HB;obtain ⟨k,hk,rfl,hh,B⟩:=hrel;by_cases hlt:k<16
  ·obtain ⟨s,hs⟩:∃s,(slots l)[k]?=some s:=⟨_,List.getElem?_eq_getElem (by rw [slots16 H0.out];exact hlt)⟩
   have hix:=index_tab (slots16 H0.out) V HV.out hs;obtain ⟨⟨g4,g5⟩,hn⟩:=hh.out;rw [List.drop_eq_getElem_cons (by rw [slots16 H0.out];exact hlt)] at hn;have HS:=hD hs;have HN:=hD hn;clear hs hn hh;obtain ⟨gn,us,at_⟩:=s;dsimp only at hix;have hcase:(us=true∨us=false∧gn=2147483647)∨(us=false∧(gn==2147483647)=false):=by
    cases us
    ·by_cases hg:gn=2147483647
     ·exact .inl (.inr ⟨rfl,hg⟩)
     ·exact .inr ⟨rfl,by rw [beq_eq_false_iff_ne];exact hg⟩
    ·exact .inl (.inl rfl)
   have HIX:=hD hix;clear hix;rcases hcase with hcase | ⟨rfl,hne⟩
   ·have hnx:nextFrom ((slots l).drop (k+1)) (k+1)=next (slots l):=by
     rw [←HN.out,nextFrom,if_neg]
     have e:=HS.out;rw [List.getElem?_eq_getElem (by rw [slots16 H0.out];exact hlt)] at e;injection e with e
     rw [e]
     rcases hcase with h | ⟨_,h⟩
     ·exact fun h2=>by rw [h] at h2;exact absurd h2.1 (by simp)
     ·exact fun h2=>h2.2 h
    have HNX:=hD hnx;clear hnx;have HG:=hD (And.intro g4 g5);have HB:=hD B;clear g4 g5 B;have hix:=HIX.out;rcases hcase with rfl | ⟨rfl,rfl⟩
    all_goals
     go_wp2
     go_roundw
     case rel=>exact ⟨k+1,by omega,by go_num,hD ⟨⟨HG.out.1.alloc _,HG.out.2.alloc _⟩,HNX.out⟩,HB.out.alloc HB.out.size _⟩
     case measure=>simp [intOf];omega
   ·have hnx:next (slots l)=some k:=by
     rw [←HN.out,nextFrom,if_pos]
     have e:=HS.out;rw [List.getElem?_eq_getElem (by rw [slots16 H0.out];exact hlt)] at e;injection e with e
     rw [e]
     exact ⟨rfl,by simpa using hne⟩
    have hR:Right ⟨gn,false,at_⟩:=by
     have hall:=H0.out;unfold openErr at hall;split at hall
     ·split at hall
      ·rename_i h2 h3;have e:=HS.out;rw [slots,List.getElem?_map] at e;obtain ⟨x,hx,hxe⟩:=Option.map_eq_some_iff.1 e;rw [←hxe];exact h3 x (List.mem_of_getElem? hx)
      ·omega
     ·omega
    have hR2:Right ⟨gn+1,true,a⟩:=⟨by have:=hR.1;simp at this ⊢;omega,by have:=hR.2.1;simp at this hne ⊢;omega,by simp,fun _=>⟨by have:=hR.1;simp at this ⊢;omega,a1,a2⟩⟩
    have hg1:0≤gn:=hR.1;have hg2:gn<2147483647:=by have:=hR.2.1;simp at this hne;omega
    have herr:L18.newErr l a=0:=by rw [L18.newErr,if_pos H0.out,if_pos HA.out,hnx];rfl
    have e1:newSlot l a=k:=by rw [newSlot,if_pos herr,hnx];rfl
    have e2:newGen l a=gn+1:=by rw [newGen,if_pos herr,hnx];simp [List.getD_eq_getElem?_getD,HS.out]
    have e3:newAt l a=112+k:=by rw [newAt,if_pos herr,hnx];rfl
    have e4:newVal l a=pk ⟨gn+1,true,a⟩:=by rw [newVal,if_pos herr,e2]
    obtain ⟨x,hx⟩:=exq (pk ⟨gn+1,true,a⟩)
    have PT:=fun w=>pack_any ⟨gn+1,true,a⟩ x hx hR2 w;dsimp only at PT;rw [←hx] at e4;have HE:=hD (And.intro herr (And.intro e1 (And.intro e2 (And.intro e3 e4))));have HPT:=hD PT;clear hnx hR hR2 herr e1 e2 e3 e4 PT hx;have hix:=HIX.out;have hsz:=B.size;have n4:wr.heap.size+1≠w.heap.size:=by omega
    have n5:wr.heap.size+1≠w.heap.size+1:=by have:=g5.lt;omega
    go_wp2;refine wpb01 (37) (#[.int .i64 (gn+1),.bool true,.int .i64 a]) ?_;rintro w' ⟨g11,b⟩
    replace g4:=g4.below b;replace c_g4:=g4.five;replace g5:=g5.below b;replace c_g5:=g5.five;replace B:=B.trans (b.mono B.size);clear b;replace c_g11:=g11.five;clear hix;have i0:=c_g11.1 0;have i1:=c_g11.1 1;have i2:=c_g11.1 2;simp only [List.getElem?_toArray,List.getElem?_cons_zero,List.getElem?_cons_succ] at i0 i1 i2;clear c_g11 c_g4 c_g5;obtain ⟨W0,hW0⟩:=exq w';subst hW0;have hwk:IntKind.i64.wrap (112+(k:Int))=112+(k:Int):=IntWalk.i64_in _ (by omega)
    go_region_held3 (fun Z=>Z.cell? ⟨wr.heap.size+1,0,none⟩=some (.int .i64 (gn+1))∧Z.cell? ⟨wr.heap.size+1,1,none⟩=some (.bool true)∧Z.cell? ⟨wr.heap.size+1,2,none⟩=some (.int .i64 a))
     (first
      | with_reducible exact ⟨j0,j1,j2⟩
      | with_reducible exact ⟨cell_far (cell_far j0 n4) n4,cell_far (cell_far j1 n4) n4,cell_far (cell_far j2 n4) n4⟩
      | with_reducible exact ⟨cell_far (cell_far (cell_far (cell_far j0 n4) n4) n5) n5,cell_far (cell_far (cell_far (cell_far j1 n4) n4) n5) n5,cell_far (cell_far (cell_far (cell_far j2 n4) n4) n5) n5⟩
      | exact ⟨i0,i1,i2⟩)
     ((go_at_call 94;(with_reducible refine (HPT.out _).mono ?_);rintro e W1 ⟨rfl,b⟩;have bb:Below W0.heap.size W0 W1:=((Below.refl W0.heap.size W0).drew).trans b;have m11:=g11.below bb;have j0:W1.cell? ⟨wr.heap.size+1,0,none⟩=some (.int .i64 (gn+1)):=m11.cell 0;have j1:W1.cell? ⟨wr.heap.size+1,1,none⟩=some (.bool true):=m11.cell 1;have j2:W1.cell? ⟨wr.heap.size+1,2,none⟩=some (.int .i64 a):=m11.cell 2;have m4:=g4.below bb;have m5:=g5.below bb;have k4:=m4.cell;have l4:=m4.free;have k5:=m5.cell;have l5:=m5.free))
    go_wp2;refine bodyPost_ret (v:=.tuple #[.agg #[.int .i64 k,.int .i64 (gn+1)],.agg #[.int .i64 (112+k),.int .u64 x.toNat],.int .i64 0]) (by simp [results,Tryz.results62,go_sem,k4,l4,k5,l5]) rfl ?_;obtain ⟨e0,e1,e2,e3,e4⟩:=HE.out;refine ⟨by rw [e0,e1,e2,e3,e4];rfl,?_⟩
    replace B:=B.trans (bb.mono B.size)
    exact bdn
  ·obtain rfl:k=16:=by omega
   obtain ⟨⟨g4,g5⟩,hn⟩:=hh.out;rw [List.drop_of_length_le (by rw [slots16 H0.out];omega)] at hn;have hnx:next (slots l)=none:=hn.symm;have herr:L18.newErr l a=23:=by rw [L18.newErr,if_pos H0.out,if_pos HA.out,if_pos hnx]
   have e1:newSlot l a=0:=if_neg (by rw [herr];omega)
   have e2:newGen l a=0:=if_neg (by rw [herr];omega)
   have e3:newAt l a=0:=if_neg (by rw [herr];omega)
   have e4:newVal l a=0:=if_neg (by rw [herr];omega)
   have HE:=hD (And.intro herr (And.intro e1 (And.intro e2 (And.intro e3 e4))))
   have k4:=g4.cell;have l4:=g4.free;have k5:=g5.cell;have l5:=g5.free;clear hn hnx herr e1 e2 e3 e4 hh;go_wp2;refine bodyPost_ret (v:=.tuple #[.agg #[.int .i64 0,.int .i64 0],.agg #[.int .i64 0,.int .u64 0],.int .i64 23]) (by simp [results,Tryz.results62,go_sem,k4,l4,k5,l5]) rfl ?_;obtain ⟨e0,e1,e2,e3,e4⟩:=HE.out;refine ⟨by rw [e0,e1,e2,e3,e4];rfl,?_⟩
   exact bdn
theorem New18_any (v:Value) (l:List UInt64) (a sl g ea:Int) (ev:UInt64) (r:Int) (h1:sl=newSlot l a) (h2:g=newGen l a) (h3:ea=newAt l a) (h4:ev=newVal l a) (h5:r=L18.newErr l a) (w:World) (h:Words w v l):
  Calls Tryz.prog 62 #[v,.int .i64 a] w fun e w'=>e=.returned (.tuple #[.agg #[.int .i64 sl,.int .i64 g],.agg #[.int .i64 ea,.int .u64 ev.toNat],.int .i64 r])∧Below w.heap.size w w':=by
 by_cases h0:openErr l=0
 ·by_cases ha:128≤a∧a<2048
  ·subst h1 h2 h3 h4 h5;exact New18_ok v l a w h h0 ha
  ·have herr:L18.newErr l a=2:=by rw [L18.newErr,if_pos h0,if_neg ha]
   have e1:sl=0:=h1.trans (if_neg (by rw [herr];omega))
   have e2:g=0:=h2.trans (if_neg (by rw [herr];omega))
   have e3:ea=0:=h3.trans (if_neg (by rw [herr];omega))
   have e4:ev=0:=h4.trans (if_neg (by rw [herr];omega))
   rw [herr] at h5;clear h1 h2 h3 h4 herr;subst e1 e2 e3 e4 h5;have B:=Below.refl w.heap.size w;obtain ⟨V,hV⟩:=exq (tab (tabOf l))
   have OT:=fun w h=>open_any v l V hV 0 h0.symm w h;have HOT:=hD OT;have H:=hD h;clear OT h;have hVs:V.size=48:=by rw [hV];exact tabOf_size l
   have hV1:V.all (·.oneCell')=true:=by rw [hV];exact tab_one _
   have HVs:=hD hVs;have HV1:=hD hV1;clear hVs hV1 hV h0;have hcase:a<128∨128≤a∧2048≤a:=by omega
   clear ha;rcases hcase with a1 | ⟨a1,a2⟩
   all_goals
    go_in;go_upto_region 1 with (fail)
    refine wpb11 (39) (#[.int .i64 0,.int .i64 0]) (131) (#[.int .i64 0,.int .u64 0]) ?_;rintro w' ⟨g4,g5,b⟩
    replace B:=B.trans (b.mono B.size);clear b;replace c_g4:=g4.five;replace c_g5:=g5.five;go_wp2_with fail;refine (HOT.out _ (H.out.below B)).mono ?_;rintro e w' ⟨rfl,b⟩
    replace g4:=g4.below b;replace c_g4:=g4.five;replace g5:=g5.below b;replace c_g5:=g5.five;replace B:=B.trans (b.mono B.size);clear b;go_wp2_with ((with_reducible refine at_store 123 7 15 ?_);refine wpList_storeNew rfl _ _ _ rfl rfl V rfl rfl (by rw [HVs.out];exact size_table) (by rw [HVs.out];rfl) HV1.out ?_;intro W q1 b1;have k4:=(g4.below b1).cell;have l4:=(g4.below b1).free;have k5:=(g5.below b1).cell;have l5:=(g5.below b1).free)
    refine bodyPost_ret (v:=.tuple #[.agg #[.int .i64 0,.int .i64 0],.agg #[.int .i64 0,.int .u64 0],.int .i64 2]) (by simp [results,Tryz.results62,go_sem,k4,l4,k5,l5]) rfl ⟨rfl,?_⟩
    replace B:=B.trans (b1.mono B.size)
    exact bdn
 ·have herr:L18.newErr l a=openErr l:=by rw [L18.newErr,if_neg h0]
  have e1:sl=0:=h1.trans (if_neg (by rw [herr];exact h0))
  have e2:g=0:=h2.trans (if_neg (by rw [herr];exact h0))
  have e3:ea=0:=h3.trans (if_neg (by rw [herr];exact h0))
  have e4:ev=0:=h4.trans (if_neg (by rw [herr];exact h0))
  rw [herr] at h5;clear h1 h2 h3 h4 herr;subst e1 e2 e3 e4;have B:=Below.refl w.heap.size w;obtain ⟨V,hV⟩:=exq (tab (tabOf l))
  have OT:=fun w h=>open_any v l V hV r h5 w h;have HOT:=hD OT;have H:=hD h;clear OT h;have hVs:V.size=48:=by rw [hV];exact tabOf_size l
  have hV1:V.all (·.oneCell')=true:=by rw [hV];exact tab_one _
  have HVs:=hD hVs;have HV1:=hD hV1;have hne:(r != 0)=true:=by rw [bne_iff_ne,h5];exact h0
  clear hVs hV1 hV h0 h5;go_in;go_upto_region 1 with (fail)
  refine wpb11 (39) (#[.int .i64 0,.int .i64 0]) (131) (#[.int .i64 0,.int .u64 0]) ?_;rintro w' ⟨g4,g5,b⟩
  replace B:=B.trans (b.mono B.size);clear b;replace c_g4:=g4.five;replace c_g5:=g5.five;go_wp2_with fail;refine (HOT.out _ (H.out.below B)).mono ?_;rintro e w' ⟨rfl,b⟩
  replace g4:=g4.below b;replace c_g4:=g4.five;replace g5:=g5.below b;replace c_g5:=g5.five;replace B:=B.trans (b.mono B.size);clear b;go_wp2_with ((with_reducible refine at_store 123 7 15 ?_);refine wpList_storeNew rfl _ _ _ rfl rfl V rfl rfl (by rw [HVs.out];exact size_table) (by rw [HVs.out];rfl) HV1.out ?_;intro W q1 b1;have k4:=(g4.below b1).cell;have l4:=(g4.below b1).free;have k5:=(g5.below b1).cell;have l5:=(g5.below b1).free)
  refine bodyPost_ret (v:=.tuple #[.agg #[.int .i64 0,.int .i64 0],.agg #[.int .i64 0,.int .u64 0],.int .i64 r]) (by simp [results,Tryz.results62,go_sem,k4,l4,k5,l5]) rfl ⟨rfl,?_⟩
  replace B:=B.trans (b1.mono B.size)
  exact bdn
end
section
open Go.RowKit L01 L02 L18
theorem right_of {l:List UInt64} (h0:openErr l=0):∀s∈slots l,Right s:=by
 intro s hs;obtain ⟨x,hx,rfl⟩:=List.mem_map.1 hs;unfold openErr at h0;split at h0
 ·split at h0
  ·rename_i h2 h3;exact h3 x hx
  ·omega
 ·omega
theorem rightErr_ok {L:List Sl} {sl g:Int} (h:rightErr L sl g=0):0≤sl∧sl<L.length∧∃s,L[sl.toNat]?=some s∧s.used=true∧s.gen=g:=by
 unfold rightErr at h;split at h
 ·rename_i h1;split at h
  ·rename_i h2;refine ⟨h1.1,h1.2,_,List.getElem?_eq_getElem (by omega),?_⟩
   rw [List.getD_eq_getElem?_getD,List.getElem?_eq_getElem (by omega)] at h2;exact h2
  ·omega
 ·omega
theorem drop_right {l:List UInt64} {sl g:Int} (h0:openErr l=0) (h:rightErr (slots l) sl g=0):Right ⟨g,false,0⟩∧0≤sl∧sl<16:=by
 obtain ⟨h1,h2,s,h3,h4,h5⟩:=rightErr_ok h;have hR:=right_of h0 s (List.mem_of_getElem? h3)
 rw [slots16 h0] at h2;refine ⟨⟨?_,?_,fun _=>rfl,fun h=>by simp at h⟩,h1,h2⟩
 ·rw [←h5];exact hR.1
 ·rw [←h5];exact hR.2.1
theorem Drop18_any (v:Value) (l:List UInt64) (sl g ea:Int) (ev:UInt64) (r:Int) (h1:ea=dropAt l sl g) (h2:ev=dropVal l sl g) (h3:r=resErr l sl g) (w:World) (h:Words w v l):
  Calls Tryz.prog 69 #[v,.agg #[.int .i64 sl,.int .i64 g]] w fun e w'=>e=.returned (.tuple #[.agg #[.int .i64 ea,.int .u64 ev.toNat],.int .i64 r])∧Below w.heap.size w w':=by
 have B:=Below.refl w.heap.size w;obtain ⟨V,hV⟩:=exq (tab (tabOf l))
 obtain ⟨oe,hoe⟩:=exq (openErr l)
 have OT:=fun w h=>open_any v l V hV oe hoe w h;have HOT:=hD OT;have H:=hD h;clear OT h;have hVs:V.size=48:=by rw [hV];exact tabOf_size l
 have hV1:V.all (·.oneCell')=true:=by rw [hV];exact tab_one _
 have HVs:=hD hVs;have HV1:=hD hV1;clear hVs hV1;by_cases h0:openErr l=0
 ·have hr0:r=rightErr (slots l) sl g:=by rw [h3,resErr,if_pos h0]
  obtain ⟨s,hs⟩:=exq (findS (slots l) sl g)
  have FT:=fun w=>find_any (slots l) (slots16 h0) V (by rw [hV,tabOf_ok h0]) sl g s r hs hr0 w;have HFT:=hD FT;rw [h0] at hoe;subst hoe;by_cases hrr:r=0
  ·obtain ⟨hR,p1,p2⟩:=drop_right h0 (by rw [←hr0];exact hrr)
   have e1:ea=112+sl:=by rw [h1,dropAt,if_pos (by rw [←h3];exact hrr)]
   have e2:ev=pk ⟨g,false,0⟩:=by rw [h2,dropVal,if_pos (by rw [←h3];exact hrr)]
   have PT:=fun w=>pack_any ⟨g,false,0⟩ ev e2 hR w;dsimp only at PT;have HPT:=hD PT;have q0:=hR.1;have q1:=hR.2.1;dsimp only at q0 q1;clear FT h0 hV hs hr0 h1 h2 h3 hR e2 PT;subst e1 hrr;go_in;go_upto_region 1 with (fail)
   refine wpb11 (39) (#[.int .i64 sl,.int .i64 g]) (131) (#[.int .i64 0,.int .u64 0]) ?_;rintro w' ⟨g3,g4,b⟩
   replace B:=B.trans (b.mono B.size);clear b;replace c_g3:=g3.five;replace c_g4:=g4.five;go_wp2_with fail;refine (HOT.out _ (H.out.below B)).mono ?_;rintro e w' ⟨rfl,b⟩
   replace g3:=g3.below b;replace c_g3:=g3.five;replace g4:=g4.below b;replace c_g4:=g4.five;replace B:=B.trans (b.mono B.size);clear b;go_wp2_with (first
    | ((with_reducible refine at_store 123 6 13 ?_);refine wpList_storeNew rfl _ _ _ rfl rfl V rfl rfl (by rw [HVs.out];exact size_table) (by rw [HVs.out];rfl) HV1.out ?_;intro W q1 b1;have k1:=(g3.below b1).cell)
    | ((with_reducible refine at_load 20 123 6 ?_);refine wpList_loadRow rfl _ _ rfl _ rfl q1 _ Tryz.underlying123 rfl (by rw [HVs.out];exact size_table) ?_))
   refine (HFT.out _).mono ?_;rintro e w2 ⟨rfl,b⟩
   replace B:=(B.trans (b1.mono B.size)).trans (b.mono (Nat.le_trans B.size b1.size))
   replace g3:=(g3.below b1).below b;replace g4:=(g4.below b1).below b;clear k1 b b1 q1 c_g3 c_g4;go_wp2;refine wp_gen (fun Wv=>Below w2.heap.size w2 Wv) ((Below.refl _ w2).alloc (by simp <;> omega) _) ?_;intro w' b;replace g3:=g3.below b;replace c_g3:=g3.five;replace g4:=g4.below b;replace c_g4:=g4.five;replace B:=B.trans (b.mono B.size);clear b;have i0:w'.cell? ⟨w.heap.size,0,none⟩=some (.int .i64 sl):=g3.cell 0;have i1:w'.cell? ⟨w.heap.size,1,none⟩=some (.int .i64 g):=g3.cell 1;clear c_g3 c_g4;have n4:w.heap.size≠w.heap.size+1:=by omega
   have hwk:IntKind.i64.wrap (112+sl)=112+sl:=IntWalk.i64_in _ (by omega)
   obtain ⟨W0,hW0⟩:=exq w';subst hW0
   go_region_held3 (fun Z=>Z.cell? ⟨w.heap.size,0,none⟩=some (.int .i64 sl)∧Z.cell? ⟨w.heap.size,1,none⟩=some (.int .i64 g))
    (first
     | with_reducible exact ⟨j0,j1⟩
     | with_reducible exact ⟨cell_far (cell_far j0 n4) n4,cell_far (cell_far j1 n4) n4⟩
     | exact ⟨i0,i1⟩)
    ((go_at_call 94;(with_reducible refine (HPT.out _).mono ?_);rintro e W1 ⟨rfl,b⟩;have bb:Below W0.heap.size W0 W1:=((Below.refl W0.heap.size W0).drew).trans b;have m3:=g3.below bb;have j0:W1.cell? ⟨w.heap.size,0,none⟩=some (.int .i64 sl):=m3.cell 0;have j1:W1.cell? ⟨w.heap.size,1,none⟩=some (.int .i64 g):=m3.cell 1;have m4:=g4.below bb;have k4:=m4.cell;have l4:=m4.free))
   go_wp2;refine bodyPost_ret (v:=.tuple #[.agg #[.int .i64 (112+sl),.int .u64 ev.toNat],.int .i64 0]) (by simp [results,Tryz.results69,go_sem,k4,l4]) rfl ⟨rfl,?_⟩
   replace B:=B.trans (bb.mono B.size)
   exact bdn
  ·have hne:(r != 0)=true:=by rw [bne_iff_ne];exact hrr
   have e1:ea=0:=by rw [h1,dropAt,if_neg (by rw [←h3];exact hrr)]
   have e2:ev=0:=by rw [h2,dropVal,if_neg (by rw [←h3];exact hrr)]
   clear FT h0 hV hs hr0 h1 h2 h3 hrr;subst e1 e2;go_in;go_upto_region 1 with (fail)
   refine wpb11 (39) (#[.int .i64 sl,.int .i64 g]) (131) (#[.int .i64 0,.int .u64 0]) ?_;rintro w' ⟨g3,g4,b⟩
   replace B:=B.trans (b.mono B.size);clear b;replace c_g3:=g3.five;replace c_g4:=g4.five;go_wp2_with fail;refine (HOT.out _ (H.out.below B)).mono ?_;rintro e w' ⟨rfl,b⟩
   replace g3:=g3.below b;replace c_g3:=g3.five;replace g4:=g4.below b;replace c_g4:=g4.five;replace B:=B.trans (b.mono B.size);clear b;go_wp2_with (first
    | ((with_reducible refine at_store 123 6 13 ?_);refine wpList_storeNew rfl _ _ _ rfl rfl V rfl rfl (by rw [HVs.out];exact size_table) (by rw [HVs.out];rfl) HV1.out ?_;intro W q1 b1;have k1:=(g3.below b1).cell)
    | ((with_reducible refine at_load 20 123 6 ?_);refine wpList_loadRow rfl _ _ rfl _ rfl q1 _ Tryz.underlying123 rfl (by rw [HVs.out];exact size_table) ?_))
   refine (HFT.out _).mono ?_;rintro e w2 ⟨rfl,b⟩
   replace B:=(B.trans (b1.mono B.size)).trans (b.mono (Nat.le_trans B.size b1.size))
   replace g4:=(g4.below b1).below b;clear k1 b b1 q1 c_g3 c_g4;have k4:=g4.cell;have l4:=g4.free;have m4:=fun o=>(g4.alloc o).cell;have n4:=fun o=>(g4.alloc o).free;go_wp2;refine bodyPost_ret (v:=.tuple #[.agg #[.int .i64 0,.int .u64 0],.int .i64 r]) (by simp [results,Tryz.results69,go_sem,k4,l4,m4,n4]) rfl ⟨rfl,?_⟩
   exact bdn
 ·have hne:(oe != 0)=true:=by rw [bne_iff_ne,hoe];exact h0
  have hr0:r=oe:=by rw [h3,resErr,if_neg h0,hoe]
  have hrr:¬resErr l sl g=0:=by rw [resErr,if_neg h0];exact h0
  have e1:ea=0:=by rw [h1,dropAt,if_neg hrr]
  have e2:ev=0:=by rw [h2,dropVal,if_neg hrr]
  clear h0 hV hoe h1 h2 h3 hrr;subst hr0 e1 e2;go_in;go_upto_region 1 with (fail)
  refine wpb11 (39) (#[.int .i64 sl,.int .i64 g]) (131) (#[.int .i64 0,.int .u64 0]) ?_;rintro w' ⟨g3,g4,b⟩
  replace B:=B.trans (b.mono B.size);clear b;replace c_g3:=g3.five;replace c_g4:=g4.five;go_wp2_with fail;refine (HOT.out _ (H.out.below B)).mono ?_;rintro e w' ⟨rfl,b⟩
  replace g3:=g3.below b;replace c_g3:=g3.five;replace g4:=g4.below b;replace c_g4:=g4.five;replace B:=B.trans (b.mono B.size);clear b;go_wp2_with ((with_reducible refine at_store 123 6 13 ?_);refine wpList_storeNew rfl _ _ _ rfl rfl V rfl rfl (by rw [HVs.out];exact size_table) (by rw [HVs.out];rfl) HV1.out ?_;intro W q1 b1;have k4:=(g4.below b1).cell;have l4:=(g4.below b1).free)
  refine bodyPost_ret (v:=.tuple #[.agg #[.int .i64 0,.int .u64 0],.int .i64 r]) (by simp [results,Tryz.results69,go_sem,k4,l4]) rfl ⟨rfl,?_⟩
  replace B:=B.trans (b1.mono B.size)
  exact bdn
end
section
open Go.RowKit L01 L02 L18
theorem Slots.at_ {P:Program} {w:World} {v:Value} {L:List Sl} {t e:TypeId} (h:Slots w v L) (ht:P.underlying t=some (.slice e)) (hi:(P.info? e).map (·.size)=some 3) {k:Nat} (hk:k<L.length):
  ∃b o s,(∀W,(Instr.indexAt t v (.int .i64 (k:Int))).run P W=.ok (.pointer (some ⟨b,o,none⟩)) W)∧w.cell? ⟨b,o,none⟩=some (.int .i64 s.gen)∧w.cell? ⟨b,o+1,none⟩=some (.bool s.used)∧w.cell? ⟨b,o+2,none⟩=some (.int .i64 s.at_)∧Hid (L[k]?=some s):=by
 have hix:=fun W=>Rd.ixN h ht hi hk W;obtain ⟨b,o,c,rfl,hb,hc,hcell⟩:=Rd.form h (by omega)
 have hs:L[k]?=some L[k]:=List.getElem?_eq_getElem hk;have t0:=tabL_get L k _ hs 0 (by omega)
 have t1:=tabL_get L k _ hs 1 (by omega)
 have t2:=tabL_get L k _ hs 2 (by omega)
 refine ⟨b,o+k*3,L[k],fun W=>hix W,hcell _ _ t0,hcell _ _ t1,hcell _ _ t2,hD hs⟩
theorem RightR_any (v:Value) (L:List Sl) (sl g:Int) (r:Int) (hr:r=rightErr L sl g) (w:World) (h:Slots w v L):
  Calls Tryz.prog 34 #[v,.agg #[.int .i64 sl,.int .i64 g]] w fun e w'=>e=.returned (.int .i64 r)∧Below w.heap.size w w':=by
 have B:=Below.refl w.heap.size w;have l1:=Rd.len h Tryz.underlying29;obtain ⟨N,hN⟩:=exq L.length;rw [←hN] at l1;by_cases hin:0≤sl∧sl<N
 ·obtain ⟨h0,h1⟩:=hin;obtain ⟨k,rfl⟩:=Int.eq_ofNat_of_zero_le h0;obtain ⟨b,o,s,ia,m0,m1,m2,hs⟩:=h.at_ (P:=Tryz.prog) Tryz.underlying29 size_slot (k:=k) (by omega)
  have hgd:L.getD (k:Int).toNat .none=s:=by simp [List.getD_eq_getElem?_getD,hs.out]
  have hrr:r=if s.used=true∧s.gen=g then 0 else 28:=by rw [hr,rightErr,if_pos (by omega),hgd]
  clear hr hgd hs;have HN:=hD hN;clear hN h;obtain ⟨gn,us,a⟩:=s;dsimp only at *;have hcase:(us=false∧r=28)∨(us=true∧(gn != g)=true∧r=28)∨(us=true∧(gn != g)=false∧r=0):=by
   cases us
   ·exact .inl ⟨rfl,by rw [hrr,if_neg (by simp)]⟩
   ·by_cases hg:gn=g
    ·exact .inr (.inr ⟨rfl,by rw [bne_eq_false_iff_eq];exact hg,by rw [hrr,if_pos ⟨rfl,hg⟩]⟩)
    ·exact .inr (.inl ⟨rfl,by rw [bne_iff_ne];exact hg,by rw [hrr,if_neg (fun h=>hg h.2)]⟩)
  clear hrr;have n0:(0:Int)≤(k:Int):=by omega
  rcases hcase with ⟨rfl,rfl⟩ | ⟨rfl,hne,rfl⟩ | ⟨rfl,hne,rfl⟩
  all_goals
   go_in;go_upto_region 1 with (fail)
   refine wpb1 (39) (#[.int .i64 k,.int .i64 g]) ?_;rintro w' ⟨g3,b⟩
   replace m0:=cell_later b m0;replace m1:=cell_later b m1;replace m2:=cell_later b m2;replace B:=B.trans (b.mono B.size);clear b;replace c_g3:=g3.five;go_wp2;refine wp_region_calm (by kernel_rfl) (by kernel_rfl) ?_;replace c_g3:=fun x:Fut _=>(g3.below x.h).cell;have c_m0:=fun x:Fut _=>cell_later x.h m0;have c_m1:=fun x:Fut _=>cell_later x.h m1;have c_m2:=fun x:Fut _=>cell_later x.h m2;repeat (go_big_quiet_step (fail))
   refine wpQuiet_nil ?_;intro _ hw';obtain ⟨xq,hw''⟩:=hw';subst hw'';clear c_m0;replace m0:=cell_later xq.h m0;clear c_m1;replace m1:=cell_later xq.h m1;clear c_m2;replace m2:=cell_later xq.h m2;replace g3:=g3.below xq.h;replace c_g3:=g3.five;replace B:=B.trans (xq.h.mono B.size)
   go_wp2
   go_ret
   exact ⟨rfl,B⟩
 ·have hr0:r=2:=by rw [hr,rightErr,if_neg (by omega)]
  clear hr h hN;subst hr0;have hcase:sl<0∨0≤sl∧(N:Int)≤sl:=by omega
  clear hin;rcases hcase with hneg | ⟨hneg,hbig⟩
  all_goals
   go_in;go_upto_region 1 with (fail)
   refine wpb1 (39) (#[.int .i64 sl,.int .i64 g]) ?_;rintro w' ⟨g3,b⟩
   replace B:=B.trans (b.mono B.size);clear b;replace c_g3:=g3.five;go_wp2
   go_ret
   exact ⟨rfl,B⟩
def sameS (a b:List Sl):Bool:=decide (a=b)
theorem sameS_refl (a:List Sl):sameS a a=true:=by simp [sameS]
theorem SameS_any (va vb:Value) (La Lb:List Sl) (r:Bool) (hr:r=sameS La Lb) (w:World) (ha:Slots w va La) (hb:Slots w vb Lb):
  Calls Tryz.prog 44 #[va,vb] w fun e w'=>e=.returned (.bool r)∧Below w.heap.size w w':=by
 have B:=Below.refl w.heap.size w;have la1:=Rd.len ha Tryz.underlying29;have lb1:=Rd.len hb Tryz.underlying29;have la2:=Rd.len_le ha;have lb2:=Rd.len_le hb;have HA:=hD ha;have HB:=hD hb;have HR:=hD hr;clear ha hb hr;obtain ⟨na,hna⟩:=exq La.length;obtain ⟨nb,hnb⟩:=exq Lb.length;rw [←hna] at la1 la2;rw [←hnb] at lb1 lb2;have Hna:=hD hna;have Hnb:=hD hnb;clear hna hnb;by_cases hl:na=nb
 ·subst hl;go_in;go_wp2;have HBB:=hD B;clear B
  go_loopw [5] (fun i wr=>∃k:Nat,k≤na∧i=.int .i64 k∧Hid (La.take k=Lb.take k)∧Below w.heap.size w wr) (fun i _=>na-(intOf i).toNat)
  case atStart=>exact ⟨0,Nat.zero_le _,rfl,hD rfl,HBB.out⟩
  case round=>
   obtain ⟨k,hk,rfl,heq,B⟩:=hrel;by_cases hlt:k<na
   ·obtain ⟨b,o,s,ia,m0,m1,m2,hs⟩:=(HA.out.below B).at_ (P:=Tryz.prog) Tryz.underlying29 size_slot (k:=k) (by have:=Hna.out;omega)
    obtain ⟨b',o',t,ib,m3,m4,m5,ht⟩:=(HB.out.below B).at_ (P:=Tryz.prog) Tryz.underlying29 size_slot (k:=k) (by have:=Hnb.out;omega)
    obtain ⟨c,hc⟩:=exq (!decide (s=t))
    have q:=fun W=>slot_neq s t c hc W;have HC:=hD hc;clear hc;cases c
    ·go_wp2;refine wp_region_calm (by kernel_rfl) (by kernel_rfl) ?_;have c_m0:=fun x:Fut _=>cell_later x.h m0;have c_m1:=fun x:Fut _=>cell_later x.h m1;have c_m2:=fun x:Fut _=>cell_later x.h m2;have c_m3:=fun x:Fut _=>cell_later x.h m3;have c_m4:=fun x:Fut _=>cell_later x.h m4;have c_m5:=fun x:Fut _=>cell_later x.h m5;repeat (go_big_quiet_step (fail))
     refine wpQuiet_nil ?_;intro _ hw';obtain ⟨xq,hw''⟩:=hw';subst hw'';clear c_m0;replace m0:=cell_later xq.h m0;clear c_m1;replace m1:=cell_later xq.h m1;clear c_m2;replace m2:=cell_later xq.h m2;clear c_m3;replace m3:=cell_later xq.h m3;clear c_m4;replace m4:=cell_later xq.h m4;clear c_m5;replace m5:=cell_later xq.h m5;replace B:=B.trans (xq.h.mono B.size)
     go_wp2
     go_roundw
     case rel=>
      have e:s=t:=by have:=HC.out;simpa using this
      refine ⟨k+1,by omega,by go_num,hD ?_,B⟩
      rw [List.take_add_one,List.take_add_one,heq.out,hs.out,ht.out,e]
     case measure=>simp [intOf];omega
    ·go_wp2;refine wp_region_calm (by kernel_rfl) (by kernel_rfl) ?_;have c_m0:=fun x:Fut _=>cell_later x.h m0;have c_m1:=fun x:Fut _=>cell_later x.h m1;have c_m2:=fun x:Fut _=>cell_later x.h m2;have c_m3:=fun x:Fut _=>cell_later x.h m3;have c_m4:=fun x:Fut _=>cell_later x.h m4;have c_m5:=fun x:Fut _=>cell_later x.h m5;repeat (go_big_quiet_step (fail))
     refine wpQuiet_nil ?_;intro _ hw';obtain ⟨xq,hw''⟩:=hw';subst hw'';clear c_m0;replace m0:=cell_later xq.h m0;clear c_m1;replace m1:=cell_later xq.h m1;clear c_m2;replace m2:=cell_later xq.h m2;clear c_m3;replace m3:=cell_later xq.h m3;clear c_m4;replace m4:=cell_later xq.h m4;clear c_m5;replace m5:=cell_later xq.h m5;replace B:=B.trans (xq.h.mono B.size)
     go_wp2
     go_ret
     refine ⟨ret_bool ?_,B⟩
     have e:¬s=t:=by have:=HC.out;simpa using this
     rw [HR.out,sameS,eq_comm,decide_eq_false_iff_not]
     intro hab;have h1:=hs.out;have h2:=ht.out;rw [hab,h2] at h1;injection h1 with h1
     exact e h1.symm
   ·obtain rfl:k=na:=by omega
    go_wp2
    go_ret
    refine ⟨ret_bool ?_,B⟩
    have h1:=heq.out;rw [List.take_of_length_le (by have:=Hna.out;omega),List.take_of_length_le (by have:=Hnb.out;omega)] at h1;rw [HR.out,h1,sameS_refl]
 ·have hl':((na:Int) != nb)=true:=by rw [bne_iff_ne];omega
  go_in;go_wp2
  go_ret
  refine ⟨ret_bool ?_,B⟩
  rw [HR.out,sameS,eq_comm,decide_eq_false_iff_not]
  intro hab;have h1:=Hna.out;have h2:=Hnb.out;rw [hab] at h1;omega
end
end Go.Proofs.YteejianjjpdimaaGreat

namespace Go.Proofs.YteejianjjpdimaaGreat.L20
open L02 L13 L18
structure Ob where
 ty:Int
 fs:List UInt64
deriving DecidableEq
structure Mo where
 types:List (List UInt8)
 objs:List Ob
 slots:List Sl
deriving DecidableEq
def Mo.nil:Mo:=⟨[],[],[]⟩
def no:UInt64:=9221120237041090561
def FloatOk (v:UInt64):Prop:=v.toNat=9221120237041090561∨v.toNat % 9223372036854775808≤9218868437227405312
instance (v:UInt64):Decidable (FloatOk v):=inferInstanceAs (Decidable (_∨_))
def FdOk (n:Nat) (k:UInt8) (v:UInt64):Prop:=(k.toNat=2→FloatOk v)∧(k.toNat=3→v.toNat≤n)
instance (n:Nat) (k:UInt8) (v:UInt64):Decidable (FdOk n k v):=inferInstanceAs (Decidable (_∧_))
def ty (T:List (List UInt8)) (o:Ob):List UInt8:=T.getD o.ty.toNat []
def ObOk (T:List (List UInt8)) (n:Nat) (o:Ob):Prop:=(0≤o.ty∧o.ty<T.length)∧o.fs.length=(ty T o).length∧∀i,i<o.fs.length→FdOk n ((ty T o).getD i 0) (o.fs.getD i 0)
instance (T:List (List UInt8)) (n:Nat) (o:Ob):Decidable (ObOk T n o):=inferInstanceAs (Decidable (_∧_∧∀i,i<o.fs.length→_))
def SlOk (n:Nat) (s:Sl):Prop:=(0≤s.gen∧s.gen≤2147483647)∧(s.used=false→s.at_=0)∧(s.used=true→0<s.gen∧0≤s.at_∧s.at_<n)
instance (n:Nat) (s:Sl):Decidable (SlOk n s):=inferInstanceAs (Decidable (_∧_∧_))
def MoOk (m:Mo):Prop:=m.slots.length=16∧(∀t∈m.types,kErr t=0)∧(∀o∈m.objs,ObOk m.types m.objs.length o)∧∀s∈m.slots,SlOk m.objs.length s
instance (m:Mo):Decidable (MoOk m):=inferInstanceAs (Decidable (_∧_∧_∧_))
def chk (m:Mo):Int:=if 8<m.types.length∨960<m.objs.length then 4 else if MoOk m then 0 else 8
def Great (m:Mo):Prop:=(40<m.objs.length∧m.objs.length<960)∨962<m.objs.length∨20<m.types.length∨30<m.slots.length∨(∃t∈m.types,20<t.length)∨∃o∈m.objs,20<o.fs.length
instance (m:Mo):Decidable (Great m):=inferInstanceAs (Decidable (_∨_∨_∨_∨_∨_))
def asked (m:Mo) (sl g:Int):Int:=if chk m=0 then rightErr m.slots sl g else chk m
def own (m:Mo) (sl:Int):Nat:=(m.slots.getD sl.toNat .none).at_.toNat
def ob (m:Mo) (k:Nat):Ob:=m.objs.getD k ⟨0,[]⟩
def kinds (m:Mo) (sl:Int):List UInt8:=ty m.types (ob m (own m sl))
def kErrF (m:Mo) (sl g n:Int):Int:=if asked m sl g=0 then (if 0≤n∧n<(kinds m sl).length then 0 else 2) else asked m sl g
def kind (m:Mo) (sl g n:Int):UInt8:=if kErrF m sl g n=0 then (kinds m sl).getD n.toNat 0 else 0
def fld (m:Mo) (sl n:Int):UInt64:=(ob m (own m sl)).fs.getD n.toNat 0
def putF (m:Mo) (k i:Nat) (x:UInt64):Mo:=⟨m.types,m.objs.set k ⟨(ob m k).ty,(ob m k).fs.set i x⟩,m.slots⟩
def put (m:Mo) (sl n:Int) (x:UInt64):Mo:=putF m (own m sl) n.toNat x
def getE (m:Mo) (sl g n:Int):Int:=if kErrF m sl g n=0 then (if (kind m sl g n).toNat=3 then 42 else 0) else kErrF m sl g n
def getV (m:Mo) (sl g n:Int):UInt64:=if getE m sl g n=0 then fld m sl n else 0
def setV (k:UInt8) (x:UInt64):UInt64:=if k.toNat=2∧¬FloatOk x then no else x
def setM (m:Mo) (sl g n:Int) (x:UInt64):Mo:=if getE m sl g n=0 then put m sl n (setV (kind m sl g n) x) else .nil
def refE (m:Mo) (sl g n:Int) (tq:Option (Int×Int)):Int:=if kErrF m sl g n=0 then (if (kind m sl g n).toNat=3 then (match tq with | none=>0 | some t=>rightErr m.slots t.1 t.2) else 42) else kErrF m sl g n
def refM (m:Mo) (sl g n:Int) (tq:Option (Int×Int)):Mo:=if refE m sl g n tq=0 then put m sl n (match tq with | none=>0 | some t=>UInt64.ofNat (own m t.1+1)) else .nil
def givS (m:Mo) (n:Int) (k:Nat):List Sl:=m.slots.set k ⟨(m.slots.getD k .none).gen+1,true,n⟩
def rootE (m:Mo) (sl g n:Int):Int:=if kErrF m sl g n=0 then (if (kind m sl g n).toNat=3 then (if fld m sl n=0 then 6 else if next m.slots=none then 23 else 0) else 42) else kErrF m sl g n
def rootM (m:Mo) (sl g n:Int):Mo:=if rootE m sl g n=0 then ⟨m.types,m.objs,givS m ((fld m sl n).toNat-1:Nat) ((next m.slots).getD 0)⟩ else .nil
def rootS (m:Mo) (sl g n:Int):Int:=if rootE m sl g n=0 then ((next m.slots).getD 0:Nat) else 0
def rootG (m:Mo) (sl g n:Int):Int:=if rootE m sl g n=0 then (m.slots.getD ((next m.slots).getD 0) .none).gen+1 else 0
theorem chk_ok {m:Mo} (h:chk m=0):m.types.length≤8∧m.objs.length≤960∧MoOk m:=by
 unfold chk at h;split at h
 ·omega
 ·split at h
  ·exact ⟨by omega,by omega,by assumption⟩
  ·omega
theorem chk_many {m:Mo} (h:8<m.types.length∨960<m.objs.length):chk m=4:=if_pos h
theorem chk_bad {m:Mo} (h:¬(8<m.types.length∨960<m.objs.length)) (h2:¬MoOk m):chk m=8:=by rw [chk,if_neg h,if_neg h2]
theorem chk_zero {m:Mo} (h:¬(8<m.types.length∨960<m.objs.length)) (h2:MoOk m):chk m=0:=by rw [chk,if_neg h,if_pos h2]
theorem no_type {m:Mo} {k:Nat} {t:List UInt8} (h:m.types[k]?=some t) (hb:kErr t≠0):¬MoOk m:=fun hm=>hb (hm.2.1 t (List.mem_of_getElem? h))
theorem no_obj {m:Mo} {k:Nat} {o:Ob} (h:m.objs[k]?=some o) (hb:¬ObOk m.types m.objs.length o):¬MoOk m:=fun hm=>hb (hm.2.2.1 o (List.mem_of_getElem? h))
theorem no_slot {m:Mo} {k:Nat} {s:Sl} (h:m.slots[k]?=some s) (hb:¬SlOk m.objs.length s):¬MoOk m:=fun hm=>hb (hm.2.2.2 s (List.mem_of_getElem? h))
theorem right_ok {L:List Sl} {sl g:Int} (h:rightErr L sl g=0):∃(k:Nat) (s:Sl),sl=(k:Int)∧k<L.length∧L[k]?=some s∧s.used=true∧s.gen=g:=by
 unfold rightErr at h;split at h
 ·rename_i h1;split at h
  ·rename_i h2;obtain ⟨k,rfl⟩:=Int.eq_ofNat_of_zero_le h1.1;have hk:k<L.length:=by omega
   have hs:L[k]?=some L[k]:=List.getElem?_eq_getElem hk;have hgd:L.getD (k:Int).toNat .none=L[k]:=by simp [List.getD_eq_getElem?_getD,hs]
   rw [hgd] at h2;exact ⟨k,_,rfl,hk,hs,h2.1,h2.2⟩
  ·omega
 ·omega
theorem asked_ok {m:Mo} {sl g:Int} (h:asked m sl g=0):chk m=0∧rightErr m.slots sl g=0∧∃(k:Nat) (s:Sl) (n:Nat) (o:Ob) (t:List UInt8),sl=(k:Int)∧k<16∧m.slots[k]?=some s∧s.used=true∧s.gen=g∧SlOk m.objs.length s∧s.at_=(n:Int)∧own m sl=n∧
  m.objs[n]?=some o∧ob m n=o∧ObOk m.types m.objs.length o∧m.types[o.ty.toNat]?=some t∧ty m.types o=t∧kinds m sl=t∧o.fs.length=t.length:=by
 unfold asked at h;split at h
 ·rename_i h0;obtain ⟨h1,h2,h3⟩:=chk_ok h0;obtain ⟨k,s,rfl,hk,hs,hu,hg⟩:=right_ok h;have hso:=h3.2.2.2 s (List.mem_of_getElem? hs)
  obtain ⟨a1,a2,a3⟩:=hso.2.2 hu;obtain ⟨n,hn⟩:=Int.eq_ofNat_of_zero_le a2;have hnl:n<m.objs.length:=by omega
  have ho:m.objs[n]?=some m.objs[n]:=List.getElem?_eq_getElem hnl;have hoo:=h3.2.2.1 _ (List.mem_of_getElem? ho)
  have hob:ob m n=m.objs[n]:=by simp [ob,List.getD_eq_getElem?_getD,ho]
  have hown:own m (k:Int)=n:=by simp [own,List.getD_eq_getElem?_getD,hs,hn]
  have hty:m.objs[n].ty.toNat<m.types.length:=by have:=hoo.1;omega
  have ht:m.types[m.objs[n].ty.toNat]?=some m.types[m.objs[n].ty.toNat]:=List.getElem?_eq_getElem hty;have htt:ty m.types m.objs[n]=m.types[m.objs[n].ty.toNat]:=by simp [ty,List.getD_eq_getElem?_getD,ht]
  exact ⟨h0,h,k,s,n,_,_,rfl,by rw [h3.1] at hk;exact hk,hs,hu,hg,hso,hn,hown,ho,hob,hoo,ht,htt,by rw [kinds,hown,hob,htt],by rw [hoo.2.1,htt]⟩
 ·rename_i h0;exact absurd h h0
theorem asked_no {m:Mo} {sl g:Int} (h:chk m≠0):asked m sl g=chk m:=if_neg h
theorem asked_eq {m:Mo} {sl g:Int} (h:chk m=0):asked m sl g=rightErr m.slots sl g:=if_pos h
theorem kErrF_no {m:Mo} {sl g n:Int} (h:asked m sl g≠0):kErrF m sl g n=asked m sl g:=if_neg h
theorem kErrF_arg {m:Mo} {sl g n:Int} (h:asked m sl g=0) (hn:¬(0≤n∧n<(kinds m sl).length)):kErrF m sl g n=2:=by rw [kErrF,if_pos h,if_neg hn]
theorem kErrF_ok {m:Mo} {sl g n:Int} (h:asked m sl g=0) (hn:0≤n∧n<(kinds m sl).length):kErrF m sl g n=0:=by rw [kErrF,if_pos h,if_pos hn]
theorem kErrF_inv {m:Mo} {sl g n:Int} (h:kErrF m sl g n=0):asked m sl g=0∧0≤n∧n<(kinds m sl).length:=by
 unfold kErrF at h;split at h
 ·split at h
  ·rename_i h1 h2;exact ⟨h1,h2⟩
  ·omega
 ·rename_i h1;exact absurd h h1
end Go.Proofs.YteejianjjpdimaaGreat.L20
