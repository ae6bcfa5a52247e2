/- Contracts of the functions that the laws 'T' reach, part 6. No condition. -/
import Derived.Test.YteejianjjpdimaaGreatMTe
set_option linter.unusedVariables false
set_option linter.unusedSimpArgs false
set_option maxRecDepth 100000
set_option maxHeartbeats 8000000
namespace Go.Proofs.YteejianjjpdimaaGreat
section
open Go.RowKit L01 L02 L05 L14 L15
def wsK (W:World) (g:Nat) (a:Int) (x:Nat):Nat→World
 | 0=>W.drew
 | 1=>W.drew.setCell ⟨g,0,none⟩ (.int .i64 a)
 | _+2=>(W.drew.setCell ⟨g,0,none⟩ (.int .i64 a)).setCell ⟨g,5,none⟩ (.int .u64 x)
theorem stOk_of {l:List UInt64} {k:Nat} {x:UInt64} (hx:l[k]?=some x):StOk l k↔HdOk x∧(k:Int)+(split x).size≤l.length:=by
 unfold StOk;rw [show l.getD k 0=x by rw [List.getD_eq_getElem?_getD,hx];rfl]
theorem stands_any (v:Value) (l:List UInt64) (k:Nat) (b:Hb) (r:Int) (hk:k<l.length) (hb:b=if StOk l k then stand l k else .none) (hr:r=if StOk l k then 0 else 50) (w:World) (h:Words w v l):
  Calls Tryz.prog 93 #[v,.int .i64 k] w fun e w'=>e=.returned (.tuple #[.agg #[.int .i64 b.at_,.int .i64 b.size,.int .i64 b.kind,.int .i64 b.ty,.bool b.mark,.int .u64 b.next.toNat],.int .i64 r])∧Below w.heap.size w w':=by
 have B:=Below.refl w.heap.size w;have H:=hD h;have hlen:=Rd.len_le h;have lw:=Rd.len h Tryz.underlying22;obtain ⟨ad,x,ia,m0,hx⟩:=h.at_ (P:=Tryz.prog) Tryz.underlying22 one_u64 hk;obtain ⟨N,hN⟩:=exq l.length;rw [←hN] at lw hlen;have hst:=stOk_of hx.out;obtain ⟨s,hs⟩:=exq (split x)
 obtain ⟨z,hz⟩:=exq (splE x)
 have ST:=hD (HSplit_any x s z hs hz)
 have hgk:l.getD k 0=x:=by rw [List.getD_eq_getElem?_getD,hx.out];rfl
 by_cases hd:HdOk x
 ·have hz0:z=0:=by rw [hz,splE,if_pos hd]
  subst hz0;obtain ⟨s1,s2,s3,s4,s5,s6⟩:=(by rw [hs];exact (split_ok hd).bounds:2≤s.size∧s.size % 2=0∧s.size≤1920∧(s.kind=1∨s.kind=2)∧0≤s.ty∧s.ty<8)
  have hw:IntKind.i64.wrap ((N:Int)-(k:Int))=(N:Int)-k:=IntWalk.i64_in _ (by omega)
  by_cases hl:(k:Int)+s.size≤N
  ·have hok:StOk l k:=hst.2 ⟨hd,by rw [←hs,←hN];exact hl⟩
   obtain ⟨ad2,y,ia2,m1,hy⟩:=h.at_ (P:=Tryz.prog) Tryz.underlying22 one_u64 (k:=k+1) (by omega)
   have hr0:r=0:=by rw [hr,if_pos hok]
   have hb0:b=⟨k,s.size,s.kind,s.ty,s.mark,y⟩:=by
    rw [hb,if_pos hok,stand,hgk,←hs,show l.getD (k+1) 0=y by rw [List.getD_eq_getElem?_getD,hy.out];rfl]
   have hw1:IntKind.i64.wrap ((k:Int)+1)=(k:Int)+1:=IntWalk.i64_in _ (by omega)
   have ia3:∀W,(Instr.indexAt 22 v (.int .i64 ((k:Int)+1))).run Tryz.prog W=.ok (.pointer (some ad2)) W:=ia2;have n1:¬((N:Int)-k<s.size):=by omega
   have n2:decide ((N:Int)-k<s.size)=false:=decide_eq_false n1;have hs0:s.at_=0:=by rw [hs,split_told hd];rfl
   have hs5:s.next=0:=by rw [hs,split_told hd];rfl
   obtain ⟨sa,sz,sk,sty,sm,sn⟩:=s;dsimp only at *;subst hs0;subst hs5;subst hr0;subst hb0;have ST':Hid (∀w,Calls Tryz.prog 106 #[.int .u64 x.toNat] w fun e w'=>e=.returned (.tuple #[.agg #[.int .i64 0,.int .i64 sz,.int .i64 sk,.int .i64 sty,.bool sm,.int .u64 0],.int .i64 0])∧Below w.heap.size w w'):=ST;have HK:=hD (And.intro hk hN)
   have M0:=hD m1;clear hst hs hz hgk hd hl hok hb hr hx hy h ST hk hN;go_in;go_upto_region 1 with (fail)
   refine wpb1 (64) (#[.int .i64 0,.int .i64 0,.int .i64 0,.int .i64 0,.bool false,.int .u64 0]) ?_;rintro wa1 ⟨g1,b⟩
   replace m0:=cell_later b m0;replace m1:=cell_later b m1;replace B:=B.trans (b.mono B.size);clear b;obtain ⟨c_g1,f_g1,a_g1,d_g1,e_g1⟩:=g1.five;go_wp2_with fail;refine (ST'.out _).mono ?_;rintro e wa2 ⟨rfl,b⟩
   replace m0:=cell_later b m0;replace m1:=cell_later b m1;try clear c_g1 f_g1 a_g1 d_g1 e_g1
   replace g1:=g1.below b;obtain ⟨c_g1,f_g1,a_g1,d_g1,e_g1⟩:=g1.five;replace B:=B.trans (b.mono B.size);clear b;have hl1:w.heap.size<wa2.heap.size:=g1.lt;go_upto_region 2 with (fail)
   refine wpb1 (64) (#[.int .i64 0,.int .i64 sz,.int .i64 sk,.int .i64 sty,.bool sm,.int .u64 0]) ?_;rintro wa3 ⟨g2,b⟩
   replace m0:=cell_later b m0;replace m1:=cell_later b m1;try clear c_g1 f_g1 a_g1 d_g1 e_g1
   replace g1:=g1.below b;obtain ⟨c_g1,f_g1,a_g1,d_g1,e_g1⟩:=g1.five;replace B:=B.trans (b.mono B.size);clear b;obtain ⟨c_g2,f_g2,a_g2,d_g2,e_g2⟩:=g2.five;go_upto_region 4 with (fail)
   have hz2:=B.size;have hp:=g2.lt;have k0:=g2.cell 0;have k5:=(g2.set (i:=0) (.int .i64 (k:Int))).cell 5;have kf:=g2.free;have ne:w.heap.size≠wa2.heap.size:=by omega
   have A1:∀d,d≤2→Bx (wsK wa3 wa2.heap.size k y.toNat d) w.heap.size 64 #[.int .i64 0,.int .i64 0,.int .i64 0,.int .i64 0,.bool false,.int .u64 0]:=by
    intro d hd;rcases d with _ | _ | d
    ·exact g1
    ·exact Bx.far (w:=wa3.drew) g1 (p:=⟨wa2.heap.size,0,none⟩) ne _
    ·exact (Bx.far (w:=wa3.drew) g1 (p:=⟨wa2.heap.size,0,none⟩) ne _).far (p:=⟨wa2.heap.size,5,none⟩) ne _
   have BW:∀d,d≤2→Below w.heap.size w (wsK wa3 wa2.heap.size k y.toNat d):=by
    intro d hd;rcases d with _ | _ | d
    ·exact B.drew
    ·exact (B.drew).setCell (p:=⟨wa2.heap.size,0,none⟩) (by show w.heap.size≤wa2.heap.size;omega) _
    ·exact ((B.drew).setCell (p:=⟨wa2.heap.size,0,none⟩) (by show w.heap.size≤wa2.heap.size;omega) _).setCell (p:=⟨wa2.heap.size,5,none⟩) (by show w.heap.size≤wa2.heap.size;omega) _
   have BX:∀d,d≤2→Below wa3.heap.size wa3 (wsK wa3 wa2.heap.size k y.toNat d)→True:=fun _ _ _=>trivial;have M1:∀d,d≤2→(wsK wa3 wa2.heap.size k y.toNat d).cell? ad2=some (.int .u64 y.toNat):=by
    intro d hd;exact cell_later (BW d hd) M0.out
   have G2:Bx (wsK wa3 wa2.heap.size k y.toNat 2) wa2.heap.size 64 #[.int .i64 k,.int .i64 sz,.int .i64 sk,.int .i64 sty,.bool sm,.int .u64 y.toNat]:=
    ((Bx.set (w:=wa3.drew) g2 (i:=0) (.int .i64 (k:Int))).set (i:=5) (.int .u64 y.toNat))
   have a1:=fun x:FXN (FL [7,9] (wsK wa3 wa2.heap.size k y.toNat) 7 2)=>(FL.all (ks:=[7,9]) (Ws:=wsK wa3 wa2.heap.size k y.toNat) (p:=fun V=>V.cell? ad2=some (.int .u64 y.toNat)) M1 x)
   have HX:=hD (And.intro (A1 2 (by omega)) (And.intro G2 (BW 2 (by omega))))
   have s0:wa3.cell? ⟨wa2.heap.size,0,none⟩=some (.int .i64 0):=g2.cell 0;have s1:∀i,wa3.frozen? ⟨wa2.heap.size,i,none⟩=false:=g2.free;have s2:(wa3.setCell ⟨wa2.heap.size,0,none⟩ (.int .i64 k)).cell? ⟨wa2.heap.size,5,none⟩=some (.int .u64 0):=(g2.set (i:=0) (.int .i64 (k:Int))).cell 5;clear A1 BW BX M1 G2 k0 k5 kf c_g1 f_g1 a_g1 d_g1 e_g1 c_g2 f_g2 a_g2 d_g2 e_g2 m0 m1
   haveI:Nonempty (FXN (FL [7,9] (wsK wa3 wa2.heap.size k y.toNat) 7 2)):=⟨⟨_,_,FL.start⟩⟩
   refine wp_region_N (FL [7,9] (wsK wa3 wa2.heap.size k y.toNat) 7 2) [7,7,9] FL.dep (by kernel_rfl) (by kernel_rfl) (by kernel_rfl) FL.start ?_;iterate 7 (refine wpN_read FL.dep rfl (by decide) ?_;go_big_quiet_step (fail);refine wpQuiet_nil ?_)
   refine wpN_storeD FL.dep rfl 3 (.tmp 34) (.tmp 28) rfl (by rfl) (p:=.pointer (some ⟨wa2.heap.size,0,none⟩)) (u:=.int .i64 k) (by rfl) (by rfl) [] (by kernel_rfl) (fun f W' hF h0 h1=>?_) ?_
   ·obtain ⟨rfl,h2⟩:=FL.step (i:=0) rfl (by decide) hF h0 (by intro p hp;omega) (by omega)
    refine ⟨_,?_,h2⟩
    simp [go_sem,wsK,s0,s1]
   simp only [Act.put,List.setIfInBounds_toArray,List.set_cons_zero,List.set_cons_succ]
   iterate 1 (refine wpN_read FL.dep rfl (by decide) ?_;go_big_quiet_step (fail);refine wpQuiet_nil ?_)
   refine wpN_storeD FL.dep rfl 42 (.tmp 35) (.tmp 33) rfl (by rfl) (p:=.pointer (some ⟨wa2.heap.size,5,none⟩)) (u:=.int .u64 y.toNat) (by rfl) (by rfl) [7] (by kernel_rfl) (fun f W' hF h0 h1=>?_) ?_
   ·obtain ⟨rfl,h2⟩:=FL.step (i:=1) rfl (by decide) hF h0 (FL.prev rfl (h1 7 (by simp))) (by omega)
    refine ⟨_,?_,h2⟩
    simp [go_sem,wsK,s2,s1]
   simp only [Act.put,List.setIfInBounds_toArray,List.set_cons_zero,List.set_cons_succ]
   show ∀w',_→_;intro w' hw';obtain rfl:=FL.done hw';clear a1 s0 s1 s2 hw';have hW:wsK wa3 wa2.heap.size k y.toNat ([7,9]:List Nat).length=wsK wa3 wa2.heap.size k y.toNat 2:=rfl;rw [hW]
   generalize wsK wa3 wa2.heap.size k y.toNat 2=V at HX ⊢
   obtain ⟨g1,g2,B⟩:=HX.out;have c_g1:=g1.cell;have c_g2:=g2.cell;have f_g1:=g1.free;have f_g2:=g2.free;go_wp2;refine bodyPost_ret (v:=.tuple #[.agg #[.int .i64 k,.int .i64 sz,.int .i64 sk,.int .i64 sty,.bool sm,.int .u64 y.toNat],.int .i64 0]) (by simp [results,Tryz.results93,go_sem,c_g1,c_g2,f_g1,f_g2,ne]) rfl ?_;refine ⟨rfl,?_⟩
   exact bdn
  ·have hno:¬StOk l k:=fun h=>hl (by have:=(hst.1 h).2;rw [←hs,←hN] at this;exact this)
   have hr0:r=50:=by rw [hr,if_neg hno]
   have hb0:b=.none:=by rw [hb,if_neg hno]
   have n1:(N:Int)-k<s.size:=by omega
   subst hr0;subst hb0;clear hst hs hz hgk hd hl hno hb hr hx h hN hk;go_in;go_upto_region 1 with (fail)
   refine wpb1 (64) (#[.int .i64 0,.int .i64 0,.int .i64 0,.int .i64 0,.bool false,.int .u64 0]) ?_;rintro wa1 ⟨g1,b⟩
   replace m0:=cell_later b m0;replace B:=B.trans (b.mono B.size);clear b;obtain ⟨c_g1,f_g1,a_g1,d_g1,e_g1⟩:=g1.five;go_wp2_with fail;refine (ST.out _).mono ?_;rintro e wa2 ⟨rfl,b⟩
   replace m0:=cell_later b m0;try clear c_g1 f_g1 a_g1 d_g1 e_g1
   replace g1:=g1.below b;obtain ⟨c_g1,f_g1,a_g1,d_g1,e_g1⟩:=g1.five;replace B:=B.trans (b.mono B.size);clear b;go_upto_region 2 with (fail)
   refine wpb1 (64) (#[.int .i64 s.at_,.int .i64 s.size,.int .i64 s.kind,.int .i64 s.ty,.bool s.mark,.int .u64 s.next.toNat]) ?_;rintro wa3 ⟨g2,b⟩
   replace m0:=cell_later b m0;try clear c_g1 f_g1 a_g1 d_g1 e_g1
   replace g1:=g1.below b;obtain ⟨c_g1,f_g1,a_g1,d_g1,e_g1⟩:=g1.five;replace B:=B.trans (b.mono B.size);clear b;obtain ⟨c_g2,f_g2,a_g2,d_g2,e_g2⟩:=g2.five;go_wp2;refine bodyPost_ret (v:=.tuple #[.agg #[.int .i64 0,.int .i64 0,.int .i64 0,.int .i64 0,.bool false,.int .u64 0],.int .i64 50]) (by simp [results,Tryz.results93,go_sem,c_g1,f_g1,a_g1,e_g1,c_g2,f_g2,a_g2,e_g2]) rfl ?_;refine ⟨rfl,?_⟩
   exact bdn
 ·have hz0:z=50:=by rw [hz,splE,if_neg hd]
  have hno:¬StOk l k:=fun h=>hd (hst.1 h).1;have hr0:r=50:=by rw [hr,if_neg hno]
  have hb0:b=.none:=by rw [hb,if_neg hno]
  subst hr0;subst hb0;subst hz0;clear hst hs hz hgk hd hno hb hr hx h hN hk;go_in;go_upto_region 1 with (fail)
  refine wpb1 (64) (#[.int .i64 0,.int .i64 0,.int .i64 0,.int .i64 0,.bool false,.int .u64 0]) ?_;rintro wa1 ⟨g1,b⟩
  replace m0:=cell_later b m0;replace B:=B.trans (b.mono B.size);clear b;obtain ⟨c_g1,f_g1,a_g1,d_g1,e_g1⟩:=g1.five;go_wp2_with fail;refine (ST.out _).mono ?_;rintro e wa2 ⟨rfl,b⟩
  replace m0:=cell_later b m0;try clear c_g1 f_g1 a_g1 d_g1 e_g1
  replace g1:=g1.below b;obtain ⟨c_g1,f_g1,a_g1,d_g1,e_g1⟩:=g1.five;replace B:=B.trans (b.mono B.size);clear b;go_upto_region 2 with (fail)
  refine wpb1 (64) (#[.int .i64 s.at_,.int .i64 s.size,.int .i64 s.kind,.int .i64 s.ty,.bool s.mark,.int .u64 s.next.toNat]) ?_;rintro wa3 ⟨g2,b⟩
  replace m0:=cell_later b m0;try clear c_g1 f_g1 a_g1 d_g1 e_g1
  replace g1:=g1.below b;obtain ⟨c_g1,f_g1,a_g1,d_g1,e_g1⟩:=g1.five;replace B:=B.trans (b.mono B.size);clear b;obtain ⟨c_g2,f_g2,a_g2,d_g2,e_g2⟩:=g2.five;go_wp2;refine bodyPost_ret (v:=.tuple #[.agg #[.int .i64 0,.int .i64 0,.int .i64 0,.int .i64 0,.bool false,.int .u64 0],.int .i64 50]) (by simp [results,Tryz.results93,go_sem,c_g1,f_g1,a_g1,e_g1,c_g2,f_g2,a_g2,e_g2]) rfl ?_;refine ⟨rfl,?_⟩
  exact bdn
end
section
open Go.RowKit L01 L02 L05 L14 L15
theorem map_append_cons {o:Option (List Hb)} {L0:List Hb} {b:Hb}:(o.map (b :: ·)).map (L0++·)=o.map ((L0++[b])++·):=by
 cases o <;> simp
theorem From_any (v:Value) (l:List UInt64) (a:Int) (L:List Hb) (r:Int) (hL:L=fromL l a) (hr:r=fromErr l a) (w:World) (h:Words w v l):
  Calls Tryz.prog 58 #[v,.int .i64 a] w fun e w'=>∃x,e=.returned (.tuple #[x,.int .i64 r])∧OwnK w' w.heap.size x L∧Below w.heap.size w w':=by
 have B:=Below.refl w.heap.size w;have H:=hD h;have hlen:=Rd.len_le h;have lw:=Rd.len h Tryz.underlying22;obtain ⟨c,hc⟩:=exq (chk l)
 have CT:Hid (∀w,Words w v l→Calls Tryz.prog 46 #[v] w fun e w'=>e=.returned (.int .i64 c)∧w=w'):=by rw [hc];exact hD (Check_any v l)
 by_cases hs:SizeOk l.length;case neg=>
  have hr0:r=8:=by rw [hr,fromErr,if_neg hs]
  have hL0:L=[]:=by rw [hL,fromL,←hr,hr0];rfl
  have hc8:c=8:=by rw [hc,chk_no hs]
  subst hr0;subst hL0;subst hc8;clear hr hL hs hc h lw hlen;go_in;go_wp2_with fail;refine (CT.out _ (H.out.below B)).mono ?_;rintro e w' ⟨rfl,rfl⟩
  go_wp2
  go_ret2
  exact ⟨_,rfl,OwnK.nil _ _,B⟩
 case pos=>
  have hc0:c=0:=by rw [hc,chk_ok hs]
  subst hc0;obtain ⟨N,hN⟩:=exq l.length;rw [←hN] at lw hlen;have hs2:=hs;rw [←hN] at hs2;obtain ⟨hn1,hn2,hn3⟩:=hs2;by_cases hin:128≤a∧a≤N∧a % 2=0;case neg=>
   have hr0:r=2:=by rw [hr,fromErr,if_pos hs,if_neg (by rw [←hN];exact hin)]
   have hL0:L=[]:=by rw [hL,fromL,←hr,hr0];rfl
   subst hr0;subst hL0;have hcase:a<128∨(128≤a∧(N:Int)<a)∨(128≤a∧a≤(N:Int)∧(a % 2 != 0)=true):=by
    by_cases h1:a<128
    ·exact .inl h1
    ·by_cases h2:(N:Int)<a
     ·exact .inr (.inl ⟨by omega,h2⟩)
     ·exact .inr (.inr ⟨by omega,by omega,by rw [bne_iff_ne];omega⟩)
   clear hr hL hs hc h hin hN;rcases hcase with h1 | ⟨h0,h1⟩ | ⟨h0,h1,h2⟩
   all_goals
    go_in;go_wp2_with fail;refine (CT.out _ (H.out.below B)).mono ?_;rintro e w' ⟨rfl,rfl⟩
    go_wp2
    go_ret2
    exact ⟨_,rfl,OwnK.nil _ _,B⟩
  case pos=>
   obtain ⟨h1,h2,h3⟩:=hin;obtain ⟨k,rfl⟩:=Int.eq_ofNat_of_zero_le (show 0≤a by omega)
   have hre:r=if (from_ l k).isSome then 0 else 50:=by rw [hr,fromErr,if_pos hs,if_pos (by rw [←hN];exact ⟨h1,h2,h3⟩),Int.toNat_natCast]
   have hLe:L=(from_ l k).getD []:=by
    rw [hL,fromL,←hr,hre,Int.toNat_natCast]
    cases from_ l k with
    | none=>rfl
    | some M=>rfl
   have n1:¬(k:Int)<128:=by omega
   have n2:¬(N:Int)<(k:Int):=by omega
   have n4:decide ((k:Int)<128)=false:=decide_eq_false n1;have n5:decide (N<k)=false:=decide_eq_false (by omega)
   have n6:¬N<k:=by omega
   have n3:(k:Int).tmod 2=0:=by rw [Int.tmod_eq_emod_of_nonneg (by omega)];omega
   have HR:=hD (And.intro hre hLe);have HN:=hD hN;have hkN:k≤N:=by omega
   clear hr hL hs hc h hre hLe h1 h2 h3 hN;go_in;go_wp2_with fail;refine (CT.out _ (H.out.below B)).mono ?_;rintro e w' ⟨rfl,rfl⟩
   go_wp2;have HB:=hD B;clear B
   go_loopg [1,7] (N-k) (fun g i xv wr=>∃(q:Nat) (L0:List Hb),q≤N∧g=N-q∧i=.int .i64 q∧Hid (OwnK wr w.heap.size xv L0∧from_ l k=(from_ l q).map (L0++·)∧2*L0.length≤q∧Below w.heap.size w wr))
   case atStart=>exact ⟨k,[],hkN,rfl,rfl,hD ⟨OwnK.nil _ _,by cases from_ l k <;> rfl,by simp,HB.out⟩⟩
   case round=>
    obtain ⟨q,L0,hq,rfl,rfl,hh⟩:=hrel;clear HB;by_cases hlt:q<N
    ·by_cases hso:StOk l q
     ·obtain ⟨b,hb⟩:=exq (stand l q)
      have ST:=hD (stands_any v l q b 0 (by rw [←HN.out];exact hlt) (by rw [if_pos hso,hb]) (by rw [if_pos hso]))
      have hsz:=szN_ge hso;have hbs:b.size=(szN l q:Int):=by rw [hb];exact stand_size hso
      have hst:=from_step (by rw [←HN.out];exact hlt) hso;rw [←hb] at hst;obtain ⟨z,hz⟩:=exq (szN l q)
      rw [←hz] at hsz hbs hst;rw [←HN.out] at hsz;obtain ⟨hz1,-,-,hz4,-⟩:=hsz;have o1:=hh.out.1;have B:=hh.out.2.2.2;have hl0:=hh.out.2.2.1;have hfr:=hh.out.2.1;rw [hst,map_append_cons] at hfr;have HF:=hD hfr;have hB0:=B.size;have hwq:IntKind.i64.wrap ((q:Int)+b.size)=((q+z:Nat):Int):=by rw [hbs,show ((q+z:Nat):Int)=(q:Int)+z by omega];exact IntWalk.i64_in _ (by omega)
      have HZ:=hD (And.intro hz1 hz4)
      clear hb hst hfr hz hbs hso;go_wp2_with fail;refine (ST.out _ (H.out.below B)).mono ?_;rintro e wa1 ⟨rfl,b⟩
      replace o1:=o1.below b;replace B:=B.trans (b.mono B.size);clear b;have hne:=own_fresh o1;go_upto_region 9 with (fail)
      refine wpb1 (64) (#[.int .i64 b.at_,.int .i64 b.size,.int .i64 b.kind,.int .i64 b.ty,.bool b.mark,.int .u64 b.next.toNat]) ?_;rintro wa2 ⟨g2,b⟩
      replace o1:=o1.below b;replace B:=B.trans (b.mono B.size);clear b;replace c_g2:=g2.five;go_wp2_with (at_builtin;refine wpList_append (by rfl) rfl rfl rfl Tryz.underlying59 info_block rfl (by omega) (by exact own_below o1 ((Below.refl _ _).alloc (Nat.le_refl _) _)) (by exact lit_block b (by simp)) (bkL_one b) (by omega) (by omega) (by exact B.alloc B.size _) (Nat.le_refl _) ?_;intro v1 w3 o3 B3 g3;have c_4:=((g2.alloc _).grown g3 hne).cell;clear c_g2)
      have o4:OwnK w3 w.heap.size v1 (L0++[b]):=OwnK.of o3 (tabB_snoc L0 b)
      have HO:=hD (And.intro o4 B3)
      go_roundg (N-(q+z))
      case measure=>have:=HZ.out.1;omega
      case rel=>exact ⟨q+z,L0++[b],by have:=HZ.out.2;omega,rfl,rfl,hD ⟨HO.out.1,HF.out,by have:=HZ.out.1;simp only [List.length_append,List.length_cons,List.length_nil];omega,HO.out.2⟩⟩
     ·have ST:=hD (stands_any v l q .none 50 (by rw [←HN.out];exact hlt) (by rw [if_neg hso]) (by rw [if_neg hso]))
      have hno:=from_no (by rw [←HN.out];exact hlt) hso;have hfr:=hh.out.2.1;rw [hno] at hfr;have hr0:r=50:=by rw [HR.out.1,hfr];rfl
      have hL0:L=[]:=by rw [HR.out.2,hfr];rfl
      subst hr0;subst hL0;have B:=hh.out.2.2.2;clear hso hno hfr;go_wp2_with fail;refine (ST.out _ (H.out.below B)).mono ?_;rintro e wa3 ⟨rfl,b⟩
      replace B:=B.trans (b.mono B.size);clear b;go_wp2
      go_ret2
      refine ⟨_,rfl,OwnK.nil _ _,?_⟩
      exact bdn
    ·obtain rfl:q=N:=by omega
     have hfr:=hh.out.2.1;rw [show from_ l q=some [] by rw [HN.out];exact from_end] at hfr;have hr0:r=0:=by rw [HR.out.1,hfr];rfl
     have hL0:L=L0:=by rw [HR.out.2,hfr];simp
     subst hr0;subst hL0;have o1:=hh.out.1;have B:=hh.out.2.2.2;clear hfr;go_wp2
     go_ret2
     exact ⟨_,rfl,o1,B⟩
end
section
open Go.RowKit L01 L02 L05 L14 L15
def NoAdj (L:List Hb) (j:Nat):Prop:=∀(i:Nat) (a b:Hb),i+1<j→L[i]?=some a→L[i+1]?=some b→¬(a.kind=2∧b.kind=2)
theorem noAdj_all {L:List Hb} (h:NoAdj L L.length):¬Adj L:=fun ha=>by
 obtain ⟨i,a,b,h1,h2,h3,h4⟩:=adj_iff.1 ha;exact h i a b (List.getElem?_eq_some_iff.1 h2).1 h1 h2 ⟨h3,h4⟩
theorem noAdj_step {L:List Hb} {j:Nat} (h:NoAdj L j) (h2:∀(i:Nat) (a b:Hb),j=i+1→L[i]?=some a→L[i+1]?=some b→¬(a.kind=2∧b.kind=2)):NoAdj L (j+1):=fun i a b hi h3 h4=>by
 by_cases e:i+1=j
 ·exact h2 i a b e.symm h3 h4
 ·exact h i a b (by omega) h3 h4
theorem adj_at {L:List Hb} {i:Nat} {a b:Hb} (h1:L[i]?=some a) (h2:L[i+1]?=some b) (h3:a.kind=2) (h4:b.kind=2):Adj L:=adj_iff.2 ⟨i,a,b,h1,h2,h3,h4⟩
theorem from128 {l:List UInt64} (hs:SizeOk l.length):fromErr l 128=if (from_ l 128).isSome then 0 else 50:=by
 have e:(128:Int).toNat=128:=rfl;rw [fromErr,if_pos hs,if_pos (by have:=hs.1;omega),e]
theorem fromL128 {l:List UInt64} {M:List Hb} (hs:SizeOk l.length) (hf:from_ l 128=some M):fromL l 128=M:=by
 have e:(128:Int).toNat=128:=rfl;rw [fromL,if_pos (by rw [from128 hs,hf,if_pos Option.isSome_some]),e,hf];rfl
theorem parsed_none {l:List UInt64} (hf:from_ l 128=none):parsed l=none:=by
 unfold parsed
 generalize from_ l 128=x at*
 subst hf;rfl
theorem parsed_some {l:List UInt64} {M:List Hb} (hf:from_ l 128=some M):parsed l=if Adj M then none else some M:=by
 unfold parsed
 generalize from_ l 128=x at*
 subst hf;rfl
theorem AllW_any (v:Value) (l:List UInt64) (L:List Hb) (r:Int) (hL:L=allL l) (hr:r=allErr l) (w:World) (h:Words w v l):
  Calls Tryz.prog 15 #[v] w fun e w'=>∃x,e=.returned (.tuple #[x,.int .i64 r])∧OwnK w' w.heap.size x L∧Below w.heap.size w w':=by
 have B:=Below.refl w.heap.size w;have H:=hD h;obtain ⟨L0,hL0⟩:=exq (fromL l 128)
 obtain ⟨r0,hr0⟩:=exq (fromErr l 128)
 have FT:=hD (From_any v l 128 L0 r0 hL0 hr0)
 by_cases h0:r0=0;case neg=>
  have hn:(r0 != 0)=true:=by rw [bne_iff_ne];exact h0
  have hre:r=r0:=by
   rw [hr,allErr]
   by_cases hs:SizeOk l.length
   ·rw [if_pos hs]
    rw [from128 hs] at hr0;cases hf:from_ l 128 with
    | none=>rw [hf,if_neg (by simp)] at hr0;rw [hr0,parsed_none hf,if_neg (by simp)]
    | some M=>rw [hf,if_pos Option.isSome_some] at hr0;exact absurd hr0 h0
   ·rw [if_neg hs,hr0,fromErr,if_neg hs]
  have hL1:L=[]:=by rw [hL,allL,←hr,hre,if_neg h0]
  subst hL1;subst hre;clear hL hr hL0 hr0 h h0;go_in;go_wp2_with fail;refine (FT.out _ (H.out.below B)).mono ?_;rintro e wa1 ⟨x1,rfl,o1,b⟩
  replace B:=B.trans (b.mono B.size);clear b;go_wp2
  go_ret2
  exact ⟨_,rfl,OwnK.nil _ _,B⟩
 case pos=>
  have hs:SizeOk l.length:=by
   rw [h0] at hr0;by_cases hs:SizeOk l.length
   ·exact hs
   ·rw [fromErr,if_neg hs] at hr0;omega
  have hf:from_ l 128=some L0:=by
   rw [h0,from128 hs] at hr0;cases hf:from_ l 128 with
   | none=>rw [hf,if_neg (by simp)] at hr0;omega
   | some M=>rw [hL0,fromL128 hs hf]
  have hre:r=if Adj L0 then 50 else 0:=by
   rw [hr,allErr,if_pos hs,parsed_some hf]
   by_cases ha:Adj L0 <;> simp [ha]
  have hLe:L=if Adj L0 then [] else L0:=by
   rw [hL,allL,←hr,hre,parsed_some hf]
   by_cases ha:Adj L0 <;> simp [ha]
  have HR:=hD (And.intro hre hLe)
  subst h0;obtain ⟨N,hN⟩:=exq L0.length;have HN:=hD hN;clear hL hr hL0 hr0 h hs hf hre hLe;go_in;go_wp2_with fail;refine (FT.out _ (H.out.below B)).mono ?_;rintro e wa1 ⟨x1,rfl,o1,b⟩
  replace B:=B.trans (b.mono B.size);clear b;have lx:=o1.rd.len;have hlen:=o1.rd.len_le;rw [←hN] at lx hlen;clear hN;go_wp2
  go_loopg [17] N (fun g i wr=>∃j:Nat,j≤N∧g=N-j∧i=.int .i64 j∧wr=wa1∧Hid (NoAdj L0 j))
  case atStart=>exact ⟨0,by omega,by omega,rfl,rfl,hD (fun i a b h1=>by omega)⟩
  case round=>
   obtain ⟨j,hj,rfl,rfl,rfl,hna⟩:=hrel;by_cases hlt:j<N
   ·obtain ⟨bb,oo,s,ia,_,_,m0,_,_,_,hs,_⟩:=o1.rd.at_ (k:=j) (by rw [←HN.out];exact hlt)
    rcases j with _ | i
    ·have n1:¬(0:Int)<((0:Nat):Int):=by omega
     go_wp2
     go_roundg (N-1)
     case measure=>omega
     case rel=>exact ⟨1,by omega,rfl,by go_num,rfl,hD (noAdj_step hna.out (fun i a b h1=>by omega))⟩
    ·obtain ⟨b2,o2,t,ia2,_,_,m1,_,_,_,ht,_⟩:=o1.rd.at_ (k:=i) (by rw [←HN.out];omega)
     have ia3:∀W,(Instr.indexAt 59 x1 (.int .i64 ((i:Int)+1))).run Tryz.prog W=.ok (.pointer (some ⟨bb,oo,none⟩)) W:=ia;have hw:IntKind.i64.wrap ((i:Int)+1-1)=(i:Int):=by rw [show (i:Int)+1-1=(i:Int) by omega];exact IntWalk.i64_in _ (by omega)
     have hw2:IntKind.i64.wrap (i:Int)=(i:Int):=IntWalk.i64_in _ (by omega)
     have n1:(0:Int)<(i:Int)+1:=by omega
     by_cases hk:t.kind=2∧s.kind=2
     ·have ha:=adj_at ht.out hs.out hk.1 hk.2;have hr0:r=50:=by rw [HR.out.1,if_pos ha]
      have hL0:L=[]:=by rw [HR.out.2,if_pos ha]
      rw [hk.2] at m0;rw [hk.1] at m1;subst hr0;subst hL0;clear hk ha;go_wp2
      go_ret2
      exact ⟨_,rfl,OwnK.nil _ _,B⟩
     ·have hna2:NoAdj L0 (i+1+1):=noAdj_step hna.out (fun i' a b h1 h2 h3=>by
       obtain rfl:i'=i:=by omega
       rw [ht.out] at h2;rw [hs.out] at h3;injection h2 with h2;injection h3 with h3;subst h2;subst h3;exact hk)
      have HNA:=hD hna2;clear hna2;by_cases hs2:s.kind=2
      ·have ht2:(t.kind==2)=false:=by rw [beq_eq_false_iff_ne];exact fun e=>hk ⟨e,hs2⟩
       rw [hs2] at m0;clear hk hs2;go_wp2
       go_roundg (N-(i+1+1))
       case measure=>omega
       case rel=>exact ⟨i+1+1,by omega,rfl,by go_num,rfl,HNA⟩
      ·have ht2:(s.kind==2)=false:=by rw [beq_eq_false_iff_ne];exact hs2
       clear hk hs2;go_wp2
       go_roundg (N-(i+1+1))
       case measure=>omega
       case rel=>exact ⟨i+1+1,by omega,rfl,by go_num,rfl,HNA⟩
   ·obtain rfl:j=N:=by omega
    have ha:¬Adj L0:=noAdj_all (by rw [←HN.out];exact hna.out)
    have hr0:r=0:=by rw [HR.out.1,if_neg ha]
    have hL0:L=L0:=by rw [HR.out.2,if_neg ha]
    subst hr0;subst hL0;clear ha;go_wp2
    go_ret2
    exact ⟨_,rfl,o1,B⟩
end
section
open Go.RowKit L01 L02 L05 L14 L15
end
section
open Go.RowKit
end
section
open Go.RowKit L01 L02 L05 L14 L15
def OwnBl (w:World) (base:Nat) (v:Value) (R:List Bool):Prop:=w.ownsRow base 4 1 v R.length (R.map .bool)
theorem OwnBl.below {w w':World} {base:Nat} {v:Value} {R:List Bool} (h:OwnBl w base v R) (hb:Below w.heap.size w w'):OwnBl w' base v R:=own_below h hb
theorem OwnBl.of {w:World} {B n:Nat} {v:Value} {xs:List Value} {R:List Bool} (h:w.ownsRow B 4 1 v n xs) (hx:xs=R.map .bool):OwnBl w B v R:=by
 subst hx;have hn:n=R.length:=by have:=h.1;simp at this;omega
 subst hn;exact h
end
section
open Go.RowKit Go.Maps
def i64Ok (a:Int):Prop:=-9223372036854775808≤a∧a≤9223372036854775807
theorem lit_wf {a:Int} (h:i64Ok a):(Lit.int .i64 a).wf=true:=by
 unfold i64Ok at h;have e1:IntKind.i64.min=-9223372036854775808:=by decide
 have e2:IntKind.i64.max=9223372036854775807:=by decide
 simp [Lit.wf,e1,e2]
 omega
def MapL (P:Program) (k e:TypeId) (z0:Lit) (W:World) (g n:Nat) (f:Int→Lit):Prop:=
 ∃D:DataW Unit,W.ownsMap P k (plainElem P e) g n D∧∀a,D.atKey (.int .i64 a) (.lit z0)=.lit (f a)
section
variable {P:Program} {k e:TypeId} {z0:Lit} {W:World} {g n:Nat} {f:Int→Lit}
theorem MapL.made (W:World):MapL P k e z0 (W.alloc (.map #[] 0)) W.heap.size 0 (fun _=>z0):=
 ⟨.map [],World.ownsMap_made W P k _,fun a=>rfl⟩
theorem MapL.lt (h:MapL P k e z0 W g n f):g<W.heap.size:=by obtain ⟨D,h1,_⟩:=h;exact h1.lt
theorem MapL.kept {W':World} {row:Option Nat} (h:MapL P k e z0 W g n f) (hg:W.grownBy W' row) (hne:some g≠row):MapL P k e z0 W' g n f:=by
 obtain ⟨D,h1,h2⟩:=h;exact ⟨D,h1.kept hg hne,h2⟩
theorem MapL.below {W':World} (h:MapL P k e z0 W g n f) (hb:Below W.heap.size W W'):MapL P k e z0 W' g n f:=by
 obtain ⟨D,⟨es,clock,hh,F,hs,hD⟩,h2⟩:=h;exact ⟨D,⟨es,clock,(hb.block g (Array.getElem?_eq_some_iff.1 hh).1).trans hh,F,hs,hD⟩,h2⟩
theorem MapL.mono {n':Nat} (h:MapL P k e z0 W g n f) (hn:n≤n'):MapL P k e z0 W g n' f:=by
 obtain ⟨D,h1,h2⟩:=h;exact ⟨D,h1.mono hn,h2⟩
theorem MapL.put {t:TypeId} (h:MapL P k e z0 W g n f) (hk:P.underlying k=some (.int .i64)) (ht:P.underlying t=some (.map k e)) (hn:n<maxLen) {a:Int} (ha:i64Ok a) {v:Value} {l:Lit} (hv:plainElem (H:=Unit) P e v=some (.lit l,[])):
  ∃W',(Instr.mapUpdate t (.map (some g)) (.int .i64 a) v).run P W=.ok () W'∧MapL P k e z0 W' g (n+1) (fun b=>if b=a then l else f b)∧W.grownBy W' (some g):=by
 obtain ⟨D,h1,h2⟩:=h;obtain ⟨W',r1,r2,r3⟩:=h1.update (int_keyed hk) ht hn (keyOf_int_mk hk (lit_wf ha)) hv;refine ⟨W',r1,⟨_,r2,fun b=>?_⟩,r3⟩
 by_cases hb:b=a
 ·subst hb;show _=DataW.lit (if b=b then l else f b)
  rw [if_pos rfl]
  exact atKey_put_same (h1.isMap) ((int_keyed hk).key (keyOf_int_mk hk (lit_wf ha))) _ _
 ·show _=DataW.lit (if b=a then l else f b)
  rw [if_neg hb,atKey_put_other (by intro e;injection e with _ e;exact hb e),h2]
theorem plainElem_bool_inv {v:Value} {b:Bool} {ps:List MemPlace} (he:P.underlying e=some .bool) (h:plainElem (H:=Unit) P e v=some (.lit (.bool b),ps)):v=.bool b:=by
 unfold plainElem at h;rw [he] at h;cases v <;> simp at h;rw [h.1]
theorem plainElem_int_inv2 {v:Value} {b:Int} {ps:List MemPlace} (he:P.underlying e=some (.int .i64)) (h:plainElem (H:=Unit) P e v=some (.lit (.int .i64 b),ps)):v=.int .i64 b:=by
 unfold plainElem at h;rw [he] at h;cases v <;> simp at h;obtain ⟨⟨rfl,_⟩,h2⟩:=h;rw [h2.1]
theorem MapL.lookB {t:TypeId} {S:Int→Bool} (h:MapL P k e (.bool false) W g n (fun a=>.bool (S a))) (hk:P.underlying k=some (.int .i64)) (ht:P.underlying t=some (.map k e)) (he:P.underlying e=some .bool) (hz:(zeroValue e).run P W=.ok (.bool false) W) {a:Int} (ha:i64Ok a):
  (Instr.lookup t (.map (some g)) (.int .i64 a) false).run P W=.ok (.bool (S a)) W:=by
 obtain ⟨D,h1,h2⟩:=h;obtain ⟨v,ps,hrun,hv⟩:=h1.lookup (int_keyed hk) ht hz (plainElem_bool he false) (keyOf_int_mk hk (lit_wf ha))
 rw [h2] at hv;rw [hrun,plainElem_bool_inv he hv]
theorem MapL.lookI {t:TypeId} {S:Int→Int} (h:MapL P k e (.int .i64 0) W g n (fun a=>.int .i64 (S a))) (hk:P.underlying k=some (.int .i64)) (ht:P.underlying t=some (.map k e)) (he:P.underlying e=some (.int .i64)) (hz:(zeroValue e).run P W=.ok (.int .i64 0) W) {a:Int} (ha:i64Ok a):
  (Instr.lookup t (.map (some g)) (.int .i64 a) false).run P W=.ok (.int .i64 (S a)) W:=by
 obtain ⟨D,h1,h2⟩:=h;obtain ⟨v,ps,hrun,hv⟩:=h1.lookup (int_keyed hk) ht hz (plainElem_int he (lit_wf ⟨by omega,by omega⟩)) (keyOf_int_mk hk (lit_wf ha))
 rw [h2] at hv;rw [hrun,plainElem_int_inv2 he hv]
theorem wpList_mapPut {ops:Array Oper} {rest:List Oper} {o:Oper} {a:Act} {Q:Exit→Act→World→Prop} (hg:o.guard=none) {m x v:Operand} {t:TypeId} (hop:o.op=Op.mapUpdate t m x v) (hk:P.underlying k=some (.int .i64)) (ht:P.underlying t=some (.map k e))
  (hm:a.eval m=.map (some g)) {key:Int} {val:Value} {l:Lit} (hx:a.eval x=.int .i64 key) (hv:a.eval v=val) (h:MapL P k e z0 W g n f) (hn:n<maxLen) (hkey:i64Ok key) (hval:plainElem (H:=Unit) P e val=some (.lit l,[]))
  (hK:∀W',MapL P k e z0 W' g (n+1) (fun b=>if b=key then l else f b)→W.grownBy W' (some g)→wpList P ops Q rest (a.put o.dst undef) W'):wpList P ops Q (o :: rest) a W:=by
 refine wpList_plain hg fun K' hK'=>?_;obtain ⟨W',hrun,r1,r2⟩:=h.put hk ht hn hkey hval;unfold Oper.wp;simp [execOp,hop,hm,hx,hv,hrun,Result.andThen]
 exact hK' _ _ (hK W' r1 r2)
end
end
end Go.Proofs.YteejianjjpdimaaGreat
namespace Go.Proofs.YteejianjjpdimaaGreat.L06
open L02 L05
def SupOk (W T:Int):Prop:=SizeOk W∧0≤T∧T≤8
instance (W T:Int):Decidable (SupOk W T):=inferInstanceAs (Decidable (SizeOk W∧0≤T∧T≤8))
def magic:UInt64:=32777959566500194
def u (n:Int):UInt64:=UInt64.ofNat n.toNat
def body (W T:Int):List UInt64:=[magic,1,u W,u T,0,0,0]
def wordsOf (W T:Int):List UInt64:=body W T++[sum (body W T)]
def write (W T:Int):List UInt64:=if SupOk W T then wordsOf W T else []
def at2 (l:List UInt64):Int:=(l.getD 2 0).toNat
def at3 (l:List UInt64):Int:=(l.getD 3 0).toNat
def ReadOk (l:List UInt64):Prop:=SupOk (at2 l) (at3 l)∧l=wordsOf (at2 l) (at3 l)
instance (l:List UInt64):Decidable (ReadOk l):=inferInstanceAs (Decidable (SupOk (at2 l) (at3 l)∧l=wordsOf (at2 l) (at3 l)))
def rdW (l:List UInt64):Int:=if ReadOk l then at2 l else 0
def rdT (l:List UInt64):Int:=if ReadOk l then at3 l else 0
def rdErr (l:List UInt64):Int:=if l.length=8 then (if ReadOk l then 0 else 50) else 2
theorem u_nat {n:Int} (h0:0≤n) (h1:n<18446744073709551616):((u n).toNat:Int)=n:=by
 unfold u;rw [UInt64.toNat_ofNat',Nat.mod_eq_of_lt (by omega)];omega
theorem len_words (W T:Int):(wordsOf W T).length=8:=rfl
theorem readOk_len {l:List UInt64} (h:ReadOk l):l.length=8:=by rw [h.2];rfl
theorem rd_no {l:List UInt64} (h:¬ReadOk l):rdW l=0∧rdT l=0:=⟨if_neg h,if_neg h⟩
/-! ### the sum tells one byte -/
def inv:UInt64:=14886173955864302971
end Go.Proofs.YteejianjjpdimaaGreat.L06
namespace Go.Proofs.YteejianjjpdimaaGreat.L07
open L02 L05 L06
def c0 (m:List UInt64):List UInt64:=m.take 8
def c1 (m:List UInt64):List UInt64:=(m.drop 8).take 8
def CopyOk (n:Nat) (l:List UInt64):Prop:=ReadOk l∧at2 l=(n:Int)
instance (n:Nat) (l:List UInt64):Decidable (CopyOk n l):=inferInstanceAs (Decidable (ReadOk l∧at2 l=(n:Int)))
def is0 (m:List UInt64):Bool:=decide (SizeOk m.length∧CopyOk m.length (c0 m))
def is1 (m:List UInt64):Bool:=decide (SizeOk m.length∧CopyOk m.length (c1 m))
def rErr (m:List UInt64):Int:=if SizeOk m.length then (if is0 m=true∨is1 m=true then 0 else 50) else 8
def one (m:List UInt64):List UInt64:=if is0 m=true then c0 m else c1 m
def sW (m:List UInt64):Int:=if rErr m=0 then (m.length:Int) else 0
def sT (m:List UInt64):Int:=if rErr m=0 then at3 (one m) else 0
def view (m:List UInt64):List UInt64:=if rErr m=0 then one m++(one m++m.drop 16) else []
def heals (m:List UInt64):List (Int×UInt64):=if rErr m=0 then (diffs m (view m)).map fun i=>(i,(view m).getD i.toNat 0) else []
theorem c0_len {m:List UInt64} (h:SizeOk m.length):(c0 m).length=8:=by have:=h.1;simp [c0];omega
theorem c1_len {m:List UInt64} (h:SizeOk m.length):(c1 m).length=8:=by have:=h.1;simp [c1];omega
theorem rErr_ok {m:List UInt64} (h:rErr m=0):SizeOk m.length∧(is0 m=true∨is1 m=true):=by
 unfold rErr at h;split at h
 ·split at h
  ·exact ⟨‹_›,‹_›⟩
  ·omega
 ·omega
theorem rErr_mk {m:List UInt64} (h:SizeOk m.length) (h1:is0 m=true∨is1 m=true):rErr m=0:=by rw [rErr,if_pos h,if_pos h1]
theorem rErr_no {m:List UInt64} (h:¬SizeOk m.length):rErr m=8:=if_neg h
theorem rErr_50 {m:List UInt64} (h:SizeOk m.length) (h0:is0 m=false) (h1:is1 m=false):rErr m=50:=by rw [rErr,if_pos h,if_neg (by simp [h0,h1])]
theorem is0_no {m:List UInt64} (h:¬SizeOk m.length):is0 m=false:=decide_eq_false (fun x=>h x.1)
theorem is1_no {m:List UInt64} (h:¬SizeOk m.length):is1 m=false:=decide_eq_false (fun x=>h x.1)
theorem is0_good {m:List UInt64} (h:SizeOk m.length):is0 m=decide (CopyOk m.length (c0 m)):=by simp [is0,h]
theorem is1_good {m:List UInt64} (h:SizeOk m.length):is1 m=decide (CopyOk m.length (c1 m)):=by simp [is1,h]
theorem one_good {m:List UInt64} (h:rErr m=0):CopyOk m.length (one m):=by
 obtain ⟨_,h1⟩:=rErr_ok h;unfold one;split
 ·rename_i h0;exact (of_decide_eq_true h0).2
 ·rename_i h0;exact (of_decide_eq_true (h1.resolve_left h0)).2
theorem one_len {m:List UInt64} (h:rErr m=0):(one m).length=8:=readOk_len (one_good h).1
theorem view_ok {m:List UInt64} (h:rErr m=0):view m=one m++(one m++m.drop 16):=if_pos h
theorem view_len {m:List UInt64} (h:rErr m=0):(view m).length=m.length:=by
 have:=(rErr_ok h).1.1;rw [view_ok h];simp [one_len h];omega
section
variable {m a b:List UInt64}
end
theorem diffsTo_mem {a b:List UInt64} {k:Nat} {x:Int} (h:x∈diffsTo a b k):∃i:Nat,x=(i:Int)∧i<k∧a[i]?≠b[i]?:=by
 unfold diffsTo at h;obtain ⟨i,hi,rfl⟩:=List.mem_map.1 h;obtain ⟨h1,h2⟩:=List.mem_filter.1 hi;exact ⟨i,rfl,List.mem_range.1 h1,of_decide_eq_true h2⟩
theorem diffsTo_more {a b:List UInt64} {n:Nat} (h:∀i,n≤i→a[i]?=b[i]?):∀k,n≤k→diffsTo a b k=diffsTo a b n
 | 0,h0=>by rw [Nat.le_zero.1 h0]
 | k+1,h0=>by
  by_cases hk:n=k+1
  ·rw [hk]
  ·rw [diffsTo_succ,diffsTo_more h k (by omega),if_neg (by simp [h k (by omega)]),List.append_nil]
theorem diffsTo_congr {a b a' b':List UInt64} {k:Nat} (h1:∀i,i<k→a[i]?=a'[i]?) (h2:∀i,i<k→b[i]?=b'[i]?):diffsTo a b k=diffsTo a' b' k:=by
 unfold diffsTo;congr 1;apply List.filter_congr;intro i hi;rw [h1 i (List.mem_range.1 hi),h2 i (List.mem_range.1 hi)]
section
variable {m:List UInt64}
theorem diff_ok (h:rErr m=0):diffErr m (view m)=0∧diffs m (view m)=diffsTo m (view m) m.length:=by
 have h1:=(rErr_ok h).1;have h2:=view_len h;have e:diffErr m (view m)=0:=by rw [diffErr,if_pos ⟨h1,by rw [h2];exact h1⟩,if_pos h2.symm]
 exact ⟨e,if_pos e⟩
theorem view_far (h:rErr m=0) {i:Nat} (hi:16≤i):m[i]?=(view m)[i]?:=by
 rw [view_ok h,List.getElem?_append_right (by rw [one_len h];omega),List.getElem?_append_right (by rw [one_len h];omega),List.getElem?_drop,one_len h]
 congr 1;omega
theorem heals_to (h:rErr m=0):heals m=(diffsTo m (view m) 16).map fun i=>(i,(view m).getD i.toNat 0):=by
 have:=(rErr_ok h).1.1;rw [heals,if_pos h,(diff_ok h).2,diffsTo_more (fun i hi=>view_far h hi) m.length (by omega)]
theorem apart {k:Nat} (hk:16≤k) (x:UInt64):rErr (m.set k x)=rErr m∧is0 (m.set k x)=is0 m∧is1 (m.set k x)=is1 m∧sW (m.set k x)=sW m∧sT (m.set k x)=sT m∧heals (m.set k x)=heals m:=by
 have e0:c0 (m.set k x)=c0 m:=by rw [c0,List.take_set_of_le (by omega)];rfl
 have e1:c1 (m.set k x)=c1 m:=by rw [c1,List.drop_set,if_neg (by omega),List.take_set_of_le (by omega)];rfl
 have i0:is0 (m.set k x)=is0 m:=by unfold is0;rw [e0,List.length_set]
 have i1:is1 (m.set k x)=is1 m:=by unfold is1;rw [e1,List.length_set]
 have r:rErr (m.set k x)=rErr m:=by unfold rErr;rw [i0,i1,List.length_set]
 have o:one (m.set k x)=one m:=by unfold one;rw [i0,e0,e1]
 refine ⟨r,i0,i1,by unfold sW;rw [r,List.length_set],by unfold sT;rw [r,o],?_⟩
 by_cases h:rErr m=0
 ·have h':rErr (m.set k x)=0:=r.trans h;have ev:∀i,i<16→(view (m.set k x))[i]?=(view m)[i]?:=fun i hi=>by
   rw [view_ok h,view_ok h',o,←List.append_assoc,←List.append_assoc,List.getElem?_append_left (l₁:=one m++one m) (by simp [one_len h];omega),List.getElem?_append_left (l₁:=one m++one m) (by simp [one_len h];omega)]
  rw [heals_to h,heals_to h',diffsTo_congr (a':=m) (b':=view m) (fun i hi=>by rw [List.getElem?_set_ne (by omega)]) ev]
  apply List.map_congr_left;intro y hy;obtain ⟨i,rfl,hi,_⟩:=diffsTo_mem hy;simp only [Int.toNat_natCast,List.getD_eq_getElem?_getD,ev i hi]
 ·rw [heals,if_neg (by rw [r];exact h),heals,if_neg h]
end
def made (W T:Int):List UInt64:=wordsOf W T++(wordsOf W T++List.replicate (W.toNat-16) 0)
theorem made_len {W T:Int} (h:SupOk W T):(made W T).length=W.toNat:=by
 have:=h.1.1;simp [made,len_words];omega
end Go.Proofs.YteejianjjpdimaaGreat.L07
namespace Go.Proofs.YteejianjjpdimaaGreat.L18
open L02
theorem ws_set {l:List UInt64} {k:Nat} (x:UInt64) (hk:k<16):ws (l.set (112+k) x)=(ws l).set k x:=by
 unfold ws;rw [List.drop_set,if_neg (by omega),show 112+k-112=k by omega,List.take_set]
theorem slots_set {l:List UInt64} {k:Nat} (x:UInt64) (hk:k<16):slots (l.set (112+k) x)=(slots l).set k (spl x):=by
 unfold slots;rw [ws_set x hk,List.map_set]
theorem size_of {l:List UInt64} (h:openErr l=0):SizeOk l.length:=by
 unfold openErr at h;split at h
 ·assumption
 ·omega
theorem allR_of {l:List UInt64} (h:openErr l=0):AllR l:=by
 unfold openErr at h;split at h
 ·split at h
  ·assumption
  ·omega
 ·omega
theorem openErr_set {l:List UInt64} {k:Nat} {x:UInt64} (h:openErr l=0) (hk:k<16) (hx:Right (spl x)):openErr (l.set (112+k) x)=0:=by
 have h1:=size_of h;have h2:=allR_of h;unfold openErr;rw [List.length_set,if_pos h1,if_pos]
 intro y hy;rw [ws_set x hk] at hy;rcases List.mem_or_eq_of_mem_set hy with h3 | rfl
 ·exact h2 y h3
 ·exact hx
theorem slots_len' {l:List UInt64} (h:openErr l=0):(slots l).length=16:=by
 have:=(size_of h).1;simp [slots,ws];omega
theorem newErr_ok {l:List UInt64} {a:Int} (h:newErr l a=0):openErr l=0∧(128≤a∧a<2048)∧∃k,next (slots l)=some k:=by
 unfold newErr at h;split at h
 ·rename_i h0;split at h
  ·rename_i h1;split at h
   ·omega
   ·rename_i h2;exact ⟨h0,h1,Option.ne_none_iff_exists'.1 h2⟩
  ·omega
 ·rename_i h0;exact absurd h h0
theorem nextFrom_some:∀{L:List Sl} {j k:Nat},nextFrom L j=some k→j≤k∧(∃s,L[k-j]?=some s∧s.used=false∧s.gen≠2147483647)∧∀i s,i<k-j→L[i]?=some s→¬(s.used=false∧s.gen≠2147483647)
 | [],_,_,h=>by cases h
 | s :: L,j,k,h=>by
  rw [nextFrom] at h;split at h
  ·rename_i h2;injection h with h
   subst h;exact ⟨Nat.le_refl _,⟨s,by simp,h2⟩,fun i t hi=>by omega⟩
  ·rename_i h2;obtain ⟨h1,⟨t,h3,h4⟩,h5⟩:=nextFrom_some h;refine ⟨by omega,⟨t,by rw [show k-j=(k-(j+1))+1 by omega,List.getElem?_cons_succ];exact h3,h4⟩,fun i u hi hu=>?_⟩
   cases i with
   | zero=>simp at hu;subst hu;exact h2
   | succ i=>exact h5 i u (by omega) (by simpa using hu)
theorem new_spec {l:List UInt64} {a:Int} (h:newErr l a=0):∃(k:Nat) (s:Sl),k<16∧(slots l)[k]?=some s∧s.used=false∧s.gen≠2147483647∧Right s∧Right ⟨s.gen+1,true,a⟩∧newSlot l a=(k:Int)∧newGen l a=s.gen+1∧newAt l a=112+(k:Int)∧newVal l a=pk ⟨s.gen+1,true,a⟩∧
  ∀i t,i<k→(slots l)[i]?=some t→¬(t.used=false∧t.gen≠2147483647):=by
 obtain ⟨h0,ha,k,hk⟩:=newErr_ok h;obtain ⟨_,⟨s,h1,h2,h3⟩,h4⟩:=nextFrom_some hk;rw [Nat.sub_zero] at h1 h4;have hk16:k<16:=by have:=(List.getElem?_eq_some_iff.1 h1).1;rw [slots_len' h0] at this;exact this
 have hR:Right s:=by
  obtain ⟨x,hx,hxs⟩:=List.mem_map.1 (List.mem_of_getElem? h1)
  rw [←hxs];exact allR_of h0 x hx
 have e2:newGen l a=s.gen+1:=by rw [newGen,if_pos h,hk];simp [List.getD_eq_getElem?_getD,h1]
 have g0:=hR.1;have g1:=hR.2.1;refine ⟨k,s,hk16,h1,h2,h3,hR,⟨by show 0≤s.gen+1;omega,by show s.gen+1≤2147483647;omega,by simp,fun _=>⟨by show 0<s.gen+1;omega,ha.1,ha.2⟩⟩,?_,e2,?_,?_,h4⟩
 ·rw [newSlot,if_pos h,hk];rfl
 ·rw [newAt,if_pos h,hk];rfl
 ·rw [newVal,if_pos h,e2]
theorem resErr_ok {l:List UInt64} {sl g:Int} (h:resErr l sl g=0):openErr l=0∧∃(k:Nat) (s:Sl),k<16∧sl=(k:Int)∧(slots l)[k]?=some s∧s.used=true∧s.gen=g∧Right s∧res l sl g=s.at_:=by
 have hr:=h;unfold resErr at h;split at h
 ·rename_i h0;unfold rightErr at h;rw [slots_len' h0] at h;split at h
  ·rename_i h1;split at h
   ·rename_i h2;obtain ⟨k,rfl⟩:=Int.eq_ofNat_of_zero_le h1.1;have hk:k<16:=by omega
    have hs:(slots l)[k]?=some ((slots l)[k]'(by rw [slots_len' h0];exact hk)):=List.getElem?_eq_getElem _;have hgd:(slots l).getD (k:Int).toNat .none=(slots l)[k]'(by rw [slots_len' h0];exact hk):=by simp [List.getD_eq_getElem?_getD,hs]
    rw [hgd] at h2;refine ⟨h0,k,_,hk,rfl,hs,h2.1,h2.2,?_,by rw [res,if_pos hr,hgd]⟩
    obtain ⟨x,hx,hxs⟩:=List.mem_map.1 (List.mem_of_getElem? hs)
    rw [←hxs];exact allR_of h0 x hx
   ·omega
  ·omega
 ·rename_i h0;exact absurd h h0
theorem resErr_at {l:List UInt64} {k:Nat} {s:Sl} (h:openErr l=0) (hs:(slots l)[k]?=some s) (g:Int):resErr l k g=(if s.used=true∧s.gen=g then 0 else 28)∧(s.used=true→s.gen=g→res l k g=s.at_):=by
 have hk:k<16:=by have:=(List.getElem?_eq_some_iff.1 hs).1;rw [slots_len' h] at this;exact this
 have hgd:(slots l).getD (k:Int).toNat .none=s:=by simp [List.getD_eq_getElem?_getD,hs]
 have e:resErr l k g=(if s.used=true∧s.gen=g then 0 else 28):=by
  rw [resErr,if_pos h,rightErr,if_pos ⟨by omega,by rw [slots_len' h];omega⟩,hgd]
 exact ⟨e,fun h1 h2=>by rw [res,e,if_pos (if_pos ⟨h1,h2⟩),hgd]⟩
end Go.Proofs.YteejianjjpdimaaGreat.L18
namespace Go.Proofs.YteejianjjpdimaaGreat.L19
open L02 L07 L13 L14 L15 L18
def Zr (l:List UInt64) (a:Nat):Prop:=∀i,i<8→l.getD (a+i) 0=0
instance (l:List UInt64) (a:Nat):Decidable (Zr l a):=inferInstanceAs (Decidable (∀i,i<8→_))
def objs (L:List Hb):List Hb:=L.filter fun b=>decide (b.kind=1)
def IsObj (O:List Hb) (a:Int):Prop:=∃b∈O,b.at_=a
instance (O:List Hb) (a:Int):Decidable (IsObj O a):=inferInstanceAs (Decidable (∃b∈O,_))
def kindsB (T:List (List UInt8)) (b:Hb):List UInt8:=T.getD b.ty.toNat []
def fw (l:List UInt64) (b:Hb) (i:Nat):UInt64:=l.getD (b.at_.toNat+2+i) 0
def Idle (b:Hb):Prop:=b.mark=false∧b.next=0
instance (b:Hb):Decidable (Idle b):=inferInstanceAs (Decidable (_∧_))
def Typed (T:List (List UInt8)) (b:Hb):Prop:=b.ty<T.length∧b.size=2+(((kindsB T b).length+1) / 2*2:Nat)
instance (T:List (List UInt8)) (b:Hb):Decidable (Typed T b):=inferInstanceAs (Decidable (_∧_))
def Padded (l:List UInt64) (T:List (List UInt8)) (b:Hb):Prop:=(kindsB T b).length % 2=0∨fw l b (kindsB T b).length=0
instance (l:List UInt64) (T:List (List UInt8)) (b:Hb):Decidable (Padded l T b):=inferInstanceAs (Decidable (_∨_))
def FloatsB (l:List UInt64) (T:List (List UInt8)) (b:Hb):Prop:=∀i,i<(kindsB T b).length→((kindsB T b).getD i 0).toNat=2→L20.FloatOk (fw l b i)
instance (l:List UInt64) (T:List (List UInt8)) (b:Hb):Decidable (FloatsB l T b):=inferInstanceAs (Decidable (∀i,i<_→_))
def RefsB (l:List UInt64) (T:List (List UInt8)) (O:List Hb) (b:Hb):Prop:=∀i,i<(kindsB T b).length→((kindsB T b).getD i 0).toNat=3→(fw l b i=0∨IsObj O (fw l b i).toNat)
instance (l:List UInt64) (T:List (List UInt8)) (O:List Hb) (b:Hb):Decidable (RefsB l T O b):=inferInstanceAs (Decidable (∀i,i<_→_))
def Good (l:List UInt64) (T:List (List UInt8)) (O:List Hb) (r:Nat) (b:Hb):Prop:=
 match r with
 | 7=>Idle b
 | 8=>Typed T b
 | 9=>Padded l T b
 | 10=>FloatsB l T b
 | _=>RefsB l T O b
instance (l:List UInt64) (T:List (List UInt8)) (O:List Hb) (r:Nat) (b:Hb):Decidable (Good l T O r b):=by
 unfold Good;split <;> infer_instance
def AllGood (l:List UInt64) (T:List (List UInt8)) (O:List Hb) (r:Nat):Prop:=∀b∈O,Good l T O r b
instance (l:List UInt64) (T:List (List UInt8)) (O:List Hb) (r:Nat):Decidable (AllGood l T O r):=inferInstanceAs (Decidable (∀b∈O,_))
def SlotsGood (S:List Sl) (O:List Hb):Prop:=∀s∈S,s.used=true→IsObj O s.at_
instance (S:List Sl) (O:List Hb):Decidable (SlotsGood S O):=inferInstanceAs (Decidable (∀s∈S,_→_))
def T19 (l:List UInt64):List (List UInt8):=tabT l (sT l)
def O19 (l:List UInt64):List Hb:=objs (allL l)
def why6 (l:List UInt64):Nat:=
 if rErr l≠0 then 1 else if ¬Zr l 16 then 2 else if ¬Zr l 24 then 3 else if tabErr l (sT l)≠0 then 4 else if openErr l≠0 then 5 else if allErr l≠0 then 6 else 0
def whyO (l:List UInt64) (T:List (List UInt8)) (O:List Hb):Nat→Nat→Nat
 | 0,_=>0
 | f+1,r=>if AllGood l T O r then whyO l T O f (r+1) else r
def why (l:List UInt64):Nat:=
 if why6 l≠0 then why6 l else if whyO l (T19 l) (O19 l) 5 7≠0 then whyO l (T19 l) (O19 l) 5 7 else if SlotsGood (slots l) (O19 l) then 0 else 12
def reaE (l:List UInt64):Int:=if SizeOk l.length then 0 else 8
def rea (l:List UInt64):Nat:=if SizeOk l.length then why l else 0
def chk19 (l:List UInt64):Int:=if SizeOk l.length then (if why l=0 then 0 else 50) else 8
theorem whyO_zero {l:List UInt64} {T:List (List UInt8)} {O:List Hb}:∀(f r:Nat),0<r→(whyO l T O f r=0↔∀i,r≤i→i<r+f→AllGood l T O i)
 | 0,r,_=>⟨fun _ i h1 h2=>by omega,fun _=>rfl⟩
 | f+1,r,hr=>by
  rw [whyO]
  by_cases h:AllGood l T O r
  ·rw [if_pos h,whyO_zero f (r+1) (by omega)]
   refine ⟨fun h2 i h3 h4=>?_,fun h2 i h3 h4=>h2 i (by omega) (by omega)⟩
   by_cases hi:i=r
   ·subst hi;exact h
   ·exact h2 i (by omega) (by omega)
  ·rw [if_neg h]
   exact ⟨fun h2=>by omega,fun h2=>absurd (h2 r (Nat.le_refl _) (by omega)) h⟩
theorem why6_zero {l:List UInt64}:why6 l=0↔rErr l=0∧Zr l 16∧Zr l 24∧tabErr l (sT l)=0∧openErr l=0∧allErr l=0:=by
 unfold why6;by_cases h1:rErr l=0 <;> by_cases h2:Zr l 16 <;> by_cases h3:Zr l 24 <;> by_cases h4:tabErr l (sT l)=0 <;> by_cases h5:openErr l=0 <;> by_cases h6:allErr l=0 <;> simp [h1,h2,h3,h4,h5,h6]
theorem why_zero {l:List UInt64}:why l=0↔why6 l=0∧(∀i,7≤i→i<12→AllGood l (T19 l) (O19 l) i)∧SlotsGood (slots l) (O19 l):=by
 have h:=whyO_zero (l:=l) (T:=T19 l) (O:=O19 l) 5 7 (by omega)
 unfold why;by_cases h1:why6 l=0
 ·simp only [h1,ne_eq,not_true,if_false,true_and]
  by_cases h2:whyO l (T19 l) (O19 l) 5 7=0
  ·simp only [h2,ne_eq,not_true,if_false]
   have h2':=h.1 h2;by_cases h3:SlotsGood (slots l) (O19 l)
   ·simp only [h3,if_true,and_true,true_iff];exact h2'
   ·simp [h3]
  ·simp only [ne_eq,h2,not_false_eq_true,if_true,false_iff]
   exact fun hh=>h2 (h.2 hh.1)
 ·simp [h1]
theorem chk19_ok {l:List UInt64} (h:chk19 l=0):SizeOk l.length∧why l=0:=by
 unfold chk19 at h;split at h
 ·split at h
  ·rename_i h1 h2;exact ⟨h1,h2⟩
  ·omega
 ·omega
end Go.Proofs.YteejianjjpdimaaGreat.L19
namespace Go.Proofs.YteejianjjpdimaaGreat.L19
open L02 L07 L13 L14 L15 L18
theorem getD_set_ne {l:List UInt64} {p k:Nat} {v:UInt64} (h:p≠k):(l.set p v).getD k 0=l.getD k 0:=by
 rw [List.getD_eq_getElem?_getD,List.getD_eq_getElem?_getD,List.getElem?_set_ne h]
theorem getD_set_self {l:List UInt64} {p:Nat} {v:UInt64} (h:p<l.length):(l.set p v).getD p 0=v:=by
 rw [List.getD_eq_getElem?_getD,List.getElem?_set_self h];rfl
theorem stOk_set {l:List UInt64} {p k:Nat} {v:UInt64} (h:p≠k):StOk (l.set p v) k↔StOk l k:=by
 unfold StOk;rw [getD_set_ne h,List.length_set]
theorem szN_set {l:List UInt64} {p k:Nat} {v:UInt64} (h:p≠k):szN (l.set p v) k=szN l k:=by
 unfold szN;rw [getD_set_ne h]
theorem stand_set {l:List UInt64} {p k:Nat} {v:UInt64} (h:p≠k) (h2:p≠k+1):stand (l.set p v) k=stand l k:=by
 unfold stand;rw [getD_set_ne h,getD_set_ne h2]
theorem stand_set1 {l:List UInt64} {p k:Nat} {v:UInt64} (h:p≠k):stand (l.set p v) k={ stand l k with next:=(l.set p v).getD (k+1) 0 }:=by
 unfold stand;rw [getD_set_ne h]
theorem chain_set {l:List UInt64} {p k:Nat} {v:UInt64} {L:List Hb} (h:Chain l k L) (hp:∀b∈L,b.at_≠(p:Int)):Chain (l.set p v) k (L.map fun b=>{ b with next:=(l.set p v).getD (b.at_.toNat+1) 0 }):=by
 induction h with
 | nil=>
  have h0:Chain (l.set p v) (l.set p v).length []:=.nil;rw [List.length_set] at h0;exact h0
 | cons hk hs hc ih=>
  rename_i k L;have hpk:p≠k:=fun e=>hp _ List.mem_cons_self (by rw [stand_at,e])
  have h1:=ih fun b hb=>hp b (List.mem_cons_of_mem _ hb)
  rw [List.map_cons,stand_at,Int.toNat_natCast]
  show Chain (l.set p v) k ({ stand l k with next:=(l.set p v).getD (k+1) 0 } :: _)
  rw [show ({ stand l k with next:=(l.set p v).getD (k+1) 0 }:Hb)=stand (l.set p v) k from (stand_set1 hpk).symm]
  refine .cons (by rw [List.length_set];exact hk) ((stOk_set hpk).2 hs) ?_;rw [szN_set hpk];exact h1
theorem fromF_set {l:List UInt64} {p:Nat} {v:UInt64}:∀(f k:Nat),p<k→fromF (l.set p v) f k=fromF l f k
 | 0,k,h=>by rw [fromF,fromF,List.length_set]
 | f+1,k,h=>by
  rw [fromF,fromF,List.length_set]
  by_cases hl:k=l.length
  ·rw [if_pos hl,if_pos hl]
  ·rw [if_neg hl,if_neg hl]
   by_cases hs:StOk l k
   ·have hz:=szN_ge hs;rw [if_pos hs,if_pos ((stOk_set (by omega)).2 hs),stand_set (by omega) (by omega),szN_set (by omega),fromF_set f _ (by omega)]
   ·rw [if_neg hs,if_neg (fun h2=>hs ((stOk_set (by omega)).1 h2))]
theorem from_set {l:List UInt64} {p k:Nat} {v:UInt64} (h:p<k):from_ (l.set p v) k=from_ l k:=by
 unfold from_;rw [List.length_set,fromF_set _ _ h]
theorem parsed_set {l:List UInt64} {p:Nat} {v:UInt64} (h:p<128):parsed (l.set p v)=parsed l:=by
 unfold parsed;rw [from_set h]
theorem allErr_set {l:List UInt64} {p:Nat} {v:UInt64} (h:p<128):allErr (l.set p v)=allErr l:=by
 unfold allErr;rw [List.length_set,parsed_set h]
theorem allL_set {l:List UInt64} {p:Nat} {v:UInt64} (h:p<128):allL (l.set p v)=allL l:=by
 unfold allL;rw [allErr_set h,parsed_set h]
theorem c0_set {l:List UInt64} {p:Nat} {v:UInt64} (h:8≤p):c0 (l.set p v)=c0 l:=by
 unfold c0;rw [List.take_set_of_le h]
theorem c1_set {l:List UInt64} {p:Nat} {v:UInt64} (h:16≤p):c1 (l.set p v)=c1 l:=by
 unfold c1;rw [List.drop_set,if_neg (by omega),List.take_set_of_le (by omega)]
theorem rErr_set {l:List UInt64} {p:Nat} {v:UInt64} (h:16≤p):rErr (l.set p v)=rErr l∧sT (l.set p v)=sT l∧sW (l.set p v)=sW l:=by
 have e0:is0 (l.set p v)=is0 l:=by unfold is0;rw [c0_set (by omega),List.length_set]
 have e1:is1 (l.set p v)=is1 l:=by unfold is1;rw [c1_set h,List.length_set]
 have e2:rErr (l.set p v)=rErr l:=by unfold rErr;rw [e0,e1,List.length_set]
 refine ⟨e2,?_,?_⟩
 ·unfold sT one;rw [e2,e0,c0_set (by omega),c1_set h]
 ·unfold sW;rw [e2,List.length_set]
theorem zr_set {l:List UInt64} {p a:Nat} {v:UInt64} (h:p<a∨a+8≤p):Zr (l.set p v) a↔Zr l a:=by
 unfold Zr;constructor <;> intro hh i hi <;> have:=hh i hi <;> rw [getD_set_ne (by omega)] at*<;> exact this
theorem ta_set {l:List UInt64} {p i:Nat} {v:UInt64} (h:p<96∨112≤p) (hi:i<8):ta (l.set p v) i=ta l i∧tb (l.set p v) i=tb l i:=by
 unfold ta tb;exact ⟨getD_set_ne (by omega),getD_set_ne (by omega)⟩
theorem tabErr_set {l:List UInt64} {p:Nat} {v:UInt64} (h:p<96∨112≤p) (n:Int):tabErr (l.set p v) n=tabErr l n∧tabT (l.set p v) n=tabT l n:=by
 have e:∀k,TysOk (l.set p v) k↔TysOk l k:=fun k=>by
  unfold TysOk;constructor <;> intro hh i hi <;> have:=hh i hi <;> unfold TyOk at*<;> rw [(ta_set h hi).1,(ta_set h hi).2] at*<;> exact this
 have e2:tabErr (l.set p v) n=tabErr l n:=by
  unfold tabErr;rw [List.length_set];simp only [e]
 refine ⟨e2,?_⟩
 unfold tabT;rw [e2]
 by_cases h0:tabErr l n=0
 ·rw [if_pos h0,if_pos h0]
  have hn:n.toNat≤8:=by
   unfold tabErr at h0;split at h0
   ·split at h0
    ·omega
    ·omega
   ·omega
  unfold tysTo;refine List.map_congr_left fun i hi=>?_
  have:=List.mem_range.1 hi;rw [(ta_set h (by omega)).1,(ta_set h (by omega)).2]
 ·rw [if_neg h0,if_neg h0]
theorem open_set {l:List UInt64} {p:Nat} {v:UInt64} (h:p<112∨128≤p):openErr (l.set p v)=openErr l∧slots (l.set p v)=slots l:=by
 have e:ws (l.set p v)=ws l:=by
  unfold ws;rw [List.drop_set]
  split
  ·rfl
  ·rw [List.take_set_of_le (by omega)]
 refine ⟨?_,by unfold slots;rw [e]⟩
 have e2:AllR (l.set p v)↔AllR l:=by unfold AllR;rw [e]
 unfold openErr;rw [List.length_set];simp only [e2]
theorem fw_set {l:List UInt64} {p i:Nat} {v:UInt64} {b:Hb} (h:p≠b.at_.toNat+2+i):fw (l.set p v) b i=fw l b i:=getD_set_ne h
theorem good_congr {l l':List UInt64} {T:List (List UInt8)} {O:List Hb} {r:Nat} {b:Hb} (h:∀i,i≤(kindsB T b).length→((kindsB T b).length % 2=0→i<(kindsB T b).length)→fw l' b i=fw l b i):Good l' T O r b↔Good l T O r b:=by
 unfold Good;split
 ·exact Iff.rfl
 ·exact Iff.rfl
 ·unfold Padded;by_cases h2:(kindsB T b).length % 2=0
  ·simp [h2]
  ·rw [h _ (Nat.le_refl _) (fun e=>absurd e h2)]
 ·unfold FloatsB;constructor <;> intro hh i hi <;> have:=hh i hi <;> rw [h i (by omega) (fun _=>hi)] at*<;> exact this
 ·unfold RefsB;constructor <;> intro hh i hi <;> have:=hh i hi <;> rw [h i (by omega) (fun _=>hi)] at*<;> exact this
theorem chain_apart {l:List UInt64} {k:Nat} {L:List Hb} (h:Chain l k L):(∀b∈L,(k:Int)≤b.at_)∧L.Pairwise fun a b=>a.at_+a.size≤b.at_:=by
 induction h with
 | nil=>exact ⟨fun b hb=>(by cases hb),.nil⟩
 | cons hk hs hc ih=>
  rename_i k L;have hz:=szN_ge hs;have hst:=stand_size hs;refine ⟨fun b hb=>?_,List.pairwise_cons.2 ⟨fun b hb=>?_,ih.2⟩⟩
  ·rcases List.mem_cons.1 hb with rfl | hb
   ·exact Int.le_refl _
   ·have:=ih.1 b hb;omega
  ·have:=ih.1 b hb;rw [stand_at,hst];omega
theorem apart_of {L:List Hb} (h:L.Pairwise fun a b=>a.at_+a.size≤b.at_) {a b:Hb} (ha:a∈L) (hb:b∈L):a=b∨a.at_+a.size≤b.at_∨b.at_+b.size≤a.at_:=by
 induction h with
 | nil=>cases ha
 | cons h1 _ ih=>
  rcases List.mem_cons.1 ha with e1 | ha
  ·rcases List.mem_cons.1 hb with e2 | hb
   ·exact .inl (e1.trans e2.symm)
   ·rw [e1];exact .inr (.inl (h1 b hb))
  ·rcases List.mem_cons.1 hb with e2 | hb
   ·rw [e2];exact .inr (.inr (h1 a ha))
   ·exact ih ha hb
theorem all_mem {l:List UInt64} (h:allErr l=0) {b:Hb} (hb:b∈allL l):∃a:Nat,128≤a∧a<l.length∧StOk l a∧b=stand l a∧a % 2=0:=by
 obtain ⟨a,h1,h2,h3,h4,h5⟩:=chain_mem (chain_iff.1 (parsed_ok.1 (allErr_ok h).2).1) b hb;exact ⟨a,h1,h2,h3,h4,h5 rfl⟩
theorem all_apart {l:List UInt64} (h:allErr l=0) {a b:Hb} (ha:a∈allL l) (hb:b∈allL l):a=b∨a.at_+a.size≤b.at_∨b.at_+b.size≤a.at_:=
 apart_of (chain_apart (chain_iff.1 (parsed_ok.1 (allErr_ok h).2).1)).2 ha hb
theorem objs_mem {L:List Hb} {b:Hb}:b∈objs L↔b∈L∧b.kind=1:=by unfold objs;rw [List.mem_filter];simp
end Go.Proofs.YteejianjjpdimaaGreat.L19
