/- Contracts of the functions that the laws 'T' reach, part 18. No condition. -/
import Derived.Test.YteejianjjpdimaaGreatMTq
set_option linter.unusedVariables false
set_option linter.unusedSimpArgs false
set_option maxRecDepth 100000
set_option maxHeartbeats 8000000
namespace Go.Proofs.YteejianjjpdimaaGreat
section
open Go.RowKit L01 L02 L05 L06 L07 L13 L14 L15 L18 L19 L20
theorem ent_bx {w:World} {base p:Nat} {a:Int} {x:UInt64} (h:Bx w p 131 #[.int .i64 a,.int .u64 x.toNat]) (hb:base≤p):OwnE w base (.slice (some ⟨p,0,none⟩) 1 1) [(a,x)]:=
 ⟨rfl,.inr ⟨p,1,#[.int .i64 a,.int .u64 x.toNat],rfl,hb,h,Nat.le_refl _,by decide,rfl,rfl⟩⟩
theorem SetRef24_any (v pv:Value) (l:List UInt64) (sl g n:Int) (tq:Option (Int×Int)) (E:List (Int×UInt64)) (r:Int) (hx:E=riL l sl g n tq) (hr:r=riE l sl g n tq) (w:World) (h:Words w v l) (hpt:PtrH w pv tq):
  Calls Tryz.prog 28 #[v,.agg #[.int .i64 sl,.int .i64 g],.int .i64 n,pv] w fun e w'=>∃y,e=.returned (.tuple #[y,.int .i64 r])∧OwnE w' w.heap.size y E∧Below w.heap.size w w':=by
 have B:=Below.refl w.heap.size w;have H:=hD h;obtain ⟨p,hp⟩:=exq (kiAt l sl g n)
 obtain ⟨kd,hkd⟩:=exq (kiK l sl g n)
 obtain ⟨e0,he⟩:=exq (kiErr l sl g n)
 have FT:=hD (find24_any v l sl g n p kd e0 hp hkd he)
 have hx0:r≠0→E=[]:=fun h0=>by rw [hx];unfold riL;rw [if_neg (by rw [←hr];exact h0)]
 by_cases h0:e0=0;case neg=>
  have hre:r=e0:=by rw [hr];unfold riE;rw [←he,if_neg h0]
  obtain rfl:=hx0 (by rw [hre];exact h0)
  subst hre;have n1:(r != 0)=true:=by rw [bne_iff_ne];exact h0
  clear hx hr hx0 h hp hkd he h0 hpt;go_in;go_upto_region 1 with (fail)
  refine wpb1 (39) (#[.int .i64 sl,.int .i64 g]) ?_;rintro wa1 ⟨g1,b⟩
  replace B:=B.trans (b.mono B.size);clear b;replace c_g1:=g1.five;go_wp2_with fail;refine (FT.out _ (H.out.below B)).mono ?_;rintro e wa2 ⟨rfl,b⟩
  replace g1:=g1.below b;replace c_g1:=g1.five;replace B:=B.trans (b.mono B.size);clear b;go_wp2
  go_ret2
  exact ⟨_,rfl,OwnE.nil _ _,B⟩
 case pos=>
  subst h0;by_cases h3:kd.toNat=3;case neg=>
   have hre:r=42:=by rw [hr];unfold riE;rw [if_pos he.symm,←hkd,if_neg h3]
   obtain rfl:=hx0 (by rw [hre];decide)
   subst hre;have k3:((kd.toNat:Int) != 3)=true:=by rw [bne_iff_ne];omega
   clear hx hr hx0 h hp hkd he h3 hpt;go_in;go_upto_region 1 with (fail)
   refine wpb1 (39) (#[.int .i64 sl,.int .i64 g]) ?_;rintro wa1 ⟨g1,b⟩
   replace B:=B.trans (b.mono B.size);clear b;replace c_g1:=g1.five;go_wp2_with fail;refine (FT.out _ (H.out.below B)).mono ?_;rintro e wa2 ⟨rfl,b⟩
   replace g1:=g1.below b;replace c_g1:=g1.five;replace B:=B.trans (b.mono B.size);clear b;go_wp2
   go_ret2
   exact ⟨_,rfl,OwnE.nil _ _,B⟩
  case pos=>
   have k3:((kd.toNat:Int) != 3)=false:=by rw [bne_eq_false_iff_eq];omega
   cases tq with
   | none=>
    have hre:r=0:=by rw [hr];unfold riE;rw [if_pos he.symm,←hkd,if_pos h3]
    have hE:E=[(p,0)]:=by rw [hx];unfold riL;rw [if_pos (by rw [←hr];exact hre),←hp];rfl
    subst hre;subst hE;have hpn:pv=.pointer none:=hpt;subst hpn;clear hx hr hx0 h hp hkd he h3 hpt;go_in;go_upto_region 1 with (fail)
    refine wpb1 (39) (#[.int .i64 sl,.int .i64 g]) ?_;rintro wa1 ⟨g1,b⟩
    replace B:=B.trans (b.mono B.size);clear b;replace c_g1:=g1.five;go_wp2_with fail;refine (FT.out _ (H.out.below B)).mono ?_;rintro e wa2 ⟨rfl,b⟩
    replace g1:=g1.below b;replace c_g1:=g1.five;replace B:=B.trans (b.mono B.size);clear b;go_upto_region 7 with (fail)
    refine wpb1 (131) (#[.int .i64 p,.int .u64 0]) ?_;rintro wa3 ⟨g6,b⟩
    replace g1:=g1.below b;replace c_g1:=g1.five;replace B:=B.trans (b.mono B.size);clear b;replace c_g6:=g6.five;go_wp2
    go_ret2
    exact ⟨_,rfl,ent_own (x:=0) B.size,B.alloc B.size _⟩
   | some t=>
    obtain ⟨gp,rfl,gb⟩:=hpt;obtain ⟨d,hd⟩:=exq (resErr l t.1 t.2)
    obtain ⟨a9,ha9⟩:=exq (res l t.1 t.2)
    have RT:=hD (Resolve_any v l t.1 t.2 a9 d ha9 hd)
    have hre:r=d:=by rw [hr];unfold riE;rw [if_pos he.symm,←hkd,if_pos h3];exact hd.symm
    obtain ⟨t1,t2⟩:=t;dsimp only at gb RT ha9 hd;by_cases hd0:d=0;case neg=>
     obtain rfl:=hx0 (by rw [hre];exact hd0)
     subst hre;have n1:(r != 0)=true:=by rw [bne_iff_ne];exact hd0
     clear hx hr hx0 h hp hkd he h3 hd hd0 ha9;have g5:=gb;clear gb;go_in;go_upto_region 1 with (fail)
     refine wpb1 (39) (#[.int .i64 sl,.int .i64 g]) ?_;rintro wa1 ⟨g1,b⟩
     replace g5:=g5.below b;replace c_g5:=g5.five;replace B:=B.trans (b.mono B.size);clear b;replace c_g1:=g1.five;go_wp2_with fail;refine (FT.out _ (H.out.below B)).mono ?_;rintro e wa2 ⟨rfl,b⟩
     replace g5:=g5.below b;replace c_g5:=g5.five;replace g1:=g1.below b;replace c_g1:=g1.five;replace B:=B.trans (b.mono B.size);clear b;have hzz:=B.size;go_upto_region 7 with (fail)
     refine wpb1 (131) (#[.int .i64 p,.int .u64 0]) ?_;rintro wa3 ⟨g6,b⟩
     replace g5:=g5.below b;replace c_g5:=g5.five;replace g1:=g1.below b;replace c_g1:=g1.five;replace B:=B.trans (b.mono B.size);clear b;replace c_g6:=g6.five;go_wp2_with fail;refine (RT.out _ (H.out.below B)).mono ?_;rintro e wa4 ⟨rfl,b⟩
     replace g5:=g5.below b;replace c_g5:=g5.five;replace g1:=g1.below b;replace c_g1:=g1.five;replace g6:=g6.below b;replace c_g6:=g6.five;replace B:=B.trans (b.mono B.size);clear b;go_wp2
     go_ret2
     exact ⟨_,rfl,OwnE.nil _ _,B⟩
    case pos=>
     subst hd0;subst hre;have rt:Rt l:=by obtain ⟨k,a,nn,q,i,b,t,kd',x',_,_,fd⟩:=Fd.of he.symm;exact fd.hd.rt
     have hrb:0≤a9∧a9≤1000000:=by
      obtain ⟨_,k9,s9,_,_,_,hu9,_,hr9,e9⟩:=resErr_ok hd.symm;rw [ha9,e9]
      have:=hr9.2.2.2 hu9;omega
     have hE:E=[(p,UInt64.ofNat a9.toNat)]:=by rw [hx];unfold riL;rw [if_pos hr.symm,←hp,ha9];rfl
     obtain ⟨x9,hx9⟩:=exq (UInt64.ofNat a9.toNat)
     have hax:a9=(x9.toNat:Int):=by
      rw [hx9,UInt64.toNat_ofNat_of_lt' (by show a9.toNat<18446744073709551616;omega)];omega
     rw [←hx9] at hE;subst hE;subst hax;have hw9:IntKind.u64.wrap (x9.toNat:Int)=(x9.toNat:Int):=by show (x9.toNat:Int) % 18446744073709551616=_;omega
     clear hx hr hx0 h hp hkd he h3 hd ha9 rt hrb hx9;have g5:=gb;clear gb;go_in;go_upto_region 1 with (fail)
     refine wpb1 (39) (#[.int .i64 sl,.int .i64 g]) ?_;rintro wa1 ⟨g1,b⟩
     replace g5:=g5.below b;replace c_g5:=g5.five;replace B:=B.trans (b.mono B.size);clear b;replace c_g1:=g1.five;go_wp2_with fail;refine (FT.out _ (H.out.below B)).mono ?_;rintro e wa2 ⟨rfl,b⟩
     replace g5:=g5.below b;replace c_g5:=g5.five;replace g1:=g1.below b;replace c_g1:=g1.five;replace B:=B.trans (b.mono B.size);clear b;have hzz:=B.size;go_upto_region 7 with (fail)
     refine wpb1 (131) (#[.int .i64 p,.int .u64 0]) ?_;rintro wa3 ⟨g6,b⟩
     replace g5:=g5.below b;replace c_g5:=g5.five;replace g1:=g1.below b;replace c_g1:=g1.five;replace B:=B.trans (b.mono B.size);clear b;replace c_g6:=g6.five;go_wp2_with fail;refine (RT.out _ (H.out.below B)).mono ?_;rintro e wa4 ⟨rfl,b⟩
     replace g5:=g5.below b;replace c_g5:=g5.five;replace g1:=g1.below b;replace c_g1:=g1.five;replace g6:=g6.below b;replace c_g6:=g6.five;replace B:=B.trans (b.mono B.size);clear b;have hp6:=g6.lt;have hz6:w.heap.size≤wa2.heap.size:=hzz;go_upto_region 12 with (fail)
     refine wp_gen (fun V=>Bx V wa2.heap.size 131 #[.int .i64 p,.int .u64 x9.toNat]∧Below w.heap.size w V) ⟨by have:=g6.set (i:=1) (.int .u64 x9.toNat);simpa using this,B.setCell (p:=⟨wa2.heap.size,1,none⟩) hz6 _⟩ ?_;clear g6 B c_g6 g5 c_g5 g1 c_g1;rintro V ⟨g6,B⟩
     have c_g6:=g6.cell;go_wp2
     go_ret2
     exact ⟨_,rfl,ent_own (x:=x9) B.size,B.alloc B.size _⟩
theorem Root24_any (v:Value) (l:List UInt64) (sl g n:Int) (E:List (Int×UInt64)) (s1 s2 r:Int) (hx:E=oiL l sl g n) (hs1:s1=oiS l sl g n) (hs2:s2=oiG l sl g n) (hr:r=oiE l sl g n) (w:World) (h:Words w v l):
  Calls Tryz.prog 30 #[v,.agg #[.int .i64 sl,.int .i64 g],.int .i64 n] w fun e w'=>∃y,e=.returned (.tuple #[y,.agg #[.int .i64 s1,.int .i64 s2],.int .i64 r])∧OwnE w' w.heap.size y E∧Below w.heap.size w w':=by
 have B:=Below.refl w.heap.size w;have H:=hD h;obtain ⟨p,hp⟩:=exq (kiAt l sl g n)
 obtain ⟨kd,hkd⟩:=exq (kiK l sl g n)
 obtain ⟨e0,he⟩:=exq (kiErr l sl g n)
 have FT:=hD (find24_any v l sl g n p kd e0 hp hkd he)
 have hx0:r≠0→E=[]∧s1=0∧s2=0:=fun h0=>⟨by rw [hx,oiL,if_neg (by rw [←hr];exact h0)],by rw [hs1,oiS,if_neg (by rw [←hr];exact h0)],by rw [hs2,oiG,if_neg (by rw [←hr];exact h0)]⟩
 by_cases h0:e0=0;case neg=>
  have hre:r=e0:=by rw [hr,oiE,←he,if_neg h0]
  obtain ⟨rfl,rfl,rfl⟩:=hx0 (by rw [hre];exact h0)
  subst hre;have n1:(r != 0)=true:=by rw [bne_iff_ne];exact h0
  clear hx hs1 hs2 hr hx0 h hp hkd he h0;go_in;go_upto_region 1 with (fail)
  refine wpb11 (39) (#[.int .i64 sl,.int .i64 g]) (39) (#[.int .i64 0,.int .i64 0]) ?_;rintro wa1 ⟨g1,g2,b⟩
  replace B:=B.trans (b.mono B.size);clear b;replace c_g1:=g1.five;replace c_g2:=g2.five;go_wp2_with fail;refine (FT.out _ (H.out.below B)).mono ?_;rintro e wa2 ⟨rfl,b⟩
  replace g1:=g1.below b;replace c_g1:=g1.five;replace g2:=g2.below b;replace c_g2:=g2.five;replace B:=B.trans (b.mono B.size);clear b;go_wp2;refine bodyPost_ret (v:=.tuple #[.slice none 0 0,.agg #[.int .i64 0,.int .i64 0],.int .i64 r]) (by simp [results,Tryz.results30,go_sem,c_g2]) rfl ?_;refine ⟨_,rfl,OwnE.nil _ _,?_⟩
  exact bdn
 case pos=>
  subst h0;by_cases h3:kd.toNat=3;case neg=>
   have hre:r=42:=by rw [hr,oiE,if_pos he.symm,←hkd,if_neg h3]
   obtain ⟨rfl,rfl,rfl⟩:=hx0 (by rw [hre];decide)
   subst hre;have k3:((kd.toNat:Int) != 3)=true:=by rw [bne_iff_ne];omega
   clear hx hs1 hs2 hr hx0 h hp hkd he h3;go_in;go_upto_region 1 with (fail)
   refine wpb11 (39) (#[.int .i64 sl,.int .i64 g]) (39) (#[.int .i64 0,.int .i64 0]) ?_;rintro wa1 ⟨g1,g2,b⟩
   replace B:=B.trans (b.mono B.size);clear b;replace c_g1:=g1.five;replace c_g2:=g2.five;go_wp2_with fail;refine (FT.out _ (H.out.below B)).mono ?_;rintro e wa2 ⟨rfl,b⟩
   replace g1:=g1.below b;replace c_g1:=g1.five;replace g2:=g2.below b;replace c_g2:=g2.five;replace B:=B.trans (b.mono B.size);clear b;go_wp2;refine bodyPost_ret (v:=.tuple #[.slice none 0 0,.agg #[.int .i64 0,.int .i64 0],.int .i64 42]) (by simp [results,Tryz.results30,go_sem,c_g2]) rfl ?_;refine ⟨_,rfl,OwnE.nil _ _,?_⟩
   exact bdn
  case pos=>
   have k3:((kd.toNat:Int) != 3)=false:=by rw [bne_eq_false_iff_eq];omega
   obtain ⟨k,a,nn,q,i,b,t,kd',x,rfl,rfl,fd⟩:=Fd.of he.symm;have hpp:p=(a:Int)+2+(i:Int):=by rw [hp,fd.hAt];omega
   have HX:=hD fd.hx;have hkk:kd=kd':=by rw [hkd,fd.hK]
   have hre:r=if x=0 then 6 else L18.newErr l x.toNat:=by rw [hr,oiE,if_pos he.symm,←hkd,if_pos h3,fd.hW]
   subst hpp;by_cases hx00:x=0
   ·have hre6:r=6:=by rw [hre,if_pos hx00]
    obtain ⟨rfl,rfl,rfl⟩:=hx0 (by rw [hre6];decide)
    subst hre6;have z0:((x.toNat:Int)==0)=true:=by rw [hx00];rfl
    clear hx hs1 hs2 hr hx0 h hp hkd he h3 fd hre hx00 hkk;go_in;go_upto_region 1 with (fail)
    refine wpb11 (39) (#[.int .i64 k,.int .i64 g]) (39) (#[.int .i64 0,.int .i64 0]) ?_;rintro wa1 ⟨g1,g2,b⟩
    replace B:=B.trans (b.mono B.size);clear b;replace c_g1:=g1.five;replace c_g2:=g2.five;go_wp2_with fail;refine (FT.out _ (H.out.below B)).mono ?_;rintro e wa2 ⟨rfl,b⟩
    replace g1:=g1.below b;replace c_g1:=g1.five;replace g2:=g2.below b;replace c_g2:=g2.five;replace B:=B.trans (b.mono B.size);clear b;obtain ⟨ad,x2,ia,m0,hx2⟩:=(H.out.below B).at_ (P:=Tryz.prog) Tryz.underlying22 one_u64 (k:=a+2+i) (List.getElem?_eq_some_iff.1 HX.out).1;obtain rfl:x2=x:=by have:=hx2.out;rw [HX.out] at this;injection this with e;exact e.symm
    have ia2:∀W,(Instr.indexAt 22 v (.int .i64 ((a:Int)+2+(i:Int)))).run Tryz.prog W=.ok (.pointer (some ad)) W:=ia;clear hx2 ia;go_wp2;refine bodyPost_ret (v:=.tuple #[.slice none 0 0,.agg #[.int .i64 0,.int .i64 0],.int .i64 6]) (by simp [results,Tryz.results30,go_sem,c_g2]) rfl ?_;refine ⟨_,rfl,OwnE.nil _ _,?_⟩
    exact bdn
   ·have z0:((x.toNat:Int)==0)=false:=by rw [beq_eq_false_iff_ne];intro e;exact hx00 (UInt64.toNat.inj (by simp;omega))
    obtain ⟨hnc,hxb⟩:=new_cases fd (by rw [←hkk];exact h3) hx00;obtain ⟨e9,he9⟩:=exq (L18.newErr l x.toNat)
    obtain ⟨s9,hs9⟩:=exq (newSlot l x.toNat)
    obtain ⟨g9,hg9⟩:=exq (newGen l x.toNat)
    obtain ⟨a9,ha9⟩:=exq (newAt l x.toNat)
    obtain ⟨v9,hv9⟩:=exq (newVal l x.toNat)
    have NT:=hD (New18_any v l x.toNat s9 g9 a9 v9 e9 hs9 hg9 ha9 hv9 he9)
    have hre9:r=e9:=by rw [hre,if_neg hx00,he9]
    have hw9:IntKind.i64.wrap (x.toNat:Int)=(x.toNat:Int):=IntWalk.i64_in _ (by omega)
    rw [←he9] at hnc;by_cases he90:e9=0;case neg=>
     have he23:e9=23:=hnc.resolve_left he90;obtain ⟨rfl,rfl,rfl⟩:=hx0 (by rw [hre9];exact he90)
     subst hre9;subst he23;clear hx hs1 hs2 hr hx0 h hp hkd he h3 fd hre hx00 hkk he9 hs9 hg9 ha9 hv9 hnc he90;go_in;go_upto_region 1 with (fail)
     refine wpb11 (39) (#[.int .i64 k,.int .i64 g]) (39) (#[.int .i64 0,.int .i64 0]) ?_;rintro wa1 ⟨g1,g2,b⟩
     replace B:=B.trans (b.mono B.size);clear b;replace c_g1:=g1.five;replace c_g2:=g2.five;go_wp2_with fail;refine (FT.out _ (H.out.below B)).mono ?_;rintro e wa2 ⟨rfl,b⟩
     replace g1:=g1.below b;replace c_g1:=g1.five;replace g2:=g2.below b;replace c_g2:=g2.five;replace B:=B.trans (b.mono B.size);clear b;obtain ⟨ad,x2,ia,m0,hx2⟩:=(H.out.below B).at_ (P:=Tryz.prog) Tryz.underlying22 one_u64 (k:=a+2+i) (List.getElem?_eq_some_iff.1 HX.out).1;obtain rfl:x2=x:=by have:=hx2.out;rw [HX.out] at this;injection this with e;exact e.symm
     have ia2:∀W,(Instr.indexAt 22 v (.int .i64 ((a:Int)+2+(i:Int)))).run Tryz.prog W=.ok (.pointer (some ad)) W:=ia;clear hx2 ia;go_wp2_with fail;refine (NT.out _ (H.out.below B)).mono ?_;rintro e wa3 ⟨rfl,b⟩
     replace g2:=g2.below b;replace c_g2:=g2.five;replace B:=B.trans (b.mono B.size);clear b;have hp2:=g2.lt;go_upto_region 9 with (fail)
     refine wp_gen (fun Wv=>Below wa3.heap.size wa3 Wv) (((Below.refl _ wa3).alloc (by simp <;> omega) _).alloc (by simp <;> omega) _) ?_;intro wa4 b;replace g2:=g2.below b;replace c_g2:=g2.five;replace B:=B.trans (b.mono B.size);clear b;go_wp2;refine bodyPost_ret (v:=.tuple #[.slice none 0 0,.agg #[.int .i64 0,.int .i64 0],.int .i64 23]) (by simp [results,Tryz.results30,go_sem,c_g2]) rfl ?_;refine ⟨_,rfl,OwnE.nil _ _,?_⟩
     exact bdn
    case pos=>
     subst he90;subst hre9;have hE:E=[(a9,v9)]:=by rw [hx,oiL,if_pos hr.symm,fd.hW,ha9,hv9]
     have hS:s1=s9:=by rw [hs1,oiS,if_pos hr.symm,fd.hW,hs9]
     have hG:s2=g9:=by rw [hs2,oiG,if_pos hr.symm,fd.hW,hg9]
     subst hE;subst hS;subst hG;clear hx hs1 hs2 hr hx0 h hp hkd he h3 fd hre hx00 hkk he9 hs9 hg9 ha9 hv9 hnc;go_in;go_upto_region 1 with (fail)
     refine wpb11 (39) (#[.int .i64 k,.int .i64 g]) (39) (#[.int .i64 0,.int .i64 0]) ?_;rintro wa1 ⟨g1,g2,b⟩
     replace B:=B.trans (b.mono B.size);clear b;replace c_g1:=g1.five;replace c_g2:=g2.five;go_wp2_with fail;refine (FT.out _ (H.out.below B)).mono ?_;rintro e wa2 ⟨rfl,b⟩
     replace g1:=g1.below b;replace c_g1:=g1.five;replace g2:=g2.below b;replace c_g2:=g2.five;replace B:=B.trans (b.mono B.size);clear b;obtain ⟨ad,x2,ia,m0,hx2⟩:=(H.out.below B).at_ (P:=Tryz.prog) Tryz.underlying22 one_u64 (k:=a+2+i) (List.getElem?_eq_some_iff.1 HX.out).1;obtain rfl:x2=x:=by have:=hx2.out;rw [HX.out] at this;injection this with e;exact e.symm
     have ia2:∀W,(Instr.indexAt 22 v (.int .i64 ((a:Int)+2+(i:Int)))).run Tryz.prog W=.ok (.pointer (some ad)) W:=ia;clear hx2 ia;go_wp2_with fail;refine (NT.out _ (H.out.below B)).mono ?_;rintro e wa3 ⟨rfl,b⟩
     replace g2:=g2.below b;replace c_g2:=g2.five;replace B:=B.trans (b.mono B.size);clear b;have hp2:=g2.lt;go_upto_region 9 with (fail)
     refine wpb11 (39) (#[.int .i64 s1,.int .i64 s2]) (131) (#[.int .i64 a9,.int .u64 v9.toNat]) ?_;rintro wa4 ⟨g7,g8,b⟩
     replace g2:=g2.below b;replace c_g2:=g2.five;replace B:=B.trans (b.mono B.size);clear b;replace c_g7:=g7.five;replace c_g8:=g8.five;go_upto_region 11 with (fail)
     have hb4:=B.size;have hne2:w.heap.size+1≠wa3.heap.size:=by omega
     clear c_g2 c_g7 c_g8;have c_g7:=fun x:Fut _=>(g7.below x.h).cell;have c_g8:=fun x:Fut _=>(g8.below x.h).cell;refine wp_region_fblock 4 1 (fun p=>.slice (some ⟨p,0,none⟩) 1 1) 131 (#[.int .i64 a9,.int .u64 v9.toNat]) (mk_sl 1) (by kernel_rfl) (by kernel_rfl) (by kernel_rfl) ?_;intro gg pq eq;simp only [List.take_succ_cons,List.take_zero,List.drop_succ_cons,List.drop_zero]
     iterate 1 (refine wpH_read0 rfl rfl ?_;go_big_quiet_step (fail);refine wpQuiet_nil ?_)
     refine wpH_new rfl rfl (TS.block (Instr.buildSlice 71 1 #[(0,.agg #[.int .i64 a9,.int .u64 v9.toNat])]) (by simp [execOp,Act.eval]) (fun W=>by simp [go_sem])) ?_;rw [eq]
     simp only [Act.put,List.setIfInBounds_toArray,List.set_cons_zero,List.set_cons_succ]
     iterate 2 (refine wpH_read0 rfl rfl ?_;go_big_quiet_step (fail);refine wpQuiet_nil ?_)
     refine wpH_nil ?_;intro W1 bW gq hpq;have g3:=g2.below bW;replace B:=B.trans (bW.mono hb4)
     have c_g3:=g3.cell;have f_g3:=g3.free;have HGQ:=hD (And.intro gq (And.intro g3 B))
     clear c_g7 c_g8 g2 gq B;go_wp2;refine bodyPost_ret (v:=.tuple #[.slice (some ⟨pq,0,none⟩) 1 1,.agg #[.int .i64 s1,.int .i64 s2],.int .i64 0]) (by simp [results,Tryz.results30,go_sem,c_g3,f_g3]) rfl ?_;obtain ⟨gq,g3,B⟩:=HGQ.out;refine ⟨_,rfl,own_set (own_set (ent_bx gq (by omega)) g3 (by decide)) (g3.set _) (by decide),?_⟩
     exact (B.setCell (p:=⟨w.heap.size+1,0,none⟩) (by simp) _).setCell (p:=⟨w.heap.size+1,1,none⟩) (by simp) _
end
section
open Go.RowKit L01 L02 L05 L06 L07 L13 L14 L15 L18 L19 L20
theorem ask_res {l:List UInt64} {sl g:Int} (h:askI l sl g=0):resErr l sl g=0:=by
 unfold askI at h;by_cases hc:chk19 l=0
 ·rwa [if_pos hc] at h
 ·rw [if_neg hc] at h;exact absurd h hc
theorem open23_any (v:Value) (l:List UInt64) (sl g:Int) (p r:Int) (hp:p=atI l sl g) (hr:r=askI l sl g) (w:World) (h:Words w v l):
  Calls Tryz.prog 68 #[v,.agg #[.int .i64 sl,.int .i64 g]] w fun e w'=>e=.returned (.tuple #[.int .i64 p,.int .i64 r])∧Below w.heap.size w w':=by
 have B:=Below.refl w.heap.size w;have H:=hD h;obtain ⟨c,hc⟩:=exq (chk19 l)
 have CK:=hD (Check19_any v l c hc)
 by_cases h0:c=0;case neg=>
  have hra:r=c:=by rw [hr,askI,if_neg (by rw [←hc];exact h0),hc]
  obtain rfl:p=0:=by rw [hp,atI,if_neg (by rw [←hr,hra];exact h0)]
  subst hra;have n1:(r != 0)=true:=by rw [bne_iff_ne];exact h0
  clear hp hr h hc h0;go_in;go_upto_region 1 with (fail)
  refine wpb1 (39) (#[.int .i64 sl,.int .i64 g]) ?_;rintro wa1 ⟨g1,b⟩
  replace B:=B.trans (b.mono B.size);clear b;replace c_g1:=g1.five;go_wp2_with fail;refine (CK.out _ (H.out.below B)).mono ?_;rintro e wa2 ⟨rfl,b⟩
  replace g1:=g1.below b;replace c_g1:=g1.five;replace B:=B.trans (b.mono B.size);clear b;go_wp2
  go_ret2
  exact ⟨rfl,B⟩
 case pos=>
  subst h0;obtain ⟨x,hx⟩:=exq (res l sl g)
  have ha:askI l sl g=resErr l sl g:=by rw [askI,if_pos hc.symm]
  have RT:=hD (Resolve_any v l sl g x r hx (by rw [hr,ha]))
  obtain rfl:p=x:=by
   rw [hp,hx,atI]
   by_cases h1:askI l sl g=0
   ·rw [if_pos h1]
   ·rw [if_neg h1,res,if_neg (by rw [←ha];exact h1)]
  clear hp hr h hc hx ha;go_in;go_upto_region 1 with (fail)
  refine wpb1 (39) (#[.int .i64 sl,.int .i64 g]) ?_;rintro wa1 ⟨g1,b⟩
  replace B:=B.trans (b.mono B.size);clear b;replace c_g1:=g1.five;go_wp2_with fail;refine (CK.out _ (H.out.below B)).mono ?_;rintro e wa2 ⟨rfl,b⟩
  replace g1:=g1.below b;replace c_g1:=g1.five;replace B:=B.trans (b.mono B.size);clear b;go_wp2_with fail;refine (RT.out _ (H.out.below B)).mono ?_;rintro e wa3 ⟨rfl,b⟩
  replace g1:=g1.below b;replace c_g1:=g1.five;replace B:=B.trans (b.mono B.size);clear b;go_wp2
  go_ret2
  exact ⟨rfl,B⟩
theorem Drop23_any (v:Value) (l:List UInt64) (sl g:Int) (E:List (Int×UInt64)) (r:Int) (hx:E=diL l sl g) (hr:r=askI l sl g) (w:World) (h:Words w v l):
  Calls Tryz.prog 22 #[v,.agg #[.int .i64 sl,.int .i64 g]] w fun e w'=>∃y,e=.returned (.tuple #[y,.int .i64 r])∧OwnE w' w.heap.size y E∧Below w.heap.size w w':=by
 have B:=Below.refl w.heap.size w;have H:=hD h;obtain ⟨p,hp⟩:=exq (atI l sl g)
 have OT:=hD (open23_any v l sl g p r hp hr)
 by_cases h0:r=0;case neg=>
  obtain rfl:E=[]:=by rw [hx,diL,if_neg (by rw [←hr];exact h0)]
  have n1:(r != 0)=true:=by rw [bne_iff_ne];exact h0
  clear hx hr h hp h0;go_in;go_upto_region 1 with (fail)
  refine wpb1 (39) (#[.int .i64 sl,.int .i64 g]) ?_;rintro wa1 ⟨g1,b⟩
  replace B:=B.trans (b.mono B.size);clear b;replace c_g1:=g1.five;go_wp2_with fail;refine (OT.out _ (H.out.below B)).mono ?_;rintro e wa2 ⟨rfl,b⟩
  replace g1:=g1.below b;replace c_g1:=g1.five;replace B:=B.trans (b.mono B.size);clear b;go_wp2
  go_ret2
  exact ⟨_,rfl,OwnE.nil _ _,B⟩
 case pos=>
  subst h0;obtain ⟨ea,hea⟩:=exq (dropAt l sl g)
  obtain ⟨ev,hev⟩:=exq (dropVal l sl g)
  have DT:=hD (Drop18_any v l sl g ea ev 0 hea hev (ask_res hr.symm).symm)
  obtain rfl:E=[(ea,ev)]:=by rw [hx,diL,if_pos hr.symm,hea,hev]
  clear hx hr h hp hea hev;go_in;go_upto_region 1 with (fail)
  refine wpb1 (39) (#[.int .i64 sl,.int .i64 g]) ?_;rintro wa1 ⟨g1,b⟩
  replace B:=B.trans (b.mono B.size);clear b;replace c_g1:=g1.five;go_wp2_with fail;refine (OT.out _ (H.out.below B)).mono ?_;rintro e wa2 ⟨rfl,b⟩
  replace g1:=g1.below b;replace c_g1:=g1.five;replace B:=B.trans (b.mono B.size);clear b;go_wp2_with fail;refine (DT.out _ (H.out.below B)).mono ?_;rintro e wa3 ⟨rfl,b⟩
  replace g1:=g1.below b;replace c_g1:=g1.five;replace B:=B.trans (b.mono B.size);clear b;go_upto_region 5 with (fail)
  refine wpb1 (131) (#[.int .i64 ea,.int .u64 ev.toNat]) ?_;rintro wa4 ⟨g2,b⟩
  replace g1:=g1.below b;replace c_g1:=g1.five;replace B:=B.trans (b.mono B.size);clear b;replace c_g2:=g2.five;go_wp2
  go_ret2
  exact ⟨_,rfl,ent_own B.size,B.alloc B.size _⟩
end
section
open Go.RowKit L01 L02 L05 L06 L07 L13 L14 L15 L16 L18 L19
theorem tabB_cons (b:Hb) (L:List Hb):tabB (b :: L)=bkL b++tabB L:=by simp [tabB]
theorem tabB_drop:∀(L:List Hb) (k:Nat),tabB (L.drop k)=(tabB L).drop (k*6)
 | L,0=>by simp
 | [],k+1=>by simp [tabB]
 | b :: L,k+1=>by
  rw [List.drop_succ_cons,tabB_drop L k,tabB_cons,show (k+1)*6=(bkL b).length+k*6 by simp [bkL];omega,List.drop_append,List.drop_of_length_le (l:=bkL b) (by omega),Nat.add_sub_cancel_left,List.nil_append]
theorem tabB_take:∀(L:List Hb) (k:Nat),tabB (L.take k)=(tabB L).take (k*6)
 | L,0=>by simp [tabB]
 | [],k+1=>by simp [tabB]
 | b :: L,k+1=>by
  rw [List.take_succ_cons,tabB_cons,tabB_take L k,tabB_cons,show (k+1)*6=(bkL b).length+k*6 by simp [bkL];omega,List.take_append,List.take_of_length_le (l:=bkL b) (by omega),Nat.add_sub_cancel_left]
theorem Blks.cut {w:World} {v:Value} {L:List Hb} (h:Blks w v L) {lo hi:Nat} (h1:lo≤hi) (h2:hi≤L.length):
  ∃v',(∀W,(Instr.sliceAt 59 v (some (.int .i64 (lo:Int))) (some (.int .i64 (hi:Int))) none).run Tryz.prog W=.ok v' W)∧Blks w v' ((L.drop lo).take (hi-lo)):=by
 obtain ⟨v',r1,_,_,r2,_⟩:=Rd.cutN h Tryz.underlying59 size_block h1 h2;refine ⟨v',r1,?_⟩
 unfold Blks;rw [tabB_take,tabB_drop,List.length_take,List.length_drop,Nat.min_eq_left (by omega)]
 exact r2
def joinB (M:List Hb):Hb:=⟨(M.getD 0 .none).at_,sumN M,2,0,false,0⟩
theorem sumN_snoc (M:List Hb) (b:Hb):sumN (M++[b])=sumN M+b.size:=by
 induction M with
 | nil=>simp [sumN]
 | cons c M ih=>rw [List.cons_append,sumN,sumN,ih];omega
theorem joined_any (v:Value) (M:List Hb) (b:Hb) (hb:b=joinB M) (hM:0<M.length) (hl:M.length≤3) (hs:∀c∈M,0≤c.size∧c.size≤100000) (w:World) (h:Blks w v M):
  Calls Tryz.prog 100 #[v] w fun e w'=>e=.returned (.agg #[.int .i64 b.at_,.int .i64 b.size,.int .i64 b.kind,.int .i64 b.ty,.bool b.mark,.int .u64 b.next.toNat])∧Below w.heap.size w w':=by
 have B:=Below.refl w.heap.size w;have H:=hD h;have lx:=h.len;obtain ⟨N,hN⟩:=exq M.length;rw [←hN] at lx hM hl;obtain ⟨bb,oo,c0,ia,m0,m1,m2,m3,m4,m5,hc0,_⟩:=h.at_ (k:=0) (by omega)
 have ia0:∀W,(Instr.indexAt 59 v (.int .i64 0)).run Tryz.prog W=.ok (.pointer (some ⟨bb,oo,none⟩)) W:=ia;obtain ⟨a0,ha0⟩:=exq c0.at_;rw [←ha0] at m0;have hb2:b=⟨a0,sumN M,2,0,false,0⟩:=by
  rw [hb,joinB,List.getD_eq_getElem?_getD,hc0.out,ha0];rfl
 have HN:=hD hN;have HS:=hD hs;have HB:=hD hb2;clear h hN hs hb hb2 ia hc0 ha0 m1 m2 m3 m4 m5;go_in;go_upto_region 1 with (fail)
 refine wpb1 (64) (#[.int .i64 0,.int .i64 0,.int .i64 0,.int .i64 0,.bool false,.int .u64 0]) ?_;rintro wa1 ⟨g1,b⟩
 replace m0:=cell_later b m0;replace B:=B.trans (b.mono B.size);clear b;obtain ⟨c_g1,f_g1,a_g1,d_g1,e_g1⟩:=g1.five;have hp1:=g1.lt;go_upto_region 2 with (fail)
 refine wpb1 (64) (#[.int .i64 a0,.int .i64 0,.int .i64 2,.int .i64 0,.bool false,.int .u64 0]) ?_;rintro wa2 ⟨g2,b⟩
 replace m0:=cell_later b m0;try clear c_g1 f_g1 a_g1 d_g1 e_g1
 replace g1:=g1.below b;obtain ⟨c_g1,f_g1,a_g1,d_g1,e_g1⟩:=g1.five;replace B:=B.trans (b.mono B.size);clear b;obtain ⟨c_g2,f_g2,a_g2,d_g2,e_g2⟩:=g2.five
 generalize hpp:wa1.heap.size=p2 at*
 have hpw:w.heap.size<p2:=hp1;have HI:=hD (And.intro g1 (And.intro g2 B))
 clear g1 g2 B c_g1 f_g1 a_g1 d_g1 e_g1 c_g2 f_g2 a_g2 d_g2 e_g2 m0 hpp hp1;go_wp2;clear ia0
 go_loopg [13] N (fun g i wr=>∃j:Nat,j≤N∧g=N-j∧i=.int .i64 j∧Hid (∃s:Int,s=sumN (M.take j)∧0≤s∧s≤100000*j∧Bx wr w.heap.size 64 #[.int .i64 0,.int .i64 0,.int .i64 0,.int .i64 0,.bool false,.int .u64 0]∧Bx wr p2 64 #[.int .i64 a0,.int .i64 s,.int .i64 2,.int .i64 0,.bool false,.int .u64 0]∧Below w.heap.size w wr))
 case atStart=>exact ⟨0,by omega,by omega,rfl,hD ⟨0,by simp [sumN],by omega,by omega,HI.out⟩⟩
 case round=>
  clear HI;obtain ⟨j,hj,rfl,rfl,hh⟩:=hrel;obtain ⟨s,hs,hs0,hs1,g1,g2,B⟩:=hh.out;by_cases hlt:j<N
  ·obtain ⟨bb,oo,c,ia,m0,m1,m2,m3,m4,m5,hc,_⟩:=(Blks.below H.out B).at_ (k:=j) (by rw [←HN.out];exact hlt)
   obtain ⟨z1,z2⟩:=HS.out c (List.mem_of_getElem? hc.out)
   have htk:M.take (j+1)=M.take j++[c]:=by rw [List.take_add_one,hc.out];rfl
   have HT:=hD (show s+c.size=sumN (M.take (j+1)) by rw [htk,sumN_snoc,←hs])
   have hw:IntKind.i64.wrap (s+c.size)=s+c.size:=IntWalk.i64_in _ (by omega)
   have hB0:=B.size;have hlt2:=g2.lt;clear hc htk hs hh;go_upto_region 5 with (fail)
   refine wpb1 (64) (#[.int .i64 c.at_,.int .i64 c.size,.int .i64 c.kind,.int .i64 c.ty,.bool c.mark,.int .u64 c.next.toNat]) ?_;rintro wa3 ⟨g3,b⟩
   try clear c_g1 f_g1 a_g1 d_g1 e_g1
   replace g1:=g1.below b;obtain ⟨c_g1,f_g1,a_g1,d_g1,e_g1⟩:=g1.five;try clear c_g2 f_g2 a_g2 d_g2 e_g2
   replace g2:=g2.below b;obtain ⟨c_g2,f_g2,a_g2,d_g2,e_g2⟩:=g2.five;replace B:=B.trans (b.mono B.size);clear b;obtain ⟨c_g3,f_g3,a_g3,d_g3,e_g3⟩:=g3.five;have hne:p2≠wr.heap.size:=by omega
   have HZ:=hD (And.intro g1 (And.intro g2 B))
   go_wp2;clear c_g1 f_g1 a_g1 d_g1 e_g1 c_g2 f_g2 a_g2 d_g2 e_g2 c_g3 f_g3 a_g3 d_g3 e_g3 m0 m1 m2 m3 m4 m5 ia
   go_roundg (N-(j+1))
   case measure=>omega
   case rel=>
    obtain ⟨g1,g2,B⟩:=HZ.out;refine ⟨j+1,by omega,rfl,by go_num,hD ⟨s+c.size,HT.out,by omega,by omega,g1.far (p:=⟨p2,1,none⟩) (by show w.heap.size≠p2;omega) _,?_,B.setCell (p:=⟨p2,1,none⟩) (by show w.heap.size≤p2;omega) _⟩⟩
    have:=g2.set (i:=1) (.int .i64 (s+c.size))
    simpa using this
  ·obtain rfl:j=N:=by omega
   have hsM:s=sumN M:=by rw [hs,HN.out,List.take_length]
   have c_g1:=g1.cell;have f_g1:=g1.free;have c_g2:=g2.cell;have HSM:=hD hsM;clear hs hsM hh;go_wp2;refine bodyPost_ret (v:=.agg #[.int .i64 a0,.int .i64 s,.int .i64 2,.int .i64 0,.bool false,.int .u64 0]) (by simp [results,Tryz.results100,go_sem,c_g1,f_g1]) rfl ?_;refine ⟨by rw [HB.out,HSM.out];rfl,?_⟩
   exact bdn
theorem join_becomes {L:List Hb} {i:Nat} {b:Hb} (hb:L[i]?=some b) (hk:b.kind=1) (lo hi:Nat) (hlo:lo=if lowF L i=true then i-1 else i) (hhi:hi=if highF L i=true then i+1 else i):
  joinB ((L.drop lo).take (hi+1-lo))=becomes L i∧lo≤i∧i≤hi∧hi<L.length∧hi+1-lo≤3:=by
 have hil:=(List.getElem?_eq_some_iff.1 hb).1;have hgb:L.getD i .none=b:=by rw [List.getD_eq_getElem?_getD,hb];rfl
 have hlow:lowF L i=true→0<i∧∃f,L[i-1]?=some f∧L.getD (i-1) .none=f:=fun h=>by
  unfold lowF at h;rw [Bool.and_eq_true,decide_eq_true_iff] at h
  have:i-1<L.length:=by omega
  exact ⟨h.1,L[i-1],List.getElem?_eq_getElem this,by rw [List.getD_eq_getElem?_getD,List.getElem?_eq_getElem this];rfl⟩
 have hhigh:highF L i=true→i+1<L.length∧∃f,L[i+1]?=some f∧L.getD (i+1) .none=f:=fun h=>by
  unfold highF at h;rw [decide_eq_true_iff] at h;by_cases hl:i+1<L.length
  ·exact ⟨hl,L[i+1],List.getElem?_eq_getElem hl,by rw [List.getD_eq_getElem?_getD,List.getElem?_eq_getElem hl];rfl⟩
  ·rw [List.getD_eq_getElem?_getD,List.getElem?_eq_none (by omega)] at h;exact absurd h (by decide)
 have d1:∀{k:Nat} {c:Hb},L[k]?=some c→L.drop k=c :: L.drop (k+1):=fun {k c} h=>by
  obtain ⟨h1,h2⟩:=List.getElem?_eq_some_iff.1 h;rw [List.drop_eq_getElem_cons h1,h2]
 cases h1:lowF L i <;> cases h2:highF L i
 ·rw [h1] at hlo;rw [h2] at hhi;simp only [Bool.false_eq_true,if_false] at hlo hhi;subst hlo;subst hhi;refine ⟨?_,by omega,by omega,by omega,by omega⟩
  rw [show hi+1-hi=1 by omega,d1 hb]
  unfold becomes;rw [h1,h2,hgb]
  simp [joinB,sumN]
 ·rw [h1] at hlo;rw [h2] at hhi;simp only [Bool.false_eq_true,if_false,if_true] at hlo hhi;obtain ⟨a1,f,a2,a3⟩:=hhigh h2;subst hlo;subst hhi;refine ⟨?_,by omega,by omega,by omega,by omega⟩
  rw [show lo+1+1-lo=2 by omega,d1 hb,d1 a2]
  unfold becomes;rw [h1,h2,hgb,a3]
  simp [joinB,sumN]
 ·rw [h1] at hlo;rw [h2] at hhi;simp only [Bool.false_eq_true,if_false,if_true] at hlo hhi;obtain ⟨a1,f,a2,a3⟩:=hlow h1;subst hlo;subst hhi;refine ⟨?_,by omega,by omega,by omega,by omega⟩
  rw [show hi+1-(hi-1)=2 by omega,d1 a2,show hi-1+1=hi by omega,d1 hb]
  unfold becomes;rw [h1,h2,hgb,a3]
  simp [joinB,sumN];omega
 ·rw [h1] at hlo;rw [h2] at hhi;simp only [if_true] at hlo hhi;obtain ⟨a1,f,a2,a3⟩:=hlow h1;obtain ⟨a4,f',a5,a6⟩:=hhigh h2;subst hlo;subst hhi;refine ⟨?_,by omega,by omega,by omega,by omega⟩
  rw [show i+1+1-(i-1)=3 by omega,d1 a2,show i-1+1=i by omega,d1 hb,d1 a5]
  unfold becomes;rw [h1,h2,hgb,a3,a6]
  simp [joinB,sumN];omega
end
section
open Go.RowKit L01 L02 L05 L06 L07 L13 L14 L15 L16 L18 L19
end
section
open Go.RowKit L02 L13 L18 L20
def OwnF (w:World) (base:Nat) (v:Value) (L:List Ob) (n gf:Nat):Prop:=∃(vs:List Value) (nf cf:Nat),vs.length=L.length∧w.ownsRow base 68 2 v L.length (obC L vs)∧(∀(i:Nat) x o,vs[i]?=some x→L[i]?=some o→OwnW w base 42 x o.fs)∧
 (∀(i j:Nat) x y,i≠j→vs[i]?=some x→vs[j]?=some y→x.ownBlock=none∨x.ownBlock≠y.ownBlock)∧vs[n]?=some (.slice (some ⟨gf,0,none⟩) nf cf)
theorem OwnF.own {w:World} {base n gf:Nat} {v:Value} {L:List Ob} (h:OwnF w base v L n gf):OwnO w base v L:=by
 obtain ⟨vs,nf,cf,h1,h2,h4,h5,_⟩:=h;exact ⟨vs,h1,h2,h4,h5⟩
theorem OwnF.below {w w':World} {base n gf:Nat} {v:Value} {L:List Ob} (h:OwnF w base v L n gf) (hb:Below w.heap.size w w'):OwnF w' base v L n gf:=by
 obtain ⟨vs,nf,cf,h1,h2,h4,h5,h6⟩:=h;exact ⟨vs,nf,cf,h1,own_below h2 hb,fun i x l h5 h6=>(h4 i x l h5 h6).below hb,h5,h6⟩
theorem OwnF.mono {w:World} {base base' n gf:Nat} {v:Value} {L:List Ob} (h:OwnF w base v L n gf) (hb:base'≤base):OwnF w base' v L n gf:=by
 obtain ⟨vs,nf,cf,h1,h2,h4,h5,h6⟩:=h;exact ⟨vs,nf,cf,h1,own_mono h2 hb,fun i x l h5 h6=>own_mono (h4 i x l h5 h6) hb,h5,h6⟩
theorem OwnF.set {w:World} {B p i n gf:Nat} {v u:Value} {L:List Ob} {t:TypeId} {cs:Array Value} (h:OwnF w B v L n gf) (hg:Bx w p t cs) (h1:68≠t) (h2:42≠t):OwnF (w.setCell ⟨p,i,none⟩ u) B v L n gf:=by
 obtain ⟨vs,nf,cf,a1,a2,a4,a5,a6⟩:=h;exact ⟨vs,nf,cf,a1,own_set a2 hg h1,fun i x l h5 h6=>own_set (a4 i x l h5 h6) hg h2,a5,a6⟩
theorem OwnF.cell {w:World} {base n gf i:Nat} {v:Value} {L:List Ob} {o:Ob} {x:UInt64} (h:OwnF w base v L n gf) (ho:L[n]?=some o) (hx:o.fs[i]?=some x):
  w.cell? ⟨gf,i,none⟩=some (.int .u64 x.toNat)∧w.frozen? ⟨gf,i,none⟩=false∧base≤gf∧gf<w.heap.size:=by
 obtain ⟨vs,nf,cf,h1,h2,h4,h5,h6⟩:=h;have hr:=h4 n _ _ h6 ho;have hi:i<o.fs.length:=(List.getElem?_eq_some_iff.1 hx).1;have hn:nf=o.fs.length:=by
  obtain ⟨g',cap,cur,hv,_⟩:=own_form hr (by omega)
  injection hv
 subst hn;have hl:=hr.lt gf rfl;have hc:=Rd.cell (OwnW.rd hr) (j:=i) (u:=u64 x) (by rw [List.getElem?_map,hx];rfl)
 refine ⟨?_,hr.frozenAt i,hl.1,hl.2⟩
 simpa [cellAt,u64] using hc
theorem OwnO.at_ {w:World} {base:Nat} {v:Value} {L:List Ob} (h:OwnO w base v L) {n:Nat} {o:Ob} (ho:L[n]?=some o) (hf:0<o.fs.length):
  ∃b q gf nf cf,(∀W,(Instr.indexAt 28 v (.int .i64 (n:Int))).run Tryz.prog W=.ok (.pointer (some ⟨b,q,none⟩)) W)∧w.cell? ⟨b,q,none⟩=some (.int .i64 o.ty)∧w.cell? ⟨b,q+1,none⟩=some (.slice (some ⟨gf,0,none⟩) nf cf)∧b<w.heap.size∧OwnF w base v L n gf∧nf=o.fs.length∧
   ∀i,i<o.fs.length→∀W,(Instr.indexAt 22 (.slice (some ⟨gf,0,none⟩) nf cf) (.int .i64 (i:Int))).run Tryz.prog W=.ok (.pointer (some ⟨gf,i,none⟩)) W:=by
 obtain ⟨vs,h1,h2,h4,h5⟩:=h;have hk:n<L.length:=(List.getElem?_eq_some_iff.1 ho).1;have hv:vs[n]?=some vs[n]:=List.getElem?_eq_getElem (by omega)
 have hr:=h4 n _ _ hv ho;obtain ⟨gf,cap,cur,hvv,_⟩:=own_form hr hf;have hix:=fun W=>Rd.ixN (P:=Tryz.prog) (Rd.of_own h2) Tryz.underlying28 size_obj hk W;obtain ⟨b,q,c,rfl,hb,hc,hcell⟩:=Rd.form (Rd.of_own h2) (by omega)
 obtain ⟨c0,c1⟩:=obC_get ho hv;rw [hvv] at c1 hv hr;refine ⟨b,q+n*2,gf,_,cap,fun W=>hix W,hcell _ _ c0,hcell _ _ c1,hb,⟨vs,_,cap,h1,h2,h4,h5,hv⟩,rfl,fun i hi W=>?_⟩
 have:=Rd.ixN (P:=Tryz.prog) (OwnW.rd hr) Tryz.underlying22 one_u64 hi W;simpa [cellAt] using this
theorem obC_setFs:∀{L:List Ob} {vs:List Value} {n:Nat} {o:Ob} {f:List UInt64},L[n]?=some o→obC (L.set n ⟨o.ty,f⟩) vs=obC L vs
 | [],_,_,_,_,h=>by simp at h
 | o :: L,[],0,o',f,h=>rfl
 | o :: L,x :: vs,0,o',f,h=>by simp at h;subst h;rfl
 | o :: L,[],n+1,o',f,h=>rfl
 | o :: L,x :: vs,n+1,o',f,h=>by
  rw [List.set_cons_succ,obC,obC,obC_setFs (by simpa using h)]
theorem OwnM.storeF {w:World} {B n gf i:Nat} {tv ov sv:Value} {m:Mo} {o:Ob} {x0:UInt64} (h:OwnM w B 37 tv ov sv m) (hf:OwnF w B ov m.objs n gf) (ho:m.objs[n]?=some o) (hx:o.fs[i]?=some x0) (x:UInt64):
  OwnM (w.setCell ⟨gf,i,none⟩ (.int .u64 x.toNat)) B 37 tv ov sv (putF m n i x)∧OwnF (w.setCell ⟨gf,i,none⟩ (.int .u64 x.toNat)) B ov (putF m n i x).objs n gf∧w.grownBy (w.setCell ⟨gf,i,none⟩ (.int .u64 x.toNat)) (some gf):=by
 obtain ⟨vs,nf,cf,h1,h2,h4,h5,h6⟩:=hf;have hob:ob m n=o:=by simp [ob,List.getD_eq_getElem?_getD,ho]
 have hr:=h4 n _ _ h6 ho;have hi:i<o.fs.length:=(List.getElem?_eq_some_iff.1 hx).1;have hn:nf=o.fs.length:=by
  obtain ⟨g',cap,cur,hv,_⟩:=own_form hr (by omega)
  injection hv
 subst hn;have hst:=World.ownsRow.stored hr i (u64 x)
 have hg:=hst.2;have ho2:(w.setCell ⟨gf,i,none⟩ (u64 x)).ownsRow B 68 2 ov m.objs.length (obC m.objs vs):=World.ownsRow.kept h2 hg (own_unlike h2 hr (by decide))
 have hF:OwnF (w.setCell ⟨gf,i,none⟩ (u64 x)) B ov (putF m n i x).objs n gf:=by
  refine ⟨vs,_,cf,by simp [L20.putF,h1],?_,fun j y l hy hl=>?_,h5,h6⟩
  ·show World.ownsRow _ B _ 2 ov (m.objs.set n ⟨(ob m n).ty,(ob m n).fs.set i x⟩).length (obC (m.objs.set n ⟨(ob m n).ty,(ob m n).fs.set i x⟩) vs)
   rw [hob,obC_setFs ho,List.length_set];exact ho2
  ·by_cases hj:j=n
   ·subst hj;have e1:(putF m j i x).objs[j]?=some ⟨(ob m j).ty,(ob m j).fs.set i x⟩:=by
     show (m.objs.set j _)[j]?=_;rw [List.getElem?_set_self (List.getElem?_eq_some_iff.1 ho).1]
    rw [e1] at hl;injection hl with hl;subst hl
    rw [h6] at hy;injection hy with hy;subst hy
    refine OwnW.of hst.1 ?_;rw [hob];simp only [List.map_set]
   ·have e1:(putF m n i x).objs[j]?=m.objs[j]?:=by
     show (m.objs.set n _)[j]?=_;rw [List.getElem?_set_ne (Ne.symm hj)]
    rw [e1] at hl;exact World.ownsRow.kept (h4 j y l hy hl) hg (h5 j n y _ hj hy h6)
 exact ⟨⟨OwnT.kept h.t hr hg (by decide) (by decide),hF.own,World.ownsRow.kept h.s hg (own_unlike h.s hr (by decide))⟩,hF,hg⟩
theorem field_no (tv ov sv:Value) (m:Mo) (sl g n:Int) (r:Int) (hr:r=kErrF m sl g n) (h0:r≠0) (w:World) (h:Mod w tv ov sv m):
  Calls Tryz.prog 77 #[.agg #[tv,ov,sv],.agg #[.int .i64 sl,.int .i64 g],.int .i64 n] w fun e w'=>e=.returned (.tuple #[.agg #[.slice none 0 0,.slice none 0 0,.slice none 0 0],.pointer none,.int .u8 0,.int .i64 r])∧Below w.heap.size w w':=by
 have B:=Below.refl w.heap.size w;have H:=hD h;by_cases ha:asked m sl g=0
 ·have hn:¬(0≤n∧n<(kinds m sl).length):=fun hh=>h0 (by rw [hr,kErrF_ok ha hh])
  have hr2:r=2:=by rw [hr,kErrF_arg ha hn]
  have hask:=asked_ok ha;obtain ⟨c0,hr0,k,s,n',o,t,hk,hk16,hs,hu,hg,hso,hat,hown,ho,hob,hoo,ht,htt,hkinds,hfl⟩:=hask;have OT:=hD (open20_ok tv ov sv m sl g n' ha hown)
  subst hr2;rw [hkinds] at hn;have HO:=hD ho;have HFL:=hD hfl;clear ha hr h0 c0 hr0 hs hu hg hso hat hown ho hob hoo ht htt hkinds h hk hfl;go_in;go_upto_region 1 with (fail)
  refine wpb111 (31) (#[tv,ov,sv]) (39) (#[.int .i64 sl,.int .i64 g]) (31) (#[.slice none 0 0,.slice none 0 0,.slice none 0 0]) ?_;rintro wa1 ⟨g1,g2,g3,b⟩
  replace B:=B.trans (b.mono B.size);clear b;replace c_g1:=g1.five;replace c_g2:=g2.five;replace c_g3:=g3.five;go_wp2_with fail;refine (OT.out _ (H.out.below B)).mono ?_;rintro e wa2 ⟨t',o',s',rfl,om,b⟩
  replace g1:=g1.below b;replace c_g1:=g1.five;replace g2:=g2.below b;replace c_g2:=g2.five;replace g3:=g3.below b;replace c_g3:=g3.five;replace B:=B.trans (b.mono B.size);clear b;obtain ⟨⟨tA,tn,tc,rfl⟩,⟨oA,on,oc,rfl⟩,⟨sA,sn,sc,rfl⟩⟩:=om.forms;go_upto_region 2 with (fail)
  refine wpb1 (31) (#[.slice tA tn tc,.slice oA on oc,.slice sA sn sc]) ?_;rintro wa3 ⟨g4,b⟩
  replace g1:=g1.below b;replace c_g1:=g1.five;replace g2:=g2.below b;replace c_g2:=g2.five;replace g3:=g3.below b;replace c_g3:=g3.five;replace om:=om.below b;replace B:=B.trans (b.mono B.size);clear b;replace c_g4:=g4.five;have HOM:=hD om;obtain ⟨ob_,oq,x,o2,ix,m0,m1,ho2,hx,hob2⟩:=om.rd.o.at_ (k:=n') (List.getElem?_eq_some_iff.1 HO.out).1;obtain rfl:o2=o:=by have:=ho2.out;rw [HO.out] at this;injection this with e;exact e.symm
  have lx:=Rd.len hx.out Tryz.underlying22;obtain ⟨xA,xn,xc,rfl⟩:∃A n c,x=.slice A n c:=by obtain ⟨A,c,e,_⟩:=hx.out;exact ⟨A,_,c,e⟩
  obtain ⟨nf,hnf⟩:=exq o2.fs.length;rw [←hnf] at lx;have hcase:n<0∨¬n<0∧(nf:Int)≤n:=by have:=HFL.out;omega
  clear om hx ho2 hn hnf;go_upto_region 5 with (fail)
  refine wpb1 (68) (#[.int .i64 o2.ty,.slice xA xn xc]) ?_;rintro wa4 ⟨g5,b⟩
  replace g1:=g1.below b;replace c_g1:=g1.five;replace g2:=g2.below b;replace c_g2:=g2.five;replace g3:=g3.below b;replace c_g3:=g3.five;replace g4:=g4.below b;replace c_g4:=g4.five;replace B:=B.trans (b.mono B.size);clear b;replace c_g5:=g5.five;clear m0 m1;rcases hcase with h1 | ⟨h1,h2⟩
  all_goals
   go_wp2;refine bodyPost_ret (v:=.tuple #[.agg #[.slice none 0 0,.slice none 0 0,.slice none 0 0],.pointer none,.int .u8 0,.int .i64 2]) (by simp [results,Tryz.results77,go_sem,c_g3]) rfl ⟨rfl,?_⟩
   exact bdn
 ·have hr1:r=asked m sl g:=by rw [hr,kErrF_no ha]
  have OT:=hD (open20_no tv ov sv m sl g r hr1 h0)
  have hne:(r != 0)=true:=by rw [bne_iff_ne];exact h0
  clear hr hr1 ha h0 h;go_in;go_upto_region 1 with (fail)
  refine wpb111 (31) (#[tv,ov,sv]) (39) (#[.int .i64 sl,.int .i64 g]) (31) (#[.slice none 0 0,.slice none 0 0,.slice none 0 0]) ?_;rintro wa1 ⟨g1,g2,g3,b⟩
  replace B:=B.trans (b.mono B.size);clear b;replace c_g1:=g1.five;replace c_g2:=g2.five;replace c_g3:=g3.five;go_wp2_with fail;refine (OT.out _ (H.out.below B)).mono ?_;rintro e wa2 ⟨rfl,b⟩
  replace g1:=g1.below b;replace c_g1:=g1.five;replace g2:=g2.below b;replace c_g2:=g2.five;replace g3:=g3.below b;replace c_g3:=g3.five;replace B:=B.trans (b.mono B.size);clear b;go_upto_region 2 with (fail)
  refine wpb1 (31) (#[.slice none 0 0,.slice none 0 0,.slice none 0 0]) ?_;rintro wa3 ⟨g4,b⟩
  replace g1:=g1.below b;replace c_g1:=g1.five;replace g2:=g2.below b;replace c_g2:=g2.five;replace g3:=g3.below b;replace c_g3:=g3.five;replace B:=B.trans (b.mono B.size);clear b;replace c_g4:=g4.five;go_wp2;refine bodyPost_ret (v:=.tuple #[.agg #[.slice none 0 0,.slice none 0 0,.slice none 0 0],.pointer none,.int .u8 0,.int .i64 r]) (by simp [results,Tryz.results77,go_sem,c_g3]) rfl ⟨rfl,?_⟩
  exact bdn
end
section
open Go.RowKit L02 L13 L18 L20
def wsF (w:World) (p:Nat) (a b c:Value):Nat→World
 | 0=>w.drew
 | _=>((w.drew.setCell ⟨p,0,none⟩ a).setCell ⟨p,1,none⟩ b).setCell ⟨p,2,none⟩ c
theorem OwnT.at2 {w:World} {base:Nat} {v:Value} {L:List (List UInt8)} (h:OwnT w base v L) {k i:Nat} {l:List UInt8} {b:UInt8} (hl:L[k]?=some l) (hb:l[i]?=some b):
  ∃ad bd y,(∀W,(Instr.indexAt 27 v (.int .i64 (k:Int))).run Tryz.prog W=.ok (.pointer (some ad)) W)∧w.cell? ad=some y∧(∀W,(Instr.indexAt 66 y (.int .i64 (i:Int))).run Tryz.prog W=.ok (.pointer (some bd)) W)∧w.cell? bd=some (.int .u8 b.toNat)∧base≤ad.block∧base≤bd.block:=by
 obtain ⟨vs,h1,h2,h4⟩:=h;have hk:k<L.length:=(List.getElem?_eq_some_iff.1 hl).1;have hi:i<l.length:=(List.getElem?_eq_some_iff.1 hb).1;have hv:vs[k]?=some vs[k]:=List.getElem?_eq_getElem (by omega)
 have hr:=h4 k _ _ hv hl;obtain ⟨g,c,cur,e,hg,_⟩:=own_form h2 (by omega)
 obtain ⟨g',c',cur',e',hg',_⟩:=own_form hr (by omega)
 refine ⟨cellAt v (k*1),cellAt vs[k] (i*1),vs[k],fun W=>Rd.ixN (Rd.of_own h2) Tryz.underlying27 one_bytes hk W,by rw [Nat.mul_one];exact Rd.cell (Rd.of_own h2) hv,fun W=>Rd.ixN (OwnB.rd hr) Tryz.underlying66 one_u8 hi W,?_,?_,?_⟩
 ·rw [Nat.mul_one];exact Rd.cell (OwnB.rd hr) (by rw [List.getElem?_map,hb];rfl)
 ·rw [e];exact hg
 ·rw [e'];exact hg'
theorem field_ok (tv ov sv:Value) (m:Mo) (sl g:Int) (i:Nat) (kd:UInt8) (o:Ob) (n':Nat) (h0:kErrF m sl g i=0) (hkd:kd=kind m sl g i) (hown:own m sl=n') (ho:m.objs[n']?=some o) (w:World) (h:Mod w tv ov sv m):
  Calls Tryz.prog 77 #[.agg #[tv,ov,sv],.agg #[.int .i64 sl,.int .i64 g],.int .i64 i] w fun e w'=>∃t' o' s' gf,e=.returned (.tuple #[.agg #[t',o',s'],.pointer (some ⟨gf,i,none⟩),.int .u8 kd.toNat,.int .i64 0])∧OwnM w' w.heap.size 37 t' o' s' m∧OwnF w' w.heap.size o' m.objs n' gf∧Below w.heap.size w w':=by
 have B:=Below.refl w.heap.size w;have H:=hD h;obtain ⟨ha,hn0,hnl⟩:=kErrF_inv h0;obtain ⟨c0,hr0,k,s,n2,o2,t,hk,hk16,hs,hu,hg,hso,hat,hown2,ho2,hob,hoo,ht,htt,hkinds,hfl⟩:=asked_ok ha;obtain rfl:n2=n':=by rw [←hown2,hown]
 obtain rfl:o2=o:=by rw [ho2] at ho;injection ho
 have OT:=hD (open20_ok tv ov sv m sl g n2 ha hown)
 rw [hkinds] at hnl;have hil:i<t.length:=by omega
 have hkk:kd=t.getD i 0:=by rw [hkd,kind,if_pos h0,hkinds];rfl
 have hki:t[i]?=some kd:=by rw [hkk,List.getD_eq_getElem?_getD,List.getElem?_eq_getElem hil];rfl
 have hty0:=hoo.1.1;obtain ⟨q,hq⟩:=Int.eq_ofNat_of_zero_le hty0;rw [hq,Int.toNat_natCast] at ht;have HO:=hD ho;have HFL:=hD hfl;have HT:=hD ht;have HKI:=hD hki;have HQ:=hD hq;clear ha h0 hkd hkk c0 hr0 hs hu hg hso hat hown hown2 ho ho2 hob hoo ht htt hkinds h hk hfl hki hty0 hn0 hnl;go_in;go_upto_region 1 with (fail)
 refine wpb111 (31) (#[tv,ov,sv]) (39) (#[.int .i64 sl,.int .i64 g]) (31) (#[.slice none 0 0,.slice none 0 0,.slice none 0 0]) ?_;rintro wa1 ⟨g1,g2,g3,b⟩
 replace B:=B.trans (b.mono B.size);clear b;replace c_g1:=g1.five;replace c_g2:=g2.five;replace c_g3:=g3.five;have hz1:=B.size;have hp1:=g3.lt;go_wp2_with fail;refine (OT.out _ (H.out.below B)).mono ?_;rintro e wa2 ⟨t',o',s',rfl,om,b⟩
 replace g1:=g1.below b;replace c_g1:=g1.five;replace g2:=g2.below b;replace c_g2:=g2.five;replace g3:=g3.below b;replace c_g3:=g3.five;replace B:=B.trans (b.mono B.size);clear b;have hp1b:=g3.lt;obtain ⟨⟨tA,tn,tc,rfl⟩,⟨oA,on,oc,rfl⟩,⟨sA,sn,sc,rfl⟩⟩:=om.forms;go_upto_region 2 with (fail)
 refine wpb1 (31) (#[.slice tA tn tc,.slice oA on oc,.slice sA sn sc]) ?_;rintro wa3 ⟨g4,b⟩
 replace g1:=g1.below b;replace c_g1:=g1.five;replace g2:=g2.below b;replace c_g2:=g2.five;replace g3:=g3.below b;replace c_g3:=g3.five;replace om:=om.below b;replace B:=B.trans (b.mono B.size);clear b;replace c_g4:=g4.five;have hp1c:=g3.lt;obtain ⟨ob_,oq,gf,nf,cf,ix,m0,m1,hob2,of_,hnf,hix⟩:=om.o.at_ HO.out (by have:=HFL.out;omega)
 have hixi:=hix i (by have:=HFL.out;omega)
 obtain ⟨ad,bd,y,it,m2,ib,m3,hab,hbb⟩:=OwnT.at2 om.t HT.out HKI.out;have lx:∀ty W,(Builtin.len_ #[22] ty #[.slice (some ⟨gf,0,none⟩) nf cf]).run Tryz.prog W=.ok (.int .i64 (nf:Int)) W:=by
  intro ty W;simp [Builtin.len_,run_underlying Tryz.underlying22];rfl
 have hcase:¬(i:Int)<0∧¬nf≤i∧¬(nf:Int)≤(i:Int):=by have:=HFL.out;omega
 obtain ⟨n1,n3,n4⟩:=hcase;clear hix hnf;go_upto_region 5 with (fail)
 rw [HQ.out] at m0;refine wpb1 (68) (#[.int .i64 (q:Int),.slice (some ⟨gf,0,none⟩) nf cf]) ?_;rintro wa4 ⟨g5,b⟩
 replace g1:=g1.below b;replace c_g1:=g1.five;replace g2:=g2.below b;replace c_g2:=g2.five;replace g3:=g3.below b;replace c_g3:=g3.five;replace g4:=g4.below b;replace c_g4:=g4.five;replace om:=om.below b;replace of_:=of_.below b;replace m2:=cell_later b m2;replace m3:=cell_later b m3;replace B:=B.trans (b.mono B.size);clear b;replace c_g5:=g5.five;clear m0 m1;go_upto_region 7 with (fail)
 have HG:=hD (And.intro g3 (And.intro om (And.intro of_ B)))
 have hp3:=g4.lt;have hp4:=g5.lt;have hne4:wa2.heap.size≠w.heap.size+1+1:=by omega
 have hne5:wa3.heap.size≠w.heap.size+1+1:=by omega
 have AL:∀d,d≤1→Bx ((wsF wa4 (w.heap.size+1+1) (.slice tA tn tc) (.slice oA on oc) (.slice sA sn sc)) d) wa2.heap.size 31 #[.slice tA tn tc,.slice oA on oc,.slice sA sn sc]∧Bx ((wsF wa4 (w.heap.size+1+1) (.slice tA tn tc) (.slice oA on oc) (.slice sA sn sc)) d) wa3.heap.size 68 #[.int .i64 (q:Int),.slice (some ⟨gf,0,none⟩) nf cf]∧((wsF wa4 (w.heap.size+1+1) (.slice tA tn tc) (.slice oA on oc) (.slice sA sn sc)) d).cell? ad=some y∧((wsF wa4 (w.heap.size+1+1) (.slice tA tn tc) (.slice oA on oc) (.slice sA sn sc)) d).cell? bd=some (.int .u8 kd.toNat):=by
  intro d hd;rcases d with _ | d
  ·exact ⟨g4,g5,m2,m3⟩
  ·refine ⟨?_,?_,?_,?_⟩
   ·exact ((g4.far (p:=⟨w.heap.size+1+1,0,none⟩) hne4 _).far (p:=⟨w.heap.size+1+1,1,none⟩) hne4 _).far (p:=⟨w.heap.size+1+1,2,none⟩) hne4 _
   ·exact ((g5.far (p:=⟨w.heap.size+1+1,0,none⟩) hne5 _).far (p:=⟨w.heap.size+1+1,1,none⟩) hne5 _).far (p:=⟨w.heap.size+1+1,2,none⟩) hne5 _
   ·exact cell_far (cell_far (cell_far m2 (by show _≠w.heap.size+1+1;omega)) (by show _≠w.heap.size+1+1;omega)) (by show _≠w.heap.size+1+1;omega)
   ·exact cell_far (cell_far (cell_far m3 (by show _≠w.heap.size+1+1;omega)) (by show _≠w.heap.size+1+1;omega)) (by show _≠w.heap.size+1+1;omega)
 have AA:=hD (fun x:FXN (FL [14] (wsF wa4 (w.heap.size+1+1) (.slice tA tn tc) (.slice oA on oc) (.slice sA sn sc)) 14 1)=>FL.all (ks:=[14]) (Ws:=(wsF wa4 (w.heap.size+1+1) (.slice tA tn tc) (.slice oA on oc) (.slice sA sn sc))) (p:=fun W=>Bx W wa2.heap.size 31 #[.slice tA tn tc,.slice oA on oc,.slice sA sn sc]∧Bx W wa3.heap.size 68 #[.int .i64 (q:Int),.slice (some ⟨gf,0,none⟩) nf cf]∧W.cell? ad=some y∧W.cell? bd=some (.int .u8 kd.toNat)) AL x)
 have ca:=fun x:FXN (FL [14] (wsF wa4 (w.heap.size+1+1) (.slice tA tn tc) (.slice oA on oc) (.slice sA sn sc)) 14 1)=>(AA.out x).1.cell;have cb:=fun x:FXN (FL [14] (wsF wa4 (w.heap.size+1+1) (.slice tA tn tc) (.slice oA on oc) (.slice sA sn sc)) 14 1)=>(AA.out x).2.1.cell;have cc:=fun x:FXN (FL [14] (wsF wa4 (w.heap.size+1+1) (.slice tA tn tc) (.slice oA on oc) (.slice sA sn sc)) 14 1)=>(AA.out x).2.2.1;have cd:=fun x:FXN (FL [14] (wsF wa4 (w.heap.size+1+1) (.slice tA tn tc) (.slice oA on oc) (.slice sA sn sc)) 14 1)=>(AA.out x).2.2.2
 haveI:Nonempty (FXN (FL [14] (wsF wa4 (w.heap.size+1+1) (.slice tA tn tc) (.slice oA on oc) (.slice sA sn sc)) 14 1)):=⟨⟨_,_,FL.start⟩⟩
 clear m2 m3 c_g1 c_g2 c_g4 c_g5;refine wp_region_N (FL [14] (wsF wa4 (w.heap.size+1+1) (.slice tA tn tc) (.slice oA on oc) (.slice sA sn sc)) 14 1) [14,14] FL.dep (by kernel_rfl) (by kernel_rfl) (by kernel_rfl) FL.start ?_;iterate 14 (refine wpN_read FL.dep rfl (by decide) ?_;go_big_quiet_step (fail);refine wpQuiet_nil ?_)
 refine wpN_storeD FL.dep rfl 31 (.tmp 6) (.tmp 40) rfl (by rfl) (p:=.pointer (some ⟨w.heap.size+1+1,0,none⟩)) (u:=.agg #[.slice tA tn tc,.slice oA on oc,.slice sA sn sc]) (by rfl) (by rfl) [] (by kernel_rfl) (fun f W hF h0 h1=>?_) ?_
 ·obtain ⟨rfl,h2⟩:=FL.step (i:=0) rfl (by decide) hF h0 (by intro p hp;omega) (by omega)
  refine ⟨_,?_,h2⟩
  simp [go_sem,wsF,c_g3]
 simp only [Act.put,List.setIfInBounds_toArray,List.set_cons_zero,List.set_cons_succ]
 iterate 3 (refine wpN_read FL.dep rfl (by decide) ?_;go_big_quiet_step (fail);refine wpQuiet_nil ?_)
 show ∀w',_→_;intro w' hw';obtain rfl:=FL.done hw';have g3d:Bx wa4.drew (w.heap.size+1+1) 31 #[.slice none 0 0,.slice none 0 0,.slice none 0 0]:=g3;have omd:OwnM wa4.drew wa1.heap.size 37 (.slice tA tn tc) (.slice oA on oc) (.slice sA sn sc) m:=⟨om.t,om.o,om.s⟩
 have ofd:OwnF wa4.drew wa1.heap.size (.slice oA on oc) m.objs n2 gf:=of_;have Bd:=B.drew;have HM:=hD (OwnM.set3 (a:=.slice tA tn tc) (b:=.slice oA on oc) (c:=.slice sA sn sc) (OwnM.mono omd hz1) g3d)
 have HF:=hD ((((OwnF.mono ofd hz1).set (i:=0) (u:=.slice tA tn tc) g3d (by decide) (by decide)).set (i:=1) (u:=.slice oA on oc) (g3d.set (i:=0) (.slice tA tn tc)) (by decide) (by decide)).set (i:=2) (u:=.slice sA sn sc) ((g3d.set (i:=0) (.slice tA tn tc)).set (i:=1) (.slice oA on oc)) (by decide) (by decide))
 have BB:=hD (((Bd.setCell (p:=⟨w.heap.size+1+1,0,none⟩) (by simp;omega) (.slice tA tn tc)).setCell (p:=⟨w.heap.size+1+1,1,none⟩) (by simp;omega) (.slice oA on oc)).setCell (p:=⟨w.heap.size+1+1,2,none⟩) (by simp;omega) (.slice sA sn sc))
 have g3':=((g3d.set (i:=0) (.slice tA tn tc)).set (i:=1) (.slice oA on oc)).set (i:=2) (.slice sA sn sc)
 have c3':=g3'.cell;clear omd ofd Bd g3d this ca cb cc cd AL AA om of_ g1 g2 g3 g4 g5 B hw' HG c_g3;show _
 generalize hW:(((wa4.drew.setCell ⟨w.heap.size+1+1,0,none⟩ (.slice tA tn tc)).setCell ⟨w.heap.size+1+1,1,none⟩ (.slice oA on oc)).setCell ⟨w.heap.size+1+1,2,none⟩ (.slice sA sn sc))=W4 at c3' HM HF BB
 have hw4:(wsF wa4 (w.heap.size+1+1) (.slice tA tn tc) (.slice oA on oc) (.slice sA sn sc)) [14].length=W4:=hW;rw [hw4]
 clear hW hw4 g3';go_wp2;refine bodyPost_ret (v:=.tuple #[.agg #[.slice tA tn tc,.slice oA on oc,.slice sA sn sc],.pointer (some ⟨gf,i,none⟩),.int .u8 kd.toNat,.int .i64 0]) (by simp [results,Tryz.results77,go_sem,c3']) rfl ?_;exact ⟨_,_,_,_,rfl,HM.out,HF.out,BB.out⟩
end
end Go.Proofs.YteejianjjpdimaaGreat
