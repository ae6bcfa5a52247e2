/- The walk of the law TopChange. -/
import Derived.Test.YteejianjjpdimaaGreatMTA
set_option maxRecDepth 100000
set_option maxHeartbeats 16000000
set_option linter.unusedVariables false
set_option linter.unusedSimpArgs false
namespace Go.Proofs.YteejianjjpdimaaGreat
open Go.RowKit L01 L02 L05 L06 L07 L13 L14 L15 L16 L18 L19 L20

theorem chk19_nil:chk19 []=8:=by decide +kernel
theorem HadOk.snoc {L:List (Int×Int)} {s:Int×Int} (h:HadOk L) (hs:0≤s.1∧s.1<16):HadOk (L++[s]):=fun x hx=>by
 rcases List.mem_append.1 hx with h1 | h1
 ·exact h x h1
 ·rw [List.mem_singleton.1 h1];exact hs

theorem St.or {R S:World→Prop} (h:St R) (k:St S):St (fun W=>R W∨S W):=
 ⟨fun W W' a hb=>a.imp (fun x=>h.below W W' x hb) (fun x=>k.below W W' x hb),fun W p t cs i u ht hb a=>a.imp (fun x=>h.set W p t cs i u ht hb x) (fun x=>k.set W p t cs i u ht hb x)⟩
theorem St.const (p:Prop):St (fun _=>p):=⟨fun _ _ h _=>h,fun _ _ _ _ _ _ _ _ h=>h⟩
theorem St.table (B:Nat) (t o s:Value) (m:Mo):St (fun W=>OwnM W B 123 t o s m):=
 ⟨fun W W' h hb=>h.below hb,fun W p t cs i u ht hb h=>by
  rcases ht with rfl | rfl
  ·exact ⟨h.t.set hb (by decide) (by decide),h.o.set hb (by decide) (by decide),own_set h.s hb (by decide)⟩
  ·exact ⟨h.t.set hb (by decide) (by decide),h.o.set hb (by decide) (by decide),own_set h.s hb (by decide)⟩⟩
def TopR (w:World) (v0:Value) (l0:List UInt64) (v:Value) (l:List UInt64) (t o s:Value) (m:Mo) (W:World):Prop:=
 ((v=v0∧l=l0)∨OwnW W w.heap.size 42 v l)∧(OwnM W w.heap.size 123 t o s m∨OwnM W w.heap.size 37 t o s m)
theorem TopR.st (w:World) (v0:Value) (l0:List UInt64) (v:Value) (l:List UInt64) (t o s:Value) (m:Mo):St (TopR w v0 l0 v l t o s m):=
 ((St.const _).or (St.words _ _ _)).and ((St.table _ _ _ _ _).or (St.model _ _ _ _ _))
theorem TopR.words {w W:World} {v0:Value} {l0:List UInt64} {v:Value} {l:List UInt64} {t o s:Value} {m:Mo} (h:TopR w v0 l0 v l t o s m W) (hw:Words w v0 l0) (hb:Below w.heap.size w W):Words W v l:=by
 rcases h.1 with ⟨rfl,rfl⟩ | h
 ·exact hw.below hb
 ·exact h.rd
theorem TopR.mod {w W:World} {v0:Value} {l0:List UInt64} {v:Value} {l:List UInt64} {t o s:Value} {m:Mo} (h:TopR w v0 l0 v l t o s m W):Mod W t o s m:=by
 rcases h.2 with h | h
 ·exact h.rd
 ·exact h.rd
theorem OwnM.grow {w w':World} {B B2 E:Nat} {tv ov sv v:Value} {m:Mo} {L:List (Int×Int)} (h:OwnM w B E tv ov sv m) (ha:OwnG w B2 v L) (hg:w.grownBy w' v.ownBlock) (hE:E≠39):OwnM w' B E tv ov sv m:=by
 refine ⟨OwnT.kept h.t ha hg (by decide) (by decide),?_,World.ownsRow.kept h.s hg (own_unlike h.s ha hE)⟩
 obtain ⟨vs,a1,a2,a4,a5⟩:=h.o;exact ⟨vs,a1,World.ownsRow.kept a2 hg (own_unlike a2 ha (by decide)),fun i x l h5 h6=>World.ownsRow.kept (a4 i x l h5 h6) hg (own_unlike (a4 i x l h5 h6) ha (by decide)),a5⟩
theorem TopR.grow {w W W':World} {v0:Value} {l0:List UInt64} {v:Value} {l:List UInt64} {t o s:Value} {m:Mo} {B2:Nat} {hv:Value} {L:List (Int×Int)} (h:TopR w v0 l0 v l t o s m W) (ha:OwnG W B2 hv L) (hg:W.grownBy W' hv.ownBlock):TopR w v0 l0 v l t o s m W':=
 ⟨h.1.imp id (fun x=>World.ownsRow.kept x hg (own_unlike x ha (by decide))),h.2.imp (fun x=>x.grow ha hg (by decide)) (fun x=>x.grow ha hg (by decide))⟩
theorem TopR.below {w W W':World} {v0:Value} {l0:List UInt64} {v:Value} {l:List UInt64} {t o s:Value} {m:Mo} (h:TopR w v0 l0 v l t o s m W) (hb:Below W.heap.size W W'):TopR w v0 l0 v l t o s m W':=(TopR.st w v0 l0 v l t o s m).below _ _ h hb
theorem Got.st (v tv ov sv:Value) (l:List UInt64) (m:Mo) (base:Nat) (y t o s:Value) (l':List UInt64) (m':Mo):St (Got v tv ov sv l m base y t o s l' m'):=
 ((St.words _ _ _).and (St.model _ _ _ _ _)).or (St.const _)
theorem Got.top {w W:World} {v0:Value} {l0:List UInt64} {v tv ov sv:Value} {l:List UInt64} {m:Mo} {y t o s:Value} {l':List UInt64} {m':Mo} (h:Got v tv ov sv l m w.heap.size y t o s l' m' W) (hr:TopR w v0 l0 v l tv ov sv m W):TopR w v0 l0 y l' t o s m' W:=by
 rcases h with ⟨h1,h2⟩ | ⟨rfl,rfl,rfl,rfl,rfl,rfl⟩
 ·exact ⟨.inr h1,.inr h2⟩
 ·exact hr
def GotR (v tv ov sv:Value) (l:List UInt64) (m:Mo) (base:Nat) (g:GC) (W:World):Prop:=
 ∃l' m' f',Got v tv ov sv l m base g.y g.m.1 g.m.2.1 g.m.2.2 l' m' W∧Rt l'∧Iso f' m' (L19.seen l')∧l'.length=l.length∧(0<g.c2→0≤g.c1∧g.c1<16)
theorem GotR.st (v tv ov sv:Value) (l:List UInt64) (m:Mo) (base:Nat) (g:GC):St (GotR v tv ov sv l m base g):=
 ⟨fun W W' ⟨l',m',f',h,k⟩ hb=>⟨l',m',f',(Got.st _ _ _ _ _ _ _ _ _ _ _ _ _).below _ _ h hb,k⟩,fun W p t cs i u ht hb ⟨l',m',f',h,k⟩=>⟨l',m',f',(Got.st _ _ _ _ _ _ _ _ _ _ _ _ _).set _ _ _ _ _ _ ht hb h,k⟩⟩
theorem called_g (v hv:Value) (tA oA sA:Option Addr) (tn tc on oc sn sc:Nat) (l:List UInt64) (m:Mo) (fm:Nat→Nat) (L:List (Int×Int)) (op a b n:Int) (x:UInt64) (rt:Rt l) (iso:Iso fm m (L19.seen l)) (hL:HadOk L) (base:Nat) (w:World) (hbase:base≤w.heap.size) (h:Words w v l) (hm:Mod w (.slice tA tn tc) (.slice oA on oc) (.slice sA sn sc) m) (hh:Hnds w hv L):
  Calls Tryz.prog 8 #[v,.agg #[.slice tA tn tc,.slice oA on oc,.slice sA sn sc],hv,.agg #[.int .i64 op,.int .i64 a,.int .i64 b,.int .i64 n,.int .u64 x.toNat]] w fun e w'=>∃g:GC,e=.returned g.v∧GotR v (.slice tA tn tc) (.slice oA on oc) (.slice sA sn sc) l m base g w'∧Below w.heap.size w w':=by
 refine (Called24_any v hv tA oA sA tn tc on oc sn sc l m fm L op a b n x rt iso hL w h hm hh).mono ?_;rintro e w' ⟨y,t,o,s,l',m',f',s1,s2,rfl,hg,h1,h2,h3,h4,h5⟩
 rcases hg with ⟨k1,k2⟩ | ⟨rfl,rfl,rfl,rfl,rfl,rfl⟩
 ·obtain ⟨⟨aA,an,ac,rfl⟩,⟨bA,bn,bc,rfl⟩,⟨cA,cn,cc,rfl⟩⟩:=mod_forms k2.rd;exact ⟨⟨y,aA,an,ac,bA,bn,bc,cA,cn,cc,s1,s2⟩,rfl,⟨l',m',f',.inl ⟨own_mono k1 hbase,k2.mono hbase⟩,h1,h2,h3,h4⟩,h5⟩
 ·exact ⟨⟨y,tA,tn,tc,oA,on,oc,sA,sn,sc,s1,s2⟩,rfl,⟨l',m',f',.inr ⟨rfl,rfl,rfl,rfl,rfl,rfl⟩,h1,h2,h3,h4⟩,h5⟩
def TopQ (w:World) (v0:Value) (l0:List UInt64) (p5 k:Nat) (v hv:Value) (W:World):Prop:=∃(l:List UInt64) (m:Mo) (f:Nat→Nat) (L:List (Int×Int)) (tA oA sA:Option Addr) (tn tc on oc sn sc:Nat),Rt l∧Iso f m (L19.seen l)∧HadOk L∧L.length≤k∧TopR w v0 l0 v l (.slice tA tn tc) (.slice oA on oc) (.slice sA sn sc) m W∧Bx W p5 31 #[.slice tA tn tc,.slice oA on oc,.slice sA sn sc]∧OwnG W w.heap.size hv L∧Below w.heap.size w W

theorem TopChange_walk (v0:Value) (l:List UInt64) (v1:Value) (C:List Cl) (w:World) (h0:Words w v0 l) (h1:Cals w v1 C):
  Calls Tryz.prog 3 #[v0,v1] w fun e w'=>e=.returned (.bool true)∧Below w.heap.size w w':=by
 have B:=Below.refl w.heap.size w;have H:=hD h0;have HC:=hD h1;have G:=hD (Great_any v0 l)
 have NIL:=hD (fun w=>Check19_any (.slice none 0 0) [] 8 chk19_nil.symm w (Rd.nil w 1))
 obtain ⟨cc,hcc⟩:=exq (chk19 l)
 have CK:=hD (Check19_any v0 l cc hcc)
 obtain ⟨N,hN⟩:=exq C.length;have HN:=hD hN;have lc:=HC.out.len;rw [←hN] at lc;obtain ⟨gr,hgr⟩:=exq (decide (2100<l.length))
 have HGR:=hD hgr;rw [←hgr] at G;clear hgr h0 h1 hN;cases gr;case true=>
  clear hcc;go_in;go_wp2_with fail;refine (G.out _ (H.out.below B)).mono ?_;rintro e w2 ⟨rfl,rfl⟩
  go_wp2_with fail;refine (NIL.out _).mono ?_;rintro e wa1 ⟨rfl,b⟩
  replace B:=B.trans (b.mono B.size);clear b;go_wp2
  go_ret
  exact ⟨rfl,B⟩
 case false=>
 by_cases c0:cc=0;case neg=>
  have n1:(cc != 0)=true:=by rw [bne_iff_ne];exact c0
  clear hcc c0;go_in;go_wp2_with fail;refine (G.out _ (H.out.below B)).mono ?_;rintro e w2 ⟨rfl,rfl⟩
  go_wp2_with fail;refine (CK.out _ (H.out.below B)).mono ?_;rintro e wa1 ⟨rfl,b⟩
  replace B:=B.trans (b.mono B.size);clear b;go_wp2_with fail;refine (NIL.out _).mono ?_;rintro e wa2 ⟨rfl,b⟩
  replace B:=B.trans (b.mono B.size);clear b;go_wp2
  go_ret
  exact ⟨rfl,B⟩
 case pos=>
 subst c0;by_cases hN25:25<N;case pos=>
  have d1:decide ((25:Int)<(N:Int))=true:=decide_eq_true (by omega)
  have d2:decide (25<N)=true:=decide_eq_true hN25;clear hcc hN25;go_in;go_wp2_with fail;refine (G.out _ (H.out.below B)).mono ?_;rintro e w2 ⟨rfl,rfl⟩
  go_wp2_with fail;refine (CK.out _ (H.out.below B)).mono ?_;rintro e wa1 ⟨rfl,b⟩
  replace B:=B.trans (b.mono B.size);clear b;go_wp2_with fail;refine (NIL.out _).mono ?_;rintro e wa2 ⟨rfl,b⟩
  replace B:=B.trans (b.mono B.size);clear b;go_wp2
  go_ret
  exact ⟨rfl,B⟩
 case neg=>
  have d1:decide ((25:Int)<(N:Int))=false:=decide_eq_false (by omega)
  have d2:decide (25<N)=false:=decide_eq_false hN25;have hN25:N≤25:=by omega
  have rt:Rt l:=Rt.of hcc.symm;have OF:=hD (fun v l (rt:Rt l) w h=>OfM_any v l (L19.seen l) 0 (by rw [ofM,if_pos rt.chk]) rt.chk.symm w h)
  have CR:=hD (fun t o s (m:Mo) (h:L20.chk m=0) w hm=>CheckR20_any t o s m 0 h.symm w hm)
  obtain ⟨m,hm⟩:=exq (L19.seen l)
  have hiso:Iso id m (L19.seen l):=by rw [hm];exact Iso.refl (seen_chk rt)
  have h16:=(chk_ok hiso.cm).2.2.1;have OF0:=hD (OF.out v0 l rt)
  rw [←hm] at OF0;have CR0:=hD (fun t o s w hm=>CR.out t o s m hiso.cm w hm)
  have HRT:=hD rt;have HISO:=hD hiso;have H16:=hD h16;clear hcc hm rt hiso h16;go_in;go_wp2_with fail;refine (G.out _ (H.out.below B)).mono ?_;rintro e w2 ⟨rfl,rfl⟩
  go_wp2_with fail;refine (CK.out _ (H.out.below B)).mono ?_;rintro e wa1 ⟨rfl,b⟩
  replace B:=B.trans (b.mono B.size);clear b;have HB1:=hD B.size;go_wp2_with fail;refine (OF0.out _ (H.out.below B)).mono ?_;rintro e wa2 ⟨t',o',s',rfl,om,b⟩
  replace B:=B.trans (b.mono B.size);clear b;obtain ⟨⟨tA,tn,tc,rfl⟩,⟨oA,on,oc,rfl⟩,⟨sA,sn,sc,rfl⟩⟩:=mod_forms om.rd;have hz2:=B.size;go_upto_region 4 with (fail)
  refine wpb1 (31) (#[.slice tA tn tc,.slice oA on oc,.slice sA sn sc]) ?_;rintro wa3 ⟨g5,b⟩
  replace om:=om.below b;replace B:=B.trans (b.mono B.size);clear b;replace c_g5:=g5.five;go_wp2_with fail;refine (CR0.out _ _ _ _ om.rd).mono ?_;rintro e wa4 ⟨rfl,b⟩
  replace om:=om.below b;replace g5:=g5.below b;replace c_g5:=g5.five;replace B:=B.trans (b.mono B.size);clear b;replace c_g5:=g5.five;obtain ⟨p5,hp5⟩:=exq wa2.heap.size;have hq5:=g5.lt;rw [←hp5] at g5 hq5 hz2;rw [←hp5]
  have rs:=om.rd.s;have ls:=Rd.len (P:=Tryz.prog) rs Tryz.underlying29;rw [H16.out] at ls;have HS:=hD rs;have HO:=hD (show OwnM wa4 w.heap.size 123 (.slice tA tn tc) (.slice oA on oc) (.slice sA sn sc) m from om.mono HB1.out)
  have HG5:=hD g5;have HB:=hD B;have hB1:=B.size;have HQ:=hD (show ∃L,HadOk L∧L.length≤0∧OwnG wa4 wa4.heap.size (.slice none 0 0) L∧Below wa4.heap.size wa4 wa4 from ⟨[],(fun x hx=>by cases hx),Nat.le_refl _,OwnG.nil _ _,Below.refl _ _⟩)
  clear om g5 B rs hp5 c_g5;go_wp2
  go_loopg [7,8] 16 (fun g hv i wr=>∃j:Nat,j≤16∧g=16-j∧i=.int .i64 (j:Int)∧Hid (∃L,HadOk L∧L.length≤j∧OwnG wr wa4.heap.size hv L∧Below wa4.heap.size wa4 wr))
  case atStart=>exact ⟨0,by omega,by omega,rfl,HQ⟩
  case round=>
   clear HQ;obtain ⟨j,hj,rfl,rfl,hh⟩:=hrel;obtain ⟨L,hL,hLl,og,B2⟩:=hh.out;clear hh;have c_5:=(HG5.out.below B2).cell;by_cases hlt:j<16
   ·have d3:decide ((j:Int)<16)=true:=decide_eq_true (by omega)
    have d4:decide (j<16)=true:=decide_eq_true hlt;obtain ⟨j2,hj2⟩:=exq (j+1)
    have wj:IntKind.i64.wrap ((j:Int)+1)=((j2:Nat):Int):=by rw [show ((j2:Nat):Int)=(j:Int)+1 by omega];exact IntWalk.i64_in _ (by omega)
    obtain ⟨sb,so,ss,ia,m0,m1,m2,hs⟩:=(Slots.below HS.out B2).at_ (P:=Tryz.prog) Tryz.underlying29 size_slot (k:=j) (by rw [H16.out];exact hlt)
    obtain ⟨sg,su,sa⟩:=ss;dsimp only at m0 m1 m2;cases su
    ·have HH:=hD (show ∃L,HadOk L∧L.length≤j2∧OwnG wr wa4.heap.size u7 L∧Below wa4.heap.size wa4 wr from ⟨L,hL,by omega,og,B2⟩)
     have hj3:j2≤16∧16-j2<16-j:=by omega
     clear hs hj2 og;go_wp2
     go_roundg (16-j2)
     case measure=>exact hj3.2
     case rel=>exact ⟨j2,hj3.1,rfl,rfl,HH⟩
    ·have HH2:=hD (show HadOk (L++[((j:Int),sg)])∧(L++[((j:Int),sg)]).length≤j2 from ⟨hL.snoc (by dsimp only;omega),by rw [List.length_append];simp;omega⟩)
     have hj3:j2≤16∧16-j2<16-j:=by omega
     clear hs hj2;go_wp2_with (at_builtin;refine wpList_append (by rfl) rfl rfl rfl Tryz.underlying35 info_hnd rfl (by omega) (by exact own_below og ((Below.refl _ _).alloc (Nat.le_refl _) _)) (by exact lit_hnd ((j:Int),sg) (by simp)) (by exact hnL_one _) (by omega) (by omega) (by exact B2.alloc B2.size _) (Nat.le_refl _) ?_;intro hv3 w3 o3 B3 g3)
     have HH:=hD (show ∃L,HadOk L∧L.length≤j2∧OwnG w3 wa4.heap.size hv3 L∧Below wa4.heap.size wa4 w3 from ⟨_,HH2.out.1,HH2.out.2,OwnG.of o3 (tabH_snoc _ _),B3⟩)
     clear o3 B3 g3 og
     go_roundg (16-j2)
     case measure=>exact hj3.2
     case rel=>exact ⟨j2,hj3.1,rfl,rfl,HH⟩
   ·obtain rfl:j=16:=by omega
    have HQ2:=hD (show TopQ w v0 l p5 16 v0 u7 wr from ⟨l,m,id,L,tA,oA,sA,tn,tc,on,oc,sn,sc,HRT.out,HISO.out,hL,hLl,⟨.inl ⟨rfl,rfl⟩,.inl (HO.out.below B2)⟩,HG5.out.below B2,own_mono og hB1,HB.out.trans (B2.mono hB1)⟩)
    clear og B2 hL hLl HS HO HG5 HB HRT HISO H16 CR0 OF0;go_wp2;clear ls c_5 hq5
    go_loopg [0,7,9] N (fun g v hv i wr=>∃j:Nat,j≤N∧g=N-j∧i=.int .i64 (j:Int)∧Hid (TopQ w v0 l p5 (16+j) v hv wr))
    case atStart=>exact ⟨0,by omega,by omega,rfl,HQ2⟩
    case round=>
     clear HQ2;obtain ⟨j,hj,rfl,rfl,hh⟩:=hrel;obtain ⟨l1,m1,f1,L1,tA,oA,sA,tn,tc,on,oc,sn,sc,rt1,iso1,hL1,hLl1,tr1,g5,og1,B⟩:=hh.out;clear hh;by_cases hlt:j<N
     ·have d3:decide ((j:Int)<(N:Int))=true:=decide_eq_true (by omega)
      have d4:decide (j<N)=true:=decide_eq_true hlt;obtain ⟨j2,hj2⟩:=exq (j+1)
      have HJ2:=hD hj2;have wj:IntKind.i64.wrap ((j:Int)+1)=((j2:Nat):Int):=by rw [show ((j2:Nat):Int)=(j:Int)+1 by omega];exact IntWalk.i64_in _ (by omega)
      have hj3:j2≤N∧N-j2<N-j:=by omega
      obtain ⟨cb,co,cs,ia,k0,k1,k2,k3,k4,hcs⟩:=(Cals.below HC.out B).at_ (k:=j) (by rw [←HN.out];exact hlt)
      obtain ⟨cop,ca,cb2,cn,cv⟩:=cs;dsimp only at k0 k1 k2 k3 k4;have HW:=hD (tr1.words H.out B)
      have HMM:=hD tr1.mod;have HOG:=hD og1;have CALL:=hD (fun W (hW:Below wr.heap.size wr W)=>called_g u0 u7 tA oA sA tn tc on oc sn sc l1 m1 f1 L1 cop ca cb2 cn cv rt1 iso1 hL1 w.heap.size W (Nat.le_trans B.size hW.size) (HW.out.below hW) (HMM.out.below hW) (HOG.out.rd.below hW))
      have hz3:=B.size;have HTR:=hD tr1;have HG5:=hD g5;have HL1:=hD (And.intro hL1 hLl1)
      have HBB:=hD B;have hq5:=g5.lt;clear tr1 og1 hcs hj2 rt1 iso1 hL1 hLl1 B;go_upto_region 15 with (fail)
      refine wp_region_TC (GotR u0 (.slice tA tn tc) (.slice oA on oc) (.slice sA sn sc) l1 m1 w.heap.size) (fun g=>GotR.st _ _ _ _ _ _ _ g) 8 #[u0,.agg #[.slice tA tn tc,.slice oA on oc,.slice sA sn sc],u7,.agg #[.int .i64 cop,.int .i64 ca,.int .i64 cb2,.int .i64 cn,.int .u64 cv.toNat]] (by kernel_rfl) (by kernel_rfl) (by kernel_rfl) (by kernel_rfl) (fun W hW=>CALL.out W hW) ?_;intro g;have c5:=fun x:FXN (FTC wr (GotR u0 (.slice tA tn tc) (.slice oA on oc) (.slice sA sn sc) l1 m1 w.heap.size) g)=>(g5.below x.belowTC).cell;have e0:=fun x:FXN (FTC wr (GotR u0 (.slice tA tn tc) (.slice oA on oc) (.slice sA sn sc) l1 m1 w.heap.size) g)=>cell_later x.belowTC k0;have e1:=fun x:FXN (FTC wr (GotR u0 (.slice tA tn tc) (.slice oA on oc) (.slice sA sn sc) l1 m1 w.heap.size) g)=>cell_later x.belowTC k1;have e2:=fun x:FXN (FTC wr (GotR u0 (.slice tA tn tc) (.slice oA on oc) (.slice sA sn sc) l1 m1 w.heap.size) g)=>cell_later x.belowTC k2;have e3:=fun x:FXN (FTC wr (GotR u0 (.slice tA tn tc) (.slice oA on oc) (.slice sA sn sc) l1 m1 w.heap.size) g)=>cell_later x.belowTC k3;have e4:=fun x:FXN (FTC wr (GotR u0 (.slice tA tn tc) (.slice oA on oc) (.slice sA sn sc) l1 m1 w.heap.size) g)=>cell_later x.belowTC k4
      haveI:Nonempty (FXN (FTC wr (GotR u0 (.slice tA tn tc) (.slice oA on oc) (.slice sA sn sc) l1 m1 w.heap.size) g)):=⟨⟨_,_,FTC.start⟩⟩
      clear k0 k1 k2 k3 k4;iterate 7 (refine wpM_read FTC.dep rfl (by decide) (by decide) ?_;go_big_quiet_step (fail);refine wpQuiet_nil ?_)
      refine wpM_new (by decide) rfl (by show TTC _ _ 7 _;unfold TTC;rw [if_pos rfl];intro W;simp [execOp,resolve,invoke,Act.eval,go_sem]) ?_;simp only [Act.put,List.setIfInBounds_toArray,List.set_cons_zero,List.set_cons_succ]
      rw [show valTC g 7=.tuple #[g.1.y,.agg #[.slice g.1.tA g.1.tn g.1.tc,.slice g.1.oA g.1.on g.1.oc,.slice g.1.sA g.1.sn g.1.sc],.agg #[.int .i64 g.1.c1,.int .i64 g.1.c2],.bool true] from rfl]
      iterate 5 (refine wpM_read FTC.dep rfl (by decide) (by decide) ?_;go_big_quiet_step (fail);refine wpQuiet_nil ?_)
      refine wpM_new (by decide) rfl (by show TTC _ _ 13 _;unfold TTC;rw [if_neg (by decide),if_pos rfl];intro W;simp [execOp,go_sem,zeroM]) ?_;simp only [Act.put,List.setIfInBounds_toArray,List.set_cons_zero,List.set_cons_succ]
      rw [show valTC g 13=.pointer (some ⟨g.2.1,0,none⟩) from rfl]
      refine wpM_new (by decide) rfl (by show TTC _ _ 14 _;unfold TTC;rw [if_neg (by decide),if_neg (by decide)];intro W;simp [execOp,go_sem,zeroH]) ?_;simp only [Act.put,List.setIfInBounds_toArray,List.set_cons_zero,List.set_cons_succ]
      rw [show valTC g 14=.pointer (some ⟨g.2.2,0,none⟩) from rfl]
      refine wpM_read FTC.dep rfl (by decide) (by decide) ?_;go_big_quiet_step (fail);refine wpQuiet_nil ?_
      refine wpM_store FTC.dep (by decide) rfl 31 (.tmp 11) (.tmp 86) rfl (by rfl) (p:=.pointer (some ⟨g.2.1,0,none⟩)) (u:=.agg #[.slice g.1.tA g.1.tn g.1.tc,.slice g.1.oA g.1.on g.1.oc,.slice g.1.sA g.1.sn g.1.sc]) (by rfl) (by rfl) [13,7] (by kernel_rfl) (fun f W hF h0 h1=>?_) ?_
      ·obtain ⟨s1,s2,s3⟩:=hF.store1 (GotR.st _ _ _ _ _ _ _) (h1 13 (by simp)) (h1 7 (by simp)) h0;refine ⟨_,?_,s3⟩
       simp [go_sem,s1,s2,zeroM,set3m,GC.m]
      simp only [Act.put,List.setIfInBounds_toArray,List.set_cons_zero,List.set_cons_succ]
      refine wpM_store FTC.dep (by decide) rfl 39 (.tmp 12) (.tmp 87) rfl (by rfl) (p:=.pointer (some ⟨g.2.2,0,none⟩)) (u:=.agg #[.int .i64 g.1.c1,.int .i64 g.1.c2]) (by rfl) (by rfl) [14,7] (by kernel_rfl) (fun f W hF h0 h1=>?_) ?_
      ·obtain ⟨s1,s2,s3⟩:=hF.store2 (GotR.st _ _ _ _ _ _ _) (h1 14 (by simp)) (h1 7 (by simp)) h0;refine ⟨_,?_,s3⟩
       simp [go_sem,s1,s2,zeroH,set2]
      simp only [Act.put,List.setIfInBounds_toArray,List.set_cons_zero,List.set_cons_succ]
      refine wpM_read FTC.dep rfl (by decide) (by decide) ?_;go_big_quiet_step (fail);refine wpQuiet_nil ?_
      refine wpM_nil ?_;intro wq hF;obtain ⟨bW,hg,_,_,f11,f12,_⟩:=hF;obtain ⟨hp11,g11⟩:=f11 rfl;obtain ⟨hp12,g12⟩:=f12 rfl;obtain ⟨l2,m2,f2,got,rt2,iso2,hl2,hs2⟩:=hg rfl;obtain ⟨⟨y,aA,an,ac,bA,bn,bc,cA,cn2,cc2,s1,s2⟩,p11,p12⟩:=g;dsimp only [GC.m] at got g11 g12 hp11 hp12 hs2;have tr2:=got.top ((TopR.st _ _ _ _ _ _ _ _ _).below _ _ HTR.out bW)
      have og2:=HOG.out.below bW;have g5':=HG5.out.below bW;have B:=HBB.out.trans (bW.mono hz3)
      have CK2:=hD (Check19_any y l2 0 rt2.chk.symm)
      have CR2:=hD (CheckR20_any (.slice aA an ac) (.slice bA bn bc) (.slice cA cn2 cc2) m2 0 iso2.cm.symm)
      obtain ⟨out,ho⟩:=reach_ex iso2.cm;have hr2:=Reach.of iso2.cm ho;have CAN1:=hD (fun t o s w h=>Canon20_any t o s (L19.seen l2) iso2.cn (out.map f2) (iso2.emb.reach hr2).rs w h)
      have CAN2:=hD (fun t o s w h=>Canon20_any t o s m2 iso2.cm out ho w h)
      have ecan:=iso2.emb.canon iso2.cm hr2;rw [ecan] at CAN1;have SAM:=hD (fun ta oa sa tb ob sb w ha hb=>Same20_any ta oa sa tb ob sb (canM m2 out) (canM m2 out) true (by simp) w ha hb)
      have OF2:=hD (OF.out y l2 rt2)
      have HRT2:=hD rt2;have HISO2:=hD iso2;have HS2:=hD hs2;have hz5:=HG5.out.lt;have hp5:p5≠p11:=by omega
      replace g11:Bx wq p11 31 #[.slice aA an ac,.slice bA bn bc,.slice cA cn2 cc2]:=g11;replace g12:Bx wq p12 39 #[.int .i64 s1,.int .i64 s2]:=g12;clear ho hr2 ecan rt2 iso2 hs2 hl2 got g5 HTR HOG HG5 HBB CALL HW HMM this c5 e0 e1 e2 e3 e4 f11 f12 hg bW ia;dsimp only;go_wp2_with fail;refine (CK2.out _ (tr2.words H.out B)).mono ?_;rintro e wr1 ⟨rfl,b⟩
      replace tr2:=tr2.below b;replace og2:=og2.below b;replace g5':=g5'.below b;replace g11:=g11.below b;replace g12:=g12.below b;replace B:=B.trans (b.mono B.size)
      clear b;have c_11:=g11.cell;go_wp2_with fail;refine (CR2.out _ tr2.mod).mono ?_;rintro e wr2 ⟨rfl,b⟩
      replace tr2:=tr2.below b;replace og2:=og2.below b;replace g5':=g5'.below b;replace g11:=g11.below b;replace g12:=g12.below b;replace B:=B.trans (b.mono B.size)
      clear b c_11;have c_12:=g12.cell
      go_upto_if 103 with (fail)
      have HF:=hD (And.intro tr2 (And.intro og2 (And.intro g5' (And.intro g11 B))))
      clear tr2 og2 g5' g11 B
      go_cut [7] (fun hv wx=>Hid (∃L,HadOk L∧L.length≤16+j2∧OwnG wx w.heap.size hv L∧TopR w v0 l y l2 (.slice aA an ac) (.slice bA bn bc) (.slice cA cn2 cc2) m2 wx∧Bx wx p5 31 #[.slice tA tn tc,.slice oA on oc,.slice sA sn sc]∧Bx wx p11 31 #[.slice aA an ac,.slice bA bn bc,.slice cA cn2 cc2]∧Below w.heap.size w wx))
      case first=>
       obtain ⟨tr2,og2,g5',g11,B⟩:=HF.out;by_cases hs0:0<s2
       ·have d5:decide (0<s2)=true:=decide_eq_true hs0;have hok:=HS2.out hs0;have hlen:=HL1.out.2;have hne5:=own_not_bx og2 g5' (by decide)
        have hne11:=own_not_bx og2 g11 (by decide)
        go_wp2_with (at_builtin;refine wpList_append (by rfl) rfl rfl rfl Tryz.underlying35 info_hnd rfl (by omega) (by exact own_below og2 ((Below.refl _ _).alloc (Nat.le_refl _) _)) (by exact lit_hnd (s1,s2) (by simp)) (by exact hnL_one _) (by omega) (by omega) (by exact B.alloc B.size _) (Nat.le_refl _) ?_;intro hv3 w3 o3 B3 g3;have q5':=(g5'.alloc _).grown g3 hne5;have q11:=(g11.alloc _).grown g3 hne11;have qtr:=(tr2.below ((Below.refl _ _).alloc (Nat.le_refl _) _)).grow (OwnG.below og2 ((Below.refl _ _).alloc (Nat.le_refl _) _)) g3)
        have HR:=hD (show ∃L,HadOk L∧L.length≤16+j2∧OwnG w3 w.heap.size hv3 L∧TopR w v0 l y l2 (.slice aA an ac) (.slice bA bn bc) (.slice cA cn2 cc2) m2 w3∧Bx w3 p5 31 #[.slice tA tn tc,.slice oA on oc,.slice sA sn sc]∧Bx w3 p11 31 #[.slice aA an ac,.slice bA bn bc,.slice cA cn2 cc2]∧Below w.heap.size w w3 from ⟨L1++[(s1,s2)],HL1.out.1.snoc hok,by rw [List.length_append];have:=HJ2.out;simp;omega,OwnG.of o3 (tabH_snoc _ _),qtr,q5',q11,B3⟩)
        clear o3 B3 g3 q5' q11 qtr og2 tr2 g5' g11 B
        go_meet
        case rel=>exact HR
       ·have d5:decide (0<s2)=false:=decide_eq_false hs0;have HR:=hD (show ∃L,HadOk L∧L.length≤16+j2∧OwnG wr2 w.heap.size u7 L∧TopR w v0 l y l2 (.slice aA an ac) (.slice bA bn bc) (.slice cA cn2 cc2) m2 wr2∧Bx wr2 p5 31 #[.slice tA tn tc,.slice oA on oc,.slice sA sn sc]∧Bx wr2 p11 31 #[.slice aA an ac,.slice bA bn bc,.slice cA cn2 cc2]∧Below w.heap.size w wr2 from ⟨L1,HL1.out.1,by have:=HL1.out.2;have:=HJ2.out;omega,og2,tr2,g5',g11,B⟩)
        clear og2 tr2 g5' g11 B;go_wp2
        go_meet
        case rel=>exact HR
      case rest=>
       clear HF c_12 g12;obtain ⟨L2,hL2,hLl2,og,tr,g5,g11,B⟩:=hcut.out;clear hcut;have HL2:=hD (And.intro hL2 hLl2)
       clear hL2 hLl2;have hb5:w.heap.size≤p5:=hz2;go_wp2_with fail;refine (OF2.out _ (tr.words H.out B)).mono ?_;rintro e wa5 ⟨t',o',s',rfl,om,b⟩
       replace g5:=g5.below b;replace c_g5:=g5.five;replace g11:=g11.below b;replace c_g11:=g11.five;replace og:=og.below b;replace tr:=tr.below b;replace B:=B.trans (b.mono B.size);clear b;replace c_g5:=g5.five;replace c_g11:=g11.five;obtain ⟨⟨x1,x2,x3,rfl⟩,⟨x4,x5,x6,rfl⟩,⟨x7,x8,x9,rfl⟩⟩:=mod_forms om.rd;go_upto_region 21 with (fail)
       refine wpb1 (31) (#[.slice x1 x2 x3,.slice x4 x5 x6,.slice x7 x8 x9]) ?_;rintro wa6 ⟨g14,b⟩
       replace g5:=g5.below b;replace c_g5:=g5.five;replace g11:=g11.below b;replace c_g11:=g11.five;replace og:=og.below b;replace tr:=tr.below b;replace om:=om.below b;replace B:=B.trans (b.mono B.size);clear b;replace c_g14:=g14.five;go_wp2_with fail;refine (CAN1.out _ _ _ _ om.rd).mono ?_;rintro e wa7 ⟨t',o',s',rfl,ca,b⟩
       replace g5:=g5.below b;replace c_g5:=g5.five;replace g11:=g11.below b;replace c_g11:=g11.five;replace og:=og.below b;replace tr:=tr.below b;replace om:=om.below b;replace g14:=g14.below b;replace c_g14:=g14.five;replace B:=B.trans (b.mono B.size);clear b;replace c_g5:=g5.five;replace c_g11:=g11.five;replace c_g14:=g14.five;obtain ⟨⟨y1,y2,y3,rfl⟩,⟨y4,y5,y6,rfl⟩,⟨y7,y8,y9,rfl⟩⟩:=mod_forms ca;go_upto_region 22 with (fail)
       refine wpb1 (31) (#[.slice y1 y2 y3,.slice y4 y5 y6,.slice y7 y8 y9]) ?_;rintro wa8 ⟨g16,b⟩
       replace g5:=g5.below b;replace c_g5:=g5.five;replace g11:=g11.below b;replace c_g11:=g11.five;replace og:=og.below b;replace tr:=tr.below b;replace om:=om.below b;replace g14:=g14.below b;replace c_g14:=g14.five;replace ca:=ca.below b;replace B:=B.trans (b.mono B.size);clear b;replace c_g16:=g16.five;go_wp2_with fail;refine (CAN2.out _ _ _ _ tr.mod).mono ?_;rintro e wa9 ⟨t',o',s',rfl,cb,b⟩
       replace g5:=g5.below b;replace c_g5:=g5.five;replace g11:=g11.below b;replace c_g11:=g11.five;replace og:=og.below b;replace tr:=tr.below b;replace om:=om.below b;replace g14:=g14.below b;replace c_g14:=g14.five;replace ca:=ca.below b;replace g16:=g16.below b;replace c_g16:=g16.five;replace B:=B.trans (b.mono B.size);clear b;replace c_g5:=g5.five;replace c_g11:=g11.five;replace c_g14:=g14.five;replace c_g16:=g16.five;obtain ⟨⟨z1,z2,z3,rfl⟩,⟨z4,z5,z6,rfl⟩,⟨z7,z8,z9,rfl⟩⟩:=mod_forms cb;go_upto_region 23 with (fail)
       refine wpb1 (31) (#[.slice z1 z2 z3,.slice z4 z5 z6,.slice z7 z8 z9]) ?_;rintro wa10 ⟨g18,b⟩
       replace g5:=g5.below b;replace c_g5:=g5.five;replace g11:=g11.below b;replace c_g11:=g11.five;replace og:=og.below b;replace tr:=tr.below b;replace om:=om.below b;replace g14:=g14.below b;replace c_g14:=g14.five;replace ca:=ca.below b;replace g16:=g16.below b;replace c_g16:=g16.five;replace cb:=cb.below b;replace B:=B.trans (b.mono B.size);clear b;replace c_g18:=g18.five;have lo1:=om.rd.o.len;have lo2:=tr.mod.o.len;rw [HISO2.out.len] at lo1;go_wp2_with fail;refine (SAM.out _ _ _ _ _ _ _ ca cb).mono ?_;rintro e wa11 ⟨rfl,b⟩
       replace g5:=g5.below b;replace c_g5:=g5.five;replace g11:=g11.below b;replace c_g11:=g11.five;replace og:=og.below b;replace tr:=tr.below b;replace om:=om.below b;replace g14:=g14.below b;replace c_g14:=g14.five;replace ca:=ca.below b;replace g16:=g16.below b;replace c_g16:=g16.five;replace cb:=cb.below b;replace g18:=g18.below b;replace c_g18:=g18.five;replace B:=B.trans (b.mono B.size);clear b;replace c_g5:=g5.five;replace c_g11:=g11.five;replace c_g14:=g14.five;clear g16 c_g16 g18 c_g18;go_upto_region 25 with (fail)
       clear lo1 lo2 g14 c_g14;refine wp_region_qtail 3 (by kernel_rfl) (by kernel_rfl) ?_;simp only [List.take_succ_cons,List.take_zero,List.drop_succ_cons,List.drop_zero]
       iterate 3 (go_big_quiet_step (fail))
       refine wpQuiet_nil ?_;have FD:Below wa11.heap.size wa11 wa11.drew:=(Below.refl _ wa11).drew;have gd:=g5.below FD;have HZ:=hD (show TopQ w v0 l p5 (16+j2) y u7 (set3m wa11.drew p5 (.slice aA an ac) (.slice bA bn bc) (.slice cA cn2 cc2)) from ⟨l2,m2,f2,L2,aA,bA,cA,an,ac,bn,bc,cn2,cc2,HRT2.out,HISO2.out,HL2.out.1,HL2.out.2,(TopR.st _ _ _ _ _ _ _ _ _).set3 _ _ _ gd (tr.below FD),Bx.put3 gd _ _ _,own_set (own_set (own_set (og.below FD) gd (by decide)) (gd.set _) (by decide)) ((gd.set _).set _) (by decide),below_set3m (B.drew) hb5 _ _ _⟩)
       clear gd FD tr og B g5 g11;go_wp2
       go_roundg (N-j2)
       case measure=>exact hj3.2
       case rel=>exact ⟨j2,hj3.1,rfl,rfl,HZ⟩
     ·obtain rfl:j=N:=by omega
      have d3:decide ((j:Int)<(j:Int))=false:=decide_eq_false (by omega)
      have d4:decide (j<j)=false:=decide_eq_false (by omega)
      have CK1:=hD (Check19_any u0 l1 0 rt1.chk.symm)
      have HW:=hD (tr1.words H.out B)
      clear tr1 g5 og1 hL1 hLl1 rt1 iso1;go_wp2_with fail;refine (CK1.out _ HW.out).mono ?_;rintro e w9 ⟨rfl,b⟩
      replace B:=B.trans (b.mono B.size)
      go_wp2
      go_ret
      exact ⟨rfl,B⟩
end Go.Proofs.YteejianjjpdimaaGreat
