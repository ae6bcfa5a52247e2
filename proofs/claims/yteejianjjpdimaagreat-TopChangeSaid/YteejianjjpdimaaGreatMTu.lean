/- Contracts of the functions that the laws 'T' reach, part 21. No condition. -/
import Derived.Test.YteejianjjpdimaaGreatMTt
set_option linter.unusedVariables false
set_option linter.unusedSimpArgs false
set_option maxRecDepth 100000
set_option maxHeartbeats 8000000
namespace Go.Proofs.YteejianjjpdimaaGreat
section
open Go.RowKit L01 L02 L05 L06 L07 L13 L14 L15 L18 L19 L20
theorem All18_own (v:Value) (l:List UInt64) (L:List Sl) (hL:L=slots l) (h0:openErr l=0) (w:World) (h:Words w v l):
  Calls Tryz.prog 14 #[v] w fun e w'=>∃x,e=.returned (.tuple #[x,.int .i64 0])∧OwnS w' w.heap.size 123 x L∧Below w.heap.size w w':=by
 have B:=Below.refl w.heap.size w;obtain ⟨V,hV⟩:=exq (tab (tabOf l))
 have HOT:=hD (open_any v l V hV 0 h0.symm);have H:=hD h;clear h;have hVs:V.size=48:=by rw [hV];exact tabOf_size l
 have hV1:V.all (·.oneCell')=true:=by rw [hV];exact tab_one _
 have hVL:V=tab L:=by rw [hV,tabOf_ok h0,hL]
 have hL16:L.length=16:=by rw [hL];exact slots16 h0
 have HVs:=hD hVs;have HV1:=hD hV1;have HVL:=hD hVL;have HL16:=hD hL16;clear h0 hVs hV1 hVL hL16 hV hL;go_in;go_wp2_with fail;refine (HOT.out _ (H.out.below B)).mono ?_;rintro e w' ⟨rfl,b⟩
 replace B:=B.trans (b.mono B.size);clear b;go_wp2_with ((with_reducible refine at_store 123 4 9 ?_);refine wpList_storeNew rfl _ _ _ rfl rfl V rfl rfl (by rw [HVs.out];exact size_table) (by rw [HVs.out];rfl) HV1.out ?_;intro W q1 b1)
 go_ret2
 exact ⟨_,rfl,q1.ownS B.size HVL.out HL16.out,B.trans (b1.mono B.size)⟩
structure PushO (wr W' w:World) (B0 p:Nat) (v xt ys:Value) (L:List Ob) (o:Ob):Prop where
 own:OwnO W' B0 v (L++[o])
 md:Bx W' p 31 #[xt,v,ys]
 below:Below B0 w W'
 row:∀{B e sz n:Nat} {x:Value} {xs:List Value},wr.ownsRow B e sz x n xs→e≠68→e≠31→W'.ownsRow B e sz x n xs
 bx:∀{q:Nat} {t:TypeId} {cs:Array Value},Bx wr q t cs→q≠p→68≠t→Bx W' q t cs
 map:∀{k e:TypeId} {z0:Lit} {g n:Nat} {f:Int→Lit} {K:Int→Bool},MapN Tryz.prog k e z0 wr g n f K→MapN Tryz.prog k e z0 W' g n f K
theorem PushO.t {wr W' w:World} {B0 p:Nat} {v xt ys:Value} {L:List Ob} {o:Ob} (h:PushO wr W' w B0 p v xt ys L o) {B:Nat} {x:Value} {T:List (List UInt8)} (hT:OwnT wr B x T):OwnT W' B x T:=by
 obtain ⟨vs,a1,a2,a4⟩:=hT;exact ⟨vs,a1,h.row a2 (by decide) (by decide),fun i x l h5 h6=>h.row (a4 i x l h5 h6) (by decide) (by decide)⟩
theorem pushO {w wr W1 W3:World} {B0 p n:Nat} {ot y v xt ys:Value} {vs:List Value} {L:List Ob} {o:Ob}
  (z1:vs.length=L.length) (z2:wr.ownsRow B0 68 2 ot L.length (obC L vs)) (z4:∀(i:Nat) x l,vs[i]?=some x→L[i]?=some l→OwnW wr B0 42 x l.fs)
  (z5:∀(i j:Nat) x y,i≠j→vs[i]?=some x→vs[j]?=some y→x.ownBlock=none∨x.ownBlock≠y.ownBlock)
  (oy:OwnW W1 wr.heap.size 42 y o.fs) (b1:Below wr.heap.size wr W1) (hown:W3.ownsRow B0 68 2 v n (obC L vs++[i64 o.ty,y])) (hgr:(W1.alloc (.cells #[i64 o.ty,y] 68)).grownBy W3 ot.ownBlock)
  (q3:Bx wr p 31 #[xt,ot,ys]) (B:Below B0 w wr) (hB:B0≤wr.heap.size) (hp:B0≤p):
  (W3.cell? ⟨p,1,none⟩=some ot∧W3.frozen? ⟨p,1,none⟩=false)∧PushO wr (W3.setCell ⟨p,1,none⟩ v) w B0 p v xt ys L o:=by
 have b2:Below wr.heap.size wr (W1.alloc (.cells #[i64 o.ty,y] 68)):=b1.alloc b1.size _;have z2':=own_below z2 b2;have nx:=fun {g:Nat} {cs:Array Value} (hq:Bx (W1.alloc (.cells #[i64 o.ty,y] 68)) g 31 cs)=>Bx.grown hq hgr (own_not_bx z2' hq (by decide))
 have r3:=nx (q3.below b2)
 have oO:OwnO W3 B0 v (L++[o]):=OwnO.snoc z1 z2' hown (fun i x l h5 h6=>OwnW.below (z4 i x l h5 h6) b2) z5 (OwnW.below (own_mono oy hB) ((Below.refl _ W1).alloc (Nat.le_refl _) _))
  (fun i x hx=>own_ne (z4 i x _ hx (List.getElem?_eq_getElem (by have:=(List.getElem?_eq_some_iff.1 hx).1;omega))) oy (Nat.le_refl _)) hgr
 have B3:Below B0 w W3:=(B.trans (b2.mono hB)).grown hgr (Nat.le_trans hB b2.size) (fun k hk=>(z2'.lt k hk).1)
 refine ⟨⟨r3.cell 1,r3.free 1⟩,oO.set r3 (by decide) (by decide),?_,B3.setCell (p:=⟨p,1,none⟩) hp _,?_,?_,?_⟩
 ·have:=r3.set (i:=1) v;simpa using this
 ·intro B e sz n x xs h h1 h2;exact own_set (World.ownsRow.kept (own_below h b2) hgr (own_unlike (own_below h b2) z2' h1)) r3 h2
 ·intro q t cs h h1 h2;exact ((h.below b2).grown hgr (own_not_bx z2' (h.below b2) h2)).far (p:=⟨p,1,none⟩) h1 _
 ·intro k e z0 g n f K h;have h2:=h.below b2;obtain ⟨es,ck,hm⟩:=h2.mapL.block;have h3:=h2.kept hgr (fun e=>by
   rcases own_ne_map z2' hm with h | h
   ·rw [h] at e;cases e
   ·exact h e.symm)
  obtain ⟨es',ck',hm'⟩:=h3.mapL.block;exact h3.kept (grown_set _ ⟨p,1,none⟩ _) (fun e=>r3.ne_map hm' (by injection e))
theorem OwnM.slotsE {w W:World} {B E g n c:Nat} {tv ov:Value} {m:Mo} {S:List Sl} (h:OwnM w B E tv ov (.slice (some ⟨g,0,none⟩) n c) m) (hg:w.grownBy W (some g)) (hS:OwnS W B E (.slice (some ⟨g,0,none⟩) n c) S) (h1:66≠E) (h2:5≠E) (h3:68≠E) (h4:42≠E):
  OwnM W B E tv ov (.slice (some ⟨g,0,none⟩) n c) ⟨m.types,m.objs,S⟩:=by
 refine ⟨OwnT.kept h.t h.s hg h1 h2,?_,hS⟩
 obtain ⟨vs,a1,a2,a4,a5⟩:=h.o;exact ⟨vs,a1,World.ownsRow.kept a2 hg (own_unlike a2 h.s h3),fun i x l h5 h6=>World.ownsRow.kept (a4 i x l h5 h6) hg (own_unlike (a4 i x l h5 h6) h.s h4),a5⟩
theorem OwnM.set3E {w:World} {B E p:Nat} {tv ov sv a b c:Value} {m:Mo} {cs:Array Value} (h:OwnM w B E tv ov sv m) (hg:Bx w p 31 cs) (hE:E≠31):
  OwnM (((w.setCell ⟨p,0,none⟩ a).setCell ⟨p,1,none⟩ b).setCell ⟨p,2,none⟩ c) B E tv ov sv m:=by
 have st:∀{w:World} {cs:Array Value} {i:Nat} {u:Value},OwnM w B E tv ov sv m→Bx w p 31 cs→OwnM (w.setCell ⟨p,i,none⟩ u) B E tv ov sv m:=fun h hg=>⟨h.t.set hg (by decide) (by decide),h.o.set hg (by decide) (by decide),own_set h.s hg hE⟩
 exact st (st (st h hg) (hg.set a)) ((hg.set a).set b)
def numI (O:List Hb) (a:Int):Int:=match idx O a with | some i=>(i:Int) | none=>0
theorem numI_idxI {O:List Hb} {a:Int} (h:IsObj O a):numI O a=idxI O a:=by
 obtain ⟨i,b,h1,_⟩:=idx_of h;unfold numI idxI;rw [h1]
theorem numI_rng {O:List Hb} {a:Int} (h:O.length≤960):0≤numI O a∧numI O a≤960:=by
 unfold numI;cases h2:idx O a with
 | none=>exact ⟨Int.le_refl _,by decide⟩
 | some i=>
  obtain ⟨b,h3,_⟩:=idx_some h2
  have:=(List.getElem?_eq_some_iff.1 h3).1;show 0≤(i:Int)∧(i:Int)≤960;exact ⟨by omega,by omega⟩
theorem numI_snoc {O:List Hb} {b:Hb} {a:Int} (hb:¬IsObj O b.at_):numI (O++[b]) a=if a=b.at_ then (O.length:Int) else numI O a:=by
 unfold numI;rw [idx_app]
 by_cases h:a=b.at_
 ·subst h;rw [if_pos rfl,idx_none.2 hb,idx,if_pos rfl]
  show ((0+O.length:Nat):Int)=_;omega
 ·rw [if_neg h]
  cases idx O a with
  | some i=>rfl
  | none=>rw [idx,if_neg (fun e=>h e.symm),idx];rfl
theorem objs_new {l:List UInt64} (h:allErr l=0) {j:Nat} {b:Hb} (hb:(allL l)[j]?=some b):¬IsObj (objs ((allL l).take j)) b.at_:=by
 rintro ⟨c,hc,e⟩
 obtain ⟨hc1,_⟩:=objs_mem.1 hc;obtain ⟨i,hi⟩:=List.getElem?_of_mem hc1;have hi1:=(List.getElem?_eq_some_iff.1 hi).1;rw [List.length_take] at hi1;rw [List.getElem?_take_of_lt (by omega)] at hi;have hp:=List.pairwise_iff_getElem.1 (chain_apart (chain_iff.1 (parsed_ok.1 (allErr_ok h).2).1)).2;obtain ⟨i1,i2⟩:=List.getElem?_eq_some_iff.1 hi;obtain ⟨j1,j2⟩:=List.getElem?_eq_some_iff.1 hb
 have:=hp i j i1 j1 (by omega)
 rw [i2,j2] at this;obtain ⟨x,_,_,hs,h4,_⟩:=all_mem h (List.mem_of_getElem? hi)
 have hz:=szN_ge hs
 have:c.size=szN l x:=by rw [h4];exact stand_size hs
 omega
theorem inKinds {l:List UInt64} (rt:Rt l) {b:Hb} (hb:b∈O19 l):∃(a q:Nat) (t:List UInt8),b.at_=a∧b.ty=q∧(T19 l)[q]?=some t∧kindsB (T19 l) b=t∧128≤a∧a≤2048∧a+2+t.length≤l.length∧t.length≤8:=by
 have hty:Typed (T19 l) b:=rt.good 8 (by omega) (by omega) b hb;obtain ⟨a,q,t,ha,hq,hTq,hkB,_,hle,_⟩:=in_kinds (in19_of rt.al hb) hty;have hkE:kErr t=0:=(T19_ok rt.ty).2 t (List.mem_of_getElem? hTq)
 obtain ⟨a',h1,h2,h3,h4,_⟩:=objs_at rt.al hb
 have:=rt.sz.2.1;exact ⟨a,q,t,ha,hq,hTq,hkB,by omega,by omega,hle,(kErr_ok hkE).1⟩
end
section
open Go.RowKit L01 L02 L05 L06 L07 L13 L14 L15 L18 L19 L20
def RefTo (l:List UInt64) (T:List (List UInt8)) (a:Int) (c:Hb):Prop:=c.kind=1∧c.at_≠a∧∃j,j<(kindsB T c).length∧((kindsB T c).getD j 0).toNat=3∧((fw l c j).toNat:Int)=a
theorem Busy23_any (v:Value) (l:List UInt64) (sl g:Int) (b:Bool) (r:Int) (hb:b=biE l sl g) (hr:r=askI l sl g) (w:World) (h:Words w v l):
  Calls Tryz.prog 71 #[v,.agg #[.int .i64 sl,.int .i64 g]] w fun e w'=>e=.returned (.tuple #[.bool b,.int .i64 r])∧Below w.heap.size w w':=by
 have B:=Below.refl w.heap.size w;have H:=hD h;obtain ⟨p,hp⟩:=exq (atI l sl g)
 have OT:=hD (open23_any v l sl g p r hp hr)
 by_cases h0:r=0;case neg=>
  obtain rfl:b=false:=by rw [hb,biE,decide_eq_false (by rw [←hr];exact h0),Bool.false_and]
  have n1:(r != 0)=true:=by rw [bne_iff_ne];exact h0
  clear hb hr h hp h0;go_in;go_upto_region 1 with (fail)
  refine wpb1 (39) (#[.int .i64 sl,.int .i64 g]) ?_;rintro wa1 ⟨g1,b⟩
  replace B:=B.trans (b.mono B.size);clear b;replace c_g1:=g1.five;go_wp2_with fail;refine (OT.out _ (H.out.below B)).mono ?_;rintro e wa2 ⟨rfl,b⟩
  replace g1:=g1.below b;replace c_g1:=g1.five;replace B:=B.trans (b.mono B.size);clear b;go_wp2
  go_ret2
  exact ⟨rfl,B⟩
 case pos=>
  subst h0;obtain ⟨k,a,nn,q0,bk,t0,rfl,hh⟩:=Hd.of hr.symm;obtain rfl:p=(a:Int):=by rw [hp];exact hh.hati
  have rt:=hh.rt;obtain ⟨T,hT⟩:=exq (T19 l)
  obtain ⟨S,hS⟩:=exq (slots l)
  obtain ⟨L,hL⟩:=exq (allL l)
  obtain ⟨sw,hsw⟩:=exq (sW l)
  obtain ⟨st,hst⟩:=exq (sT l)
  obtain ⟨i0,hi0⟩:=exq (is0 l)
  obtain ⟨i1,hi1⟩:=exq (is1 l)
  have T3:=hD (TRead_any v l sw st i0 i1 0 hsw hst hi0 hi1 rt.tw.symm)
  have KT:=hD (KTable_any v l st T 0 (by rw [hT,hst];rfl) (by rw [hst];exact rt.ty.symm))
  have AT:=hD (All18_own v l S hS rt.sl)
  have WT:=hD (AllW_any v l L 0 hL rt.al.symm)
  have hbu:b=true↔Busy (L19.seen l) k (L20.own (L19.seen l) k):=by rw [hb,biE,decide_eq_true hr.symm,Bool.true_and,decide_eq_true_iff]
  rw [hh.busy,←hS,←hT] at hbu;have hobj:∀c,c∈L→c.kind=1→c∈O19 l:=fun c h1 h2=>objs_mem.2 ⟨by rw [←hL];exact h1,h2⟩
  have hyS:∀i s,(i:Nat)≠k→S[i]?=some s→s.used=true→s.at_=a→b=true:=fun i s h1 h2 h3 h4=>hbu.2 (.inl ⟨i,s,h1,h2,h3,h4⟩)
  have hyF:∀c,c∈L→RefTo l T a c→b=true:=fun c h1 ⟨h2,h3,j,h4,h5,h6⟩=>hbu.2 (.inr ⟨c,hobj c h1 h2,h3,j,h4,h5,h6⟩)
  have hno:(∀(i:Nat) s,i<16→S[i]?=some s→¬((i:Int)≠k∧s.used=true∧s.at_=a))→(∀i c,i<L.length→L[i]?=some c→¬RefTo l T a c)→b=false:=fun h1 h2=>by
   rw [←Bool.not_eq_true]
   intro hb1;rcases hbu.1 hb1 with ⟨i,s,z1,z2,z3,z4⟩ | ⟨c,z1,z2,z3⟩
   ·have hi:=(List.getElem?_eq_some_iff.1 z2).1;rw [hS,slots_len' rt.sl] at hi;exact h1 i s hi z2 ⟨by omega,z3,z4⟩
   ·obtain ⟨y1,y2⟩:=objs_mem.1 z1;obtain ⟨i,hi⟩:=List.getElem?_of_mem y1;rw [←hL] at hi;exact h2 i c (List.getElem?_eq_some_iff.1 hi).1 hi ⟨y2,z2,z3⟩
  have hL9:L.length≤960:=by rw [hL];exact all_len rt.al
  have hS16:S.length=16:=by rw [hS];exact slots_len' rt.sl
  obtain ⟨N,hN⟩:=exq L.length;have hN9:N≤960:=by omega
  have ha2:=hh.ha2;have hk16:=hh.hk;have HRT:=hD rt;have HT:=hD hT;have HN:=hD hN;have HS16:=hD hS16;have HOB:=hD hobj;have HYS:=hD hyS;have HYF:=hD hyF;have HNO:=hD hno;have wa0:IntKind.u64.wrap (a:Int)=(a:Int):=by show (a:Int) % 18446744073709551616=_;omega
  clear h hb hr hp rt hT hS hL hL9 hS16 hN hsw hst hi0 hi1 hobj hyS hyF hno hbu hh;go_in;go_upto_region 1 with (fail)
  refine wpb1 (39) (#[.int .i64 k,.int .i64 g]) ?_;rintro wa1 ⟨g1,b⟩
  replace B:=B.trans (b.mono B.size);clear b;replace c_g1:=g1.five;go_wp2_with fail;refine (OT.out _ (H.out.below B)).mono ?_;rintro e wa2 ⟨rfl,b⟩
  replace g1:=g1.below b;replace c_g1:=g1.five;replace B:=B.trans (b.mono B.size);clear b;go_wp2_with fail;refine (AT.out _ (H.out.below B)).mono ?_;rintro e wa3 ⟨xs,rfl,os,b⟩
  replace g1:=g1.below b;replace c_g1:=g1.five;replace B:=B.trans (b.mono B.size);clear b;obtain ⟨gS,sc,rfl⟩:∃g c,xs=.slice (some ⟨g,0,none⟩) 16 c:=by obtain ⟨g,n,c,e,e2⟩:=os.form (by rw [HS16.out];omega);rw [e2,HS16.out] at e;exact ⟨g,c,e⟩
  have HG:=hD (And.intro g1 (And.intro os.rd B))
  have HBB:=hD (Below.refl wa3.heap.size wa3)
  have hB1:=B.size;clear os g1 B c_g1;go_wp2
  go_loopg [38] 16 (fun gg i wr=>∃j:Nat,j≤16∧gg=16-j∧i=.int .i64 j∧Hid (Below wa3.heap.size wa3 wr∧∀(i:Nat) s,i<j→S[i]?=some s→¬((i:Int)≠k∧s.used=true∧s.at_=a)))
  case atStart=>exact ⟨0,by omega,by omega,rfl,hD ⟨HBB.out,fun i s hi=>by omega⟩⟩
  case round=>
   obtain ⟨j,hj,rfl,rfl,hh⟩:=hrel;clear HBB;have B2:=hh.out.1;have HZ:=hD hh.out.2;have g1:=HG.out.1.below B2;have B:=HG.out.2.2.trans (B2.mono hB1)
   clear hh;by_cases hlt:j<16
   ·obtain ⟨bs,qs,s,ix,m0,m1,m2,hs⟩:=(HG.out.2.1.below B2).at_ (P:=Tryz.prog) Tryz.underlying29 size_slot (k:=j) (by rw [HS16.out];exact hlt)
    have hcase:=busy_cases (j:Int) (k:Int) s a;have HY:=hD (fun (h1:(j:Nat)≠k) (h2:s.used=true) (h3:s.at_=a)=>HYS.out j s h1 hs.out h2 h3)
    have HJ:=hD (fun (hx:¬((j:Int)≠k∧s.used=true∧s.at_=(a:Int)))=>show ∀(i:Nat) s,i<j+1→S[i]?=some s→¬((i:Int)≠k∧s.used=true∧s.at_=a) from fun i s' hi hs'=>by
     by_cases hij:i<j
     ·exact HZ.out i s' hij hs'
     ·obtain rfl:i=j:=by omega
      obtain rfl:s'=s:=by have:=hs.out;rw [hs'] at this;injection this
      exact hx)
    obtain ⟨gn,us,at9⟩:=s;dsimp only at *;clear hs HZ;rcases hcase with e1 | ⟨e1,rfl⟩ | ⟨e1,rfl,e3⟩ | ⟨e1,rfl,e3⟩
    ·have HR:=hD (HJ.out (fun hx=>by rw [bne_eq_false_iff_eq] at e1;exact hx.1 e1))
     clear HJ HY;go_upto_region 8 with (fail)
     refine wpb1 (37) (#[.int .i64 gn,.bool us,.int .i64 at9]) ?_;rintro wa4 ⟨g2,b⟩
     replace g1:=g1.below b;replace c_g1:=g1.five;replace B2:=B2.trans (b.mono B2.size);replace m0:=cell_later b m0;replace m1:=cell_later b m1;replace m2:=cell_later b m2;replace B:=B.trans (b.mono B.size);clear b;replace c_g2:=g2.five;have HB2:=hD B2;clear B2 B m0 m1 m2;go_wp2
     go_roundg (16-(j+1))
     case measure=>omega
     case rel=>exact ⟨j+1,by omega,rfl,by go_num,hD ⟨HB2.out,HR.out⟩⟩
    ·have HR:=hD (HJ.out (fun hx=>by cases hx.2.1))
     clear HJ HY;go_upto_region 8 with (fail)
     refine wpb1 (37) (#[.int .i64 gn,.bool false,.int .i64 at9]) ?_;rintro wa5 ⟨g2,b⟩
     replace g1:=g1.below b;replace c_g1:=g1.five;replace B2:=B2.trans (b.mono B2.size);replace m0:=cell_later b m0;replace m1:=cell_later b m1;replace m2:=cell_later b m2;replace B:=B.trans (b.mono B.size);clear b;replace c_g2:=g2.five;have HB2:=hD B2;clear B2 B m0 m1 m2;go_wp2
     go_roundg (16-(j+1))
     case measure=>omega
     case rel=>exact ⟨j+1,by omega,rfl,by go_num,hD ⟨HB2.out,HR.out⟩⟩
    ·have HR:=hD (HJ.out (fun hx=>by rw [beq_eq_false_iff_ne] at e3;exact e3 hx.2.2))
     clear HJ HY;go_upto_region 8 with (fail)
     refine wpb1 (37) (#[.int .i64 gn,.bool true,.int .i64 at9]) ?_;rintro wa6 ⟨g2,b⟩
     replace g1:=g1.below b;replace c_g1:=g1.five;replace B2:=B2.trans (b.mono B2.size);replace m0:=cell_later b m0;replace m1:=cell_later b m1;replace m2:=cell_later b m2;replace B:=B.trans (b.mono B.size);clear b;replace c_g2:=g2.five;have HB2:=hD B2;clear B2 B m0 m1 m2;go_wp2
     go_roundg (16-(j+1))
     case measure=>omega
     case rel=>exact ⟨j+1,by omega,rfl,by go_num,hD ⟨HB2.out,HR.out⟩⟩
    ·obtain rfl:=HY.out (by rw [bne_iff_ne] at e1;omega) rfl (by rw [beq_iff_eq] at e3;exact e3)
     clear HJ HY;go_upto_region 8 with (fail)
     refine wpb1 (37) (#[.int .i64 gn,.bool true,.int .i64 at9]) ?_;rintro wa7 ⟨g2,b⟩
     replace g1:=g1.below b;replace c_g1:=g1.five;replace B2:=B2.trans (b.mono B2.size);replace m0:=cell_later b m0;replace m1:=cell_later b m1;replace m2:=cell_later b m2;replace B:=B.trans (b.mono B.size);clear b;replace c_g2:=g2.five;have HB2:=hD B;clear B2 B m0 m1 m2;go_wp2
     go_ret2
     exact ⟨rfl,HB2.out⟩
   ·obtain rfl:j=16:=by omega
    clear HG g1 B2;go_wp2_with fail;refine (T3.out _ (H.out.below B)).mono ?_;rintro e wa8 ⟨rfl,b⟩
    replace B:=B.trans (b.mono B.size);clear b;go_upto_region 12 with (fail)
    refine wpb10 (51) (#[.int .i64 sw,.int .i64 st]) ?_;rintro wa9 ⟨g3,b⟩
    replace B:=B.trans (b.mono B.size);clear b;replace c_g3:=g3.five;go_wp2_with fail;refine (KT.out _ (H.out.below B)).mono ?_;rintro e wa10 ⟨xt,rfl,ot,b⟩
    replace g3:=g3.below b;replace c_g3:=g3.five;replace B:=B.trans (b.mono B.size);clear b;clear c_g3;clear g3;go_wp2_with fail;refine (WT.out _ (H.out.below B)).mono ?_;rintro e wa11 ⟨xl,rfl,ol,b⟩
    replace ot:=ot.below b;replace B:=B.trans (b.mono B.size);clear b;go_upto_region 14 with (fail)
    refine wp_gen (fun V=>Typs V xt T∧Blks V xl L∧Below w.heap.size w V) ⟨ot.rd,ol.rd,B⟩ ?_;clear ot ol B;intro V0 hV0;have HV:=hD hV0;have hV1:=hV0.2.2.size;have HBB:=hD (Below.refl V0.heap.size V0)
    have lx:=hV0.2.1.len;rw [←HN.out] at lx;clear hV0;go_wp2;clear lx
    go_loopg [78] N (fun gg i wr=>∃j:Nat,j≤N∧gg=N-j∧i=.int .i64 j∧Hid (Below V0.heap.size V0 wr∧∀i c,i<j→L[i]?=some c→¬RefTo l T a c))
    case atStart=>exact ⟨0,by omega,by omega,rfl,hD ⟨HBB.out,fun i c hi=>by omega⟩⟩
    case round=>
     obtain ⟨j,hj2,rfl,rfl,hh⟩:=hrel;clear HBB;have B2:=hh.out.1;have HZ2:=hD hh.out.2;have B:=HV.out.2.2.trans (B2.mono hV1)
     clear hh;by_cases hlt:j<N
     ·obtain ⟨bb,oo,c,ia,m0,m1,m2,m3,m4,m5,hc,_⟩:=(Blks.below HV.out.2.1 B2).at_ (k:=j) (by rw [←HN.out];exact hlt)
      have HJ:=hD (fun (hx:¬RefTo l T a c)=>show ∀i c,i<j+1→L[i]?=some c→¬RefTo l T a c from fun i c' hi hc'=>by
       by_cases hij:i<j
       ·exact HZ2.out i c' hij hc'
       ·obtain rfl:i=j:=by omega
        obtain rfl:c'=c:=by have:=hc.out;rw [hc'] at this;injection this
        exact hx)
      have hcL:=List.mem_of_getElem? hc.out;by_cases hk:c.kind=1
      ·by_cases hca:c.at_=a
       ·have k1:(c.kind != 1)=false:=by rw [bne_eq_false_iff_eq];exact hk
        have k2:(c.at_==(a:Int))=true:=by rw [beq_iff_eq];exact hca
        have HR:=hD (HJ.out (fun hx=>hx.2.1 hca))
        clear HJ hc hcL hk hca HZ2;go_upto_region 17 with (fail)
        refine wpb1 (64) (#[.int .i64 c.at_,.int .i64 c.size,.int .i64 c.kind,.int .i64 c.ty,.bool c.mark,.int .u64 c.next.toNat]) ?_;rintro wa12 ⟨g8,b⟩
        replace B2:=B2.trans (b.mono B2.size);replace m0:=cell_later b m0;replace m1:=cell_later b m1;replace m2:=cell_later b m2;replace m3:=cell_later b m3;replace m4:=cell_later b m4;replace m5:=cell_later b m5;replace B:=B.trans (b.mono B.size);clear b;replace c_g8:=g8.five;have HB2:=hD B2;clear B2 B m0 m1 m2 m3 m4 m5;go_wp2
        go_roundg (N-(j+1))
        case measure=>omega
        case rel=>exact ⟨j+1,by omega,rfl,by go_num,hD ⟨HB2.out,HR.out⟩⟩
       ·have k1:(c.kind != 1)=false:=by rw [bne_eq_false_iff_eq];exact hk
        have k2:(c.at_==(a:Int))=false:=by rw [beq_eq_false_iff_ne];exact hca
        obtain ⟨a2,q,t,ha,hq,hTq,hkB,ha1,ha3,hle,hn8⟩:=inKinds HRT.out (HOB.out c hcL hk)
        rw [←HT.out] at hTq hkB;obtain ⟨nf,hnf⟩:=exq t.length;rw [←hnf] at hle hn8;have hqT:=(List.getElem?_eq_some_iff.1 hTq).1;have HYE:=hD (show ∀p,p<nf→(t.getD p 0).toNat=3→((l.getD (a2+2+p) 0).toNat:Int)=a→b=true from fun p h1 h2 h3=>HYF.out c hcL ⟨hk,hca,p,by rw [hkB,←hnf];exact h1,by rw [hkB];exact h2,by unfold fw;rw [ha,Int.toNat_natCast];exact h3⟩)
        have HJ2:=hD (show (∀p,p<nf→¬((t.getD p 0).toNat=3∧((l.getD (a2+2+p) 0).toNat:Int)=a))→¬RefTo l T a c from fun h1 ⟨_,_,p,h2,h3,h4⟩=>h1 p (by rw [hkB,←hnf] at h2;exact h2) ⟨by rw [hkB] at h3;exact h3,by unfold fw at h4;rw [ha,Int.toNat_natCast] at h4;exact h4⟩)
        have HTQ:=hD hTq;have HNF:=hD hnf;have HQT:=hD hqT;have HLE:=hD hle;obtain ⟨bat,bsz,bkd,bty,bmk,bnx⟩:=c;dsimp only at ha hq m0 m1 m2 m3 m4 m5 k1 k2;subst ha;subst hq;clear hTq hkB hnf hqT hle hc hcL hk hca HZ2;go_upto_region 17 with (fail)
        refine wpb1 (64) (#[.int .i64 a2,.int .i64 bsz,.int .i64 bkd,.int .i64 q,.bool bmk,.int .u64 bnx.toNat]) ?_;rintro wa13 ⟨g8,b⟩
        replace B2:=B2.trans (b.mono B2.size);replace m0:=cell_later b m0;replace m1:=cell_later b m1;replace m2:=cell_later b m2;replace m3:=cell_later b m3;replace m4:=cell_later b m4;replace m5:=cell_later b m5;replace B:=B.trans (b.mono B.size);clear b;replace c_g8:=g8.five;obtain ⟨ad,yt,t2,iy,m9,ht2,hby⟩:=(HV.out.1.below B2).at_ HQT.out;obtain rfl:t2=t:=by have:=ht2.out;rw [HTQ.out] at this;injection this with e;exact e.symm
        have lx:=Rd.len hby.out Tryz.underlying66;rw [←HNF.out] at lx;refine wp_gen (fun V=>Bx V wr.heap.size 64 #[.int .i64 a2,.int .i64 bsz,.int .i64 bkd,.int .i64 q,.bool bmk,.int .u64 bnx.toNat]∧V.cell? ad=some yt∧Byts V yt t2∧Below V0.heap.size V0 V) ⟨g8,m9,hby.out,B2⟩ ?_;clear ht2 hby g8 m0 m1 m2 m3 m4 m5 m9 c_g8 B2 B;intro V1 hV1';obtain ⟨g8,m9,hby,B2⟩:=hV1';have HV2:=hD (And.intro g8 (And.intro hby B2))
        have HBC:=hD (Below.refl V1.heap.size V1)
        have hV2:=B2.size;have c_8:=g8.cell;clear g8 hby B2;go_wp2;clear c_8 m9 lx
        go_loopg [97] nf (fun gg i wr=>∃p:Nat,p≤nf∧gg=nf-p∧i=.int .i64 p∧Hid (Below V1.heap.size V1 wr∧∀p',p'<p→¬((t2.getD p' 0).toNat=3∧((l.getD (a2+2+p') 0).toNat:Int)=a)))
        case atStart=>exact ⟨0,by omega,by omega,rfl,hD ⟨HBC.out,fun i hi=>by omega⟩⟩
        case round=>
         obtain ⟨p,hp,rfl,rfl,hh⟩:=hrel;clear HBC;have B3:=hh.out.1;have HZ3:=hD hh.out.2;have g8:=HV2.out.1.below B3;have B2:=HV2.out.2.2.trans (B3.mono hV2)
         have B:=HV.out.2.2.trans (B2.mono hV1)
         clear hh;by_cases hlp:p<nf
         ·obtain ⟨bd,kk,ib,m4,hkk⟩:=(HV2.out.2.1.below B3).at_ (P:=Tryz.prog) Tryz.underlying66 one_u8 (k:=p) (by rw [←HNF.out];exact hlp)
          obtain ⟨cd,x,ic,m6,hx⟩:=(H.out.below B).at_ (P:=Tryz.prog) Tryz.underlying22 one_u64 (k:=a2+2+p) (by have:=HLE.out;omega)
          have ic2:∀W,(Instr.indexAt 22 v (.int .i64 ((a2:Int)+2+(p:Int)))).run Tryz.prog W=.ok (.pointer (some cd)) W:=ic;have hk3:t2.getD p 0=kk:=by rw [List.getD_eq_getElem?_getD,hkk.out];rfl
          have hx3:l.getD (a2+2+p) 0=x:=by rw [List.getD_eq_getElem?_getD,hx.out];rfl
          have HY9:=hD (HYE.out p hlp)
          rw [hk3,hx3] at HY9;have HJ3:=hD (fun (hxx:¬(kk.toNat=3∧(x.toNat:Int)=a))=>show ∀p',p'<p+1→¬((t2.getD p' 0).toNat=3∧((l.getD (a2+2+p') 0).toNat:Int)=a) from fun i hi=>by
           by_cases hij:i<p
           ·exact HZ3.out i hij
           ·obtain rfl:i=p:=by omega
            rw [hk3,hx3];exact hxx)
          have w1:IntKind.i64.wrap ((a2:Int)+2)=(a2:Int)+2:=IntWalk.i64_in _ (by omega)
          have w2:IntKind.i64.wrap ((a2:Int)+2+(p:Int))=(a2:Int)+2+(p:Int):=IntWalk.i64_in _ (by omega)
          have c_8:=g8.cell;clear ic hkk hx hk3 hx3 HZ3 g8;by_cases hk3:kk.toNat=3
          ·have e1:((kk.toNat:Int)==3)=true:=by rw [beq_iff_eq];omega
           by_cases hx3:(x.toNat:Int)=a
           ·have e2:((x.toNat:Int)==(a:Int))=true:=by rw [beq_iff_eq];exact hx3
            obtain rfl:=HY9.out hk3 hx3;have HB9:=hD B;clear HJ3 HY9 B B2 B3 hx3 hk3;go_wp2
            go_ret2
            exact ⟨rfl,HB9.out⟩
           ·have e2:((x.toNat:Int)==(a:Int))=false:=by rw [beq_eq_false_iff_ne];exact hx3
            have HR:=hD (And.intro B3 (HJ3.out (fun hx=>hx3 hx.2)))
            clear HJ3 HY9 B B2 B3 hx3 hk3;go_wp2
            go_roundg (nf-(p+1))
            case measure=>omega
            case rel=>exact ⟨p+1,by omega,rfl,by go_num,HR⟩
          ·have e1:((kk.toNat:Int)==3)=false:=by rw [beq_eq_false_iff_ne];omega
           have HR:=hD (And.intro B3 (HJ3.out (fun hx=>hk3 hx.1)))
           clear HJ3 HY9 B B2 B3 hk3;go_wp2
           go_roundg (nf-(p+1))
           case measure=>omega
           case rel=>exact ⟨p+1,by omega,rfl,by go_num,HR⟩
         ·obtain rfl:p=nf:=by omega
          have HR:=hD (And.intro B2 (HJ.out (HJ2.out HZ3.out)))
          clear g8 B B2 B3;go_wp2
          go_roundg (N-(j+1))
          case measure=>omega
          case rel=>exact ⟨j+1,by omega,rfl,by go_num,HR⟩
      ·have k1:(c.kind != 1)=true:=by rw [bne_iff_ne];exact hk
       have HR:=hD (HJ.out (fun hx=>hk hx.1))
       clear HJ hc hcL hk HZ2;go_upto_region 17 with (fail)
       refine wpb1 (64) (#[.int .i64 c.at_,.int .i64 c.size,.int .i64 c.kind,.int .i64 c.ty,.bool c.mark,.int .u64 c.next.toNat]) ?_;rintro wa14 ⟨g8,b⟩
       replace B2:=B2.trans (b.mono B2.size);replace m0:=cell_later b m0;replace m1:=cell_later b m1;replace m2:=cell_later b m2;replace m3:=cell_later b m3;replace m4:=cell_later b m4;replace m5:=cell_later b m5;replace B:=B.trans (b.mono B.size);clear b;replace c_g8:=g8.five;have HB2:=hD B2;clear B2 B m0 m1 m2 m3 m4 m5;go_wp2
       go_roundg (N-(j+1))
       case measure=>omega
       case rel=>exact ⟨j+1,by omega,rfl,by go_num,hD ⟨HB2.out,HR.out⟩⟩
     ·obtain rfl:j=N:=by omega
      obtain rfl:b=false:=HNO.out HZ.out (fun i c hi=>HZ2.out i c (by rw [HN.out];exact hi))
      have HB9:=hD B;clear B B2;go_wp2
      go_ret2
      exact ⟨rfl,HB9.out⟩
end
section
open Go.RowKit L01 L02 L05 L06 L07 L13 L14 L15 L16 L18 L19
theorem objIdx_first:∀{L:List Hb} {a:Int} {j k:Nat} {b:Hb},L[j]?=some b→b.at_=a→b.kind=1→(∀i c,i<j→L[i]?=some c→¬(c.at_=a∧c.kind=1))→objIdx L a k=some (k+j)
 | [],_,_,_,_,h,_,_,_=>by cases h
 | c :: L,a,0,k,b,h,e,e2,_=>by
  simp at h;subst h;rw [objIdx,if_pos ⟨e,e2⟩];rfl
 | c :: L,a,j+1,k,b,h,e,e2,hz=>by
  have hc:=hz 0 c (by omega) rfl;rw [objIdx,if_neg hc,objIdx_first (j:=j) (by simpa using h) e e2 (fun i c' hi hc'=>hz (i+1) c' (by omega) (by simpa using hc'))]
  congr 1;omega
theorem Around_any (v:Value) (l:List UInt64) (a:Int) (b:Hb) (r:Int) (hb:b=around l a) (hr:r=arErr l a) (w:World) (h:Words w v l):
  Calls Tryz.prog 72 #[v,.int .i64 a] w fun e w'=>e=.returned (.tuple #[.agg #[.int .i64 b.at_,.int .i64 b.size,.int .i64 b.kind,.int .i64 b.ty,.bool b.mark,.int .u64 b.next.toNat],.int .i64 r])∧Below w.heap.size w w':=by
 have B:=Below.refl w.heap.size w;have H:=hD h;obtain ⟨L,hL⟩:=exq (allL l)
 obtain ⟨c,hc⟩:=exq (allErr l)
 have WT:=hD (AllW_any v l L c hL hc)
 by_cases h0:c=0;case neg=>
  have hr0:r=c:=by rw [hr,arErr,if_neg (by rw [←hc];exact h0),hc]
  have hb0:b=.none:=by rw [hb,around,if_neg (by rw [←hr,hr0];exact h0)]
  subst hr0;subst hb0;have n1:(r != 0)=true:=by rw [bne_iff_ne];exact h0
  clear hb hr h hL hc h0;go_in;go_upto_region 1 with (fail)
  refine wpb1 (64) (#[.int .i64 0,.int .i64 0,.int .i64 0,.int .i64 0,.bool false,.int .u64 0]) ?_;rintro wa1 ⟨g1,b⟩
  replace B:=B.trans (b.mono B.size);clear b;obtain ⟨c_g1,f_g1,a_g1,d_g1,e_g1⟩:=g1.five;go_wp2_with fail;refine (WT.out _ (H.out.below B)).mono ?_;rintro e wa2 ⟨xl,rfl,ol,b⟩
  try clear c_g1 f_g1 a_g1 d_g1 e_g1
  replace g1:=g1.below b;obtain ⟨c_g1,f_g1,a_g1,d_g1,e_g1⟩:=g1.five;replace B:=B.trans (b.mono B.size);clear b;go_wp2;refine bodyPost_ret (v:=.tuple #[.agg #[.int .i64 0,.int .i64 0,.int .i64 0,.int .i64 0,.bool false,.int .u64 0],.int .i64 r]) (by simp [results,Tryz.results72,go_sem,c_g1,f_g1,a_g1,e_g1]) rfl ?_;refine ⟨rfl,?_⟩
  exact bdn
 case pos=>
  subst h0;have hl9:L.length≤960:=by rw [hL];exact all_len hc.symm
  have hszs:∀x∈L,0≤x.size∧x.size≤100000:=fun x hx=>by
   rw [hL] at hx;obtain ⟨y,_,_,hs,h4,_⟩:=all_mem hc.symm hx;have hz:=szN_ge hs
   have:x.size=szN l y:=by rw [h4];exact stand_size hs
   omega
  have hrb:(∀i,objIdx L a 0=some i→b=becomes L i∧r=0)∧(objIdx L a 0=none→b=.none∧r=6):=by
   constructor
   ·intro i hi;have hr0:r=0:=by rw [hr,arErr,if_pos hc.symm,←hL,hi];rfl
    exact ⟨by rw [hb,around,if_pos (by rw [←hr];exact hr0),←hL,hi];rfl,hr0⟩
   ·intro hf;have hr0:r=6:=by rw [hr,arErr,if_pos hc.symm,←hL,hf];rfl
    exact ⟨by rw [hb,around,if_neg (by rw [←hr,hr0];decide)],hr0⟩
  obtain ⟨N,hN⟩:=exq L.length;have HN:=hD hN;have HRB:=hD hrb;have HSZ:=hD hszs;have hN9:N≤960:=by omega
  clear hb hr h hL hc hl9 hN hrb hszs;go_in;go_upto_region 1 with (fail)
  refine wpb1 (64) (#[.int .i64 0,.int .i64 0,.int .i64 0,.int .i64 0,.bool false,.int .u64 0]) ?_;rintro wa1 ⟨g1,b⟩
  replace B:=B.trans (b.mono B.size);clear b;obtain ⟨c_g1,f_g1,a_g1,d_g1,e_g1⟩:=g1.five;go_wp2_with fail;refine (WT.out _ (H.out.below B)).mono ?_;rintro e wa2 ⟨xl,rfl,ol,b⟩
  try clear c_g1 f_g1 a_g1 d_g1 e_g1
  replace g1:=g1.below b;obtain ⟨c_g1,f_g1,a_g1,d_g1,e_g1⟩:=g1.five;replace B:=B.trans (b.mono B.size);clear b;have lx:=ol.rd.len;rw [←HN.out] at lx;have HO:=hD ol.rd;have hB1:=B.size;have HB:=hD (And.intro g1 B)
  have HBB:=hD (Below.refl wa2.heap.size wa2)
  clear ol g1 B c_g1 f_g1 a_g1 d_g1 e_g1;go_wp2
  go_loopg [23] N (fun g i wr=>∃j:Nat,j≤N∧g=N-j∧i=.int .i64 j∧Hid (Below wa2.heap.size wa2 wr∧∀i c,i<j→L[i]?=some c→¬(c.at_=a∧c.kind=1)))
  case atStart=>exact ⟨0,by omega,by omega,rfl,hD ⟨HBB.out,fun i c hi=>by omega⟩⟩
  case round=>
   obtain ⟨j,hj,rfl,rfl,hh⟩:=hrel;clear HBB;have B2:=hh.out.1;have HZ:=hD hh.out.2;have g1:=HB.out.1.below B2;have B:=HB.out.2.trans (B2.mono hB1)
   clear hh;by_cases hlt:j<N
   ·obtain ⟨bb,oo,x,ia,m0,m1,m2,m3,m4,m5,hx,_⟩:=(Blks.below HO.out B2).at_ (k:=j) (by rw [←HN.out];exact hlt)
    have HX:=hD hx.out;by_cases he:x.at_=a∧x.kind=1
    ·have k1:(x.at_ != a)=false:=by rw [bne_eq_false_iff_eq];exact he.1
     have k2:(x.kind != 1)=false:=by rw [bne_eq_false_iff_eq];exact he.2
     have hidx:=objIdx_first (k:=0) hx.out he.1 he.2 HZ.out;rw [Nat.zero_add] at hidx;obtain ⟨q1,q2⟩:=HRB.out.1 j hidx;subst q2;have HQ:=hD q1;have HK:=hD he.2;have RB:=Blks.below HO.out B2;have hne0:w.heap.size≠wr.heap.size:=by have:=g1.lt;omega
     obtain ⟨lo,hlo⟩:=exq (if lowF L j=true then j-1 else j)
     obtain ⟨hi,hhi⟩:=exq (if highF L j=true then j+1 else j)
     obtain ⟨jb1,jb2,jb3,jb4,jb5⟩:=join_becomes hx.out he.2 lo hi hlo hhi;obtain ⟨sv,hcut,hsv⟩:=RB.cut (lo:=lo) (hi:=hi+1) (by omega) (by omega)
     have JT:=hD (joined_any sv ((L.drop lo).take (hi+1-lo)) (becomes L j) jb1.symm (by rw [List.length_take,List.length_drop];omega) (by rw [List.length_take];omega) (fun c hc=>HSZ.out c (List.mem_of_mem_drop (List.mem_of_mem_take hc))))
     have HSV:=hD hsv;obtain ⟨bq,hbq⟩:=exq (becomes L j)
     rw [←hbq] at JT q1;have HQ:=hD q1;have wj1:IntKind.i64.wrap ((j:Int)-1)=(j:Int)-1:=IntWalk.i64_in _ (by omega)
     have wj2:IntKind.i64.wrap ((j:Int)+1)=(j:Int)+1:=IntWalk.i64_in _ (by omega)
     have wj3:IntKind.i64.wrap ((j:Int)+1+1)=(j:Int)+1+1:=IntWalk.i64_in _ (by omega)
     have wj4:IntKind.i64.wrap ((j:Int)-1+1)=(j:Int):=by rw [show (j:Int)-1+1=(j:Int) by omega];exact IntWalk.i64_in _ (by omega)
     have HLH:=hD (And.intro hlo hhi);have HJ3:=hD (And.intro jb2 (And.intro jb3 jb4))
     clear he q1 hx hidx hlo hhi jb1 jb2 jb3 jb4 jb5 hsv hbq;by_cases hj0:0<j
     ·obtain ⟨pb,po,px,ip,_,_,m8,_,_,_,hpx,_⟩:=RB.at_ (k:=j-1) (by rw [←HN.out];omega)
      have ip2:∀W,(Instr.indexAt 59 xl (.int .i64 ((j:Int)-1))).run Tryz.prog W=.ok (.pointer (some ⟨pb,po,none⟩)) W:=fun W=>by rw [show ((j:Int)-1)=((j-1:Nat):Int) by omega];exact ip W
      have gj0:decide ((0:Int)<(j:Int))=true:=decide_eq_true (by omega)
      have gj0':decide (0<j)=true:=decide_eq_true hj0;have hlf:lowF L j=decide (px.kind=2):=by
       unfold lowF;rw [gj0',List.getD_eq_getElem?_getD,hpx.out];rfl
      have HLF:=hD hlf;have HPX:=hD hpx.out;clear ip hpx hlf;by_cases hk2:px.kind=2
      ·have kp:(px.kind==2)=true:=by rw [beq_iff_eq];exact hk2
       have hloe:lo=j-1:=by rw [HLH.out.1,HLF.out,if_pos (decide_eq_true hk2)]
       clear hk2;by_cases hjn:j+1<N
       ·obtain ⟨nb,no,nx,inn,_,_,m9,_,_,_,hnx,_⟩:=RB.at_ (k:=j+1) (by rw [←HN.out];exact hjn)
        have in2:∀W,(Instr.indexAt 59 xl (.int .i64 ((j:Int)+1))).run Tryz.prog W=.ok (.pointer (some ⟨nb,no,none⟩)) W:=inn;have gn:decide ((j:Int)+1<(N:Int))=true:=decide_eq_true (by omega)
        have gn':decide (j+1<N)=true:=decide_eq_true hjn;have hhf:highF L j=decide (nx.kind=2):=by
         unfold highF;rw [List.getD_eq_getElem?_getD,hnx.out];rfl
        have HHF:=hD hhf;clear inn hnx hhf;by_cases hk3:nx.kind=2
        ·have kn:(nx.kind==2)=true:=by rw [beq_iff_eq];exact hk3
         have hhie:hi=j+1:=by rw [HLH.out.2,HHF.out,if_pos (decide_eq_true hk3)]
         clear hk3;have hcut2:∀W,(Instr.sliceAt 59 xl (some (.int .i64 ((j:Int)-1))) (some (.int .i64 ((j:Int)+1+1))) none).run Tryz.prog W=.ok sv W:=fun W=>by
          have:=hcut W;rw [show ((lo:Nat):Int)=((j:Int)-1) by have:=hloe;omega,show ((hi+1:Nat):Int)=(j:Int)+1+1 by have:=hhie;omega] at this;exact this
         clear hcut;have B8:Below wr.heap.size wr wr:=Below.refl _ _;go_upto_region 7 with (fail)
         refine wpb1 (64) (#[.int .i64 x.at_,.int .i64 x.size,.int .i64 x.kind,.int .i64 x.ty,.bool x.mark,.int .u64 x.next.toNat]) ?_;rintro wa3 ⟨g2,b⟩
         try clear c_g1 f_g1 a_g1 d_g1 e_g1
         replace g1:=g1.below b;obtain ⟨c_g1,f_g1,a_g1,d_g1,e_g1⟩:=g1.five;replace B8:=B8.trans (b.mono B8.size);replace m0:=cell_later b m0;replace m1:=cell_later b m1;replace m2:=cell_later b m2;replace m3:=cell_later b m3;replace m4:=cell_later b m4;replace m5:=cell_later b m5;replace m8:=cell_later b m8;replace m9:=cell_later b m9;replace B:=B.trans (b.mono B.size);clear b;obtain ⟨c_g2,f_g2,a_g2,d_g2,e_g2⟩:=g2.five;have HSV2:=hD (Blks.below HSV.out B8)
         clear a_g1 d_g1 e_g1 a_g2 d_g2 e_g2 f_g2;go_wp2_with fail;refine (JT.out _ HSV2.out).mono ?_;rintro e w9 ⟨rfl,b9⟩
         replace g1:=g1.below b9;replace B:=B.trans (b9.mono B.size)
         have c_1:=g1.cell;have f_1:=g1.free;clear c_g1 f_g1 c_g2 b9;go_wp2;refine bodyPost_ret (v:=.tuple #[.agg #[.int .i64 bq.at_,.int .i64 bq.size,.int .i64 bq.kind,.int .i64 bq.ty,.bool bq.mark,.int .u64 bq.next.toNat],.int .i64 0]) (by simp [results,Tryz.results72,go_sem,c_1,f_1]) rfl ?_;refine ⟨by rw [HQ.out],?_⟩
         exact bdn
        ·have kn:(nx.kind==2)=false:=by rw [beq_eq_false_iff_ne];exact hk3
         have hhie:hi=j:=by rw [HLH.out.2,HHF.out,if_neg (by simpa using hk3)]
         clear hk3;have hcut2:∀W,(Instr.sliceAt 59 xl (some (.int .i64 ((j:Int)-1))) (some (.int .i64 ((j:Int)+1))) none).run Tryz.prog W=.ok sv W:=fun W=>by
          have:=hcut W;rw [show ((lo:Nat):Int)=((j:Int)-1) by have:=hloe;omega,show ((hi+1:Nat):Int)=(j:Int)+1 by have:=hhie;omega] at this;exact this
         clear hcut;have B8:Below wr.heap.size wr wr:=Below.refl _ _;go_upto_region 7 with (fail)
         refine wpb1 (64) (#[.int .i64 x.at_,.int .i64 x.size,.int .i64 x.kind,.int .i64 x.ty,.bool x.mark,.int .u64 x.next.toNat]) ?_;rintro wa4 ⟨g2,b⟩
         try clear c_g1 f_g1 a_g1 d_g1 e_g1
         replace g1:=g1.below b;obtain ⟨c_g1,f_g1,a_g1,d_g1,e_g1⟩:=g1.five;replace B8:=B8.trans (b.mono B8.size);replace m0:=cell_later b m0;replace m1:=cell_later b m1;replace m2:=cell_later b m2;replace m3:=cell_later b m3;replace m4:=cell_later b m4;replace m5:=cell_later b m5;replace m8:=cell_later b m8;replace m9:=cell_later b m9;replace B:=B.trans (b.mono B.size);clear b;obtain ⟨c_g2,f_g2,a_g2,d_g2,e_g2⟩:=g2.five;have HSV2:=hD (Blks.below HSV.out B8)
         clear a_g1 d_g1 e_g1 a_g2 d_g2 e_g2 f_g2;go_wp2_with fail;refine (JT.out _ HSV2.out).mono ?_;rintro e w9 ⟨rfl,b9⟩
         replace g1:=g1.below b9;replace B:=B.trans (b9.mono B.size)
         have c_1:=g1.cell;have f_1:=g1.free;clear c_g1 f_g1 c_g2 b9;go_wp2;refine bodyPost_ret (v:=.tuple #[.agg #[.int .i64 bq.at_,.int .i64 bq.size,.int .i64 bq.kind,.int .i64 bq.ty,.bool bq.mark,.int .u64 bq.next.toNat],.int .i64 0]) (by simp [results,Tryz.results72,go_sem,c_1,f_1]) rfl ?_;refine ⟨by rw [HQ.out],?_⟩
         exact bdn
       ·have gn:decide ((j:Int)+1<(N:Int))=false:=decide_eq_false (by omega)
        have gn':decide (j+1<N)=false:=decide_eq_false hjn;have hhie:hi=j:=by
         have:highF L j=false:=by
          unfold highF;rw [List.getD_eq_getElem?_getD,List.getElem?_eq_none (by rw [←HN.out];omega)];rfl
         rw [HLH.out.2,this];rfl
        have hcut2:∀W,(Instr.sliceAt 59 xl (some (.int .i64 ((j:Int)-1))) (some (.int .i64 ((j:Int)+1))) none).run Tryz.prog W=.ok sv W:=fun W=>by
         have:=hcut W;rw [show ((lo:Nat):Int)=((j:Int)-1) by have:=hloe;omega,show ((hi+1:Nat):Int)=(j:Int)+1 by have:=hhie;omega] at this;exact this
        clear hcut;have B8:Below wr.heap.size wr wr:=Below.refl _ _;go_upto_region 7 with (fail)
        refine wpb1 (64) (#[.int .i64 x.at_,.int .i64 x.size,.int .i64 x.kind,.int .i64 x.ty,.bool x.mark,.int .u64 x.next.toNat]) ?_;rintro wa5 ⟨g2,b⟩
        try clear c_g1 f_g1 a_g1 d_g1 e_g1
        replace g1:=g1.below b;obtain ⟨c_g1,f_g1,a_g1,d_g1,e_g1⟩:=g1.five;replace B8:=B8.trans (b.mono B8.size);replace m0:=cell_later b m0;replace m1:=cell_later b m1;replace m2:=cell_later b m2;replace m3:=cell_later b m3;replace m4:=cell_later b m4;replace m5:=cell_later b m5;replace m8:=cell_later b m8;replace B:=B.trans (b.mono B.size);clear b;obtain ⟨c_g2,f_g2,a_g2,d_g2,e_g2⟩:=g2.five;have HSV2:=hD (Blks.below HSV.out B8)
        clear a_g1 d_g1 e_g1 a_g2 d_g2 e_g2 f_g2;go_wp2_with fail;refine (JT.out _ HSV2.out).mono ?_;rintro e w9 ⟨rfl,b9⟩
        replace g1:=g1.below b9;replace B:=B.trans (b9.mono B.size)
        have c_1:=g1.cell;have f_1:=g1.free;clear c_g1 f_g1 c_g2 b9;go_wp2;refine bodyPost_ret (v:=.tuple #[.agg #[.int .i64 bq.at_,.int .i64 bq.size,.int .i64 bq.kind,.int .i64 bq.ty,.bool bq.mark,.int .u64 bq.next.toNat],.int .i64 0]) (by simp [results,Tryz.results72,go_sem,c_1,f_1]) rfl ?_;refine ⟨by rw [HQ.out],?_⟩
        exact bdn
      ·have kp:(px.kind==2)=false:=by rw [beq_eq_false_iff_ne];exact hk2
       have hloe:lo=j:=by rw [HLH.out.1,HLF.out,if_neg (by simpa using hk2)]
       clear hk2;by_cases hjn:j+1<N
       ·obtain ⟨nb,no,nx,inn,_,_,m9,_,_,_,hnx,_⟩:=RB.at_ (k:=j+1) (by rw [←HN.out];exact hjn)
        have in2:∀W,(Instr.indexAt 59 xl (.int .i64 ((j:Int)+1))).run Tryz.prog W=.ok (.pointer (some ⟨nb,no,none⟩)) W:=inn;have gn:decide ((j:Int)+1<(N:Int))=true:=decide_eq_true (by omega)
        have gn':decide (j+1<N)=true:=decide_eq_true hjn;have hhf:highF L j=decide (nx.kind=2):=by
         unfold highF;rw [List.getD_eq_getElem?_getD,hnx.out];rfl
        have HHF:=hD hhf;clear inn hnx hhf;by_cases hk3:nx.kind=2
        ·have kn:(nx.kind==2)=true:=by rw [beq_iff_eq];exact hk3
         have hhie:hi=j+1:=by rw [HLH.out.2,HHF.out,if_pos (decide_eq_true hk3)]
         clear hk3;have hcut2:∀W,(Instr.sliceAt 59 xl (some (.int .i64 (j:Int))) (some (.int .i64 ((j:Int)+1+1))) none).run Tryz.prog W=.ok sv W:=fun W=>by
          have:=hcut W;rw [show ((lo:Nat):Int)=(j:Int) by have:=hloe;omega,show ((hi+1:Nat):Int)=(j:Int)+1+1 by have:=hhie;omega] at this;exact this
         clear hcut;have B8:Below wr.heap.size wr wr:=Below.refl _ _;go_upto_region 7 with (fail)
         refine wpb1 (64) (#[.int .i64 x.at_,.int .i64 x.size,.int .i64 x.kind,.int .i64 x.ty,.bool x.mark,.int .u64 x.next.toNat]) ?_;rintro wa6 ⟨g2,b⟩
         try clear c_g1 f_g1 a_g1 d_g1 e_g1
         replace g1:=g1.below b;obtain ⟨c_g1,f_g1,a_g1,d_g1,e_g1⟩:=g1.five;replace B8:=B8.trans (b.mono B8.size);replace m0:=cell_later b m0;replace m1:=cell_later b m1;replace m2:=cell_later b m2;replace m3:=cell_later b m3;replace m4:=cell_later b m4;replace m5:=cell_later b m5;replace m8:=cell_later b m8;replace m9:=cell_later b m9;replace B:=B.trans (b.mono B.size);clear b;obtain ⟨c_g2,f_g2,a_g2,d_g2,e_g2⟩:=g2.five;have HSV2:=hD (Blks.below HSV.out B8)
         clear a_g1 d_g1 e_g1 a_g2 d_g2 e_g2 f_g2;go_wp2_with fail;refine (JT.out _ HSV2.out).mono ?_;rintro e w9 ⟨rfl,b9⟩
         replace g1:=g1.below b9;replace B:=B.trans (b9.mono B.size)
         have c_1:=g1.cell;have f_1:=g1.free;clear c_g1 f_g1 c_g2 b9;go_wp2;refine bodyPost_ret (v:=.tuple #[.agg #[.int .i64 bq.at_,.int .i64 bq.size,.int .i64 bq.kind,.int .i64 bq.ty,.bool bq.mark,.int .u64 bq.next.toNat],.int .i64 0]) (by simp [results,Tryz.results72,go_sem,c_1,f_1]) rfl ?_;refine ⟨by rw [HQ.out],?_⟩
         exact bdn
        ·have kn:(nx.kind==2)=false:=by rw [beq_eq_false_iff_ne];exact hk3
         have hhie:hi=j:=by rw [HLH.out.2,HHF.out,if_neg (by simpa using hk3)]
         clear hk3;have hcut2:∀W,(Instr.sliceAt 59 xl (some (.int .i64 (j:Int))) (some (.int .i64 ((j:Int)+1))) none).run Tryz.prog W=.ok sv W:=fun W=>by
          have:=hcut W;rw [show ((lo:Nat):Int)=(j:Int) by have:=hloe;omega,show ((hi+1:Nat):Int)=(j:Int)+1 by have:=hhie;omega] at this;exact this
         clear hcut;have B8:Below wr.heap.size wr wr:=Below.refl _ _;go_upto_region 7 with (fail)
         refine wpb1 (64) (#[.int .i64 x.at_,.int .i64 x.size,.int .i64 x.kind,.int .i64 x.ty,.bool x.mark,.int .u64 x.next.toNat]) ?_;rintro wa7 ⟨g2,b⟩
         try clear c_g1 f_g1 a_g1 d_g1 e_g1
         replace g1:=g1.below b;obtain ⟨c_g1,f_g1,a_g1,d_g1,e_g1⟩:=g1.five;replace B8:=B8.trans (b.mono B8.size);replace m0:=cell_later b m0;replace m1:=cell_later b m1;replace m2:=cell_later b m2;replace m3:=cell_later b m3;replace m4:=cell_later b m4;replace m5:=cell_later b m5;replace m8:=cell_later b m8;replace m9:=cell_later b m9;replace B:=B.trans (b.mono B.size);clear b;obtain ⟨c_g2,f_g2,a_g2,d_g2,e_g2⟩:=g2.five;have HSV2:=hD (Blks.below HSV.out B8)
         clear a_g1 d_g1 e_g1 a_g2 d_g2 e_g2 f_g2;go_wp2_with fail;refine (JT.out _ HSV2.out).mono ?_;rintro e w9 ⟨rfl,b9⟩
         replace g1:=g1.below b9;replace B:=B.trans (b9.mono B.size)
         have c_1:=g1.cell;have f_1:=g1.free;clear c_g1 f_g1 c_g2 b9;go_wp2;refine bodyPost_ret (v:=.tuple #[.agg #[.int .i64 bq.at_,.int .i64 bq.size,.int .i64 bq.kind,.int .i64 bq.ty,.bool bq.mark,.int .u64 bq.next.toNat],.int .i64 0]) (by simp [results,Tryz.results72,go_sem,c_1,f_1]) rfl ?_;refine ⟨by rw [HQ.out],?_⟩
         exact bdn
       ·have gn:decide ((j:Int)+1<(N:Int))=false:=decide_eq_false (by omega)
        have gn':decide (j+1<N)=false:=decide_eq_false hjn;have hhie:hi=j:=by
         have:highF L j=false:=by
          unfold highF;rw [List.getD_eq_getElem?_getD,List.getElem?_eq_none (by rw [←HN.out];omega)];rfl
         rw [HLH.out.2,this];rfl
        have hcut2:∀W,(Instr.sliceAt 59 xl (some (.int .i64 (j:Int))) (some (.int .i64 ((j:Int)+1))) none).run Tryz.prog W=.ok sv W:=fun W=>by
         have:=hcut W;rw [show ((lo:Nat):Int)=(j:Int) by have:=hloe;omega,show ((hi+1:Nat):Int)=(j:Int)+1 by have:=hhie;omega] at this;exact this
        clear hcut;have B8:Below wr.heap.size wr wr:=Below.refl _ _;go_upto_region 7 with (fail)
        refine wpb1 (64) (#[.int .i64 x.at_,.int .i64 x.size,.int .i64 x.kind,.int .i64 x.ty,.bool x.mark,.int .u64 x.next.toNat]) ?_;rintro wa8 ⟨g2,b⟩
        try clear c_g1 f_g1 a_g1 d_g1 e_g1
        replace g1:=g1.below b;obtain ⟨c_g1,f_g1,a_g1,d_g1,e_g1⟩:=g1.five;replace B8:=B8.trans (b.mono B8.size);replace m0:=cell_later b m0;replace m1:=cell_later b m1;replace m2:=cell_later b m2;replace m3:=cell_later b m3;replace m4:=cell_later b m4;replace m5:=cell_later b m5;replace m8:=cell_later b m8;replace B:=B.trans (b.mono B.size);clear b;obtain ⟨c_g2,f_g2,a_g2,d_g2,e_g2⟩:=g2.five;have HSV2:=hD (Blks.below HSV.out B8)
        clear a_g1 d_g1 e_g1 a_g2 d_g2 e_g2 f_g2;go_wp2_with fail;refine (JT.out _ HSV2.out).mono ?_;rintro e w9 ⟨rfl,b9⟩
        replace g1:=g1.below b9;replace B:=B.trans (b9.mono B.size)
        have c_1:=g1.cell;have f_1:=g1.free;clear c_g1 f_g1 c_g2 b9;go_wp2;refine bodyPost_ret (v:=.tuple #[.agg #[.int .i64 bq.at_,.int .i64 bq.size,.int .i64 bq.kind,.int .i64 bq.ty,.bool bq.mark,.int .u64 bq.next.toNat],.int .i64 0]) (by simp [results,Tryz.results72,go_sem,c_1,f_1]) rfl ?_;refine ⟨by rw [HQ.out],?_⟩
        exact bdn
     ·have gj0:decide ((0:Int)<(j:Int))=false:=decide_eq_false (by omega)
      have gj0':decide (0<j)=false:=decide_eq_false hj0;have hloe:lo=j:=by
       have:lowF L j=false:=by unfold lowF;rw [gj0'];rfl
       rw [HLH.out.1,this];rfl
      clear hj0;by_cases hjn:j+1<N
      ·obtain ⟨nb,no,nx,inn,_,_,m9,_,_,_,hnx,_⟩:=RB.at_ (k:=j+1) (by rw [←HN.out];exact hjn)
       have in2:∀W,(Instr.indexAt 59 xl (.int .i64 ((j:Int)+1))).run Tryz.prog W=.ok (.pointer (some ⟨nb,no,none⟩)) W:=inn;have gn:decide ((j:Int)+1<(N:Int))=true:=decide_eq_true (by omega)
       have gn':decide (j+1<N)=true:=decide_eq_true hjn;have hhf:highF L j=decide (nx.kind=2):=by
        unfold highF;rw [List.getD_eq_getElem?_getD,hnx.out];rfl
       have HHF:=hD hhf;clear inn hnx hhf;by_cases hk3:nx.kind=2
       ·have kn:(nx.kind==2)=true:=by rw [beq_iff_eq];exact hk3
        have hhie:hi=j+1:=by rw [HLH.out.2,HHF.out,if_pos (decide_eq_true hk3)]
        clear hk3;have hcut2:∀W,(Instr.sliceAt 59 xl (some (.int .i64 (j:Int))) (some (.int .i64 ((j:Int)+1+1))) none).run Tryz.prog W=.ok sv W:=fun W=>by
         have:=hcut W;rw [show ((lo:Nat):Int)=(j:Int) by have:=hloe;omega,show ((hi+1:Nat):Int)=(j:Int)+1+1 by have:=hhie;omega] at this;exact this
        clear hcut;have B8:Below wr.heap.size wr wr:=Below.refl _ _;go_upto_region 7 with (fail)
        refine wpb1 (64) (#[.int .i64 x.at_,.int .i64 x.size,.int .i64 x.kind,.int .i64 x.ty,.bool x.mark,.int .u64 x.next.toNat]) ?_;rintro wa9 ⟨g2,b⟩
        try clear c_g1 f_g1 a_g1 d_g1 e_g1
        replace g1:=g1.below b;obtain ⟨c_g1,f_g1,a_g1,d_g1,e_g1⟩:=g1.five;replace B8:=B8.trans (b.mono B8.size);replace m0:=cell_later b m0;replace m1:=cell_later b m1;replace m2:=cell_later b m2;replace m3:=cell_later b m3;replace m4:=cell_later b m4;replace m5:=cell_later b m5;replace m9:=cell_later b m9;replace B:=B.trans (b.mono B.size);clear b;obtain ⟨c_g2,f_g2,a_g2,d_g2,e_g2⟩:=g2.five;have HSV2:=hD (Blks.below HSV.out B8)
        clear a_g1 d_g1 e_g1 a_g2 d_g2 e_g2 f_g2;go_wp2_with fail;refine (JT.out _ HSV2.out).mono ?_;rintro e w9 ⟨rfl,b9⟩
        replace g1:=g1.below b9;replace B:=B.trans (b9.mono B.size)
        have c_1:=g1.cell;have f_1:=g1.free;clear c_g1 f_g1 c_g2 b9;go_wp2;refine bodyPost_ret (v:=.tuple #[.agg #[.int .i64 bq.at_,.int .i64 bq.size,.int .i64 bq.kind,.int .i64 bq.ty,.bool bq.mark,.int .u64 bq.next.toNat],.int .i64 0]) (by simp [results,Tryz.results72,go_sem,c_1,f_1]) rfl ?_;refine ⟨by rw [HQ.out],?_⟩
        exact bdn
       ·have kn:(nx.kind==2)=false:=by rw [beq_eq_false_iff_ne];exact hk3
        have hhie:hi=j:=by rw [HLH.out.2,HHF.out,if_neg (by simpa using hk3)]
        clear hk3;have hcut2:∀W,(Instr.sliceAt 59 xl (some (.int .i64 (j:Int))) (some (.int .i64 ((j:Int)+1))) none).run Tryz.prog W=.ok sv W:=fun W=>by
         have:=hcut W;rw [show ((lo:Nat):Int)=(j:Int) by have:=hloe;omega,show ((hi+1:Nat):Int)=(j:Int)+1 by have:=hhie;omega] at this;exact this
        clear hcut;have B8:Below wr.heap.size wr wr:=Below.refl _ _;go_upto_region 7 with (fail)
        refine wpb1 (64) (#[.int .i64 x.at_,.int .i64 x.size,.int .i64 x.kind,.int .i64 x.ty,.bool x.mark,.int .u64 x.next.toNat]) ?_;rintro wa10 ⟨g2,b⟩
        try clear c_g1 f_g1 a_g1 d_g1 e_g1
        replace g1:=g1.below b;obtain ⟨c_g1,f_g1,a_g1,d_g1,e_g1⟩:=g1.five;replace B8:=B8.trans (b.mono B8.size);replace m0:=cell_later b m0;replace m1:=cell_later b m1;replace m2:=cell_later b m2;replace m3:=cell_later b m3;replace m4:=cell_later b m4;replace m5:=cell_later b m5;replace m9:=cell_later b m9;replace B:=B.trans (b.mono B.size);clear b;obtain ⟨c_g2,f_g2,a_g2,d_g2,e_g2⟩:=g2.five;have HSV2:=hD (Blks.below HSV.out B8)
        clear a_g1 d_g1 e_g1 a_g2 d_g2 e_g2 f_g2;go_wp2_with fail;refine (JT.out _ HSV2.out).mono ?_;rintro e w9 ⟨rfl,b9⟩
        replace g1:=g1.below b9;replace B:=B.trans (b9.mono B.size)
        have c_1:=g1.cell;have f_1:=g1.free;clear c_g1 f_g1 c_g2 b9;go_wp2;refine bodyPost_ret (v:=.tuple #[.agg #[.int .i64 bq.at_,.int .i64 bq.size,.int .i64 bq.kind,.int .i64 bq.ty,.bool bq.mark,.int .u64 bq.next.toNat],.int .i64 0]) (by simp [results,Tryz.results72,go_sem,c_1,f_1]) rfl ?_;refine ⟨by rw [HQ.out],?_⟩
        exact bdn
      ·have gn:decide ((j:Int)+1<(N:Int))=false:=decide_eq_false (by omega)
       have gn':decide (j+1<N)=false:=decide_eq_false hjn;have hhie:hi=j:=by
        have:highF L j=false:=by
         unfold highF;rw [List.getD_eq_getElem?_getD,List.getElem?_eq_none (by rw [←HN.out];omega)];rfl
        rw [HLH.out.2,this];rfl
       have hcut2:∀W,(Instr.sliceAt 59 xl (some (.int .i64 (j:Int))) (some (.int .i64 ((j:Int)+1))) none).run Tryz.prog W=.ok sv W:=fun W=>by
        have:=hcut W;rw [show ((lo:Nat):Int)=(j:Int) by have:=hloe;omega,show ((hi+1:Nat):Int)=(j:Int)+1 by have:=hhie;omega] at this;exact this
       clear hcut;have B8:Below wr.heap.size wr wr:=Below.refl _ _;go_upto_region 7 with (fail)
       refine wpb1 (64) (#[.int .i64 x.at_,.int .i64 x.size,.int .i64 x.kind,.int .i64 x.ty,.bool x.mark,.int .u64 x.next.toNat]) ?_;rintro wa11 ⟨g2,b⟩
       try clear c_g1 f_g1 a_g1 d_g1 e_g1
       replace g1:=g1.below b;obtain ⟨c_g1,f_g1,a_g1,d_g1,e_g1⟩:=g1.five;replace B8:=B8.trans (b.mono B8.size);replace m0:=cell_later b m0;replace m1:=cell_later b m1;replace m2:=cell_later b m2;replace m3:=cell_later b m3;replace m4:=cell_later b m4;replace m5:=cell_later b m5;replace B:=B.trans (b.mono B.size);clear b;obtain ⟨c_g2,f_g2,a_g2,d_g2,e_g2⟩:=g2.five;have HSV2:=hD (Blks.below HSV.out B8)
       clear a_g1 d_g1 e_g1 a_g2 d_g2 e_g2 f_g2;go_wp2_with fail;refine (JT.out _ HSV2.out).mono ?_;rintro e w9 ⟨rfl,b9⟩
       replace g1:=g1.below b9;replace B:=B.trans (b9.mono B.size)
       have c_1:=g1.cell;have f_1:=g1.free;clear c_g1 f_g1 c_g2 b9;go_wp2;refine bodyPost_ret (v:=.tuple #[.agg #[.int .i64 bq.at_,.int .i64 bq.size,.int .i64 bq.kind,.int .i64 bq.ty,.bool bq.mark,.int .u64 bq.next.toNat],.int .i64 0]) (by simp [results,Tryz.results72,go_sem,c_1,f_1]) rfl ?_;refine ⟨by rw [HQ.out],?_⟩
       exact bdn
    ·have HZ2:Hid (∀i c,i<j+1→L[i]?=some c→¬(c.at_=a∧c.kind=1)):=hD (fun i c hi hc=>by
      by_cases e:i=j
      ·subst e;rw [HX.out] at hc;injection hc with hc;subst hc;exact he
      ·exact HZ.out i c (by omega) hc)
     have hcase:(x.at_ != a)=true∨((x.at_ != a)=false∧(x.kind != 1)=true):=by
      by_cases e:x.at_=a
      ·exact .inr ⟨by rw [bne_eq_false_iff_eq];exact e,by rw [bne_iff_ne];exact fun e2=>he ⟨e,e2⟩⟩
      ·exact .inl (by rw [bne_iff_ne];exact e)
     clear he hx;rcases hcase with k1 | ⟨k1,k2⟩
     all_goals
      go_upto_region 7 with (fail)
      refine wpb1 (64) (#[.int .i64 x.at_,.int .i64 x.size,.int .i64 x.kind,.int .i64 x.ty,.bool x.mark,.int .u64 x.next.toNat]) ?_;rintro wa12 ⟨g2,b⟩
      replace B2:=B2.trans (b.mono B2.size);replace B:=B.trans (b.mono B.size);clear b;obtain ⟨c_g2,f_g2,a_g2,d_g2,e_g2⟩:=g2.five;have HQ:=hD (And.intro B2 HZ2.out)
      go_wp2
      go_roundg (N-(j+1))
      case measure=>omega
      case rel=>exact ⟨j+1,by omega,rfl,by go_num,HQ⟩
   ·obtain rfl:j=N:=by omega
    have hf:objIdx L a 0=none:=objIdx_none.2 (fun y hy=>by
     obtain ⟨i,hi⟩:=List.getElem?_of_mem hy;exact HZ.out i y (by rw [HN.out];exact (List.getElem?_eq_some_iff.1 hi).1) hi)
    obtain ⟨q1,q2⟩:=HRB.out.2 hf;subst q2;have HQ:=hD q1;clear hf q1;have c_g1:=g1.cell;have f_g1:=g1.free;go_wp2;refine bodyPost_ret (v:=.tuple #[.agg #[.int .i64 0,.int .i64 0,.int .i64 0,.int .i64 0,.bool false,.int .u64 0],.int .i64 6]) (by simp [results,Tryz.results72,go_sem,c_g1,f_g1]) rfl ?_;refine ⟨by rw [HQ.out];rfl,?_⟩
    exact bdn
end
section
open Go.RowKit L01 L02 L05 L06 L07 L13 L14 L15 L16 L18 L19 L20
theorem L19.Hd.res_drop {l:List UInt64} {k a nn q:Nat} {sg:Int} {b:Hb} {t:List UInt8} (h:L19.Hd l k a nn q sg b t):dropAt l k sg=((112+k:Nat):Int)∧dropVal l k sg=pk ⟨sg,false,0⟩:=by
 refine ⟨by rw [dropAt,if_pos h.hr];omega,by rw [dropVal,if_pos h.hr]⟩
theorem ent_own2 {w:World} {base:Nat} {a b:Int} {x y:UInt64} (h:base≤w.heap.size):OwnE (w.alloc (.cells #[.int .i64 a,.int .u64 x.toNat,.int .i64 b,.int .u64 y.toNat] 131)) base (.slice (some ⟨w.heap.size,0,none⟩) 2 2) [(a,x),(b,y)]:=
 ⟨rfl,.inr ⟨w.heap.size,2,#[.int .i64 a,.int .u64 x.toNat,.int .i64 b,.int .u64 y.toNat],rfl,h,Bx.new _ _ _,Nat.le_refl _,by decide,rfl,rfl⟩⟩
theorem Free23_any (v:Value) (l:List UInt64) (sl g:Int) (E:List (Int×UInt64)) (r:Int) (hx:E=fiL l sl g) (hr:r=fiE l sl g) (w:World) (h:Words w v l):
  Calls Tryz.prog 24 #[v,.agg #[.int .i64 sl,.int .i64 g]] w fun e w'=>∃y,e=.returned (.tuple #[y,.int .i64 r])∧OwnE w' w.heap.size y E∧Below w.heap.size w w':=by
 have B:=Below.refl w.heap.size w;have H:=hD h;obtain ⟨p,hp⟩:=exq (atI l sl g)
 obtain ⟨d,hd⟩:=exq (askI l sl g)
 obtain ⟨bb,hbb⟩:=exq (biE l sl g)
 have OT:=hD (open23_any v l sl g p d hp hd)
 have BT:=hD (Busy23_any v l sl g bb d hbb hd)
 by_cases h0:d=0;case neg=>
  have hrd:r=d:=by rw [hr,fiE,if_neg (by rw [←hd];exact h0),hd]
  obtain rfl:E=[]:=by rw [hx,fiL,if_neg (by rw [←hr,hrd];exact h0)]
  subst hrd;have n1:(r != 0)=true:=by rw [bne_iff_ne];exact h0
  clear hx hr h hp hd hbb h0 BT;go_in;go_upto_region 1 with (fail)
  refine wpb1 (39) (#[.int .i64 sl,.int .i64 g]) ?_;rintro wa1 ⟨g1,b⟩
  replace B:=B.trans (b.mono B.size);clear b;replace c_g1:=g1.five;go_wp2_with fail;refine (OT.out _ (H.out.below B)).mono ?_;rintro e wa2 ⟨rfl,b⟩
  replace g1:=g1.below b;replace c_g1:=g1.five;replace B:=B.trans (b.mono B.size);clear b;go_wp2
  go_ret2
  exact ⟨_,rfl,OwnE.nil _ _,B⟩
 case pos=>
  subst h0;obtain ⟨k,a,nn,q0,bk,t0,rfl,hh⟩:=Hd.of hd.symm;obtain rfl:p=(a:Int):=by rw [hp];exact hh.hati
  cases bb;case true=>
   have hB:Busy (L19.seen l) k (L20.own (L19.seen l) k):=by
    have:=hbb;rw [biE,decide_eq_true hd.symm,Bool.true_and] at this;exact of_decide_eq_true this.symm
   have hrd:r=45:=by rw [hr,fiE,if_pos hd.symm,if_pos hB]
   obtain rfl:E=[]:=by rw [hx,fiL,if_neg (by rw [←hr,hrd];decide)]
   subst hrd;clear hx hr h hp hd hbb hB hh;go_in;go_upto_region 1 with (fail)
   refine wpb1 (39) (#[.int .i64 k,.int .i64 g]) ?_;rintro wa1 ⟨g1,b⟩
   replace B:=B.trans (b.mono B.size);clear b;replace c_g1:=g1.five;go_wp2_with fail;refine (OT.out _ (H.out.below B)).mono ?_;rintro e wa2 ⟨rfl,b⟩
   replace g1:=g1.below b;replace c_g1:=g1.five;replace B:=B.trans (b.mono B.size);clear b;go_wp2_with fail;refine (BT.out _ (H.out.below B)).mono ?_;rintro e wa3 ⟨rfl,b⟩
   replace g1:=g1.below b;replace c_g1:=g1.five;replace B:=B.trans (b.mono B.size);clear b;go_wp2
   go_ret2
   exact ⟨_,rfl,OwnE.nil _ _,B⟩
  case false=>
   have hB:¬Busy (L19.seen l) k (L20.own (L19.seen l) k):=by
    have:=hbb;rw [biE,decide_eq_true hd.symm,Bool.true_and] at this;exact of_decide_eq_false this.symm
   have hrd:r=0:=by rw [hr,fiE,if_pos hd.symm,if_neg hB]
   obtain ⟨i,m,p,f1,f2,f3,f4,f5,f6,f7,f8,_⟩:=hh.free (by rw [←hr];exact hrd)
   obtain ⟨x0,x1,x2,x3,x4⟩:=hh.block;have ham:around l (a:Int)=m:=by have:=f3;unfold fiB at this;rwa [hh.hres] at this
   have hg:=hh.res_drop;obtain ⟨ev,hev⟩:=exq (pk ⟨g,false,0⟩)
   obtain ⟨mv,hmv⟩:=exq (L14.word m)
   have DT:=hD (Drop18_any v l k g ((112+k:Nat):Int) ev 0 (by rw [hg.1]) (by rw [hg.2,hev]) hh.hr.symm)
   have AT:=hD (Around_any v l (a:Int) m 0 ham.symm x3.symm)
   have WT:=hD (HWord_any m mv 0 hmv (hErr_ok f6).symm)
   rw [f8,←hev,←hmv] at hx;subst hx;subst hrd;obtain ⟨mat,msz,mk,mty,mm,mn⟩:=m;dsimp only at f4 WT AT;subst f4;clear hr h hp hd hbb hB hh f1 f2 f3 f5 f6 f7 f8 x1 x2 x3 x4 ham hg hev hmv;go_in;go_upto_region 1 with (fail)
   refine wpb1 (39) (#[.int .i64 k,.int .i64 g]) ?_;rintro wa1 ⟨g1,b⟩
   replace B:=B.trans (b.mono B.size);clear b;replace c_g1:=g1.five;go_wp2_with fail;refine (OT.out _ (H.out.below B)).mono ?_;rintro e wa2 ⟨rfl,b⟩
   replace g1:=g1.below b;replace c_g1:=g1.five;replace B:=B.trans (b.mono B.size);clear b;go_wp2_with fail;refine (BT.out _ (H.out.below B)).mono ?_;rintro e wa3 ⟨rfl,b⟩
   replace g1:=g1.below b;replace c_g1:=g1.five;replace B:=B.trans (b.mono B.size);clear b;go_wp2_with fail;refine (DT.out _ (H.out.below B)).mono ?_;rintro e wa4 ⟨rfl,b⟩
   replace g1:=g1.below b;replace c_g1:=g1.five;replace B:=B.trans (b.mono B.size);clear b;clear c_g1;clear g1;go_upto_region 8 with (fail)
   refine wpb1 (131) (#[.int .i64 ((112+k:Nat):Int),.int .u64 ev.toNat]) ?_;rintro wa5 ⟨g2,b⟩
   replace B:=B.trans (b.mono B.size);clear b;replace c_g2:=g2.five;go_wp2_with fail;refine (AT.out _ (H.out.below B)).mono ?_;rintro e wa6 ⟨rfl,b⟩
   replace g2:=g2.below b;replace c_g2:=g2.five;replace B:=B.trans (b.mono B.size);clear b;go_upto_region 11 with (fail)
   refine wpb1 (64) (#[.int .i64 p,.int .i64 msz,.int .i64 mk,.int .i64 mty,.bool mm,.int .u64 mn.toNat]) ?_;rintro wa7 ⟨g3,b⟩
   replace g2:=g2.below b;replace c_g2:=g2.five;replace B:=B.trans (b.mono B.size);clear b;replace c_g3:=g3.five;go_wp2_with fail;refine (WT.out _).mono ?_;rintro e wa8 ⟨rfl,b⟩
   replace g2:=g2.below b;replace c_g2:=g2.five;replace g3:=g3.below b;replace c_g3:=g3.five;replace B:=B.trans (b.mono B.size);clear b;go_upto_region 14 with (fail)
   go_wp2
   go_ret2
   exact ⟨_,rfl,ent_own2 B.size,B.alloc B.size _⟩
end
section
open Go Go.RowKit
end
section
open Go Go.RowKit
def V1 (k0:Nat) (V0:Value→Prop) (k:Nat) (v:Value):Prop:=k=k0→V0 v
end
section
open Go Go.RowKit
end
section
open Go.RowKit L01 L02 L05 L06 L07 L13 L14 L15 L16 L18 L19 L20
theorem mod_forms {w:World} {tv ov sv:Value} {m:Mo} (h:Mod w tv ov sv m):(∃A n c,tv=.slice A n c)∧(∃A n c,ov=.slice A n c)∧∃A n c,sv=.slice A n c:=by
 obtain ⟨⟨_,_,⟨A,c,e,_⟩,_⟩,⟨_,_,⟨A',c',e',_⟩,_⟩,⟨A'',c'',e'',_⟩⟩:=h;exact ⟨⟨A,_,c,e⟩,⟨A',_,c',e'⟩,⟨A'',_,c'',e''⟩⟩
end
end Go.Proofs.YteejianjjpdimaaGreat
