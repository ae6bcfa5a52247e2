/- Contracts of the functions that the laws 'T' reach, part 26. No condition. -/
import Derived.Test.YteejianjjpdimaaGreatMTy
set_option linter.unusedVariables false
set_option linter.unusedSimpArgs false
set_option maxRecDepth 100000
set_option maxHeartbeats 8000000
namespace Go.Proofs.YteejianjjpdimaaGreat
section
open Go.RowKit L01 L02 L05 L06 L07 L13 L14 L15 L18 L19 L20
theorem plain_i64 {a:Int} (h:i64Ok a):plainElem (H:=Unit) Tryz.prog 3 (.int .i64 a)=some (.lit (.int .i64 a),[]):=plainElem_int Tryz.underlying3 (lit_wf h)
theorem zero_int (W:World):(zeroValue 3).run Tryz.prog W=.ok (.int .i64 0) W:=by kernel_rfl
theorem MapN.congr {P:Program} {k e:TypeId} {z0:Lit} {W:World} {g n n':Nat} {f f':Int→Lit} {K K':Int→Bool} (h:MapN P k e z0 W g n f K) (hn:n=n') (hf:∀a,f a=f' a) (hK:∀a,K a=K' a):MapN P k e z0 W g n' f' K':=by
 have e1:f=f':=funext hf;have e2:K=K':=funext hK;rw [←hn,←e1,←e2];exact h
theorem mix_get {α:Type} {A R:List α} {p:Nat} {x y:α} (hA:A[p]?=some x) (hR:R[p]?=some y):(A.take p++R.drop p)[p]?=some y:=by
 have h1:=(List.getElem?_eq_some_iff.1 hA).1;rw [List.getElem?_append_right (by rw [List.length_take];omega),List.length_take,Nat.min_eq_left (by omega),Nat.sub_self,List.getElem?_drop,Nat.add_zero,hR]
theorem mix_set {α:Type} {A R:List α} {p:Nat} {x y:α} (hA:A[p]?=some x) (hR:R[p]?=some y):(A.take p++R.drop p).set p x=A.take (p+1)++R.drop (p+1):=by
 have h1:=(List.getElem?_eq_some_iff.1 hA).1;have h2:=(List.getElem?_eq_some_iff.1 hR).1;rw [List.set_append_right _ _ (by rw [List.length_take];omega),List.length_take,Nat.min_eq_left (by omega),Nat.sub_self,List.drop_eq_getElem_cons h2,List.set_cons_zero,List.take_add_one,hA]
 simp
theorem mix_same {α:Type} {A R:List α} {p:Nat} {x:α} (hA:A[p]?=some x) (hR:R[p]?=some x):A.take (p+1)++R.drop (p+1)=A.take p++R.drop p:=by
 have h2:=(List.getElem?_eq_some_iff.1 hR)
 rw [List.take_add_one,hA,show R.drop p=x :: R.drop (p+1) by rw [List.drop_eq_getElem_cons h2.1,h2.2]]
 simp
theorem OfM_any (v:Value) (l:List UInt64) (m:Mo) (r:Int) (hm:m=ofM l) (hr:r=chk19 l) (w:World) (h:Words w v l):
  Calls Tryz.prog 6 #[v] w fun e w'=>∃t' o' s',e=.returned (.tuple #[.agg #[t',o',s'],.int .i64 r])∧OwnM w' w.heap.size 123 t' o' s' m∧Below w.heap.size w w':=by
 have B:=Below.refl w.heap.size w;have H:=hD h;have CK:=hD (Check19_any v l r hr)
 by_cases h0:r=0;case neg=>
  have hm0:m=.nil:=by rw [hm,ofM,if_neg (by rw [←hr];exact h0)]
  subst hm0;have n1:(r != 0)=true:=by rw [bne_iff_ne];exact h0
  clear hm hr h h0;go_in;go_upto_region 1 with (fail)
  refine wpb1 (31) (#[.slice none 0 0,.slice none 0 0,.slice none 0 0]) ?_;rintro wa1 ⟨g1,b⟩
  replace B:=B.trans (b.mono B.size);clear b;replace c_g1:=g1.five;go_wp2_with fail;refine (CK.out _ (H.out.below B)).mono ?_;rintro e wa2 ⟨rfl,b⟩
  replace g1:=g1.below b;replace c_g1:=g1.five;replace B:=B.trans (b.mono B.size);clear b;go_wp2;refine bodyPost_ret (v:=.tuple #[.agg #[.slice none 0 0,.slice none 0 0,.slice none 0 0],.int .i64 r]) (by simp [results,Tryz.results6,go_sem,c_g1]) rfl ?_;refine ⟨_,_,_,rfl,⟨OwnT.nil _ _,OwnO.nil _ _,OwnS.nil _ _ _⟩,?_⟩
  exact ((B.setCell (p:=⟨w.heap.size,0,none⟩) (by simp) _).setCell (p:=⟨w.heap.size,1,none⟩) (by simp) _).setCell (p:=⟨w.heap.size,2,none⟩) (by simp) _
 case pos=>
  subst h0;have rt:Rt l:=Rt.of hr.symm;obtain ⟨T,hT⟩:=exq (T19 l)
  obtain ⟨S,hS⟩:=exq (slots l)
  obtain ⟨L,hL⟩:=exq (allL l)
  obtain ⟨O,hO⟩:=exq (O19 l)
  have hOL:O=objs L:=by rw [hO,hL];rfl
  obtain ⟨sw,hsw⟩:=exq (sW l)
  obtain ⟨st,hst⟩:=exq (sT l)
  obtain ⟨i0,hi0⟩:=exq (is0 l)
  obtain ⟨i1,hi1⟩:=exq (is1 l)
  have T3:=hD (TRead_any v l sw st i0 i1 0 hsw hst hi0 hi1 rt.tw.symm)
  have KT:=hD (KTable_any v l st T 0 (by rw [hT,hst];rfl) (by rw [hst];exact rt.ty.symm))
  have AT:=hD (All18_own v l S hS rt.sl)
  have WT:=hD (AllW_any v l L 0 hL rt.al.symm)
  have hm2:m=⟨T,O.map (obOf l T O),S.map (slOf O)⟩:=by rw [hm,ofM,if_pos hr.symm];unfold L19.seen;rw [hT,hO,hS]
  subst hm2;have hO9:O.length≤960:=by rw [hO];exact objs_len rt.al
  have hL9:L.length≤960:=by rw [hL];exact all_len rt.al
  have hS16:S.length=16:=by rw [hS];exact slots_len' rt.sl
  obtain ⟨N,hN⟩:=exq L.length;have hN9:N≤960:=by omega
  have hab:∀b∈L,0≤b.at_∧b.at_≤1000000:=fun b hb=>by
   rw [hL] at hb;obtain ⟨x,h1,h2,_,h4,_⟩:=all_mem rt.al hb
   have:=rt.sz.2.1
   have:b.at_=x:=by rw [h4];rfl
   omega
  have HRT:=hD rt;have HT:=hD hT;have HS:=hD hS;have HO:=hD hO;have HOL:=hD hOL;have HN:=hD hN;have HO9:=hD hO9;have HS16:=hD hS16;have HL:=hD hL;have HAB:=hD hab;have hmm:=@run_makeMap Tryz.prog;clear h rt hT hS hL hO hOL hO9 hL9 hS16 hN hm hr hsw hst hi0 hi1 hab;go_in;go_upto_region 1 with (fail)
  refine wpb1 (31) (#[.slice none 0 0,.slice none 0 0,.slice none 0 0]) ?_;rintro wa1 ⟨g1,b⟩
  replace B:=B.trans (b.mono B.size);clear b;replace c_g1:=g1.five;have hz1:=B.size;have hp1:=g1.lt;go_wp2_with fail;refine (CK.out _ (H.out.below B)).mono ?_;rintro e wa2 ⟨rfl,b⟩
  replace g1:=g1.below b;replace c_g1:=g1.five;replace B:=B.trans (b.mono B.size);clear b;go_wp2_with fail;refine (T3.out _ (H.out.below B)).mono ?_;rintro e wa3 ⟨rfl,b⟩
  replace g1:=g1.below b;replace c_g1:=g1.five;replace B:=B.trans (b.mono B.size);clear b;have hz3:=B.size;go_upto_region 5 with (fail)
  refine wpb10 (51) (#[.int .i64 sw,.int .i64 st]) ?_;rintro wa4 ⟨g2,b⟩
  replace g1:=g1.below b;replace c_g1:=g1.five;replace B:=B.trans (b.mono B.size);clear b;replace c_g2:=g2.five;have hz4:=B.size;go_wp2_with fail;refine (KT.out _ (H.out.below B)).mono ?_;rintro e wa5 ⟨xt,rfl,ot,b⟩
  replace g1:=g1.below b;replace c_g1:=g1.five;replace g2:=g2.below b;replace c_g2:=g2.five;replace B:=B.trans (b.mono B.size);clear b;have hz5:=B.size;obtain ⟨tA,tn,tc,rfl⟩:=form_T ot;clear c_g2;clear g2;go_wp2_with fail;refine (AT.out _ (H.out.below B)).mono ?_;rintro e wa6 ⟨xs,rfl,os,b⟩
  replace g1:=g1.below b;replace c_g1:=g1.five;replace ot:=ot.below b;replace B:=B.trans (b.mono B.size);clear b;have hz6:=B.size;obtain ⟨gS,sc,rfl⟩:∃g c,xs=.slice (some ⟨g,0,none⟩) 16 c:=by obtain ⟨g,n,c,e,e2⟩:=os.form (by rw [HS16.out];omega);rw [e2,HS16.out] at e;exact ⟨g,c,e⟩
  go_wp2_with fail;refine (WT.out _ (H.out.below B)).mono ?_;rintro e wa7 ⟨xl,rfl,ol,b⟩
  replace g1:=g1.below b;replace c_g1:=g1.five;replace ot:=ot.below b;replace os:=os.below b;replace B:=B.trans (b.mono B.size);clear b;have hz7:=B.size;obtain ⟨lA,ln,lc,rfl⟩:∃A n c,xl=.slice A n c:=row_form ol;go_upto_region 10 with (fail)
  have hp7:=g1.lt;have hp5:w.heap.size+1≤wa7.heap.size:=hp7;have HPK:=hD (show OwnT wa7 w.heap.size (.slice tA tn tc) T∧OwnS wa7 w.heap.size 123 (.slice (some ⟨gS,0,none⟩) 16 sc) S∧OwnK wa7 w.heap.size (.slice lA ln lc) L∧Bx wa7 w.heap.size 31 #[.slice none 0 0,.slice none 0 0,.slice none 0 0]∧Below w.heap.size w wa7 from ⟨ot.mono (by omega),own_mono os (by omega),ol.mono (by omega),g1,B⟩)
  clear ot os ol g1 B hz1 hp1 hz3 hz4 hz5 hz6 hz7 hp7 c_g1;refine wp_gen (fun V=>OwnT V w.heap.size (.slice tA tn tc) T∧OwnS V w.heap.size 123 (.slice (some ⟨gS,0,none⟩) 16 sc) S∧OwnK V w.heap.size (.slice lA ln lc) L∧Bx V w.heap.size 31 #[.slice none 0 0,.slice none 0 0,.slice none 0 0]∧Bx V wa7.heap.size 31 #[.slice tA tn tc,.slice none 0 0,.slice (some ⟨gS,0,none⟩) 16 sc]∧
   MapN Tryz.prog 3 3 (.int .i64 0) V (wa7.heap.size+1) (objs (L.take 0)).length (fun a=>.int .i64 (numI (objs (L.take 0)) a)) (fun a=>decide (IsObj (objs (L.take 0)) a))∧Below w.heap.size w V) ?_ ?_
  ·obtain ⟨k1,k2,k3,k4,k5⟩:=HPK.out;have bb:Below wa7.heap.size wa7 ((wa7.alloc (.cells #[.slice tA tn tc,.slice none 0 0,.slice (some ⟨gS,0,none⟩) 16 sc] 31)).alloc (.map #[] 0)):=((Below.refl _ wa7).alloc (Nat.le_refl _) _).alloc (by simp) _;refine ⟨k1.below bb,k2.below bb,k3.below bb,k4.below bb,(Bx.new wa7 _ _).alloc _,?_,k5.trans (bb.mono k5.size)⟩
   have:=MapN.made (P:=Tryz.prog) (k:=3) (e:=3) (z0:=.int .i64 0) (wa7.alloc (.cells #[.slice tA tn tc,.slice none 0 0,.slice (some ⟨gS,0,none⟩) 16 sc] 31))
   rw [show (wa7.alloc (.cells #[.slice tA tn tc,.slice none 0 0,.slice (some ⟨gS,0,none⟩) 16 sc] 31)).heap.size=wa7.heap.size+1 by simp] at this;refine this.congr rfl (fun a=>rfl) (fun a=>?_)
   symm;rw [decide_eq_false_iff_not]
   rintro ⟨b,hb,_⟩
   simp [objs] at hb
  clear HPK hmm
  generalize wa7.heap.size=p5 at*
  generalize hpm:p5+1=pm
  intro V0 hV0;have HV:=hD hV0;clear hV0;have lx:=HV.out.2.2.1.rd.len;rw [←HN.out] at lx;go_wp2;clear lx
  go_loopg [60] N (fun g i wr=>∃j:Nat,j≤N∧g=N-j∧i=.int .i64 j∧Hid (OwnT wr w.heap.size (.slice tA tn tc) T∧OwnS wr w.heap.size 123 (.slice (some ⟨gS,0,none⟩) 16 sc) S∧OwnK wr w.heap.size (.slice lA ln lc) L∧Bx wr w.heap.size 31 #[.slice none 0 0,.slice none 0 0,.slice none 0 0]∧Bx wr p5 31 #[.slice tA tn tc,.slice none 0 0,.slice (some ⟨gS,0,none⟩) 16 sc]∧
   MapN Tryz.prog 3 3 (.int .i64 0) wr pm (objs (L.take j)).length (fun a=>.int .i64 (numI (objs (L.take j)) a)) (fun a=>decide (IsObj (objs (L.take j)) a))∧Below w.heap.size w wr))
  case atStart=>exact ⟨0,by omega,by omega,rfl,HV⟩
  case round=>
   clear HV;obtain ⟨j,hj,rfl,rfl,hh⟩:=hrel;by_cases hlt:j<N
   ·obtain ⟨oT,oS,oK,g1,g5,mp,B⟩:=hh.out;obtain ⟨bb,oo,b,ia,m0,m1,m2,m3,m4,m5,hb,_⟩:=oK.rd.at_ (k:=j) (by rw [←HN.out];exact hlt)
    have htk:L.take (j+1)=L.take j++[b]:=by rw [List.take_add_one,hb.out];rfl
    have hB0:=B.size;by_cases hk:b.kind=1
    ·have k1:(b.kind==1)=true:=by rw [beq_iff_eq];exact hk
     have hob:objs (L.take (j+1))=objs (L.take j)++[b]:=by rw [htk,objs_snoc,if_pos hk]
     have hnew:¬IsObj (objs (L.take j)) b.at_:=by rw [HL.out];exact objs_new HRT.out.al (by rw [←HL.out];exact hb.out)
     have hol:(objs (L.take j)).length≤j:=Nat.le_trans (List.length_filter_le _ _) (by rw [List.length_take];omega)
     obtain ⟨a1,a2⟩:=HAB.out b (List.mem_of_getElem? hb.out)
     have hia:i64Ok b.at_:=⟨by omega,by omega⟩
     have hkf:decide (IsObj (objs (L.take j)) b.at_)=false:=decide_eq_false hnew;obtain ⟨Q,hQ⟩:=exq (objs (L.take j))
     rw [←hQ] at hol hkf mp hob hnew;obtain ⟨qn,hqn⟩:=exq Q.length;rw [←hqn] at hol mp;have HOB:=hD hob;have HNEW:=hD hnew;have HQN:=hD hqn;clear htk hk hob hnew hb hh hQ hqn;go_upto_region 13 with (fail)
     refine wpb1 (64) (#[.int .i64 b.at_,.int .i64 b.size,.int .i64 b.kind,.int .i64 b.ty,.bool b.mark,.int .u64 b.next.toNat]) ?_;rintro wa8 ⟨g7,b⟩
     replace oT:=oT.below b;replace oS:=oS.below b;replace oK:=oK.below b;replace g1:=g1.below b;replace c_g1:=g1.five;replace g5:=g5.below b;replace c_g5:=g5.five;replace mp:=mp.below b;replace B:=B.trans (b.mono B.size);clear b;replace c_g7:=g7.five;have lm:=mp.len Tryz.underlying62;go_wp2_with (at_mapUpdate;refine wpList_mapPutN rfl rfl Tryz.underlying3 Tryz.underlying62 rfl rfl rfl mp (by unfold maxLen;omega) hia hkf (plain_i64 ⟨by omega,by omega⟩) ?_;intro w5 mp5 g5')
     obtain ⟨es,ck,hmb⟩:=mp.mapL.block;have HZ:=hD (show OwnT w5 w.heap.size (.slice tA tn tc) T∧OwnS w5 w.heap.size 123 (.slice (some ⟨gS,0,none⟩) 16 sc) S∧OwnK w5 w.heap.size (.slice lA ln lc) L∧Bx w5 w.heap.size 31 #[.slice none 0 0,.slice none 0 0,.slice none 0 0]∧Bx w5 p5 31 #[.slice tA tn tc,.slice none 0 0,.slice (some ⟨gS,0,none⟩) 16 sc]∧
      MapN Tryz.prog 3 3 (.int .i64 0) w5 pm (objs (L.take (j+1))).length (fun a=>.int .i64 (numI (objs (L.take (j+1))) a)) (fun a=>decide (IsObj (objs (L.take (j+1))) a))∧Below w.heap.size w w5 from
      ⟨oT.keptM hmb g5',row_keptM oS hmb g5',row_keptM oK hmb g5',g1.keptM hmb g5',g5.keptM hmb g5',by
       rw [HOB.out]
       refine mp5.congr (by rw [List.length_append,←HQN.out];rfl) (fun a=>?_) (fun a=>?_)
       ·rw [numI_snoc HNEW.out]
        by_cases e:a=b.at_
        ·rw [if_pos e,if_pos e,HQN.out]
        ·rw [if_neg e,if_neg e]
       ·rw [Bool.eq_iff_iff,Bool.or_eq_true,decide_eq_true_iff,decide_eq_true_iff,decide_eq_true_iff,isObj_snoc],B.grown g5' B.size (fun k hk=>by injection hk with hk;omega)⟩)
     clear oT oS oK g1 g5 mp mp5 g5' B lm hmb
     go_roundg (N-(j+1))
     case measure=>omega
     case rel=>exact ⟨j+1,by omega,rfl,by go_num,HZ⟩
    ·have k1:(b.kind==1)=false:=by rw [beq_eq_false_iff_ne];exact hk
     have hob:objs (L.take (j+1))=objs (L.take j):=by rw [htk,objs_snoc,if_neg hk,List.append_nil]
     have HOB:=hD hob;clear htk hk hob hb hh;go_upto_region 13 with (fail)
     refine wpb1 (64) (#[.int .i64 b.at_,.int .i64 b.size,.int .i64 b.kind,.int .i64 b.ty,.bool b.mark,.int .u64 b.next.toNat]) ?_;rintro wa9 ⟨g7,b⟩
     replace oT:=oT.below b;replace oS:=oS.below b;replace oK:=oK.below b;replace g1:=g1.below b;replace c_g1:=g1.five;replace g5:=g5.below b;replace c_g5:=g5.five;replace mp:=mp.below b;replace B:=B.trans (b.mono B.size);clear b;replace c_g7:=g7.five;have HZ:=hD (And.intro oT (And.intro oS (And.intro oK (And.intro g1 (And.intro g5 (And.intro mp B))))))
     rw [←HOB.out] at HZ;go_wp2
     go_roundg (N-(j+1))
     case measure=>omega
     case rel=>exact ⟨j+1,by omega,rfl,by go_num,HZ⟩
   ·obtain rfl:j=N:=by omega
    have htk:L.take j=L:=List.take_of_length_le (by rw [←HN.out];exact Nat.le_refl _)
    rw [htk,←HOL.out] at hh;clear htk;obtain ⟨oT,oS,oK,g1,g5,mp,B⟩:=hh.out;have HV:=hD (show OwnT wr w.heap.size (.slice tA tn tc) T∧OwnO wr w.heap.size (.slice none 0 0) ((objs (L.take 0)).map (obOf l T O))∧OwnS wr w.heap.size 123 (.slice (some ⟨gS,0,none⟩) 16 sc) S∧OwnK wr w.heap.size (.slice lA ln lc) L∧Bx wr w.heap.size 31 #[.slice none 0 0,.slice none 0 0,.slice none 0 0]∧Bx wr p5 31 #[.slice tA tn tc,(.slice none 0 0),.slice (some ⟨gS,0,none⟩) 16 sc]∧MapN Tryz.prog 3 3 (.int .i64 0) wr pm O.length (fun a=>.int .i64 (numI O a)) (fun a=>decide (IsObj O a))∧Below w.heap.size w wr from ⟨oT,OwnO.nil _ _,oS,oK,g1,g5,mp,B⟩)
    have lx:=oK.rd.len;rw [←HN.out] at lx;clear hh oT oS oK g1 g5 mp B;go_wp2;clear lx
    go_loopg [75] j (fun g i wr=>∃j2:Nat,j2≤j∧g=j-j2∧i=.int .i64 j2∧Hid (∃ov,OwnT wr w.heap.size (.slice tA tn tc) T∧OwnO wr w.heap.size ov ((objs (L.take j2)).map (obOf l T O))∧OwnS wr w.heap.size 123 (.slice (some ⟨gS,0,none⟩) 16 sc) S∧OwnK wr w.heap.size (.slice lA ln lc) L∧Bx wr w.heap.size 31 #[.slice none 0 0,.slice none 0 0,.slice none 0 0]∧Bx wr p5 31 #[.slice tA tn tc,ov,.slice (some ⟨gS,0,none⟩) 16 sc]∧MapN Tryz.prog 3 3 (.int .i64 0) wr pm O.length (fun a=>.int .i64 (numI O a)) (fun a=>decide (IsObj O a))∧Below w.heap.size w wr))
    case atStart=>exact ⟨0,by omega,by omega,rfl,hD ⟨_,HV.out⟩⟩
    case round=>
     clear HV;obtain ⟨j2,hj2,rfl,rfl,hh⟩:=hrel;by_cases hlt2:j2<j
     ·obtain ⟨ov,oT,oO,oS,oK,g1,g5,mp,B⟩:=hh.out;obtain ⟨wn,hwn⟩:=exq wr;subst hwn;obtain ⟨bb,oo,b,ia,m0,m1,m2,m3,m4,m5,hb,_⟩:=oK.rd.at_ (k:=j2) (by rw [←HN.out];exact hlt2)
      have htk:L.take (j2+1)=L.take j2++[b]:=by rw [List.take_add_one,hb.out];rfl
      have hB0:=B.size;have HG:=hD (And.intro oT (And.intro oO (And.intro oS (And.intro oK (And.intro g1 (And.intro g5 (And.intro mp B)))))))
      by_cases hk:b.kind=1
      ·have k1:(b.kind==1)=true:=by rw [beq_iff_eq];exact hk
       have k1':(b.kind != 1)=false:=by rw [bne_eq_false_iff_eq];exact hk
       have hob:objs (L.take (j2+1))=objs (L.take j2)++[b]:=by rw [htk,objs_snoc,if_pos hk]
       have hbO:b∈O19 l:=by rw [←HO.out,HOL.out];exact objs_mem.2 ⟨List.mem_of_getElem? hb.out,hk⟩
       have hol:(objs (L.take j2)).length≤960:=by have:=HO9.out;have h1:(objs (L.take j2)).length≤j2:=Nat.le_trans (List.length_filter_le _ _) (by rw [List.length_take];omega);omega
       obtain ⟨a,q,t,ha,hq,hTq,hkB,ha1,ha2,hle,hn8⟩:=inKinds HRT.out hbO;rw [←HT.out] at hTq hkB;obtain ⟨nf,hnf⟩:=exq t.length;rw [←hnf] at hle hn8;have hqT:=(List.getElem?_eq_some_iff.1 hTq).1;have hrf:RefsB l T O b:=by rw [HT.out,HO.out];exact HRT.out.good 11 (by omega) (by omega) b hbO
       have HOB:=hD hob;have HTQ:=hD hTq;have HKB:=hD hkB;have HNF:=hD hnf;have HQT:=hD hqT;have HLE:=hD hle;have HRF:=hD hrf;have HOL9:=hD hol;obtain ⟨bat,bsz,bkd,bty,bmk,bnx⟩:=b;dsimp only at ha hq m0 m1 m2 m3 m4 m5 k1 k1';subst ha;subst hq;clear hob htk hk hbO hTq hkB hnf hqT hle hrf hol hb hh;clear oO oS oK g1 g5 mp;clear oT;have B1:Below wn.heap.size wn wn:=Below.refl _ _;go_upto_region 19 with (fail)
       refine wpb1 (64) (#[.int .i64 a,.int .i64 bsz,.int .i64 bkd,.int .i64 q,.bool bmk,.int .u64 bnx.toNat]) ?_;rintro wa10 ⟨g8,b⟩
       replace B1:=B1.trans (b.mono B1.size);replace B:=B.trans (b.mono B.size);clear b;replace c_g8:=g8.five;obtain ⟨ad,yt,t2,iy,m3n,ht2,hby⟩:=HG.out.1.rd.at_ HQT.out;have m3':=cell_later B1 m3n;obtain rfl:t2=t:=by have:=ht2.out;rw [HTQ.out] at this;injection this with e;exact e.symm
       have lx:=Rd.len hby.out Tryz.underlying66;rw [←HNF.out] at lx;obtain ⟨dv,hcut,hW⟩:=(H.out.below B).cut (P:=Tryz.prog) Tryz.underlying22 one_u64 (lo:=(a:Int)+2) (hi:=(a:Int)+2+(nf:Int)) (by omega) (by omega) (by have:=HLE.out;omega)
       obtain ⟨raw,hraw⟩:=exq ((l.drop (a+2)).take nf)
       rw [show ((a:Int)+2+(nf:Int)).toNat-((a:Int)+2).toNat=nf by omega,show ((a:Int)+2).toNat=a+2 by omega,←hraw] at hW;have hrl:raw.length=nf:=by rw [hraw,List.length_take,List.length_drop];have:=HLE.out;omega
       have HRG:=hD (show ∀p,p<nf→raw[p]?=some (fw l ⟨(a:Int),bsz,bkd,(q:Int),bmk,bnx⟩ p) from fun p hp=>by
        have h1:=HLE.out;rw [hraw,List.getElem?_take_of_lt hp,List.getElem?_drop]
        unfold fw;rw [Int.toNat_natCast,List.getD_eq_getElem?_getD,List.getElem?_eq_getElem (by omega)];rfl)
       have HRL:=hD hrl;have HW:=hD hW;have w1:IntKind.i64.wrap ((a:Int)+2)=(a:Int)+2:=IntWalk.i64_in _ (by omega)
       have w2:IntKind.i64.wrap ((a:Int)+2+(nf:Int))=(a:Int)+2+(nf:Int):=IntWalk.i64_in _ (by omega)
       have HBY:=hD hby.out;have hB1:=B1.size;clear ht2 hby hrl hraw hW m3n;go_upto_region 20 with (fail)
       refine wp_region_qtail 15 (by kernel_rfl) (by kernel_rfl) ?_;simp only [List.take_succ_cons,List.take_zero,List.drop_succ_cons,List.drop_zero]
       iterate 15 (go_big_quiet_step (fail))
       refine wpQuiet_nil ?_;go_wp2_with fail;refine (CloneW_any dv raw (by rw [HRL.out];omega) _ (HW.out.drew)).mono ?_;rintro e wc ⟨y,rfl,oy,bC⟩
       obtain ⟨yA,yn,yc,rfl⟩:∃A n c,y=.slice A n c:=by obtain ⟨A,c,e⟩:=own_form' oy;exact ⟨A,_,c,e⟩
       have m3c:=cell_later ((Below.refl _ _).drew.trans bC) m3';have g8c:=(show Bx (World.drew _) wn.heap.size 64 #[.int .i64 a,.int .i64 bsz,.int .i64 bkd,.int .i64 q,.bool bmk,.int .u64 bnx.toNat] from g8).below bC;have HC:=hD (show OwnW wc wn.heap.size 42 (.slice yA yn yc) raw∧Bx wc wn.heap.size 64 #[.int .i64 a,.int .i64 bsz,.int .i64 bkd,.int .i64 q,.bool bmk,.int .u64 bnx.toNat]∧Below wn.heap.size wn wc from ⟨own_mono oy hB1,g8c,B1.drew.trans (bC.mono hB1)⟩)
       have c_8:=g8c.cell;obtain ⟨A,hA⟩:=exq (obFs l T O ⟨(a:Int),bsz,bkd,(q:Int),bmk,bnx⟩)
       have hAl:A.length=nf:=by rw [hA,obFs_len,HKB.out,←HNF.out]
       have HAG:=hD (show ∀p,p<nf→A[p]?=some (fldV O (t2.getD p 0) (fw l ⟨(a:Int),bsz,bkd,(q:Int),bmk,bnx⟩ p)) from fun p hp=>by
        rw [hA,obFs_get (by rw [HKB.out,←HNF.out];exact hp),HKB.out])
       have HAL:=hD hAl;have HA:=hD hA;clear oy bC m3' g8 c_g8 g8c B B1 hB1 hcut w1 w2 HW hA hAl;go_wp2;clear c_8 m3c
       go_loopg [104] nf (fun g i wr=>∃p:Nat,p≤nf∧g=nf-p∧i=.int .i64 p∧Hid (OwnW wr wn.heap.size 42 (.slice yA yn yc) (A.take p++raw.drop p)∧Bx wr wn.heap.size 64 #[.int .i64 a,.int .i64 bsz,.int .i64 bkd,.int .i64 q,.bool bmk,.int .u64 bnx.toNat]∧Below wn.heap.size wn wr))
       case atStart=>exact ⟨0,by omega,by omega,rfl,hD (by simpa using HC.out)⟩
       case round=>
        clear HC;obtain ⟨p,hp,rfl,rfl,hh3⟩:=hrel;obtain ⟨oy,g8,b1⟩:=hh3.out;by_cases hlp:p<nf
        ·have hAp:=HAG.out p hlp;have hRp:=HRG.out p hlp;obtain ⟨v5,hv5⟩:=exq (fw l ⟨(a:Int),bsz,bkd,(q:Int),bmk,bnx⟩ p)
         rw [←hv5] at hAp hRp;obtain ⟨bd,kk,ib,m4,hkk⟩:=(HBY.out.below b1).at_ (P:=Tryz.prog) Tryz.underlying66 one_u8 (k:=p) (by rw [←HNF.out];exact hlp)
         have hkk2:t2.getD p 0=kk:=by rw [List.getD_eq_getElem?_getD,hkk.out];rfl
         rw [hkk2] at hAp;have hFl:(A.take p++raw.drop p).length=nf:=by rw [List.length_append,List.length_take,List.length_drop];have:=HAL.out;have:=HRL.out;omega
         obtain ⟨yd,iyy,my,fy,hyb,hyo,hset⟩:=OwnW.at_ oy (k:=p) (by rw [hFl];exact hlp)
         have hFp:(A.take p++raw.drop p).getD p 0=v5:=by rw [List.getD_eq_getElem?_getD,mix_get hAp hRp];rfl
         rw [hFp] at my;have HAp:=hD hAp;have HRp:=hD hRp;by_cases h3:kk.toNat=3
         ·have k3:((kk.toNat:Int)==3)=true:=by rw [beq_iff_eq];omega
          have hro:v5=0∨IsObj O v5.toNat:=by
           have:=HRF.out p (by rw [HKB.out,←HNF.out];exact hlp) (by rw [HKB.out,hkk2];exact h3)
           rw [←hv5] at this;exact this
          by_cases hv0:v5=0
          ·have e0:((v5.toNat:Int) != 0)=false:=by rw [hv0];rfl
           have HE:=hD (mix_same (A:=A) (R:=raw) (x:=v5) (by
            rw [hAp,fldV_ref h3,hv0,refV_none]
            rw [HO.out];exact no_zero HRT.out.al (objs_low HRT.out.al)) hRp)
           clear hAp hRp hv5 hkk hkk2 hFl hFp hro hv0 h3 hset oy g8;go_wp2
           go_roundg (nf-(p+1))
           case measure=>omega
           case rel=>
            refine ⟨p+1,by omega,rfl,by go_num,?_⟩
            rw [HE.out];exact hh3
          ·have e0:((v5.toNat:Int) != 0)=true:=by rw [bne_iff_ne];intro e;exact hv0 (UInt64.toNat.inj (by simp;omega))
           have hob:=hro.resolve_left hv0;obtain ⟨c,hcm,hce⟩:=hob;have hcb:=HAB.out c (by rw [HOL.out] at hcm;exact (objs_mem.1 hcm).1)
           obtain ⟨k,hk⟩:=Int.eq_ofNat_of_zero_le (numI_rng (a:=(v5.toNat:Int)) HO9.out).1;have hk9:=(numI_rng (a:=(v5.toNat:Int)) HO9.out).2;have hxe:((refV O v5).toNat:Int)=(k:Int)+1:=by rw [refV_idxI HO9.out,←numI_idxI ⟨c,hcm,hce⟩,hk]
           have hv5b:(v5.toNat:Int)≤1000000:=by rw [←hce];exact hcb.2
           have ml:=(HG.out.2.2.2.2.2.2.1.mapL.below b1).lookI Tryz.underlying3 Tryz.underlying62 Tryz.underlying3 (zero_int wr) (a:=(v5.toNat:Int)) ⟨by omega,by omega⟩
           rw [hk] at ml hk9;have w1:IntKind.i64.wrap (v5.toNat:Int)=(v5.toNat:Int):=IntWalk.i64_in _ (by omega)
           have w2:IntKind.u64.wrap (k:Int)=(k:Int):=by show (k:Int) % 18446744073709551616=_;omega
           have w3:IntKind.u64.wrap ((k:Int)+1)=(k:Int)+1:=by show ((k:Int)+1) % 18446744073709551616=_;omega
           have hst:=hset (refV O v5)
           rw [hxe,←fldV_ref h3] at hst;have hE:=mix_set hAp hRp;have hne:yd.block≠wn.heap.size:=by
            rcases own_not_bx oy g8 (by decide) with h | h
            ·rw [h] at hyo;cases hyo
            ·intro e;rw [hyo,e] at h;exact h rfl
           have HZ:=hD (show OwnW (wr.setCell yd (.int .u64 ((k:Int)+1))) wn.heap.size 42 (.slice yA yn yc) (A.take (p+1)++raw.drop (p+1))∧Bx (wr.setCell yd (.int .u64 ((k:Int)+1))) wn.heap.size 64 #[.int .i64 a,.int .i64 bsz,.int .i64 bkd,.int .i64 q,.bool bmk,.int .u64 bnx.toNat]∧Below wn.heap.size wn (wr.setCell yd (.int .u64 ((k:Int)+1))) from
            ⟨by rw [←hE];exact hst,g8.far hne.symm _,b1.setCell hyb _⟩)
           clear hAp hRp hv5 hkk hkk2 hFl hFp hro hv0 h3 hset oy g8 hcm hce hcb hk hxe hst hE hne;go_wp2
           go_roundg (nf-(p+1))
           case measure=>omega
           case rel=>exact ⟨p+1,by omega,rfl,by go_num,HZ⟩
         ·have k3:((kk.toNat:Int)==3)=false:=by rw [beq_eq_false_iff_ne];omega
          have HE:=hD (mix_same (A:=A) (R:=raw) (x:=v5) (by rw [hAp,fldV_not h3]) hRp)
          clear hAp hRp hv5 hkk hkk2 hFl hFp h3 hset oy g8;go_wp2
          go_roundg (nf-(p+1))
          case measure=>omega
          case rel=>
           refine ⟨p+1,by omega,rfl,by go_num,?_⟩
           rw [HE.out];exact hh3
        ·obtain rfl:p=nf:=by omega
         have hfs:A.take p++raw.drop p=A:=by rw [List.take_of_length_le (by rw [HAL.out];exact Nat.le_refl _),List.drop_of_length_le (by rw [HRL.out];exact Nat.le_refl _),List.append_nil]
         rw [hfs] at oy;obtain ⟨oT,oO,oS,oK,g1,g5,mp,B⟩:=HG.out;obtain ⟨oA2,on2,oc2,rfl⟩:∃A n c,ov=.slice A n c:=by obtain ⟨vs,z1,z2,_⟩:=oO;obtain ⟨A,c,e⟩:=own_form' z2;exact ⟨A,_,c,e⟩
         obtain ⟨vs,z1,z2,z4,z5⟩:=oO;have c5:=(g5.below b1).cell;have c_8:=g8.cell;have ba:=b1.alloc b1.size (.cells #[.int .i64 (q:Int),.slice yA yn yc] 68)
         have hoy:OwnW wr wn.heap.size 42 (.slice yA yn yc) (obOf l T O ⟨(a:Int),bsz,bkd,(q:Int),bmk,bnx⟩).fs:=by rw [HA.out] at oy;exact oy
         have HAA:=hD (And.intro z1 (And.intro z2 (And.intro z4 (And.intro z5 (And.intro g5 (And.intro B (And.intro hoy (And.intro b1 ba))))))))
         have hL1:((objs (L.take j2)).map (obOf l T O)).length≤960:=by rw [List.length_map];exact HOL9.out
         clear z1 z4 z5 oT oS oK g1 g5 mp B oy b1 g8 hoy hh3;have Z2:=hD (own_below z2 ba);have BA:=hD ba;clear z2 ba hfs;have HL1:=hD hL1;clear hL1;go_upto_region 27 with (fail)
         go_wp2_with (at_builtin;refine wpList_append (by rfl) rfl rfl rfl Tryz.underlying28 info_obj rfl (by omega) (by exact Z2.out) (by exact lit_obj) (by exact one_obj rfl) (by have:=HL1.out;omega) (by have:=HL1.out;omega) (by exact HAA.out.2.2.2.2.2.1.trans (BA.out.mono hB0)) (by omega) ?_;intro v1 w3 oo3 B3 g3';obtain ⟨vA,vn1,vc,rfl⟩:∃A n c,v1=.slice A n c:=by { obtain ⟨A,c,e⟩:=own_form' oo3;exact ⟨A,_,c,e⟩ };have MM:=hD (pushO (o:=obOf l T O ⟨(a:Int),bsz,bkd,(q:Int),bmk,bnx⟩) HAA.out.1 HAA.out.2.1 HAA.out.2.2.1 HAA.out.2.2.2.1 HAA.out.2.2.2.2.2.2.1 HAA.out.2.2.2.2.2.2.2.1 oo3 g3' HAA.out.2.2.2.2.1 HAA.out.2.2.2.2.2.1 hB0 (by omega));have hc:=MM.out.1.1;have hf:=MM.out.1.2;clear oo3 B3 g3')
         have HM:=hD MM.out.2;clear MM hc hf c5 c_8 HAA Z2 BA
         go_roundg (j-(j2+1))
         case measure=>omega
         case rel=>
          have P:=HM.out;obtain ⟨oT,oO,oS,oK,g1,g5,mp,B⟩:=HG.out;refine ⟨j2+1,by omega,rfl,by go_num,hD ⟨_,P.t oT,?_,P.row oS (by decide) (by decide),P.row oK (by decide) (by decide),P.bx g1 (by omega) (by decide),P.md,P.map mp,P.below⟩⟩
          rw [HOB.out,List.map_append];exact P.own
      ·have k1:(b.kind==1)=false:=by rw [beq_eq_false_iff_ne];exact hk
       have k1':(b.kind != 1)=true:=by rw [bne_iff_ne];exact hk
       have hob:objs (L.take (j2+1))=objs (L.take j2):=by rw [htk,objs_snoc,if_neg hk,List.append_nil]
       have HOB:=hD hob;clear htk hk hob hb hh;go_upto_region 19 with (fail)
       refine wpb1 (64) (#[.int .i64 b.at_,.int .i64 b.size,.int .i64 b.kind,.int .i64 b.ty,.bool b.mark,.int .u64 b.next.toNat]) ?_;rintro wa11 ⟨g8,b⟩
       replace oT:=oT.below b;replace oO:=oO.below b;replace oS:=oS.below b;replace oK:=oK.below b;replace g1:=g1.below b;replace c_g1:=g1.five;replace g5:=g5.below b;replace c_g5:=g5.five;replace mp:=mp.below b;replace B:=B.trans (b.mono B.size);clear b;replace c_g8:=g8.five;have HZ:=hD (And.intro oT (And.intro oO (And.intro oS (And.intro oK (And.intro g1 (And.intro g5 (And.intro mp B)))))))
       rw [←HOB.out] at HZ;go_wp2
       go_roundg (j-(j2+1))
       case measure=>omega
       case rel=>exact ⟨j2+1,by omega,rfl,by go_num,hD ⟨_,HZ.out⟩⟩
     ·obtain rfl:j2=j:=by omega
      obtain ⟨ov,oT,oO,oS,oK,g1,g5,mp,B⟩:=hh.out;obtain ⟨oA2,on2,oc2,rfl⟩:∃A n c,ov=.slice A n c:=by obtain ⟨vs,z1,z2,_⟩:=oO;obtain ⟨A,c,e⟩:=own_form' z2;exact ⟨A,_,c,e⟩
      have htk:L.take j2=L:=List.take_of_length_le (by rw [←HN.out];exact Nat.le_refl _)
      rw [htk,←HOL.out] at oO;have HM:=hD (And.intro (OwnM.mk (m:=⟨T,O.map (obOf l T O),S⟩) oT oO oS) (And.intro g1 (And.intro g5 (And.intro mp B))))
      have c_g5:=g5.cell;clear hh oT oO oS oK g1 g5 mp B htk;go_wp2;clear c_g5
      go_loopg [144] 16 (fun g i wr=>∃j3:Nat,j3≤16∧g=16-j3∧i=.int .i64 j3∧Hid (OwnM wr w.heap.size 123 (.slice tA tn tc) (.slice oA2 on2 oc2) (.slice (some ⟨gS,0,none⟩) 16 sc) ⟨T,O.map (obOf l T O),mapT (slOf O) S j3⟩∧Bx wr w.heap.size 31 #[.slice none 0 0,.slice none 0 0,.slice none 0 0]∧Bx wr p5 31 #[.slice tA tn tc,.slice oA2 on2 oc2,.slice (some ⟨gS,0,none⟩) 16 sc]∧
       MapN Tryz.prog 3 3 (.int .i64 0) wr pm O.length (fun a=>.int .i64 (numI O a)) (fun a=>decide (IsObj O a))∧Below w.heap.size w wr))
      case atStart=>exact ⟨0,by omega,by omega,rfl,hD (by rw [mapT_zero];exact HM.out)⟩
      case round=>
       clear HM;obtain ⟨j3,hj3,rfl,rfl,hh⟩:=hrel;obtain ⟨om,g3,g5,mp,B⟩:=hh.out;have hB0:=B.size;by_cases hlt3:j3<16
       ·obtain ⟨s,hs⟩:∃s,S[j3]?=some s:=⟨_,List.getElem?_eq_getElem (by rw [HS16.out];exact hlt3)⟩
        have hs2:=mapT_get (f:=slOf O) hs;have hsm:s∈slots l:=by rw [←HS.out];exact List.mem_of_getElem? hs
        have hso:=seen_slot HRT.out hsm;obtain ⟨ix,q0,q1,q2⟩:=OwnS.cells om.s hs2;have q0':=q0;have q1':=q1;have q2':=q2;have HJ:=hD (And.intro om (And.intro g3 (And.intro g5 (And.intro mp B))))
        have B1:Below wr.heap.size wr wr:=Below.refl _ _;cases hu:s.used
        ·rw [hu] at q1;have HE:=hD (mapT_same (f:=slOf O) hs (slOf_not hu))
         have hB3:=HJ.out.2.2.2.2;clear hs hs2 hso hsm om g3 g5 mp B q0' q1' q2' hh;obtain ⟨sg,su,sa⟩:=s;dsimp only at q0 q1 q2 hu;subst hu;have B:=hB3;go_upto_region 32 with (fail)
         refine wpb1 (37) (#[.int .i64 sg,.bool false,.int .i64 sa]) ?_;rintro wa12 ⟨g8,b⟩
         replace B1:=B1.trans (b.mono B1.size);replace B:=B.trans (b.mono B.size);clear b;replace c_g8:=g8.five;have HZ:=hD (And.intro (HJ.out.1.below B1) (And.intro (HJ.out.2.1.below B1) (And.intro (HJ.out.2.2.1.below B1) (And.intro (HJ.out.2.2.2.1.below B1) B))))
         clear ix q0 q1 q2;go_wp2
         go_roundg (16-(j3+1))
         case measure=>omega
         case rel=>
          refine ⟨j3+1,by omega,rfl,by go_num,?_⟩
          rw [HE.out];exact HZ
        ·rw [hu] at q1;obtain ⟨a1,a2,a3⟩:=hso.2.2.2 hu;obtain ⟨c,hcm,hce⟩:IsObj O s.at_:=by rw [HO.out];exact HRT.out.slots s hsm hu
         have hnr:=numI_rng (a:=s.at_) HO9.out;obtain ⟨k,hk⟩:=exq (numI O s.at_)
         have HE:=hD (show (mapT (slOf O) S j3).set j3 ⟨s.gen,s.used,k⟩=mapT (slOf O) S (j3+1) by
          rw [←mapT_set hs,slOf_used hu,hu,hk,numI_idxI ⟨c,hcm,hce⟩])
         have hB3:=HJ.out.2.2.2.2;have HSS:=hD hs2;obtain ⟨sg,su,sa⟩:=s;dsimp only at q0 q1 q2 hu a1 a2 a3 hk hnr;subst hu;have HK:=hD hk;clear hs hs2 hso hsm om g3 g5 mp B q0' q1' q2' hh hcm hce hk hnr;have B:=hB3;go_upto_region 32 with (fail)
         refine wpb1 (37) (#[.int .i64 sg,.bool true,.int .i64 sa]) ?_;rintro wa13 ⟨g8,b⟩
         replace B1:=B1.trans (b.mono B1.size);replace B:=B.trans (b.mono B.size);clear b;replace c_g8:=g8.five;have om:=HJ.out.1.below B1;have g3:=HJ.out.2.1.below B1;have g5:=HJ.out.2.2.1.below B1;have mp:=HJ.out.2.2.2.1.below B1;clear q0 q1 q2;obtain ⟨_,_,_,q2⟩:=OwnS.cells om.s HSS.out;dsimp only at q2;have ml:=mp.mapL.lookI Tryz.underlying3 Tryz.underlying62 Tryz.underlying3 (zero_int _) (a:=sa) ⟨by omega,by omega⟩
         rw [←HK.out] at ml;have HP:=hD (OwnS.put1 om.s HSS.out k)
         have fz:=HP.out.2.2.2.2;have hM3:=OwnM.slotsE om HP.out.2.1 HP.out.1 (by decide) (by decide) (by decide) (by decide)
         have n3:gS≠w.heap.size:=own_ne_bx om.s g3 (by decide)
         have n5:gS≠p5:=own_ne_bx om.s g5 (by decide)
         have r3:=g3.grown HP.out.2.1 (.inr (fun e=>n3 (by injection e)))
         have r4:=g5.grown HP.out.2.1 (.inr (fun e=>n5 (by injection e)))
         obtain ⟨es,ck,hmb⟩:=mp.mapL.block;have r5:=mp.kept HP.out.2.1 (fun e=>by
          rcases own_ne_map om.s hmb with h | h
          ·cases h
          ·exact h (by injection e with e;rw [e];rfl))
         have hb3:=B.grown HP.out.2.1 B.size (fun k hk=>by injection hk with hk;rw [←hk];exact HP.out.2.2.1)
         have HZ:=hD (And.intro hM3 (And.intro r3 (And.intro r4 (And.intro r5 hb3))))
         have c_g5:=g5.cell;clear hM3 r3 r4 r5 hb3 om g3 g5 mp hmb;go_wp2;clear q2 fz ml c_g5 c_g8 g8
         go_roundg (16-(j3+1))
         case measure=>omega
         case rel=>
          refine ⟨j3+1,by omega,rfl,by go_num,hD ?_⟩
          rw [←HE.out];exact HZ.out
       ·obtain rfl:j3=16:=by omega
        rw [mapT_done (by rw [HS16.out];exact Nat.le_refl _)] at om;have HOM:=hD om;clear hh om mp;have c_g3:=g3.cell;have f_g3:=g3.free;have c_g5:=g5.cell;go_wp2;refine bodyPost_ret (v:=.tuple #[.agg #[.slice tA tn tc,.slice oA2 on2 oc2,.slice (some ⟨gS,0,none⟩) 16 sc],.int .i64 0]) (by simp [results,Tryz.results6,go_sem,c_g3,f_g3]) rfl ?_;refine ⟨_,_,_,rfl,OwnM.set3E HOM.out g3 (by decide),?_⟩
        exact ((B.setCell (p:=⟨w.heap.size,0,none⟩) (by simp) _).setCell (p:=⟨w.heap.size,1,none⟩) (by simp) _).setCell (p:=⟨w.heap.size,2,none⟩) (by simp) _
end
section
open Go.RowKit L02 L13 L18 L20
end
section
open Go.RowKit L02 L13 L18 L20
structure Fnd (w wr:World) (tv ov sv:Value) (N:Nat) (sn on st:Value) (od ord S:List Nat):Prop where
 g1:Bx wr w.heap.size 31 #[tv,ov,sv]
 hs:wr.ownsRow w.heap.size 4 1 sn N ((seenV N od).map .bool)
 ho:OwnI wr w.heap.size 3 on (natI ord)
 ht:OwnI wr w.heap.size 3 st (natI S)
 ne:∀g,st.ownBlock=some g→on.ownBlock≠some g
 B:Below w.heap.size w wr
section
variable {w wr w':World} {tv ov sv sn on st v':Value} {N x:Nat} {od ord S:List Nat}
theorem Fnd.below (e:Fnd w wr tv ov sv N sn on st od ord S) (b:Below wr.heap.size wr w'):Fnd w w' tv ov sv N sn on st od ord S:=
 ⟨e.g1.below b,own_below e.hs b,OwnI.below e.ho b,OwnI.below e.ht b,e.ne,e.B.trans (b.mono e.B.size)⟩
theorem lit_b (wr:World) (x:Nat):Below wr.heap.size wr (wr.alloc (.cells #[.int .i64 (x:Int)] 3)):=(Below.refl _ wr).alloc (Nat.le_refl _) _
theorem ne_swap {a b:Value} (h:∀g,b.ownBlock=some g→a.ownBlock≠some g):a.ownBlock=none∨a.ownBlock≠b.ownBlock:=by
 cases hb:b.ownBlock with
 | none=>cases a.ownBlock <;> simp
 | some g=>exact .inr (h g hb)
theorem ne_swap' {a b:Value} (h:∀g,b.ownBlock=some g→a.ownBlock≠some g):b.ownBlock=none∨b.ownBlock≠a.ownBlock:=by
 cases hb:b.ownBlock with
 | none=>exact .inl rfl
 | some g=>exact .inr (fun e=>h g hb e.symm)
theorem Fnd.pushO (e:Fnd w wr tv ov sv N sn on st od ord S) {n:Nat} (o:w'.ownsRow w.heap.size 3 1 v' n ((natI ord).map i64++[.int .i64 (x:Int)])) (b:Below w.heap.size w w') (hg:(wr.alloc (.cells #[.int .i64 (x:Int)] 3)).grownBy w' on.ownBlock)
  (hk:∀g,v'.ownBlock=some g→on.ownBlock=some g∨(wr.alloc (.cells #[.int .i64 (x:Int)] 3)).heap.size≤g):Fnd w w' tv ov sv N sn v' st od (ord++[x]) S:=by
 have e2:=e.below (lit_b wr x)
 refine ⟨e2.g1.grown hg (own_not_bx e2.ho e2.g1 (by decide)),World.ownsRow.kept e2.hs hg (own_unlike e2.hs e2.ho (by decide)),OwnI.of o (by rw [natI_snoc,List.map_append];rfl),World.ownsRow.kept e2.ht hg (ne_swap' e.ne),fun g hv ho=>?_,b⟩
 rcases hk g ho with h | h
 ·exact e.ne g hv h
 ·have:=(World.ownsRow.lt e.ht g hv).2;simp at h;omega
end
end
section
open Go.RowKit L02 L13 L18 L20
end
section
open Go.RowKit L02 L13 L18 L20
theorem OwnI.put {w:World} {B E:Nat} {v:Value} {l:List Int} (h:OwnI w B E v l) {k:Nat} (hk:k<l.length):∃gs,v.ownBlock=some gs∧(∀W,(Instr.indexAt 96 v (.int .i64 (k:Int))).run Tryz.prog W=.ok (.pointer (some ⟨gs,k,none⟩)) W)∧w.cell? ⟨gs,k,none⟩=some (.int .i64 (l.getD k 0))∧w.frozen? ⟨gs,k,none⟩=false∧B≤gs∧gs<w.heap.size∧
  ∀x:Int,OwnI (w.setCell ⟨gs,k,none⟩ (.int .i64 x)) B E v (l.set k x)∧w.grownBy (w.setCell ⟨gs,k,none⟩ (.int .i64 x)) (some gs):=by
 obtain ⟨gs,cap,cur,rfl,hB,hg,hnc,hcm,hcs,htake⟩:=own_form h (by omega)
 have hix:=fun W=>Rd.ixN (P:=Tryz.prog) (Rd.of_own h) Tryz.underlying96 one_int hk W;have hc:=Rd.cell (Rd.of_own h) (j:=k) (u:=.int .i64 (l.getD k 0)) (by rw [List.getElem?_map,List.getElem?_eq_getElem hk,List.getD_eq_getElem?_getD,List.getElem?_eq_getElem hk];rfl)
 refine ⟨gs,rfl,fun W=>by have:=hix W;simpa [cellAt] using this,by simpa [cellAt] using hc,h.frozenAt k,hB,(World.ownsRow.lt h gs rfl).2,fun x=>?_⟩
 have hst:=World.ownsRow.stored h k (.int .i64 x)
 refine ⟨?_,hst.2⟩
 refine OwnI.of hst.1 ?_;rw [List.map_set];rfl
end
section
open Go.RowKit L02 L13 L18 L20
def FrT (w w':World):Prop:=w.heap.size≤w'.heap.size∧∀(k:Nat) (cs:Array Value) (e:TypeId) (fr:Nat×Nat),e≠3→e≠98→w.heap[k]?=some (.cells cs e fr)→w'.heap[k]?=some (.cells cs e fr)
section
variable {w w' w'':World}
theorem FrT.refl (w:World):FrT w w:=⟨Nat.le_refl _,fun _ _ _ _ _ _ h=>h⟩
theorem FrT.trans (h:FrT w w') (h2:FrT w' w''):FrT w w'':=⟨Nat.le_trans h.1 h2.1,fun k cs e fr a b hk=>h2.2 k cs e fr a b (h.2 k cs e fr a b hk)⟩
theorem FrT.of_below (h:Below w.heap.size w w'):FrT w w':=⟨h.size,fun k cs e fr _ _ hk=>(h.block k (Array.getElem?_eq_some_iff.1 hk).1).trans hk⟩
theorem Bx.frT {g:Nat} {t:TypeId} {cs:Array Value} (h:Bx w g t cs) (hf:FrT w w') (h1:t≠3) (h2:t≠98):Bx w' g t cs:=hf.2 g cs t (0,0) h1 h2 h
theorem own_frT {B e sz n:Nat} {v:Value} {xs:List Value} (h:w.ownsRow B e sz v n xs) (hf:FrT w w') (h1:e≠3) (h2:e≠98):w'.ownsRow B e sz v n xs:=by
 refine ⟨h.1,h.2.imp id ?_⟩
 rintro ⟨g,cap,cur,a1,a2,a3,a4⟩
 exact ⟨g,cap,cur,a1,a2,hf.2 g cur e (0,0) h1 h2 a3,a4⟩
theorem OwnM.frT {B:Nat} {tv ov sv:Value} {m:Mo} (h:OwnM w B 37 tv ov sv m) (hf:FrT w w'):OwnM w' B 37 tv ov sv m:=by
 obtain ⟨⟨vs,a1,a2,a3⟩,⟨us,b1,b2,b3,b4⟩,c⟩:=h;exact ⟨⟨vs,a1,own_frT a2 hf (by decide) (by decide),fun i x l h1 h2=>own_frT (a3 i x l h1 h2) hf (by decide) (by decide)⟩,⟨us,b1,own_frT b2 hf (by decide) (by decide),fun i x l h1 h2=>own_frT (b3 i x l h1 h2) hf (by decide) (by decide),b4⟩,own_frT c hf (by decide) (by decide)⟩
theorem FrT.grown {g:Nat} {cs:Array Value} {t:TypeId} (hg:w.grownBy w' (some g)) (hx:Bx w g t cs) (ht:t=3∨t=98):FrT w w':=by
 refine ⟨hg.size,fun k cs' e fr h1 h2 hk=>(hg.block k (Array.getElem?_eq_some_iff.1 hk).1 ?_).trans hk⟩
 rintro e1;injection e1 with e1
 subst e1;unfold Bx at hx;rw [hk] at hx;injection hx with hx
 injection hx with _ hx _
 subst hx;exact ht.elim h1 h2
theorem FrT.grownI {B n:Nat} {v:Value} {xs:List Value} (hg:w.grownBy w' v.ownBlock) (hx:w.ownsRow B 3 1 v n xs):FrT w w':=by
 rcases hx.2 with ⟨rfl,_⟩ | ⟨g,cap,cur,rfl,_,h3,_⟩
 ·exact ⟨hg.size,fun k cs' e fr h1 h2 hk=>(hg.block k (Array.getElem?_eq_some_iff.1 hk).1 (by intro e;cases e)).trans hk⟩
 ·exact FrT.grown (g:=g) hg h3 (.inl rfl)
end
structure Fi (b:Nat) (w:World) (pf:Nat) (tv ov sv nv rv:Value) (m:Mo) (od ord:List Nat):Prop where
 g:Bx w pf 98 #[tv,ov,sv,nv,rv]
 hn:OwnI w b 3 nv (numsI m od)
 hr:OwnI w b 3 rv (natI ord)
 om:OwnM w b 37 tv ov sv m
 ne:∀g,nv.ownBlock=some g→rv.ownBlock≠some g
 hb:b≤pf
section
variable {b pf:Nat} {w w':World} {tv ov sv nv rv:Value} {m:Mo} {od ord:List Nat}
theorem Fi.below (e:Fi b w pf tv ov sv nv rv m od ord) (h:Below w.heap.size w w'):Fi b w' pf tv ov sv nv rv m od ord:=
 ⟨e.g.below h,e.hn.below h,e.hr.below h,e.om.below h,e.ne,e.hb⟩
theorem Fi.push {v':Value} {x n:Nat} (e:Fi b w pf tv ov sv nv rv m od ord) (hbw:b≤w.heap.size) (o:w'.ownsRow b 3 1 v' n ((natI ord).map i64++[.int .i64 (x:Int)])) (hg:(w.alloc (.cells #[.int .i64 (x:Int)] 3)).grownBy w' rv.ownBlock)
  (hk:∀g,v'.ownBlock=some g→rv.ownBlock=some g∨(w.alloc (.cells #[.int .i64 (x:Int)] 3)).heap.size≤g):
  Bx w' pf 98 #[tv,ov,sv,nv,rv]∧Fi b (w'.setCell ⟨pf,4,none⟩ v') pf tv ov sv nv v' m od (ord++[x])∧FrT w (w'.setCell ⟨pf,4,none⟩ v')∧Below b w (w'.setCell ⟨pf,4,none⟩ v'):=by
 have lb:Below w.heap.size w (w.alloc (.cells #[.int .i64 (x:Int)] 3)):=(Below.refl _ w).alloc (Nat.le_refl _) _;have e2:=e.below lb;have g':=e2.g.grown hg (own_not_bx e2.hr e2.g (by decide))
 have f1:FrT w w':=(FrT.of_below lb).trans (FrT.grownI hg e2.hr)
 have hsc:=grown_set w' ⟨pf,4,none⟩ v';have f2:FrT w' (w'.setCell ⟨pf,4,none⟩ v'):=FrT.grown hsc g' (.inr rfl)
 have hrB:=World.ownsRow.kept e2.hn hg (ne_swap' (a:=rv) (b:=nv) (fun g h1 h2=>e.ne g h1 h2))
 refine ⟨g',⟨?_,?_,?_,?_,fun g h1 h2=>?_,e.hb⟩,f1.trans f2,?_⟩
 ·have:=g'.set (i:=4) v';simpa using this
 ·exact World.ownsRow.kept hrB hsc (own_not_bx hrB g' (by decide))
 ·exact OwnI.of (World.ownsRow.kept o hsc (own_not_bx o g' (by decide))) (by rw [natI_snoc,List.map_append];rfl)
 ·exact e.om.frT (f1.trans f2)
 ·rcases hk g h2 with h | h
  ·exact e.ne g h1 h
  ·have:=(World.ownsRow.lt e.hn g h1).2;simp at h;omega
 ·exact (((Below.refl b w).alloc hbw (.cells #[.int .i64 (x:Int)] 3)).grown hg (Nat.le_trans hbw (by simp)) (fun k hk=>(World.ownsRow.lt e.hr k hk).1)).setCell (p:=⟨pf,4,none⟩) e.hb _
theorem Fi.num {n:Nat} (e:Fi b w pf tv ov sv nv rv m od (od++[n])) (hni:n∉od) (hlt:n<m.objs.length):∃gs,(∀W,(Instr.indexAt 96 nv (.int .i64 (n:Int))).run Tryz.prog W=.ok (.pointer (some ⟨gs,n,none⟩)) W)∧(w.cell? ⟨gs,n,none⟩).isSome=true∧w.frozen? ⟨gs,n,none⟩=false∧
  Fi b (w.setCell ⟨gs,n,none⟩ (.int .i64 ((od.length:Int)+1))) pf tv ov sv nv rv m (od++[n]) (od++[n])∧FrT w (w.setCell ⟨gs,n,none⟩ (.int .i64 ((od.length:Int)+1)))∧b≤gs:=by
 obtain ⟨gs,e1,ix,mc,mf,hgB,hgl,hst⟩:=e.hn.put (k:=n) (by rw [numsI_len];exact hlt)
 obtain ⟨s1,s2⟩:=hst ((od.length:Int)+1)
 rw [numsI_step hni hlt] at s1;have hne:rv.ownBlock=none∨rv.ownBlock≠some gs:=.inr (e.ne gs e1)
 have hgf:gs≠pf:=by
  rintro rfl;rcases own_not_bx e.hn e.g (by decide) with h | h
  ·rw [h] at e1;cases e1
  ·exact h e1
 have fr:FrT w (w.setCell ⟨gs,n,none⟩ (.int .i64 ((od.length:Int)+1))):=FrT.grownI (v:=nv) (by rw [e1];exact s2) e.hn;exact ⟨gs,ix,by rw [mc];rfl,mf,⟨e.g.far (p:=⟨gs,n,none⟩) hgf.symm _,s1,World.ownsRow.kept e.hr s2 hne,e.om.frT fr,e.ne,e.hb⟩,fr,hgB⟩
end
end
section
open Go.RowKit L02 L13 L18 L20
theorem OwnO.atW {w:World} {base:Nat} {v:Value} {L:List Ob} (h:OwnO w base v L) {n:Nat} {o:Ob} (ho:L[n]?=some o):
  ∃b q x,(∀W,(Instr.indexAt 28 v (.int .i64 (n:Int))).run Tryz.prog W=.ok (.pointer (some ⟨b,q,none⟩)) W)∧w.cell? ⟨b,q,none⟩=some (.int .i64 o.ty)∧w.cell? ⟨b,q+1,none⟩=some x∧OwnW w base 42 x o.fs:=by
 obtain ⟨vs,h1,h2,h4,h5⟩:=h;have hk:n<L.length:=(List.getElem?_eq_some_iff.1 ho).1;have hv:vs[n]?=some vs[n]:=List.getElem?_eq_getElem (by omega)
 have hix:=fun W=>Rd.ixN (P:=Tryz.prog) (Rd.of_own h2) Tryz.underlying28 size_obj hk W;obtain ⟨b,q,c,rfl,hb,hc,hcell⟩:=Rd.form (Rd.of_own h2) (by omega)
 obtain ⟨c0,c1⟩:=obC_get ho hv;exact ⟨b,q+n*2,vs[n],fun W=>hix W,hcell _ _ c0,hcell _ _ c1,h4 n _ _ hv ho⟩
theorem visit_any (m:Mo) (hc:chk m=0) (b pf:Nat) (tv ov sv nv:Value):∀(d:Nat) (ord:List Nat) (n:Nat) (rv:Value) (w:World) (out:List Nat),m.objs.length-ord.length=d→n<m.objs.length→ord.Nodup→(∀x∈ord,x<m.objs.length)→Rs m ord [n] out→
  Fi b w pf tv ov sv nv rv m ord ord→b≤w.heap.size→Calls Tryz.prog 40 #[.pointer (some ⟨pf,0,none⟩),.int .i64 n] w fun e w'=>e=.returned (.tuple #[])∧∃rv',Fi b w' pf tv ov sv nv rv' m out out∧FrT w w'∧Below b w w':=by
 obtain ⟨N,hN⟩:=exq m.objs.length;obtain ⟨k1,k2,k3⟩:=chk_ok hc;have hN1:N≤960:=by rw [hN];exact k2
 have HN:=hD hN;have HC:=hD hc;have HK:=hD k3;intro d;induction d using Nat.strongRecOn with
 | ind d ih=>
 intro ord n rv w out hd hn hnd hol hrs hfi hbw;have IH:=hD ih;clear ih hN k1 k2 k3 hc;have c_g:=hfi.g.cell;obtain ⟨na,x,ia,mx,hx⟩:=(OwnI.rd hfi.hn).at_ (P:=Tryz.prog) Tryz.underlying96 one_int (k:=n) (by rw [numsI_len];exact hn)
 have hxx:=hx.out;rw [numsI_get hn] at hxx;by_cases hin:n∈ord
 ·rw [if_pos hin] at hxx;injection hxx with hxx
  subst hxx;have hout:out=ord:=by
   cases hrs with
   | seen _ h=>cases h;rfl
   | new h _=>exact absurd hin h
  obtain ⟨id,hid⟩:=exq (ord.idxOf n)
  rw [←hid] at mx;have z1:(0:Int)<(id:Int)+1:=by omega
  have HF:=hD hfi;clear hfi hx hid hin hrs IH;go_in;go_wp2;refine bodyPost_ret (results_none rfl _ _ _) rfl ?_;refine ⟨rfl,rv,?_,FrT.refl _,Below.refl _ _⟩
  rw [hout];exact HF.out
 ·rw [if_neg hin] at hxx;injection hxx with hxx
  subst hxx;have hrs2:Rs m (ord++[n]) (kids m n) out:=by
   cases hrs with
   | seen h _=>exact absurd h hin
   | new _ h=>rw [List.append_nil] at h;exact h
  have hnd2:(ord++[n]).Nodup:=List.nodup_append.2 ⟨hnd,by simp,fun x hx y hy e=>hin (by rw [←List.mem_singleton.1 hy,←e];exact hx)⟩
  have hol2:∀x∈ord++[n],x<m.objs.length:=fun x hx=>by
   rcases List.mem_append.1 hx with h | h
   ·exact hol x h
   ·rw [List.mem_singleton.1 h];exact hn
  have hlen:=nodup_lt hnd2 hol2;rw [List.length_append,List.length_singleton] at hlen;obtain ⟨L,hL⟩:=exq ord.length;have HL:=hD hL;have hL1:L+1≤N:=by rw [HN.out,hL];exact hlen
  have hNL:(natI ord).length=L:=by rw [natI_len,hL]
  have HNL:=hD hNL;obtain ⟨o,ho⟩:∃o,m.objs[n]?=some o:=⟨_,List.getElem?_eq_getElem hn⟩
  have hoo:=HK.out.2.2.1 o (List.mem_of_getElem? ho)
  obtain ⟨q,hq⟩:=Int.eq_ofNat_of_zero_le hoo.1.1;have hqt:q<m.types.length:=by have:=hoo.1.2;omega
  obtain ⟨t,ht⟩:∃t,m.types[q]?=some t:=⟨_,List.getElem?_eq_getElem hqt⟩
  have htt:ty m.types o=t:=by rw [ty,hq];simp [List.getD_eq_getElem?_getD,ht]
  obtain ⟨nf,hnf⟩:=exq o.fs.length;have hlt2:nf=t.length:=by rw [hnf,hoo.2.1,htt]
  have hnf20:nf≤20:=by rw [hnf];exact (small_chk HC.out).2.2.2.2 o (List.mem_of_getElem? ho)
  have HOB:=hD (show ob m n=o from ob_at ho)
  have HRS:=hD (show Rs m (ord++[n]) (kidsTo m o o.fs.length) out by rw [←HOB.out];exact hrs2)
  have HO:=hD hoo;have HOI:=hD ho;have HTT:=hD htt;have HNF:=hD hnf;have HLT:=hD hlt2;have HQ:=hD hq;have HT:=hD ht;have HIN:=hD hin;have HND:=hD (And.intro hnd2 hol2);have HNN:=hD hn;have HD:=hD hd;have HF:=hD hfi;clear hoo ho htt hnf hlt2 hq ht hqt hfi hx hin hrs hrs2 hnd hol hnd2 hol2 hlen hL hNL hn hd;go_in;go_upto_region 1 with (fail)
  clear mx ia;go_wp2_with (at_builtin;refine wpList_append2 (by rfl) rfl rfl rfl Tryz.underlying96 info_int rfl (by omega) (by exact own_below HF.out.hr (lit_b w n)) (by exact lit_rd) (by simp [Value.oneCell']) (by omega) (by rw [HNL.out];omega) (by rw [HNL.out];omega) (by exact (Below.refl b w).alloc hbw _) hbw ?_;intro v1 w1 o1 b1 g1 n1;obtain ⟨vA,vn1,vc,rfl⟩:∃A n c,v1=.slice A n c:=by { obtain ⟨A,c,e⟩:=own_form' o1;exact ⟨A,_,c,e⟩ };have FP:=hD (HF.out.push hbw o1 g1 n1);clear o1 b1 g1 n1;have c_g1:=FP.out.1.cell;have f_g1:=FP.out.1.free;clear c_g)
  refine wp_gen (fun Wv=>Fi b Wv pf tv ov sv nv (.slice vA vn1 vc) m ord (ord++[n])∧FrT w Wv∧Below b w Wv) FP.out.2 ?_;clear FP c_g1 f_g1;rintro w2 ⟨f2,t2,b2⟩
  have f2d:=f2.below ((Below.refl _ w2).drew)
  obtain ⟨gs,ix,mc,mf,f3,t3,hgB⟩:=f2d.num HIN.out HNN.out;obtain ⟨u0,hu0⟩:=Option.isSome_iff_exists.1 mc;have ln:=Rd.len (OwnI.rd f2.hr) Tryz.underlying96;rw [show (natI (ord++[n])).length=L+1 by rw [natI_len,List.length_append,←HL.out];rfl] at ln;have c2:=f2.g.cell;have FX:=hD (And.intro f3 (And.intro (t2.trans ((FrT.of_below ((Below.refl _ w2).drew)).trans t3)) ((b2.drew).setCell (p:=⟨gs,n,none⟩) hgB (.int .i64 ((ord.length:Int)+1)))))
  rw [←HL.out] at FX;clear f2 f2d f3 t2 t3 b2 mc hgB w1 HF;refine wp_region_qtail 11 (by kernel_rfl) (by kernel_rfl) ?_;simp only [List.take_succ_cons,List.take_zero,List.drop_succ_cons,List.drop_zero]
  iterate 11 (go_big_quiet_step (fail))
  refine wpQuiet_nil ?_;clear c2 ln ix;go_upto_region 3 with (fail)
  refine wp_gen (fun Wv=>Fi b Wv pf tv ov sv nv (.slice vA vn1 vc) m (ord++[n]) (ord++[n])∧FrT w Wv∧Below b w Wv) ?_ ?_
  ·exact FX.out
  clear FX hu0 mf w2;rintro w3 ⟨f3,t3,b3⟩
  obtain ⟨bo,bq,x0,ixo,p0,p1,ow⟩:=f3.om.o.atW HOI.out;obtain ⟨xA,xn,xc,rfl⟩:∃A n c,x0=.slice A n c:=by obtain ⟨A,c,e⟩:=own_form' ow;exact ⟨A,_,c,e⟩
  rw [HQ.out] at p0;have c_g:=f3.g.cell;have hp3:=f3.g.lt;have hbw3:b≤w3.heap.size:=Nat.le_trans hbw t3.1;go_upto_region 4 with (fail)
  have bz:=(Below.refl w3.heap.size w3).alloc (Nat.le_refl _) (.cells #[.int .i64 (q:Int),.slice xA xn xc] 68)
  refine wp_gen (fun Wv=>Fi b Wv pf tv ov sv nv (.slice vA vn1 vc) m (ord++[n]) (ord++[n])∧FrT w Wv∧Below b w Wv∧Bx Wv w3.heap.size 68 #[.int .i64 q,.slice xA xn xc]∧OwnW Wv b 42 (.slice xA xn xc) o.fs∧w3.heap.size<Wv.heap.size) ⟨f3.below bz,t3.trans (FrT.of_below bz),b3.trans (bz.mono hbw3),Bx.new w3 _ _,own_below ow bz,by simp⟩ ?_;clear f3 t3 b3 ow p0 p1 ixo c_g bz
  generalize w3.heap.size=p4 at*
  clear w3;rintro w4 ⟨f4,t4,b4,g4,ow,hz4⟩
  obtain ⟨ad,yt,iy,m3,oy⟩:=f4.om.t.atB HT.out;have c_g:=f4.g.cell;have c_4:=g4.cell;have ly:=Rd.len (OwnB.rd oy) Tryz.underlying66;rw [←HLT.out] at ly;have F4:=hD (And.intro f4 (And.intro t4 (And.intro b4 (And.intro g4 (And.intro ow (And.intro oy hz4))))))
  clear f4 t4 b4 g4 ow oy;go_big_quiet (fail)
  clear c_g c_4 m3 iy;have bq:=(Below.refl w4.heap.size w4).drew;have F5:=hD (show Fi b (w4.drewN nq) pf tv ov sv nv (.slice vA vn1 vc) m (ord++[n]) (ord++[n])∧FrT w (w4.drewN nq)∧Below b w (w4.drewN nq)∧Bx (w4.drewN nq) p4 68 #[.int .i64 q,.slice xA xn xc]∧OwnW (w4.drewN nq) b 42 (.slice xA xn xc) o.fs∧OwnB (w4.drewN nq) b 5 yt t∧p4<(w4.drewN nq).heap.size from by
   obtain ⟨f4,t4,b4,g4,ow,oy,hz⟩:=F4.out;have bz:=below_drewN (Below.refl w4.heap.size w4) nq;exact ⟨f4.below bz,t4.trans (FrT.of_below bz),b4.trans (bz.mono (Nat.le_trans hbw t4.1)),g4,ow,oy,hz⟩)
  have HBW:=hD hbw;clear F4 bq;go_wp2
  go_loopg [54] nf (fun gg i wr=>∃k:Nat,k≤nf∧gg=nf-k∧i=.int .i64 k∧Hid (∃mid rv',Rs m (ord++[n]) (kidsTo m o k) mid∧Fi b wr pf tv ov sv nv rv' m mid mid∧FrT w wr∧Below b w wr∧Bx wr p4 68 #[.int .i64 q,.slice xA xn xc]∧OwnW wr b 42 (.slice xA xn xc) o.fs∧OwnB wr b 5 yt t∧p4<wr.heap.size))
  case atStart=>exact ⟨0,by omega,by omega,rfl,hD ⟨_,_,.nil _,F5.out⟩⟩
  case round=>
   clear F5;obtain ⟨k,hk,rfl,rfl,hh⟩:=hrel;obtain ⟨mid,rv',hmid,f,tt,bb,g4,ow,oy,hz⟩:=hh.out;by_cases hlt:k<nf
   ·have c_4:=g4.cell;obtain ⟨bd,kk,ib,m4,hkk⟩:=((OwnB.rd oy).at_ (P:=Tryz.prog) Tryz.underlying66 one_u8 (k:=k) (by have:=HLT.out;omega))
    obtain ⟨cd,v,ic,m5,hv⟩:=((OwnW.rd ow).at_ (P:=Tryz.prog) Tryz.underlying22 one_u64 (k:=k) (by have:=HNF.out;omega))
    have hkd:(ty m.types o).getD k 0=kk:=by rw [HTT.out];simp [List.getD_eq_getElem?_getD,hkk.out]
    have hvd:o.fs.getD k 0=v:=by simp [List.getD_eq_getElem?_getD,hv.out]
    have hkid:kidAt m o k=if kk.toNat=3∧0<v.toNat then some (v.toNat-1) else none:=by rw [kidAt,hkd,hvd]
    have hvl:kk.toNat=3→v.toNat≤N:=fun h=>by
     have:=HO.out.2.2 k (by have:=HNF.out;omega)
     rw [hkd,hvd] at this
     have:=this.2 h;rw [HN.out];exact this
    obtain ⟨vn,hvn⟩:=exq v.toNat;rw [←hvn] at m5 hkid hvl;clear hkk hv hkd hvd hvn;by_cases h3:kk.toNat=3
    ·have k3:((kk.toNat:Int)==3)=true:=by rw [beq_iff_eq];omega
     by_cases h0:0<vn
     ·rw [if_pos ⟨h3,h0⟩] at hkid;obtain ⟨c,rfl⟩:∃c,vn=c+1:=⟨vn-1,by omega⟩
      rw [Nat.add_sub_cancel] at hkid;have hcl:c<N:=by have:=hvl h3;omega
      have m5':wr.cell? cd=some (.int .u64 ((c:Int)+1)):=by rw [m5];rfl
      have z1:((c:Int)+1 != 0)=true:=by rw [bne_iff_ne];omega
      have z2:IntKind.u64.wrap (c:Int)=(c:Int):=by show (c:Int) % 18446744073709551616=_;omega
      have z3:IntKind.i64.wrap (c:Int)=(c:Int):=IntWalk.i64_in _ (by omega)
      obtain ⟨mid2,r1,r2⟩:=HRS.out.kid (by have:=HNF.out;omega) hmid hkid;have hpre:=hmid.pre.length_le;rw [List.length_append,List.length_singleton] at hpre;have hND2:=hmid.nodup HND.out.1;have hol3:=hmid.all (p:=fun x=>x<m.objs.length) (kids_lt HC.out) HND.out.2 (fun x hx=>by
       rw [kidsTo,List.mem_filterMap] at hx;obtain ⟨i,hi,hx⟩:=hx;have hi:=List.mem_range.1 hi;have h1:=kidAt_some hx
       have:=(HO.out.2.2 i (by have:=HNF.out;omega)).2 h1.1;omega)
      have hln:(ord++[n]).length≤m.objs.length:=nodup_lt HND.out.1 HND.out.2;rw [List.length_append,List.length_singleton] at hln;have CL:=hD (IH.out (m.objs.length-mid.length) (by rw [←HD.out];omega) mid c rv' wr mid2 rfl (by rw [←HN.out];exact hcl) hND2 hol3 r1 f (Nat.le_trans HBW.out tt.1))
      have HR2:=hD r2;have HG:=hD (And.intro tt (And.intro bb (And.intro g4 (And.intro ow (And.intro oy hz)))))
      clear hh hmid f tt bb g4 ow oy hz hkid m5 hvl h3 h0 r1 r2 hpre hND2 hol3 hln;go_wp2_with fail;refine CL.out.mono ?_;rintro e wf ⟨rfl,rv2,f,t2,b2⟩
      obtain ⟨tt,bb,g4,ow,oy,hz⟩:=HG.out;have HJ:=hD (And.intro HR2.out (And.intro f (And.intro (tt.trans t2) (And.intro (bb.trans b2) (And.intro (g4.frT t2 (by decide) (by decide)) (And.intro (own_frT ow t2 (by decide) (by decide)) (And.intro (own_frT oy t2 (by decide) (by decide)) (Nat.lt_of_lt_of_le hz t2.1))))))))
      clear f t2 b2 tt bb g4 ow oy hz HG CL HR2;go_wp2
      go_roundg (nf-(k+1))
      case measure=>omega
      case rel=>exact ⟨k+1,by omega,rfl,by go_num,hD ⟨_,_,HJ.out⟩⟩
     ·obtain rfl:vn=0:=by omega
      rw [if_neg (by omega)] at hkid;have m5':wr.cell? cd=some (.int .u64 0):=by rw [m5];rfl
      have HJ:=hD (show Rs m (ord++[n]) (kidsTo m o (k+1)) mid by rw [kidsTo_step,hkid,List.append_nil];exact hmid)
      have HG:=hD (And.intro f (And.intro tt (And.intro bb (And.intro g4 (And.intro ow (And.intro oy hz))))))
      clear hh hmid f tt bb g4 ow oy hz hkid m5 hvl h0;go_wp2
      go_roundg (nf-(k+1))
      case measure=>omega
      case rel=>exact ⟨k+1,by omega,rfl,by go_num,hD ⟨_,_,HJ.out,HG.out⟩⟩
    ·have k3:((kk.toNat:Int)==3)=false:=by rw [beq_eq_false_iff_ne];omega
     rw [if_neg (fun h=>h3 h.1)] at hkid;have HJ:=hD (show Rs m (ord++[n]) (kidsTo m o (k+1)) mid by rw [kidsTo_step,hkid,List.append_nil];exact hmid)
     have HG:=hD (And.intro f (And.intro tt (And.intro bb (And.intro g4 (And.intro ow (And.intro oy hz))))))
     clear hh hmid f tt bb g4 ow oy hz hkid hvl h3;go_wp2
     go_roundg (nf-(k+1))
     case measure=>omega
     case rel=>exact ⟨k+1,by omega,rfl,by go_num,hD ⟨_,_,HJ.out,HG.out⟩⟩
   ·obtain rfl:k=nf:=by omega
    have hfin:mid=out:=by
     have:=HRS.out;rw [←HNF.out] at this;exact hmid.det this
    subst hfin;have HJ:=hD (And.intro f (And.intro tt bb))
    clear hh hmid f tt bb g4 ow oy hz;go_wp2;refine bodyPost_end (results_none rfl _ _ _) rfl ?_;exact ⟨rfl,rv',HJ.out⟩
end
section
open Go.RowKit L02 L13 L18 L20
def rootsTo (m:Mo) (j:Nat):List Nat:=(m.slots.take j).filterMap rootOf
theorem rootsTo_step {m:Mo} {j:Nat} {s:Sl} (hs:m.slots[j]?=some s):rootsTo m (j+1)=rootsTo m j++(match rootOf s with | none=>[] | some c=>[c]):=by
 rw [rootsTo,List.take_add_one,hs,List.filterMap_append]
 congr 1;cases h:rootOf s <;> simp [h]
theorem rootsTo_end {m:Mo} {j:Nat} (h:m.slots.length≤j):rootsTo m j=roots m:=by rw [rootsTo,List.take_of_length_le h];rfl
theorem roots_split (m:Mo) (j:Nat):roots m=rootsTo m j++rootsFrom m j:=by
 rw [rootsTo,rootsFrom,←List.filterMap_append,List.take_append_drop];rfl
theorem roots_any (m:Mo) (hc:chk m=0) (b pf:Nat) (tv ov sv nv rv:Value) (out:List Nat) (hr:Rs m [] (roots m) out) (w:World) (hfi:Fi b w pf tv ov sv nv rv m [] []) (hbw:b≤w.heap.size):
  Calls Tryz.prog 39 #[.agg #[tv,ov,sv],.func (.func 40) #[.pointer (some ⟨pf,0,none⟩)] #[]] w fun e w'=>e=.returned (.tuple #[])∧∃rv',Fi b w' pf tv ov sv nv rv' m out out∧FrT w w'∧Below b w w':=by
 obtain ⟨k1,k2,k3⟩:=chk_ok hc;have HC:=hD hc;have HK:=hD k3;have HR:=hD hr;obtain ⟨⟨tA,tn,tc,rfl⟩,⟨oA,on,oc,rfl⟩,⟨sA,sn,sc,rfl⟩⟩:=hfi.om.forms;obtain ⟨gS,sc',hS1⟩:∃g c,Value.slice sA sn sc=.slice (some ⟨g,0,none⟩) 16 c:=by obtain ⟨g,n,c,e,e2⟩:=hfi.om.s.form (by have:=k3.1;omega);rw [e2,k3.1] at e;exact ⟨g,c,e⟩
 cases hS1;clear hc k1 k2 k3 hr;go_in;go_upto_region 1 with (fail)
 have bz:=(Below.refl w.heap.size w).alloc (Nat.le_refl _) (.cells #[.slice tA tn tc,.slice oA on oc,.slice (some ⟨gS,0,none⟩) 16 sc] 31)
 refine wp_gen (fun Wv=>Bx Wv w.heap.size 31 #[.slice tA tn tc,.slice oA on oc,.slice (some ⟨gS,0,none⟩) 16 sc]∧Fi b Wv pf (.slice tA tn tc) (.slice oA on oc) (.slice (some ⟨gS,0,none⟩) 16 sc) nv rv m [] []∧FrT w Wv∧Below b w Wv) ⟨Bx.at_ (by simp),hfi.below bz,FrT.of_below bz,bz.mono hbw⟩ ?_;clear bz hfi;rintro wa ⟨g1,f0,t0,b0⟩
 have c_g1:=g1.cell;have H0:=hD (And.intro f0 (And.intro t0 b0))
 clear g1 f0 t0 b0;go_wp2;clear c_g1
 go_loopg [9] 16 (fun gg i wr=>∃j:Nat,j≤16∧gg=16-j∧i=.int .i64 j∧Hid (∃mid rv',Rs m [] (rootsTo m j) mid∧Fi b wr pf (.slice tA tn tc) (.slice oA on oc) (.slice (some ⟨gS,0,none⟩) 16 sc) nv rv' m mid mid∧FrT w wr∧Below b w wr))
 case atStart=>exact ⟨0,by omega,by omega,rfl,hD ⟨_,_,.nil _,H0.out⟩⟩
 case round=>
  clear H0;obtain ⟨j,hj,rfl,rfl,hh⟩:=hrel;obtain ⟨mid,rv',hmid,f,tt,bb⟩:=hh.out;by_cases hlt:j<16
  ·obtain ⟨s,hs⟩:∃s,m.slots[j]?=some s:=⟨_,List.getElem?_eq_getElem (by rw [HK.out.1];exact hlt)⟩
   obtain ⟨ix,q0,q1,q2⟩:=OwnS.cells f.om.s hs;have hso:=HK.out.2.2.2 s (List.mem_of_getElem? hs)
   have hst:=rootsTo_step hs;have hsf:=rootsFrom_step hs;have hbr:b≤wr.heap.size:=Nat.le_trans hbw tt.1;have bz:=(Below.refl wr.heap.size wr).alloc (Nat.le_refl _) (.cells #[.int .i64 s.gen,.bool s.used,.int .i64 s.at_] 37)
   have HX:=hD (And.intro (f.below bz) (And.intro (tt.trans (FrT.of_below bz)) (bb.trans (bz.mono hbr))))
   have HM:=hD hmid;clear hh f tt bb hmid bz hs;go_upto_region 4 with (fail)
   refine wp_gen (fun Wv=>Bx Wv wr.heap.size 37 #[.int .i64 s.gen,.bool s.used,.int .i64 s.at_]∧Fi b Wv pf (.slice tA tn tc) (.slice oA on oc) (.slice (some ⟨gS,0,none⟩) 16 sc) nv rv' m mid mid∧FrT w Wv∧Below b w Wv) ⟨Bx.new wr _ _,HX.out⟩ ?_;clear HX ix q0 q1 q2 hbr;rintro w3 ⟨g5,f,tt,bb⟩
   have c5:=g5.cell;cases hu:s.used
   ·rw [hu] at c5;rw [show rootOf s=none by rw [rootOf,hu];rfl] at hst;have HJ:=hD (show Rs m [] (rootsTo m (j+1)) mid by rw [hst,List.append_nil];exact HM.out)
    have HG:=hD (And.intro f (And.intro tt bb))
    clear hst hsf hso HM g5 f tt bb;go_wp2
    go_roundg (16-(j+1))
    case measure=>omega
    case rel=>exact ⟨j+1,by omega,rfl,by go_num,hD ⟨_,_,HJ.out,HG.out⟩⟩
   ·rw [hu] at c5;obtain ⟨a1,a2,a3⟩:=hso.2.2 hu;obtain ⟨x,hx⟩:=Int.eq_ofNat_of_zero_le a2;rw [hx] at c5;rw [show rootOf s=some x by rw [rootOf,hu,hx];rfl] at hst hsf;have hxl:x<m.objs.length:=by omega
    have hall:Rs m [] (rootsTo m j++([x]++rootsFrom m (j+1))) out:=by rw [←hsf,←roots_split];exact HR.out
    obtain ⟨mid',e1,e2⟩:=hall.app rfl;obtain rfl:=e1.det HM.out;obtain ⟨mid2,e3,e4⟩:=e2.app rfl;have hnd:=e1.nodup List.nodup_nil;have hol:=e1.all (p:=fun x=>x<m.objs.length) (kids_lt HC.out) (by simp) (fun n hn=>roots_lt HC.out n (by rw [roots_split m j];exact List.mem_append_left _ hn))
    have CL:=hD (visit_any m HC.out b pf _ _ _ nv _ mid' x rv' w3 mid2 rfl hxl hnd hol e3 f (Nat.le_trans hbw tt.1))
    have HJ:=hD (show Rs m [] (rootsTo m (j+1)) mid2 by rw [hst];exact e1.join e3)
    have HT:=hD (And.intro tt bb)
    clear hst hsf hso HM g5 f tt bb a1 a2 a3 hx hall e1 e2 e3 e4 hnd hol;go_wp2_with fail;refine CL.out.mono ?_;rintro e wf ⟨rfl,rv2,f,t2,b2⟩
    have HG:=hD (And.intro f (And.intro (HT.out.1.trans t2) (HT.out.2.trans b2)))
    clear f t2 b2 HT CL c5;go_wp2
    go_roundg (16-(j+1))
    case measure=>omega
    case rel=>exact ⟨j+1,by omega,rfl,by go_num,hD ⟨_,_,HJ.out,HG.out⟩⟩
  ·obtain rfl:j=16:=by omega
   rw [rootsTo_end (by rw [HK.out.1];exact Nat.le_refl _)] at hmid;obtain rfl:=hmid.det HR.out;have HG:=hD (And.intro f (And.intro tt bb))
   clear hh f tt bb hmid;go_wp2;refine bodyPost_end (results_none rfl _ _ _) rfl ?_;exact ⟨rfl,rv',HG.out⟩
end
end Go.Proofs.YteejianjjpdimaaGreat
