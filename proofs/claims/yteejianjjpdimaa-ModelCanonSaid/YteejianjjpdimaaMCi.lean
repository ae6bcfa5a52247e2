/- Contracts of the functions that the laws 'C' reach, part 9. No condition. -/
import Derived.Test.YteejianjjpdimaaMCh
set_option linter.unusedVariables false
set_option linter.unusedSimpArgs false
set_option maxRecDepth 100000
set_option maxHeartbeats 8000000
namespace Go.Proofs.Yteejianjjpdimaa
section
open Go.RowKit L02 L13 L18 L20
theorem OwnF.ne_bx {w:World} {base n gf p:Nat} {v:Value} {L:List Ob} {t:TypeId} {cs:Array Value} (h:OwnF w base v L n gf) (ho:n<L.length) (hg:Bx w p t cs) (hne:46≠t):gf≠p:=by
 obtain ⟨vs,nf,cf,h1,h2,h4,h5,h6⟩:=h;exact own_ne_bx (h4 n _ _ h6 (List.getElem?_eq_getElem ho)) hg hne
theorem rough_chk {m:Mo} (h:chk m=0) (S:List Sl):Rough ⟨m.types,m.objs,S⟩:=by
 obtain ⟨h1,h2,h3⟩:=chk_ok h;refine ⟨by show m.objs.length≤1000;omega,fun o ho=>⟨(h3.2.2.1 o ho).1,(h3.2.2.1 o ho).2.1,?_⟩⟩
 exact (small_chk h).2.2.2.2 o ho
theorem low_cases (n:Nat) (s:Sl):(s.used=false∨(s.used=true∧(s.at_==(n:Int))=true∧decide ((n:Int)<s.at_)=false)∨(s.used=true∧(s.at_==(n:Int))=false∧decide ((n:Int)<s.at_)=false))∨(s.used=true∧(s.at_==(n:Int))=false∧decide ((n:Int)<s.at_)=true):=by
 cases hu:s.used
 ·exact .inl (.inl rfl)
 ·by_cases h1:s.at_=n
  ·exact .inl (.inr (.inl ⟨rfl,by rw [beq_iff_eq];exact h1,by rw [decide_eq_false_iff_not];omega⟩))
  ·by_cases h2:(n:Int)<s.at_
   ·exact .inr ⟨rfl,by rw [beq_eq_false_iff_ne];exact h1,by rw [decide_eq_true_iff];exact h2⟩
   ·exact .inl (.inr (.inr ⟨rfl,by rw [beq_eq_false_iff_ne];exact h1,by rw [decide_eq_false_iff_not];exact h2⟩))
theorem low_same {n:Nat} {s:Sl} (h:s.used=false∨decide ((n:Int)<s.at_)=false):lowS n s=s:=by
 rw [lowS]
 split
 ·rename_i hu;rcases h with h | h
  ·rw [h] at hu;cases hu
  ·rw [decide_eq_false_iff_not] at h;rw [lowA,if_neg h,←hu]
 ·rfl
theorem low_less {n:Nat} {s:Sl} (hu:s.used=true) (h:decide ((n:Int)<s.at_)=true):lowS n s=⟨s.gen,s.used,s.at_-1⟩:=by
 rw [lowS,if_pos hu,lowA,if_pos (by rw [decide_eq_true_iff] at h;exact h),hu]
theorem free_step {m m2 m':Mo} {S1:List Sl} {w wr W:World} {n i n' gf b1 p6 pb z:Nat} {t o s:Value} {r3c r4c:Array Value} {b:Bool} {X:Prop} (hm2:m2=⟨m.types,m.objs,S1.map (lowS n')⟩) (hn:n<m2.objs.length) (hi:i<(ob m2 n).fs.length) (hk3:((ty m2.types (ob m2 n)).getD i 0).toNat=3) (hn1:n'≤1000) (hz:z≤pb)
  (omW:OwnM W b1 48 t o s m') (ofW:OwnF W b1 o m'.objs n gf) (a1:m'=mapP (lowV n') m2 n i) (a2:b=true↔X∨refTo m n' n i) (a3:Bx W z 26 r3c) (a4:Bx W p6 26 r4c) (a5:Bx W (p6+1) 3 #[.int .i64 n']) (a6:Bx W pb 4 #[.bool b]) (a7:Below w.heap.size w W)
  (hpbw:w.heap.size≤pb) (hp7:p6+1<pb) (hpz:pb<wr.heap.size) (hb1:w.heap.size≤b1):
  Calls Try.prog 41 (#[]++(#[.int .i64 n,.pointer (some ⟨gf,i,none⟩)]++#[.pointer (some ⟨pb,0,none⟩),.pointer (some ⟨p6+1,0,none⟩)])) W fun e W'=>e=.returned (.tuple #[])∧∃m'',Like m2 m''∧OwnM W' b1 48 t o s m''∧OwnF W' b1 o m''.objs n gf∧
   (m''=mapP (lowV n') m2 n (i+1)∧∃b:Bool,(b=true↔X∨refTo m n' n (i+1))∧Bx W' z 26 r3c∧Bx W' p6 26 r4c∧Bx W' (p6+1) 3 #[.int .i64 n']∧Bx W' pb 4 #[.bool b]∧Below w.heap.size w W')∧Fr wr.heap.size W W'∧KeepB b1 W W':=by
 obtain ⟨o',ho',hfi⟩:=mapP_fld (φ:=lowV n') (m:=m2) hn hi;rw [←a1] at ho';obtain ⟨mc,mf,gB,gL⟩:=ofW.cell ho' hfi;have hnl:n<m'.objs.length:=(List.getElem?_eq_some_iff.1 ho').1;have ne1:gf≠pb:=ofW.ne_bx hnl a6 (by decide)
 have ne3:gf≠z:=ofW.ne_bx hnl a3 (by decide)
 have ne4:gf≠p6:=ofW.ne_bx hnl a4 (by decide)
 have ne5:gf≠p6+1:=ofW.ne_bx hnl a5 (by decide)
 have hzp:z≠pb:=by
  rintro rfl;have e1:=a3;have e2:=a6;unfold Bx at e1 e2;rw [e1] at e2;injection e2 with e2;injection e2 with _ e3;exact absurd e3 (by decide)
 refine (Free1_any n n' gf i pb (p6+1) ((ob m2 n).fs.getD i 0) b _ rfl hn1 W mc mf a6 a5 ne1 (by omega)).mono ?_;rintro e w' ⟨rfl,q,hw'⟩
 refine ⟨rfl,?_⟩
 obtain ⟨b',hb'⟩:∃b',b'=(b || (decide (n≠n') && decide (((ob m2 n).fs.getD i 0).toNat=n'+1))):=⟨_,rfl⟩
 rw [←hb'] at hw';obtain ⟨W1,hW1⟩:=exq (((W.drew).setCell ⟨pb,0,none⟩ (.bool b')).drewN q)
 rw [←hW1] at hw';have hRT:b'=true↔X∨refTo m n' n (i+1):=by
  have e0:refTo m2 n' n (i+1)↔refTo m n' n (i+1):=by subst hm2;exact Iff.rfl
  have e1:refTo m2 n' n i↔refTo m n' n i:=by subst hm2;exact Iff.rfl
  rw [←e0,refTo_step hn hi,e1,←or_assoc,←a2,hb',isRef]
  simp only [Bool.or_eq_true,Bool.and_eq_true,decide_eq_true_iff]
  exact or_congr Iff.rfl ⟨fun h=>⟨h.1,hk3,h.2⟩,fun h=>⟨h.1,h.2.2⟩⟩
 have oM1:OwnM W1 b1 48 t o s m':=by
  rw [hW1]
  exact ⟨OwnT.set (w:=W.drew) omW.t a6 (by decide) (by decide),OwnO.set (w:=W.drew) omW.o a6 (by decide) (by decide),own_set (w:=W.drew) omW.s a6 (by decide)⟩
 have oF1:OwnF W1 b1 o m'.objs n gf:=by rw [hW1];exact OwnF.set (w:=W.drew) ofW a6 (by decide) (by decide)
 have x3:Bx W1 z 26 r3c:=by rw [hW1];exact Bx.far (w:=W.drew) a3 (p:=⟨pb,0,none⟩) hzp _
 have x4:Bx W1 p6 26 r4c:=by rw [hW1];exact Bx.far (w:=W.drew) a4 (p:=⟨pb,0,none⟩) (by show _≠pb;omega) _
 have x5:Bx W1 (p6+1) 3 #[.int .i64 n']:=by rw [hW1];exact Bx.far (w:=W.drew) a5 (p:=⟨pb,0,none⟩) (by show _≠pb;omega) _
 have x9:Bx W1 pb 4 #[.bool b']:=by
  rw [hW1]
  have k:Bx (W.drew.setCell ⟨pb,0,none⟩ (.bool b')) pb 4 #[.bool b']:=by
   have:=Bx.set (w:=W.drew) (i:=0) a6 (.bool b')
   simpa using this
  exact k
 have xB:Below w.heap.size w W1:=by rw [hW1];exact (below_drewN (((a7.drew).setCell (p:=⟨pb,0,none⟩) hpbw _)) q)
 have hs1:W1.heap.size=W.heap.size:=by rw [hW1];show (W.setCell ⟨pb,0,none⟩ (.bool b')).heap.size=_;simp [World.setCell]
 have fr1:Fr wr.heap.size W W1:=⟨by rw [hs1];exact Nat.le_refl _,fun g t' cs hg _ hx=>by rw [hW1];exact Bx.far (w:=W.drew) hx (p:=⟨pb,0,none⟩) (by show _≠pb;omega) _⟩
 have kb1:KeepB b1 W W1:=fun v l hv=>by rw [hW1];exact own_set (w:=W.drew) hv a6 (by decide)
 have hlv:lowV n' ((ty m2.types (ob m2 n)).getD i 0) ((ob m2 n).fs.getD i 0)=if n'+1<((ob m2 n).fs.getD i 0).toNat then (ob m2 n).fs.getD i 0-1 else (ob m2 n).fs.getD i 0:=by
  rw [lowV]
  by_cases h:n'+1<((ob m2 n).fs.getD i 0).toNat
  ·rw [if_pos ⟨hk3,h⟩,if_pos h]
  ·rw [if_neg (fun hh=>h hh.2),if_neg h]
 by_cases hlt:n'+1<((ob m2 n).fs.getD i 0).toNat
 ·rw [if_pos hlt] at hw' hlv;have e1:(((ob m2 n).fs.getD i 0)-1).toNat=((ob m2 n).fs.getD i 0).toNat-1:=by
   have hone:(1:UInt64)≤(ob m2 n).fs.getD i 0:=by rw [UInt64.le_iff_toNat_le];show 1≤_;omega
   rw [UInt64.toNat_sub_of_le _ _ hone];rfl
  have hst:=OwnM.storeF oM1 oF1 ho' hfi ((ob m2 n).fs.getD i 0-1)
  have hmp:putF m' n i ((ob m2 n).fs.getD i 0-1)=mapP (lowV n') m2 n (i+1):=by rw [a1,←hlv];exact mapP_step hn hi
  rw [e1,←hw',hmp] at hst;obtain ⟨k1,k2,k3⟩:=hst;have far:∀{g t' cs},gf≠g→Bx W1 g t' cs→Bx w' g t' cs:=fun hne hx=>hx.grown k3 (.inr (fun e=>hne (by injection e)))
  refine ⟨_,mapP_like,k1,k2,⟨rfl,b',hRT,far ne3 x3,far ne4 x4,far ne5 x5,far ne1 x9,xB.grown k3 (by have:=a7.size;have:=hs1;omega) (fun k hk=>by injection hk with hk;omega)⟩,⟨by rw [←hs1];exact k3.size,fun g t' cs hg hne hx=>?_⟩,fun v l hv=>?_⟩
  ·have:=fr1.2 g t' cs hg hne hx;exact far (ofW.ne_bx hnl hx (Ne.symm hne)) this
  ·obtain ⟨vs,nf,cf,h1,h2,h4,h5,h6⟩:=oF1;exact World.ownsRow.kept (kb1 v l hv) k3 (own_unlike (kb1 v l hv) (h4 n _ _ h6 (List.getElem?_eq_getElem hnl)) (by decide))
 ·rw [if_neg hlt] at hw' hlv;have hmp:m'=mapP (lowV n') m2 n (i+1):=by rw [a1];exact (mapP_skip hlv).symm
  subst hw';exact ⟨m',by rw [hmp];exact mapP_like,oM1,oF1,⟨hmp,b',hRT,x3,x4,x5,x9,xB⟩,fr1,kb1⟩
theorem Free20_no (tv ov sv:Value) (m:Mo) (sl g:Int) (r:Int) (hr:r=asked m sl g) (ha:¬asked m sl g=0) (w:World) (h:Mod w tv ov sv m):
  Calls Try.prog 22 #[.agg #[tv,ov,sv],.agg #[.int .i64 sl,.int .i64 g]] w fun e w'=>∃t' o' s',e=.returned (.tuple #[.agg #[t',o',s'],.int .i64 r])∧OwnM w' w.heap.size 48 t' o' s' .nil∧Below w.heap.size w w':=by
 have B:=Below.refl w.heap.size w;have H:=hD h;have OT:=hD (open20_no tv ov sv m sl g r hr (by rw [hr];exact ha))
 have hne:(r != 0)=true:=by rw [bne_iff_ne,hr];exact ha
 clear hr ha h;go_in;go_upto_region 1 with (fail)
 refine wpb111 (26) (#[tv,ov,sv]) (50) (#[.int .i64 sl,.int .i64 g]) (26) (#[.slice none 0 0,.slice none 0 0,.slice none 0 0]) ?_;rintro wa1 ⟨g1,g2,g3,b⟩
 replace B:=B.trans (b.mono B.size);clear b;replace c_g1:=g1.five;replace c_g2:=g2.five;replace c_g3:=g3.five;go_wp2_with fail;refine (OT.out _ (H.out.below B)).mono ?_;rintro e wa2 ⟨rfl,b⟩
 replace g1:=g1.below b;replace c_g1:=g1.five;replace g2:=g2.below b;replace c_g2:=g2.five;replace g3:=g3.below b;replace c_g3:=g3.five;replace B:=B.trans (b.mono B.size);clear b;go_upto_region 2 with (fail)
 refine wpb10 (26) (#[.slice none 0 0,.slice none 0 0,.slice none 0 0]) ?_;rintro wa3 ⟨g4,b⟩
 replace g1:=g1.below b;replace c_g1:=g1.five;replace g2:=g2.below b;replace c_g2:=g2.five;replace g3:=g3.below b;replace c_g3:=g3.five;replace B:=B.trans (b.mono B.size);clear b;replace c_g4:=g4.five;go_wp2;refine bodyPost_ret (v:=.tuple #[.agg #[.slice none 0 0,.slice none 0 0,.slice none 0 0],.int .i64 r]) (by simp [results,Try.results22,go_sem,c_g3]) rfl ?_;refine ⟨_,_,_,rfl,OwnM.nil _ _,?_⟩
 exact bdn
theorem Free20_own (tv ov sv:Value) (m:Mo) (sl g:Int) (M:Mo) (r:Int) (hM:M=freeM m sl g) (hr:r=freeE m sl g) (w:World) (h:Mod w tv ov sv m):
  Calls Try.prog 22 #[.agg #[tv,ov,sv],.agg #[.int .i64 sl,.int .i64 g]] w fun e w'=>∃t' o' s',e=.returned (.tuple #[.agg #[t',o',s'],.int .i64 r])∧OwnM w' w.heap.size 48 t' o' s' M∧Below w.heap.size w w':=by
 by_cases ha:asked m sl g=0
 ·have B:=Below.refl w.heap.size w;have H:=hD h;obtain ⟨c0,hr0,k,s,n',o,t,hk,hk16,hs,hu,hg,hso,hat,hown,hob1,_⟩:=asked_ok ha;have OT:=hD (open20_ok tv ov sv m sl g n' ha hown)
  obtain ⟨_,hobjs,h16,_⟩:=chk_ok c0;have hn':n'<m.objs.length:=(List.getElem?_eq_some_iff.1 hob1).1;have hBU:=fun n=>busy_iff (m:=m) (k:=k) (g:=g) (by rw [h16];exact hk16) n;subst hk;have hM1:M=if Busy m (k:Int) n' then .nil else ⟨m.types,(m.objs.map (lowO m n')).eraseIdx n',(m.slots.set k ⟨g,false,0⟩).map (lowS n')⟩:=by
   rw [hM,freeM,freeE,if_pos ha,hown]
   by_cases hb:Busy m (k:Int) n'
   ·rw [if_pos hb,if_pos hb];rfl
   ·rw [if_neg hb,if_neg hb];rfl
  have hr1:r=if Busy m (k:Int) n' then 45 else 0:=by rw [hr,freeE,if_pos ha,hown]
  have HM:=hD hM1;have HRR:=hD hr1;have HBU:=hD (hBU n')
  have HS:=hD hs;have H16:=hD h16;have HOB:=hD hobjs;have HN:=hD hn';have HRO:=hD (rough_chk c0)
  obtain ⟨S1,hS1⟩:=exq (m.slots.set k ⟨g,false,0⟩)
  have HS1:=hD hS1;have H1L:=hD (show S1.length=16 by rw [hS1,List.length_set];exact h16)
  have H1B:=hD (show ∀s∈S1,s.used=true→0≤s.at_∧s.at_≤1000 from by
   intro s2 hs2 hu2;rw [hS1] at hs2;rcases List.mem_or_eq_of_mem_set hs2 with h | h
   ·have:=((chk_ok c0).2.2.2.2.2 s2 h).2.2 hu2;omega
   ·rw [h] at hu2;cases hu2)
  clear hr hM ha c0 hr0 hu hso hat hown h hs h16 hM1 hr1 hBU hS1 hobjs hob1;have hn1:n'≤1000:=by have:=HN.out;have:=HOB.out;omega
  clear hn';go_in;go_upto_region 1 with (fail)
  refine wpb111 (26) (#[tv,ov,sv]) (50) (#[.int .i64 k,.int .i64 g]) (26) (#[.slice none 0 0,.slice none 0 0,.slice none 0 0]) ?_;rintro wa1 ⟨g1,g2,g3,b⟩
  replace B:=B.trans (b.mono B.size);clear b;replace c_g1:=g1.five;replace c_g2:=g2.five;replace c_g3:=g3.five;have hz1:=B.size;have hp1:=g3.lt;go_wp2_with fail;refine (OT.out _ (H.out.below B)).mono ?_;rintro e wa2 ⟨t',o',s',rfl,om,b⟩
  replace g1:=g1.below b;replace c_g1:=g1.five;replace g2:=g2.below b;replace c_g2:=g2.five;replace g3:=g3.below b;replace c_g3:=g3.five;replace B:=B.trans (b.mono B.size);clear b;obtain ⟨⟨tA,tn,tc,rfl⟩,⟨oA,on,oc,rfl⟩,_⟩:=om.forms;obtain ⟨gS,sc,rfl⟩:∃g c,s'=.slice (some ⟨g,0,none⟩) 16 c:=by obtain ⟨g,n,c,e,e2⟩:=om.s.form (by have:=H16.out;omega);rw [e2,H16.out] at e;exact ⟨g,c,e⟩
  have hgS:=om.s.lt gS rfl;have hz_:=(om.s.lt gS rfl).1;go_upto_region 2 with (fail)
  refine wpb11 (26) (#[.slice tA tn tc,.slice oA on oc,.slice (some ⟨gS,0,none⟩) 16 sc]) (3) (#[.int .i64 n']) ?_;rintro wa3 ⟨g4,g5,b⟩
  replace g1:=g1.below b;replace c_g1:=g1.five;replace g2:=g2.below b;replace c_g2:=g2.five;replace g3:=g3.below b;replace c_g3:=g3.five;replace om:=om.below b;replace B:=B.trans (b.mono B.size);clear b;replace c_g4:=g4.five;replace c_g5:=g5.five;have HP:=hD (OwnS.put3 (k:=k) om.s (by have:=H16.out;omega) ⟨g,false,0⟩)
  obtain ⟨ix,p0,p1,p2⟩:=OwnS.cells om.s HS.out;have fz:=HP.out.2.2.2.2;have hM3:=OwnM.slots om HP.out.2.1 HP.out.1;have nx:=fun {q:Nat} {tq:TypeId} {cs:Array Value} (hb:Bx wa3 q tq cs) (hne:gS≠q)=>hb.grown HP.out.2.1 (.inr (fun e=>hne (by injection e)))
  have r3:=nx g3 (by omega);have r4:=nx g4 (by omega);have r5:=nx g5 (by omega)
  have hb3:=B.grown HP.out.2.1 B.size (fun k hk=>by injection hk with hk;rw [←hk];have:=HP.out.2.2.1;omega)
  rw [←HS1.out] at hM3;have HH:=hD (And.intro hM3 (And.intro r3 (And.intro r4 (And.intro r5 hb3))))
  clear nx r3 r4 r5 hb3 hM3;go_upto_region 5 with (fail)
  generalize hp6:wa2.heap.size=p6 at*
  refine wp_gen (fun Wv=>OwnM Wv wa1.heap.size 48 (.slice tA tn tc) (.slice oA on oc) (.slice (some ⟨gS,0,none⟩) 16 sc) ⟨m.types,m.objs,S1⟩∧Bx Wv (w.heap.size+1+1) 26 #[.slice none 0 0,.slice none 0 0,.slice none 0 0]∧Bx Wv p6 26 #[.slice tA tn tc,.slice oA on oc,.slice (some ⟨gS,0,none⟩) 16 sc]∧Bx Wv (p6+1) 3 #[.int .i64 n']∧Below w.heap.size w Wv) HH.out ?_;rintro wz ⟨om2,r3,r4,r5,B2⟩
  obtain ⟨b1,hb1⟩:=exq wa1.heap.size;rw [←hb1] at om2;have hb13:w.heap.size+1+1<b1:=by omega
  have hb16:b1≤p6:=by omega
  have hg6:gS<p6:=by omega
  clear HH om g1 g2 g3 g4 g5 B p0 p1 p2 fz ix HP c_g1 c_g2 c_g3 c_g4 c_g5 hb1 hp6 hz1 hp1 hgS hz_;have hp7:=r5.lt;have bz:=(Below.refl wz.heap.size wz).alloc (Nat.le_refl _) (.cells #[.bool false] 4)
  have HZ:=hD (And.intro (OwnM.below om2 bz) (And.intro (r3.below bz) (And.intro (r4.below bz) (And.intro (r5.below bz) (And.intro (Bx.new wz 4 #[.bool false]) (And.intro (B2.trans (bz.mono B2.size)) (show wz.heap.size<(wz.alloc (.cells #[.bool false] 4)).heap.size by simp)))))))
  clear om2 r3 r4 r5 B2 bz;go_upto_region 6 with (fail)
  generalize hpb:wz.heap.size=pb at*
  refine wp_gen (fun Wv=>OwnM Wv b1 48 (.slice tA tn tc) (.slice oA on oc) (.slice (some ⟨gS,0,none⟩) 16 sc) ⟨m.types,m.objs,S1⟩∧Bx Wv (w.heap.size+1+1) 26 #[.slice none 0 0,.slice none 0 0,.slice none 0 0]∧Bx Wv p6 26 #[.slice tA tn tc,.slice oA on oc,.slice (some ⟨gS,0,none⟩) 16 sc]∧Bx Wv (p6+1) 3 #[.int .i64 n']∧Bx Wv pb 4 #[.bool false]∧Below w.heap.size w Wv∧pb<Wv.heap.size) ?_ ?_
  ·exact HZ.out
  clear hpb;rintro wy hy;have HY:=hD hy;have c4:=hy.2.2.1.cell;clear HZ hy;go_wp2;clear c4
  go_loopg [34] 16 (fun g i wr=>∃j:Nat,j≤16∧g=16-j∧i=.int .i64 j∧Hid (∃bb:Bool,(bb=true↔sloTo S1 n' j)∧OwnM wr b1 48 (.slice tA tn tc) (.slice oA on oc) (.slice (some ⟨gS,0,none⟩) 16 sc) ⟨m.types,m.objs,mapT (lowS n') S1 j⟩∧Bx wr (w.heap.size+1+1) 26 #[.slice none 0 0,.slice none 0 0,.slice none 0 0]∧Bx wr p6 26 #[.slice tA tn tc,.slice oA on oc,.slice (some ⟨gS,0,none⟩) 16 sc]∧Bx wr (p6+1) 3 #[.int .i64 n']∧Bx wr pb 4 #[.bool bb]∧Below w.heap.size w wr∧pb<wr.heap.size))
  case atStart=>exact ⟨0,by omega,by omega,rfl,hD ⟨false,⟨fun h=>by (cases h),fun h=>absurd h sloTo_zero⟩,by rw [mapT_zero];exact HY.out⟩⟩
  case round=>
   clear HY;obtain ⟨j,hj,rfl,rfl,hh⟩:=hrel;obtain ⟨bb,hbb,om,r3,r4,r5,r9,B,hpz⟩:=hh.out;by_cases hlt:j<16
   ·obtain ⟨s1,hs1⟩:∃s,S1[j]?=some s:=⟨_,List.getElem?_eq_getElem (by rw [H1L.out];exact hlt)⟩
    have hbs:=H1B.out s1 (List.mem_of_getElem? hs1)
    have hs2:=mapT_get (f:=lowS n') hs1;obtain ⟨ix,q0,q1,q2⟩:=OwnS.cells om.s hs2;have HSL:=hD hs1;obtain ⟨b0,hb0⟩:=exq bb;have HB1:=hD (fun (b':Bool) (e:b'=(b0 || (s1.used && (s1.at_==(n':Int)))))=>show b'=true↔sloTo S1 n' (j+1) from by
     rw [sloTo_step hs1,e,hb0,←hbb];simp [Bool.or_eq_true,Bool.and_eq_true])
    have HX:=hD (And.intro om (And.intro r3 (And.intro r4 (And.intro r5 (And.intro r9 (And.intro B hpz))))))
    obtain ⟨wn,hwn⟩:=exq wr;subst hwn;clear hh om r3 r4 r5 r9 B hbb hs1;go_upto_region 9 with (fail)
    refine wp_gen (fun Wv=>Bx Wv wn.heap.size 48 #[.int .i64 s1.gen,.bool s1.used,.int .i64 s1.at_]∧Below wn.heap.size wn Wv) ?_ ?_
    ·exact ⟨Bx.new wn _ _,(Below.refl _ wn).alloc (Nat.le_refl _) _⟩
    rintro wx ⟨g11,b⟩
    generalize hp11:wn.heap.size=p11 at*
    have hp11b:pb<p11:=by have:=HX.out.2.2.2.2.2.2;omega
    have SX:∀x:Bool,OwnM (wx.setCell ⟨pb,0,none⟩ (.bool x)) b1 48 (.slice tA tn tc) (.slice oA on oc) (.slice (some ⟨gS,0,none⟩) 16 sc) ⟨m.types,m.objs,mapT (lowS n') S1 j⟩∧Bx (wx.setCell ⟨pb,0,none⟩ (.bool x)) (w.heap.size+1+1) 26 #[.slice none 0 0,.slice none 0 0,.slice none 0 0]∧Bx (wx.setCell ⟨pb,0,none⟩ (.bool x)) p6 26 #[.slice tA tn tc,.slice oA on oc,.slice (some ⟨gS,0,none⟩) 16 sc]∧Bx (wx.setCell ⟨pb,0,none⟩ (.bool x)) (p6+1) 3 #[.int .i64 n']∧Bx (wx.setCell ⟨pb,0,none⟩ (.bool x)) pb 4 #[.bool x]∧Bx (wx.setCell ⟨pb,0,none⟩ (.bool x)) p11 48 #[.int .i64 s1.gen,.bool s1.used,.int .i64 s1.at_]∧Below w.heap.size w (wx.setCell ⟨pb,0,none⟩ (.bool x))∧pb<(wx.setCell ⟨pb,0,none⟩ (.bool x)).heap.size:=fun x=>by
     subst hp11;obtain ⟨om,r3,r4,r5,r9,B,hpz⟩:=HX.out;have om2:=om.below b;have r92:=r9.below b;refine ⟨⟨om2.t.set r92 (by decide) (by decide),om2.o.set r92 (by decide) (by decide),own_set om2.s r92 (by decide)⟩,(r3.below b).far (p:=⟨pb,0,none⟩) (by show _≠pb;omega) _,(r4.below b).far (p:=⟨pb,0,none⟩) (by show _≠pb;omega) _,(r5.below b).far (p:=⟨pb,0,none⟩) (by show _≠pb;omega) _,?_,g11.far (p:=⟨pb,0,none⟩) (by show _≠pb;omega) _,(B.trans (b.mono B.size)).setCell (p:=⟨pb,0,none⟩) (by show _≤pb;omega) _,?_⟩
     ·have:=r92.set (i:=0) (.bool x);simpa using this
     ·have:=b.size;simp [World.setCell];omega
    have c9:=(HX.out.2.2.2.2.1.below (hp11 ▸ b)).cell;have f9:=(HX.out.2.2.2.2.1.below (hp11 ▸ b)).free;have c5:=(HX.out.2.2.2.1.below (hp11 ▸ b)).cell;have c11:=g11.cell;have SX:=hD SX;clear g11 b hp11 HX ix q0 q1 q2;have hlc:=low_cases n' s1;rcases hlc with hlc | ⟨hu,e1,e2⟩
    ·have HE:=hD (mapT_same HSL.out (low_same (by rcases hlc with h | h | h;exact .inl h;exact .inr h.2.2;exact .inr h.2.2)))
     rcases bb with _ | _
     all_goals
      rcases hlc with hu | ⟨hu,e1,e2⟩ | ⟨hu,e1,e2⟩
      all_goals
       rw [hu] at c11;go_upto_region 10 with (fail)
       refine wp_gen (fun Wv=>∃x:Bool,x=(b0 || (s1.used && (s1.at_==(n':Int))))∧OwnM Wv b1 48 (.slice tA tn tc) (.slice oA on oc) (.slice (some ⟨gS,0,none⟩) 16 sc) ⟨m.types,m.objs,mapT (lowS n') S1 j⟩∧Bx Wv (w.heap.size+1+1) 26 #[.slice none 0 0,.slice none 0 0,.slice none 0 0]∧Bx Wv p6 26 #[.slice tA tn tc,.slice oA on oc,.slice (some ⟨gS,0,none⟩) 16 sc]∧Bx Wv (p6+1) 3 #[.int .i64 n']∧Bx Wv pb 4 #[.bool x]∧Bx Wv p11 48 #[.int .i64 s1.gen,.bool s1.used,.int .i64 s1.at_]∧Below w.heap.size w Wv∧pb<Wv.heap.size) ⟨_,by first | (rw [hb0,hu,e1];rfl) | (rw [hb0,hu];rfl),SX.out _⟩ ?_;rintro wq ⟨x,hx,om,r3,r4,r5,r9,r11,B,hpz⟩
       have HF:=hD (And.intro (HB1.out x hx) (And.intro om (And.intro r3 (And.intro r4 (And.intro r5 (And.intro r9 (And.intro B hpz)))))))
       clear c9 f9 c5 c11 hx om r3 r4 r9 B;have c5:=r5.cell;have c11:=r11.cell;rw [hu] at c11;clear r5 r11;go_wp2;clear c5 c11
       go_roundg (16-(j+1))
       case measure=>omega
       case rel=>
        refine ⟨j+1,by omega,rfl,by go_num,hD ⟨x,?_⟩⟩
        rw [HE.out];exact HF.out
    ·have HE:=hD (mapT_set (f:=lowS n') HSL.out)
     have HLS:=hD (low_less hu e2)
     have hbd:=hbs hu;have hwr:IntKind.i64.wrap (s1.at_-1)=s1.at_-1:=IntWalk.i64_in _ (by omega)
     rcases bb with _ | _
     all_goals
      rw [hu] at c11;go_upto_region 10 with (fail)
      refine wp_gen (fun Wv=>∃x:Bool,x=(b0 || (s1.used && (s1.at_==(n':Int))))∧OwnM Wv b1 48 (.slice tA tn tc) (.slice oA on oc) (.slice (some ⟨gS,0,none⟩) 16 sc) ⟨m.types,m.objs,mapT (lowS n') S1 j⟩∧Bx Wv (w.heap.size+1+1) 26 #[.slice none 0 0,.slice none 0 0,.slice none 0 0]∧Bx Wv p6 26 #[.slice tA tn tc,.slice oA on oc,.slice (some ⟨gS,0,none⟩) 16 sc]∧Bx Wv (p6+1) 3 #[.int .i64 n']∧Bx Wv pb 4 #[.bool x]∧Bx Wv p11 48 #[.int .i64 s1.gen,.bool s1.used,.int .i64 s1.at_]∧Below w.heap.size w Wv∧pb<Wv.heap.size) ⟨_,by first | (rw [hb0,hu,e1];rfl) | (rw [hb0,hu];rfl),SX.out _⟩ ?_;rintro wq ⟨x,hx,om,r3,r4,r5,r9,r11,B,hpz⟩
      have HF:=hD (HB1.out x hx)
      clear c9 f9 c5 c11 hx;have c4:=r4.cell;have c5:=r5.cell;have c11:=r11.cell;rw [hu] at c11;obtain ⟨ix,q0,q1,q2⟩:=OwnS.cells om.s hs2;have HP:=hD (OwnS.put1 om.s hs2 (s1.at_-1))
      have fz:=HP.out.2.2.2.2;have hM3:=OwnM.slots om HP.out.2.1 HP.out.1;have nx:=fun {q:Nat} {tq:TypeId} {cs:Array Value} (hb:Bx wq q tq cs) (hne:gS≠q)=>hb.grown HP.out.2.1 (.inr (fun e=>hne (by injection e)))
      have y3:=nx r3 (own_ne_bx om.s r3 (by decide));have y4:=nx r4 (own_ne_bx om.s r4 (by decide));have y5:=nx r5 (own_ne_bx om.s r5 (by decide));have y9:=nx r9 (own_ne_bx om.s r9 (by decide))
      have hb3:=B.grown HP.out.2.1 B.size (fun k hk=>by injection hk with hk;rw [←hk];have:=HP.out.2.2.1;omega)
      have HH:=hD (And.intro hM3 (And.intro y3 (And.intro y4 (And.intro y5 (And.intro y9 (And.intro hb3 (Nat.lt_of_lt_of_le hpz HP.out.2.1.size)))))))
      clear nx y3 y4 y5 y9 hb3 hM3 om r3 r4 r5 r9 r11 B q0 q1;go_wp2;clear c4 c5 c11 ix q2 fz
      go_roundg (16-(j+1))
      case measure=>omega
      case rel=>
       refine ⟨j+1,by omega,rfl,by go_num,hD ⟨x,HF.out,?_⟩⟩
       rw [←HE.out,HLS.out];exact HH.out
   ·obtain rfl:j=16:=by omega
    rw [mapT_done (by rw [H1L.out];omega)] at om;obtain ⟨m2,hm2⟩:∃m2:Mo,m2=⟨m.types,m.objs,S1.map (lowS n')⟩:=⟨_,rfl⟩
    rw [←hm2] at om;have hb1r:b1≤wr.heap.size:=by have:=r4.lt;omega
    obtain ⟨J,hJ⟩:∃J:Nat→Nat→Mo→World→Prop,J=fun n i m' W=>m'=mapP (lowV n') m2 n i∧∃b:Bool,(b=true↔sloTo S1 n' 16∨refTo m n' n i)∧Bx W (w.heap.size+1+1) 26 #[.slice none 0 0,.slice none 0 0,.slice none 0 0]∧Bx W p6 26 #[.slice tA tn tc,.slice oA on oc,.slice (some ⟨gS,0,none⟩) 16 sc]∧Bx W (p6+1) 3 #[.int .i64 n']∧Bx W pb 4 #[.bool b]∧Below w.heap.size w W:=⟨_,rfl⟩
    have RF:=refs_any m2 (.slice tA tn tc) (.slice oA on oc) (.slice (some ⟨gS,0,none⟩) 16 sc) 41 #[] #[.pointer (some ⟨pb,0,none⟩),.pointer (some ⟨p6+1,0,none⟩)] b1 J wr hb1r (by rw [hm2];exact HRO.out _) (fun _ _=>rfl)
     (by
      intro n i m' W W' hj hb;subst hJ;obtain ⟨a1,b,a2,a3,a4,a5,a6,a7⟩:=hj;exact ⟨a1,b,a2,a3.below hb,a4.below hb,a5.below hb,a6.below hb,a7.trans (hb.mono a7.size)⟩)
     (by
      intro n m' W hn hj;subst hJ;subst hm2;obtain ⟨a1,b,a2,a3⟩:=hj;exact ⟨a1.trans mapP_next,b,a2.trans (or_congr Iff.rfl (refTo_next (m:=m) hn)),a3⟩)
     (by
      intro n i m' W hn hi hk3 hj;subst hJ;subst hm2;obtain ⟨a1,b,a2,a3⟩:=hj;refine ⟨a1.trans (mapP_skip (if_neg (fun h=>hk3 h.1))).symm,b,a2.trans (or_congr Iff.rfl ?_),a3⟩
      rw [refTo_step (m:=m) hn hi]
      exact ⟨.inl,fun h=>h.elim id (fun h=>absurd h.2.1 hk3)⟩)
     (by
      intro n i m' gf W hn hi hk3 hl hW omW ofW hj;subst hJ;obtain ⟨a1,b,a2,a3,a4,a5,a6,a7⟩:=hj;exact free_step hm2 hn hi hk3 hn1 (z:=w.heap.size+1+1) (by omega) omW ofW a1 a2 a3 a4 a5 a6 a7 (by omega) (by omega) hpz (by omega))
     m2 (Like.refl _) om (by subst hJ;exact ⟨by rw [mapP_zero],bb,hbb.trans ⟨.inl,fun h=>h.elim id (fun h=>absurd h refTo_zero)⟩,r3,r4,r5,r9,B⟩)
    have RF:=hD RF;have HM2:=hD hm2;have HJ:=hD hJ;have c4:=r4.cell;clear hh om r3 r4 r5 r9 hbb hJ hm2 B hb1r;go_wp2_with fail;refine RF.out.mono ?_;rintro e wf ⟨rfl,m3,hl3,om,hj3⟩
    rw [HJ.out] at hj3;obtain ⟨a1,b,a2,r3,r4,r5,r9,B⟩:=hj3;have hm3:m3=⟨m.types,m.objs.map (lowO m n'),S1.map (lowS n')⟩:=by
     rw [a1,HM2.out]
     exact free_map
    have hN3:m2.objs.length=m.objs.length:=by rw [HM2.out]
    rw [hN3] at a2;have hbz:b=true↔Busy m (k:Int) n':=by rw [HBU.out,a2,HS1.out,H16.out]
    rw [hm3] at om;clear a1 a2 hl3 c4 RF hN3 hm3;have c9:=r9.cell;have c3:=r3.cell;have f3:=r3.free;rcases b with _ | _
    ·have hnb:¬Busy m (k:Int) n':=fun h=>by have:=hbz.2 h;cases this
     have hM1:M=⟨m.types,(m.objs.map (lowO m n')).eraseIdx n',S1.map (lowS n')⟩:=by rw [HM.out,if_neg hnb,HS1.out]
     have hr1:r=0:=by rw [HRR.out,if_neg hnb]
     obtain ⟨gO,oc',hO⟩:∃g c,Value.slice oA on oc=.slice (some ⟨g,0,none⟩) on c:=by
      obtain ⟨vs,z1,z2,_⟩:=om.o;obtain ⟨g,c,cur,e,_⟩:=own_form z2 (by simp;have:=HN.out;omega)
      refine ⟨g,c,?_⟩
      rw [e];injection e with _ e2;rw [e2]
     cases hO;obtain ⟨hon,xs,z2,z1,HER⟩:=om.o.erase (i:=n') (by simpa using HN.out) (by simp;have:=HOB.out;omega)
     have hon2:on=m.objs.length:=by simpa using hon
     have hni:n'<on:=by rw [hon2];exact HN.out
     have DE:=hD (Delete_any gO on oc n' (n'+1) b1 xs rfl hni (by have:=HOB.out;omega) wf z2 z1)
     have OM:=hD om;have HER:=hD HER;have c4:=r4.cell;have c5:=r5.cell;have hw1:IntKind.i64.wrap ((n':Int)+1)=(n':Int)+1:=IntWalk.i64_in _ (by omega)
     clear om z1 z2 hon hon2 hbz hnb;subst hM1;subst hr1;go_wp2_with fail;refine DE.out.mono ?_;rintro e wd ⟨rfl,od,gd⟩
     have oO2:=HER.out wd gd od;have neq:∀{q:Nat} {tq:TypeId} {cs:Array Value},Bx wf q tq cs→45≠tq→gO≠q:=fun hx hne=>by
      obtain ⟨vs,z1,z2,_⟩:=OM.out.o;exact own_ne_bx z2 hx hne
     have nx:=fun {q:Nat} {tq:TypeId} {cs:Array Value} (hb:Bx wf q tq cs) (hne:gO≠q)=>hb.grown gd (.inr (fun e=>hne (by injection e)))
     have y3:=nx r3 (neq r3 (by decide));have y4:=nx r4 (neq r4 (by decide))
     have hgO:b1≤gO:=by
      obtain ⟨vs,z1,z2,_⟩:=OM.out.o;exact (z2.lt gO rfl).1
     have B2:=B.grown gd B.size (fun k hk=>by injection hk with hk;omega)
     have om2:OwnM wd b1 48 (.slice tA tn tc) (.slice (some ⟨gO,0,none⟩) (on-1) oc) (.slice (some ⟨gS,0,none⟩) 16 sc) ⟨m.types,(m.objs.map (lowO m n')).eraseIdx n',S1.map (lowS n')⟩:=by
      obtain ⟨vs,z1,z2,_⟩:=OM.out.o;exact ⟨OwnT.kept OM.out.t z2 gd (by decide) (by decide),oO2,World.ownsRow.kept OM.out.s gd (own_unlike OM.out.s z2 (by decide))⟩
     obtain ⟨on1,hon1⟩:=exq (on-1)
     rw [←hon1] at om2 ⊢;have om3:=om2.set (i:=1) (u:=.slice (some ⟨gO,0,none⟩) on1 oc) y4;have y43:=y4.set (i:=1) (.slice (some ⟨gO,0,none⟩) on1 oc)
     have y33:=y3.far (p:=⟨p6,1,none⟩) (by show _≠p6;omega) (.slice (some ⟨gO,0,none⟩) on1 oc)
     have B3:=B2.setCell (p:=⟨p6,1,none⟩) (by show _≤p6;omega) (.slice (some ⟨gO,0,none⟩) on1 oc)
     have HF:=hD (And.intro om3 (And.intro y33 (And.intro (show Bx (wd.setCell ⟨p6,1,none⟩ (.slice (some ⟨gO,0,none⟩) on1 oc)) p6 26 #[.slice tA tn tc,.slice (some ⟨gO,0,none⟩) on1 oc,.slice (some ⟨gS,0,none⟩) 16 sc] by simpa using y43) B3)))
     have cy4:=y4.cell;have fy4:=y4.free;clear om3 y33 y43 B3 om2 y3 y4 nx neq B2 oO2 gd od r3 r4 r5 r9 B c9 c3 f3 c4 c5 hon1 OM HER DE;go_upto_region 17 with (fail)
     refine wp_gen (fun Wv=>OwnM Wv b1 48 (.slice tA tn tc) (.slice (some ⟨gO,0,none⟩) on1 oc) (.slice (some ⟨gS,0,none⟩) 16 sc) ⟨m.types,(m.objs.map (lowO m n')).eraseIdx n',S1.map (lowS n')⟩∧Bx Wv (w.heap.size+1+1) 26 #[.slice none 0 0,.slice none 0 0,.slice none 0 0]∧Bx Wv p6 26 #[.slice tA tn tc,.slice (some ⟨gO,0,none⟩) on1 oc,.slice (some ⟨gS,0,none⟩) 16 sc]∧Below w.heap.size w Wv) HF.out ?_;clear HF cy4 fy4;rintro wl ⟨om3,r3,r4,B3⟩
     have c3:=r3.cell;have f3:=r3.free;have c4:=r4.cell;go_wp2;refine bodyPost_ret (v:=.tuple #[.agg #[.slice tA tn tc,.slice (some ⟨gO,0,none⟩) on1 oc,.slice (some ⟨gS,0,none⟩) 16 sc],.int .i64 0]) (by simp [results,Try.results22,go_sem,c3,f3]) rfl ?_;refine ⟨_,_,_,rfl,OwnM.set3 (om3.mono (by omega)) r3,?_⟩
     exact ((B3.setCell (p:=⟨w.heap.size+1+1,0,none⟩) (by simp;omega) _).setCell (p:=⟨w.heap.size+1+1,1,none⟩) (by simp;omega) _).setCell (p:=⟨w.heap.size+1+1,2,none⟩) (by simp;omega) _
    ·have hM1:M=.nil:=by rw [HM.out,if_pos (hbz.1 rfl)]
     have hr1:r=45:=by rw [HRR.out,if_pos (hbz.1 rfl)]
     subst hM1;subst hr1;clear om r4 r5 hbz;go_wp2;refine bodyPost_ret (v:=.tuple #[.agg #[.slice none 0 0,.slice none 0 0,.slice none 0 0],.int .i64 45]) (by simp [results,Try.results22,go_sem,c3,f3]) rfl ?_;refine ⟨_,_,_,rfl,OwnM.nil _ _,?_⟩
     exact ((B.setCell (p:=⟨w.heap.size+1+1,0,none⟩) (by simp;omega) _).setCell (p:=⟨w.heap.size+1+1,1,none⟩) (by simp;omega) _).setCell (p:=⟨w.heap.size+1+1,2,none⟩) (by simp;omega) _
 ·have hr1:r=asked m sl g:=by rw [hr,freeE,if_neg ha]
  have hM1:M=.nil:=by
   rw [hM,freeM,if_neg];rw [freeE,if_neg ha];exact ha
  rw [hM1]
  exact Free20_no tv ov sv m sl g r hr1 ha w h
theorem Free20_any (tv ov sv:Value) (m:Mo) (sl g:Int) (M:Mo) (r:Int) (hM:M=freeM m sl g) (hr:r=freeE m sl g) (w:World) (h:Mod w tv ov sv m):
  Calls Try.prog 22 #[.agg #[tv,ov,sv],.agg #[.int .i64 sl,.int .i64 g]] w fun e w'=>∃t' o' s',e=.returned (.tuple #[.agg #[t',o',s'],.int .i64 r])∧Mod w' t' o' s' M∧Below w.heap.size w w':=
 (Free20_own tv ov sv m sl g M r hM hr w h).mono fun e w' ⟨t',o',s',h1,h2,h3⟩=>⟨t',o',s',h1,h2.rd,h3⟩
end
section
open Go.RowKit L02 L13 L18 L20
end
section
open Go Go.RowKit
section
variable {P:Program} {ops:Array Oper} {rest:List Oper} {o:Oper} {a:Act} {Q:Exit→Act→World→Prop} {w:World}
theorem run_append_own2 (base:Nat) (t ty e:TypeId) (i:TypeInfo) (z:Value) (size bytes:Nat) (ht:P.underlying t=some (.slice e)) (hi:P.info? e=some i) (hz:i.zero=some z)
  (hsize:i.size=size) (hby:i.bytes=bytes) (hzs:z.cells.size=size) (hsz:0<size) (v:Value) (n:Nat) (xs:List Value) (hown:w.ownsRow base e size v n xs)
  (ad:Addr) (m c:Nat) (news:List Value) (hl:news.length=m*size) (hnews:∀j u,news[j]?=some u→w.cell? (ad.add j)=some u) (h1:∀u∈news,u.oneCell'=true)
  (h63:n+m≤maxLen) (hbytes:(n+m)*bytes≤140737488355328) (hbase:base≤w.heap.size):
  ∃v' w',(Builtin.append_ #[t,t] ty #[v,.slice (some ad) m c]).run P w=.ok v' w'∧w'.ownsRow base e size v' (n+m) (xs++news)∧w.grownBy w' v.ownBlock∧∀g,v'.ownBlock=some g→v.ownBlock=some g∨w.heap.size≤g:=by
 obtain ⟨v',w',hrun,r1,r2,_⟩:=run_append_own (P:=P) w base t ty e i z size bytes ht hi hz hsize hby hzs hsz v n xs hown ad m c news hl hnews h1 h63 hbytes hbase;refine ⟨v',w',hrun,r1,r2,fun g hg=>?_⟩
 rcases hown.2 with ⟨rfl,rfl⟩ | ⟨g0,cap,cur,rfl,hB,hg0,hc,hm,hcs,htk⟩
 ·have hxs:xs=[]:=List.eq_nil_of_length_eq_zero (by have:=hown.1;simpa using this)
  obtain ⟨v2,w2,hrun2,r3,_⟩:=run_append_own (P:=P) w w.heap.size t ty e i z size bytes ht hi hz hsize hby hzs hsz (.slice none 0 0) 0 [] (World.ownsRow_nil w _ _ _) ad m c news hl hnews h1 h63 hbytes (Nat.le_refl _)
  rw [hrun] at hrun2;injection hrun2 with e1 e2
  subst e1;subst e2;exact .inr (r3.lt g hg).1
 ·subst hsize;have hcell:∀j u,xs[j]?=some u→w.cell? ((⟨g0,0,none⟩:Addr).add j)=some u:=fun j u hu=>hown.cells (g:=g0) rfl j u hu;by_cases hroom:n+m≤cap
  ·have hr:=run_append_room_cells (P:=P) w t ty e i ht hi g0 0 n cap ad m c news hl hnews h1 hroom (fun j hj=>by
    have hlt:0+n*i.size+j<cur.size:=by
     have:(n+m)*i.size≤cap*i.size:=Nat.mul_le_mul hroom (Nat.le_refl _)
     rw [Nat.add_mul] at this;rw [hcs];rw [hl] at hj;omega
    have:=cell_of_row w g0 (0+n*i.size+j) cur e (0,0) hg0;rw [this,Array.getElem?_eq_getElem hlt];rfl) (fun j hj=>frozen_of_row w g0 _ cur e hg0)
   rw [hrun] at hr;injection hr with e1 e2
   subst e1;exact .inl hg
  ·obtain ⟨v2,w2,hrun2,r3,_⟩:=run_append_arg_grows (P:=P) w t ty e i z i.size bytes ht hi hz rfl hby hzs hsz ⟨g0,0,none⟩ n cap xs hown.1 hcell ad m c news hl hnews (by omega) h63 hbytes;rw [hrun] at hrun2;injection hrun2 with e1 e2
   subst e1;subst e2;exact .inr (r3.lt g hg).1
theorem wpList_append2 (hgd:Region.wanted o (yielded ops a.tmps)=true) {s x:Operand} {t e B sz by_:Nat} (ho:o.op=.call { callee:=.builtin .append,args:=#[s,x],argTypes:=#[t,t] })
  {v z:Value} {n m c:Nat} {xs ys:List Value} (hs:a.eval s=v) {ad:Addr} (hx:a.eval x=.slice (some ad) m c) (ht:P.underlying t=some (.slice e))
  (hi:(P.info? e).map (fun i=>(i.zero,i.size,i.bytes))=some (some z,sz,by_)) (hzs:z.cells.size=sz) (hsz:0<sz)
  (hown:w.ownsRow B e sz v n xs) (hrd:Rd w sz (.slice (some ad) m c) m ys) (h1:∀u∈ys,u.oneCell'=true) (hm:0<m) (h63:n+m≤9223372036854775807) (hbytes:(n+m)*by_≤140737488355328)
  {w0:World} (hb:Below B w0 w) (hB:B≤w0.heap.size)
  (h:∀v' w',w'.ownsRow B e sz v' (n+m) (xs++ys)→Below B w0 w'→w.grownBy w' v.ownBlock→(∀g,v'.ownBlock=some g→v.ownBlock=some g∨w.heap.size≤g)→wpList P ops Q rest (a.put o.dst v') w'):wpList P ops Q (o :: rest) a w:=by
 obtain ⟨i,hi1,hi2,hi3,hi4⟩:=info3 hi;have hcell:∀j u,ys[j]?=some u→w.cell? (ad.add j)=some u:=by
  obtain ⟨A,c',e1,s1,s2,s3,s4,s5⟩:=hrd;injection e1 with e1 _ _
  intro j u hu;obtain ⟨p1,p2,p3⟩:=s5 hm ad e1.symm;obtain ⟨b,q,sp⟩:=ad;simp at p1;subst p1;rw [show ((⟨b,q,none⟩:Addr).add j)=⟨b,q+j,none⟩ by unfold Addr.add;split <;> simp_all]
  exact p3 j u hu
 have hyl:ys.length=m*sz:=by obtain ⟨A,c',e1,s1,s2,s3,_⟩:=hrd;exact s3
 obtain ⟨v',w',hrun,r1,r2,r3⟩:=run_append_own2 (P:=P) (w:=w) B t o.type e i z sz by_ ht hi1 hi2 hi3 hi4 hzs hsz v n xs hown ad m c ys hyl hcell h1 (by unfold maxLen;omega) hbytes (Nat.le_trans hB hb.size)
 refine wpList_wanted hgd fun K hK=>?_;unfold Oper.wp;simp [execOp,ho,resolve,invoke,builtin,hs,hx,hrun,Result.andThen]
 exact hK _ _ (h v' w' r1 (hb.grown r2 (Nat.le_trans hB hb.size) fun k hk=>(hown.lt k hk).1) r2 r3)
end
end
section
open Go.RowKit
theorem info_boolF:(Try.prog.info? 4).map (fun i=>(i.zero,i.size,i.bytes))=some (some (.bool false),1,1):=by kernel_rfl
theorem one_bool:(Try.prog.info? 4).map (·.size)=some 1:=by kernel_rfl
end
section
open Go.RowKit L02 L13 L18 L20
structure Fnd (w wr:World) (tv ov sv:Value) (N:Nat) (sn on st:Value) (od ord S:List Nat):Prop where
 g1:Bx wr w.heap.size 26 #[tv,ov,sv]
 hs:wr.ownsRow w.heap.size 4 1 sn N ((seenV N od).map .bool)
 ho:OwnI wr w.heap.size 3 on (natI ord)
 ht:OwnI wr w.heap.size 3 st (natI S)
 ne:∀g,st.ownBlock=some g→on.ownBlock≠some g
 B:Below w.heap.size w wr
section
variable {w wr w':World} {tv ov sv sn on st v':Value} {N x:Nat} {od ord S:List Nat}
theorem Fnd.below (e:Fnd w wr tv ov sv N sn on st od ord S) (b:Below wr.heap.size wr w'):Fnd w w' tv ov sv N sn on st od ord S:=
 ⟨e.g1.below b,own_below e.hs b,OwnI.below e.ho b,OwnI.below e.ht b,e.ne,e.B.trans (b.mono e.B.size)⟩
theorem lit_b (wr:World) (x:Nat):Below wr.heap.size wr (wr.alloc (.cells #[.int .i64 (x:Int)] 3)):=(Below.refl _ wr).alloc (Nat.le_refl _) _
theorem ne_swap {a b:Value} (h:∀g,b.ownBlock=some g→a.ownBlock≠some g):a.ownBlock=none∨a.ownBlock≠b.ownBlock:=by
 cases hb:b.ownBlock with
 | none=>cases a.ownBlock <;> simp
 | some g=>exact .inr (h g hb)
theorem ne_swap' {a b:Value} (h:∀g,b.ownBlock=some g→a.ownBlock≠some g):b.ownBlock=none∨b.ownBlock≠a.ownBlock:=by
 cases hb:b.ownBlock with
 | none=>exact .inl rfl
 | some g=>exact .inr (fun e=>h g hb e.symm)
theorem Fnd.pushS (e:Fnd w wr tv ov sv N sn on st od ord S) {n:Nat} (o:w'.ownsRow w.heap.size 3 1 v' n ((natI S).map i64++[.int .i64 (x:Int)])) (b:Below w.heap.size w w') (hg:(wr.alloc (.cells #[.int .i64 (x:Int)] 3)).grownBy w' st.ownBlock)
  (hk:∀g,v'.ownBlock=some g→st.ownBlock=some g∨(wr.alloc (.cells #[.int .i64 (x:Int)] 3)).heap.size≤g):Fnd w w' tv ov sv N sn on v' od ord (S++[x]):=by
 have e2:=e.below (lit_b wr x)
 refine ⟨e2.g1.grown hg (own_not_bx e2.ht e2.g1 (by decide)),World.ownsRow.kept e2.hs hg (own_unlike e2.hs e2.ht (by decide)),World.ownsRow.kept e2.ho hg (ne_swap e.ne),OwnI.of o (by rw [natI_snoc,List.map_append];rfl),fun g hv=>?_,b⟩
 rcases hk g hv with h | h
 ·exact e.ne g h
 ·intro ho
  have:=(World.ownsRow.lt e.ho g ho).2;simp at h;omega
theorem Fnd.pushO (e:Fnd w wr tv ov sv N sn on st od ord S) {n:Nat} (o:w'.ownsRow w.heap.size 3 1 v' n ((natI ord).map i64++[.int .i64 (x:Int)])) (b:Below w.heap.size w w') (hg:(wr.alloc (.cells #[.int .i64 (x:Int)] 3)).grownBy w' on.ownBlock)
  (hk:∀g,v'.ownBlock=some g→on.ownBlock=some g∨(wr.alloc (.cells #[.int .i64 (x:Int)] 3)).heap.size≤g):Fnd w w' tv ov sv N sn v' st od (ord++[x]) S:=by
 have e2:=e.below (lit_b wr x)
 refine ⟨e2.g1.grown hg (own_not_bx e2.ho e2.g1 (by decide)),World.ownsRow.kept e2.hs hg (own_unlike e2.hs e2.ho (by decide)),OwnI.of o (by rw [natI_snoc,List.map_append];rfl),World.ownsRow.kept e2.ht hg (ne_swap' e.ne),fun g hv ho=>?_,b⟩
 rcases hk g ho with h | h
 ·exact e.ne g hv h
 ·have:=(World.ownsRow.lt e.ht g hv).2;simp at h;omega
theorem Fnd.mark (e:Fnd w wr tv ov sv N sn on st od ord S) {n:Nat} (hn:n<N):∃gs,(∀W,(Instr.indexAt 73 sn (.int .i64 (n:Int))).run Try.prog W=.ok (.pointer (some ⟨gs,n,none⟩)) W)∧wr.cell? ⟨gs,n,none⟩=some (.bool (decide (n∈od)))∧wr.frozen? ⟨gs,n,none⟩=false∧
  Fnd w (wr.setCell ⟨gs,n,none⟩ (.bool true)) tv ov sv N sn on st (od++[n]) ord S:=by
 obtain ⟨gs,cap,cur,rfl,hB,hg,hnc,hcm,hcs,htake⟩:=own_form e.hs (by omega)
 have hix:=fun W=>Rd.ixN (Rd.of_own e.hs) Try.underlying73 one_bool hn W;have hc:=Rd.cell (Rd.of_own e.hs) (j:=n) (u:=.bool (decide (n∈od))) (by rw [List.getElem?_map,seenV_get _ hn];rfl)
 have hst:=World.ownsRow.stored e.hs n (.bool true)
 have e1:((seenV N od).map Value.bool).set n (.bool true)=(seenV N (od++[n])).map .bool:=by rw [←seenV_set od hn,List.map_set]
 rw [e1] at hst;have fg:=hst.2;refine ⟨gs,fun W=>by have:=hix W;simpa [cellAt] using this,by simpa [cellAt] using hc,e.hs.frozenAt n,e.g1.grown fg (own_not_bx e.hs e.g1 (by decide)),hst.1,World.ownsRow.kept e.ho fg (own_unlike e.ho e.hs (by decide)),World.ownsRow.kept e.ht fg (own_unlike e.ht e.hs (by decide)),e.ne,e.B.setCell (p:=⟨gs,n,none⟩) hB _⟩
end
theorem own_cutTo {P:Program} {w:World} {v:Value} {n B e t:Nat} {xs:List Value} (h:w.ownsRow B e 1 v n xs) {e':Nat} (ht:P.underlying t=some (.slice e')) (hs:(P.info? e').map (·.size)=some 1) {hi:Nat} (h1:hi≤n):
  ∃v',(∀W,(Instr.sliceAt t v none (some (.int .i64 (hi:Int))) none).run P W=.ok v' W)∧w.ownsRow B e 1 v' hi (xs.take hi)∧v'.ownBlock=v.ownBlock:=by
 obtain ⟨v',_,_,r,_,A,c,r3,r4⟩:=Rd.cutN (Rd.of_own h) ht hs (lo:=0) (hi:=hi) (by omega) h1;refine ⟨v',r rfl,?_⟩
 rcases h.2 with ⟨rfl,hn⟩ | ⟨g,cap,cur,rfl,hB,hg,hc,hm,hcs,htk⟩
 ·injection r3 with a1 a2 a3
  subst a1;subst a3;obtain rfl:hi=0:=by omega
  subst r4;exact ⟨World.ownsRow_nil _ _ _ _,rfl⟩
 ·injection r3 with a1 a2 a3
  subst a1;subst a3;have e1:v'=.slice (some ⟨g,0,none⟩) hi cap:=by
   rw [r4];simp only [Nat.sub_zero,Nat.zero_mul];split <;> simp [Addr.add]
  subst e1;have hxl:=h.1;refine ⟨⟨by rw [List.length_take,hxl];omega,.inr ⟨g,cap,cur,rfl,hB,hg,by omega,hm,hcs,?_⟩⟩,rfl⟩
  rw [←htk,List.take_take];congr 1;omega
end
section
open Go.RowKit L02 L13 L18 L20
theorem Fnd.popS {w wr:World} {tv ov sv sn on st st':Value} {N:Nat} {od ord S S':List Nat} (e:Fnd w wr tv ov sv N sn on st od ord S) {n:Nat} {xs:List Value} (o:wr.ownsRow w.heap.size 3 1 st' n xs) (hx:xs=(natI S').map i64) (hb:st'.ownBlock=st.ownBlock):Fnd w wr tv ov sv N sn on st' od ord S':=
 ⟨e.g1,e.hs,e.ho,OwnI.of o hx,by rw [hb];exact e.ne,e.B⟩
theorem snoc_cases (S:List Nat):S=[]∨∃S' n,S=S'++[n]:=by
 rcases List.eq_nil_or_concat S with h | ⟨l,a,h⟩
 ·exact .inl h
 ·exact .inr ⟨l,a,by rw [h,List.concat_eq_append]⟩
theorem Found_any (tv ov sv:Value) (m:Mo) (hc:chk m=0) (out:List Nat) (hr:Rs m [] (roots m) out) (w:World) (h:Mod w tv ov sv m):
  Calls Try.prog 11 #[.agg #[tv,ov,sv]] w fun e w'=>∃v,e=.returned v∧OwnI w' w.heap.size 3 v (natI out)∧Below w.heap.size w w':=by
 have B:=Below.refl w.heap.size w;have lo:=h.o.len;have ls:=h.s.len;obtain ⟨k1,k2,k3⟩:=chk_ok hc;obtain ⟨N,hN⟩:=exq m.objs.length;rw [←hN] at lo;rw [k3.1] at ls;obtain ⟨d0,hd0⟩:=hr.steps;have hRe:=Reach.of hc hr;have hks:kidSum m out≤19200:=by
  have:=kidSum_le (m:=m) (c:=20) out (fun n hn=>(small_chk hc).2.2.2.2 _ (by rw [ob,List.getD_eq_getElem?_getD,List.getElem?_eq_getElem (hRe.lt n hn)];exact List.getElem_mem _))
  have:=hRe.len;omega
 have hdb:d0≤19216:=by
  have h1:=hd0.count;have h2:=rootsFrom_len m 0;rw [rootsFrom_zero,k3.1] at h2
  have:kidSum m []=0:=rfl;omega
 have H:=hD h;have HN:=hD hN;have HK:=hD k3;have HC:=hD hc;have HD:=hD hd0;have HRE:=hD hRe;have hN1:N≤960:=by omega
 clear h hN k1 k2 k3 hc hr hd0 hRe hks;go_in;go_upto_region 1 with (fail)
 have hb:=(Below.refl w.heap.size w).alloc (Nat.le_refl _) (.cells #[tv,ov,sv] 26)
 refine wp_gen (fun Wv=>Bx Wv w.heap.size 26 #[tv,ov,sv]∧Below w.heap.size w Wv) ⟨Bx.at_ (by simp),hb⟩ ?_;clear hb;rintro wa ⟨g1,B1⟩
 have c_g1:=g1.cell;go_wp2_with (at_make;refine wpList_makeI (by rfl) rfl (by rfl) (by rfl) Try.underlying73 info_boolF rfl (by omega) (by omega) (by omega) B1 (Nat.le_refl _) ?_;intro vS wb oS bS bS2;have c_g2:=(g1.below bS2).cell)
 have hF0:Fnd w wb tv ov sv N vS (.slice none 0 0) (.slice none 0 0) [] [] []:=⟨g1.below bS2,by
  rw [seenV_nil,List.map_replicate]
  simpa using oS,OwnI.nil _ _ _,OwnI.nil _ _ _,fun g hg=>(by cases hg),bS⟩
 have HF0:=hD hF0;clear oS bS bS2 hF0 g1 c_g1 c_g2 B1 B
 go_loopg [5,6] 16 (fun gg st i wr=>∃j:Nat,j≤16∧gg=j∧i=.int .i64 (iOf j)∧Hid (Fnd w wr tv ov sv N vS (.slice none 0 0) st [] [] (rootsFrom m j).reverse))
 case atStart=>exact ⟨16,by omega,rfl,rfl,hD (by rw [←HK.out.1,rootsFrom_end];exact HF0.out)⟩
 case round=>
  clear HF0;obtain ⟨j,hj,hgj,rfl,hh⟩:=hrel;have c_g1:=hh.out.g1.cell;rcases j with _ | k
  all_goals subst hgj
  ·rw [show iOf 0=-1 from rfl]
   rw [rootsFrom_zero] at hh;have HD0:=hD (show Rn m d0 [] ((roots m).reverse).reverse out by rw [List.reverse_reverse];exact HD.out)
   have HRL:=hD (show ∀n∈(roots m).reverse,n<N from fun n hn=>by rw [HN.out];exact roots_lt HC.out n (List.mem_reverse.1 hn))
   clear c_g1;go_wp2
   go_loopg [4,5] d0 (fun gg on st wr=>∃od S,Hid (Rn m gg od S.reverse out)∧Hid (∀n∈S,n<N)∧gg≤d0∧Hid (Fnd w wr tv ov sv N vS on st od od S))
   case atStart=>exact ⟨_,_,HD0,HRL,Nat.le_refl _,hh⟩
   case round=>
    clear hh HD0 HRL;obtain ⟨od,S,hrn,hsl,hgd,hf⟩:=hrel;rcases snoc_cases S with rfl | ⟨S',n,rfl⟩
    ·have ln:∀ty W,(Builtin.len_ #[30] ty #[_]).run Try.prog W=.ok (.int .i64 0) W:=Rd.len (OwnI.rd hf.out.ht) Try.underlying30;have HE:=hD (show out=od from Rn.end hrn.out)
     go_wp2
     go_ret
     exact ⟨_,rfl,by rw [HE.out];exact hf.out.ho,hf.out.B⟩
    ·obtain ⟨L,hL⟩:=exq S'.length;have hn:n<N:=hsl.out n (by simp)
     have hlen:(natI (S'++[n])).length=L+1:=by rw [natI_len,hL];simp
     have hLb:L+1≤19216:=by
      have:=hrn.out.len;rw [List.length_reverse,List.length_append,←hL] at this;simp at this;omega
     have ln:=Rd.len (OwnI.rd hf.out.ht) Try.underlying30;rw [hlen] at ln;obtain ⟨xa,x,ixx,mx,hx⟩:=(OwnI.rd hf.out.ht).at_ (P:=Try.prog) Try.underlying30 one_int (k:=L) (by rw [hlen];omega)
     obtain rfl:x=(n:Int):=by
      have h1:=hx.out;rw [natI_snoc,List.getElem?_append_right (by rw [natI_len,hL];exact Nat.le_refl _),natI_len,hL,Nat.sub_self] at h1;simpa using h1.symm
     obtain ⟨st',rc,oc,hcb⟩:=own_cutTo (P:=Try.prog) hf.out.ht Try.underlying30 one_int (hi:=L) (by rw [hlen];omega)
     have HF:=hD (hf.out.popS (S':=S') oc (by rw [←List.map_take,natI_snoc,List.take_append_of_le_length (by rw [natI_len,hL];exact Nat.le_refl _),List.take_of_length_le (by rw [natI_len,hL];exact Nat.le_refl _)]) hcb)
     have hwL:IntKind.i64.wrap (L:Int)=(L:Int):=IntWalk.i64_in _ (by omega)
     obtain ⟨gs,im,mm,fm,hmk⟩:=HF.out.mark hn;have hpop:=hrn.out;rw [List.reverse_append] at hpop;obtain ⟨d',hd',hcs⟩:=hpop.pop;subst hd';have HSL:=hD (show ∀n∈S',n<N from fun x hx=>hsl.out x (by simp [hx]))
     have HLL:=hD hL;clear hx oc hcb hpop hlen hf hrn hsl hL;rcases hcs with ⟨hin,hrn⟩ | ⟨hni,hrn⟩
     ·rw [decide_eq_true hin] at mm;have HR:=hD hrn;clear hin hrn hmk fm;go_wp2
      go_roundg d'
      case measure=>omega
      case rel=>exact ⟨od,S',HR,HSL,by omega,HF⟩
     ·rw [decide_eq_false hni] at mm;have HR:=hD hrn;have HMK:=hD hmk;clear hni hrn hmk;obtain ⟨o,ho⟩:∃o,m.objs[n]?=some o:=⟨_,List.getElem?_eq_getElem (by rw [←HN.out];exact hn)⟩
      have hoo:=HK.out.2.2.1 o (List.mem_of_getElem? ho)
      obtain ⟨q,hq⟩:=Int.eq_ofNat_of_zero_le hoo.1.1;have hqt:q<m.types.length:=by have:=hoo.1.2;omega
      obtain ⟨t,ht⟩:∃t,m.types[q]?=some t:=⟨_,List.getElem?_eq_getElem hqt⟩
      have htt:ty m.types o=t:=by rw [ty,hq];simp [List.getD_eq_getElem?_getD,ht]
      obtain ⟨nf,hnf⟩:=exq o.fs.length;have hlt2:nf=t.length:=by rw [hnf,hoo.2.1,htt]
      have hnf20:nf≤20:=by rw [hnf];exact (small_chk HC.out).2.2.2.2 o (List.mem_of_getElem? ho)
      have HOB:=hD (show ob m n=o from ob_at ho)
      obtain ⟨bo,bq,x0,o2,ixo,p0,p1,ho2,hx0,hob⟩:=H.out.o.at_ (k:=n) (by rw [←HN.out];exact hn)
      obtain rfl:o2=o:=by have:=ho2.out;rw [ho] at this;injection this with e;exact e.symm
      obtain ⟨xA,xn,xc,rfl⟩:∃A n c,x0=.slice A n c:=by obtain ⟨A,c,e,_⟩:=hx0.out;exact ⟨A,_,c,e⟩
      obtain ⟨ad,yt,t2,iy,m3,ht2,hby⟩:=H.out.t.at_ hqt;obtain rfl:t2=t:=by have:=ht2.out;rw [ht] at this;injection this with e;exact e.symm
      rw [hq] at p0;have lx:=Rd.len hx0.out Try.underlying43;rw [←hnf] at lx;have HO:=hD hoo;have HTT:=hD htt;have HNF:=hD hnf;have HLT:=hD hlt2;have HQ:=hD hq;have P0:=hD p0;have P1:=hD p1;have M3:=hD m3;clear hoo htt hnf hlt2 hq ho ho2 ht2 ht p0 p1 m3 hqt hob;go_upto_region 13 with (fail)
      refine wp_gen (fun Wv=>Fnd w Wv tv ov sv N vS _ st' (od++[n]) od S') HMK.out ?_;clear HMK HF mm fm im mx ixx ln rc;intro w2 F2;have HF:=hD F2;have HOL:=hD (show (natI od).length+1≤1000 from by
       rw [natI_len]
       have h1:=HR.out.rs.pre.length_le;have h2:=HRE.out.len;rw [List.length_append,List.length_singleton] at h1;rw [HN.out] at hN1;omega)
      clear F2;go_wp2_with (at_builtin;refine wpList_append2 (by rfl) rfl rfl rfl Try.underlying30 info_int rfl (by omega) (by exact own_below HF.out.ho (lit_b w2 n)) (by exact lit_rd) (by simp [Value.oneCell']) (by omega) (by have:=HOL.out;omega) (by have:=HOL.out;omega) (by exact HF.out.B.alloc HF.out.B.size _) (Nat.le_refl _) ?_;intro v1 w3 o1 b1 g1 n1;have F3:=hD (HF.out.pushO o1 b1 g1 n1);clear o1 b1 g1 n1;have c_g1:=F3.out.g1.cell;have q0:=cell_later F3.out.B P0.out;have q1:=cell_later F3.out.B P1.out)
      clear c_g1 q0 q1;have hp8:w.heap.size<w3.heap.size:=F3.out.g1.lt;refine wp_gen (fun Wv=>Fnd w Wv tv ov sv N vS v1 st' (od++[n]) (od++[n]) S'∧Bx Wv w3.heap.size 45 #[.int .i64 q,.slice xA xn xc]) ⟨F3.out.below ((Below.refl _ w3).alloc (Nat.le_refl _) _),Bx.new w3 _ _⟩ ?_;clear F3
      generalize w3.heap.size=p8 at*
      clear w3;rintro w4 h4;have H4:=hD h4;clear h4 HF
      go_loopg [5,9] nf (fun gg st i wr2=>∃j:Nat,j≤nf∧gg=j∧i=.int .i64 (iOf j)∧Hid (Fnd w wr2 tv ov sv N vS v1 st (od++[n]) (od++[n]) (S'++(kidsFrom m o2 j).reverse)∧Bx wr2 p8 45 #[.int .i64 q,.slice xA xn xc]))
      case atStart=>
       refine ⟨nf,by omega,rfl,by first | rfl | (rw [iOf_le]),hD ?_⟩
       rw [HNF.out,kidsFrom_end]
       simpa using H4.out
      case round=>
       clear H4;obtain ⟨j,hj,hgj,rfl,hh⟩:=hrel;have c_g1:=hh.out.1.g1.cell;have c_g8:=hh.out.2.cell;rcases j with _ | k
       all_goals subst hgj
       ·rw [show iOf 0=-1 from rfl]
        have HF:=hD (show Fnd w wr tv ov sv N vS v1 _ (od++[n]) (od++[n]) (S'++(kids m n).reverse) by have:=hh.out.1;rw [←kidsFrom_zero,HOB.out];exact this)
        clear hh c_g1 c_g8;go_wp2
        go_roundg d'
        case measure=>omega
        case rel=>
         refine ⟨od++[n],S'++(kids m n).reverse,hD (by rw [List.reverse_append,List.reverse_reverse];exact HR.out),hD (fun x hx=>?_),by omega,HF⟩
         rcases List.mem_append.1 hx with h | h
         ·exact HSL.out x h
         ·rw [HN.out];exact kids_lt HC.out n (by rw [←HN.out];exact hn) x (List.mem_reverse.1 h)
       ·rw [show iOf (k+1)=(k:Int) from rfl]
        have hst:=kidsFrom_step (m:=m) (o:=o2) (p:=k) (by have:=HNF.out;omega)
        have hip:=hD (iOf_pred k)
        have hwr:IntKind.i64.wrap ((k:Int)-1)=(k:Int)-1:=IntWalk.i64_in _ (by omega)
        have m3:=cell_later hh.out.1.B M3.out;obtain ⟨bd,kk,ib,m4,hkk⟩:=(hby.out.below hh.out.1.B).at_ (P:=Try.prog) Try.underlying41 one_u8 (k:=k) (by have:=HLT.out;omega)
        obtain ⟨cd,v,ic,m5,hv⟩:=(hx0.out.below hh.out.1.B).at_ (P:=Try.prog) Try.underlying43 one_u64 (k:=k) (by have:=HNF.out;omega)
        have hkd:(ty m.types o2).getD k 0=kk:=by rw [HTT.out];simp [List.getD_eq_getElem?_getD,hkk.out]
        have hvd:o2.fs.getD k 0=v:=by simp [List.getD_eq_getElem?_getD,hv.out]
        have hkid:kidAt m o2 k=if kk.toNat=3∧0<v.toNat then some (v.toNat-1) else none:=by rw [kidAt,hkd,hvd]
        have hvl:kk.toNat=3→v.toNat≤960:=fun h=>by
         have:=HO.out.2.2 k (by have:=HNF.out;omega)
         rw [hkd,hvd] at this
         have:=this.2 h;rw [←HN.out] at this;omega
        obtain ⟨vn,hvn⟩:=exq v.toNat;rw [←hvn] at m5 hkid hvl;clear hkk hv hkd hvd hvn;by_cases h3:kk.toNat=3
        ·have k3:((kk.toNat:Int)==3)=true:=by rw [beq_iff_eq];omega
         by_cases h0:0<vn
         ·rw [if_pos ⟨h3,h0⟩] at hkid;obtain ⟨c,rfl⟩:∃c,vn=c+1:=⟨vn-1,by omega⟩
          rw [Nat.add_sub_cancel] at hkid;rw [hkid] at hst;have hcl:c<960:=by have:=hvl h3;omega
          have m5':wr.cell? cd=some (.int .u64 ((c:Int)+1)):=by rw [m5];rfl
          have z1:(0:Int)<(c:Int)+1:=by omega
          have z3:IntKind.i64.wrap ((c:Int)+1)=(c:Int)+1:=IntWalk.i64_in _ (by omega)
          have z4:IntKind.i64.wrap (c:Int)=(c:Int):=IntWalk.i64_in _ (by omega)
          have HST:=hD hst;have HF:=hh;have HL:=hD (show (natI (S'++(kidsFrom m o2 (k+1)).reverse)).length≤20000 from by
           rw [natI_len,List.length_append,List.length_reverse]
           have h1:=HR.out.len;have h2:(kidsFrom m o2 (k+1)).length≤20:=Nat.le_trans (List.length_filterMap_le _ _) (by simp;have:=HNF.out;omega)
           simp at h1;omega)
          clear hst hkid m5 hvl h3 h0 hh;go_wp2_with (at_builtin;refine wpList_append2 (by rfl) rfl rfl rfl Try.underlying30 info_int rfl (by omega) (by exact own_below HF.out.1.ht (lit_b wr c)) (by exact lit_rd) (by simp [Value.oneCell']) (by omega) (by have:=HL.out;omega) (by have:=HL.out;omega) (by exact HF.out.1.B.alloc HF.out.1.B.size _) (Nat.le_refl _) ?_;intro v2 w5 o1 b1 g1 n1)
          have HF2:=hD (HF.out.1.pushS o1 b1 g1 n1)
          have HG2:=hD (Bx.grown (HF.out.2.below (lit_b wr c)) g1 (own_not_bx (own_below HF.out.1.ht (lit_b wr c)) (HF.out.2.below (lit_b wr c)) (by decide)))
          clear o1 b1 g1 n1 c_g1 c_g8 m3 m4 m5' ib ic
          go_roundg k
          case measure=>omega
          case rel=>
           refine ⟨k,by omega,rfl,by rw [hip.out],hD ⟨?_,HG2.out⟩⟩
           have:=HF2.out;rw [HST.out]
           simpa using this
         ·obtain rfl:vn=0:=by omega
          rw [if_neg (by omega)] at hkid;rw [hkid] at hst;have HST:=hD hst;have HF:=hh;have m5':wr.cell? cd=some (.int .u64 0):=by rw [m5];rfl
          clear hst hkid hvl hh m5;go_wp2
          go_roundg k
          case measure=>omega
          case rel=>
           refine ⟨k,by omega,rfl,by rw [hip.out],hD ?_⟩
           rw [HST.out];exact HF.out
        ·have k3:((kk.toNat:Int)==3)=false:=by rw [beq_eq_false_iff_ne];omega
         rw [if_neg (fun h=>h3 h.1)] at hkid;rw [hkid] at hst;have HST:=hD hst;have HF:=hh;clear hst hkid hvl hh;go_wp2
         go_roundg k
         case measure=>omega
         case rel=>
          refine ⟨k,by omega,rfl,by rw [hip.out],hD ?_⟩
          rw [HST.out];exact HF.out
  ·rw [show iOf (k+1)=(k:Int) from rfl]
   obtain ⟨s,hs⟩:∃s,m.slots[k]?=some s:=⟨_,List.getElem?_eq_getElem (by rw [HK.out.1];omega)⟩
   obtain ⟨bs,qs,s2,is,k0,k1,k2,hs2⟩:=(H.out.s.below hh.out.B).at_ (P:=Try.prog) Try.underlying24 size_slot (k:=k) (by rw [HK.out.1];omega)
   obtain rfl:s2=s:=by have:=hs2.out;rw [hs] at this;injection this with e;exact e.symm
   have hso:=HK.out.2.2.2 s2 (List.mem_of_getElem? hs)
   have hst:=rootsFrom_step hs;have hip:=iOf_pred k;have hwr:IntKind.i64.wrap ((k:Int)-1)=(k:Int)-1:=IntWalk.i64_in _ (by omega)
   clear hs2 k0;cases hu:s2.used
   ·rw [hu] at k1;rw [show rootOf s2=none by rw [rootOf,hu];rfl] at hst;have HF:=hD (show Fnd w wr tv ov sv N vS (.slice none 0 0) _ [] [] (rootsFrom m k).reverse by rw [hst];exact hh.out)
    have HI:=hD hip;clear hst hso hh hs k2 hip;go_wp2;clear c_g1
    go_roundg k
    case measure=>omega
    case rel=>exact ⟨k,by omega,rfl,by rw [HI.out],HF⟩
   ·rw [hu] at k1;obtain ⟨a1,a2,a3⟩:=hso.2.2 hu;obtain ⟨x,hx⟩:=Int.eq_ofNat_of_zero_le a2;rw [hx] at k2;rw [show rootOf s2=some x by rw [rootOf,hu,hx];rfl] at hst;have HST:=hD hst;have HI:=hD hip;have HL:=hD (show (natI (rootsFrom m (k+1)).reverse).length≤16 by rw [natI_len,List.length_reverse,←HK.out.1];exact rootsFrom_len m _)
    have HF:=hh;clear hst hso hh hs a1 a2 a3 hx hip;go_wp2_with (at_builtin;refine wpList_append2 (by rfl) rfl rfl rfl Try.underlying30 info_int rfl (by omega) (by exact own_below HF.out.ht (lit_b wr x)) (by exact lit_rd) (by simp [Value.oneCell']) (by omega) (by have:=HL.out;omega) (by have:=HL.out;omega) (by exact HF.out.B.alloc HF.out.B.size _) (Nat.le_refl _) ?_;intro v1 w1 o1 b1 g1 n1)
    have HF2:=hD (HF.out.pushS o1 b1 g1 n1)
    clear o1 b1 g1 n1 c_g1 k1 k2 is
    go_roundg k
    case measure=>omega
    case rel=>
     refine ⟨k,by omega,rfl,by rw [HI.out],?_⟩
     rw [HST.out]
     exact hD (by simpa using HF2.out)
end
section
open Go.RowKit L02 L13 L18 L20
theorem OwnI.put {w:World} {B E:Nat} {v:Value} {l:List Int} (h:OwnI w B E v l) {k:Nat} (hk:k<l.length):∃gs,v.ownBlock=some gs∧(∀W,(Instr.indexAt 30 v (.int .i64 (k:Int))).run Try.prog W=.ok (.pointer (some ⟨gs,k,none⟩)) W)∧w.cell? ⟨gs,k,none⟩=some (.int .i64 (l.getD k 0))∧w.frozen? ⟨gs,k,none⟩=false∧B≤gs∧gs<w.heap.size∧
  ∀x:Int,OwnI (w.setCell ⟨gs,k,none⟩ (.int .i64 x)) B E v (l.set k x)∧w.grownBy (w.setCell ⟨gs,k,none⟩ (.int .i64 x)) (some gs):=by
 obtain ⟨gs,cap,cur,rfl,hB,hg,hnc,hcm,hcs,htake⟩:=own_form h (by omega)
 have hix:=fun W=>Rd.ixN (P:=Try.prog) (Rd.of_own h) Try.underlying30 one_int hk W;have hc:=Rd.cell (Rd.of_own h) (j:=k) (u:=.int .i64 (l.getD k 0)) (by rw [List.getElem?_map,List.getElem?_eq_getElem hk,List.getD_eq_getElem?_getD,List.getElem?_eq_getElem hk];rfl)
 refine ⟨gs,rfl,fun W=>by have:=hix W;simpa [cellAt] using this,by simpa [cellAt] using hc,h.frozenAt k,hB,(World.ownsRow.lt h gs rfl).2,fun x=>?_⟩
 have hst:=World.ownsRow.stored h k (.int .i64 x)
 refine ⟨?_,hst.2⟩
 refine OwnI.of hst.1 ?_;rw [List.map_set];rfl
end
end Go.Proofs.Yteejianjjpdimaa
