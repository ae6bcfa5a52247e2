/- Contracts of the functions that the laws 'T' reach, part 17. No condition. -/
import Derived.Test.YteejianjjpdimaaGreatMTp
set_option linter.unusedVariables false
set_option linter.unusedSimpArgs false
set_option maxRecDepth 100000
set_option maxHeartbeats 8000000
namespace Go.Proofs.YteejianjjpdimaaGreat
section
open Go.RowKit L02 L13 L18 L20
theorem tabL_set (S:List Sl) (k:Nat) (s:Sl) (hk:k<S.length):(((tabL S).set (k*3) (.int .i64 s.gen)).set (k*3+1) (.bool s.used)).set (k*3+2) (.int .i64 s.at_)=tabL (S.set k s):=by
 apply List.ext_getElem?;intro i;by_cases hi:i<S.length*3
 ·obtain ⟨q,r,hr,rfl⟩:∃q r,r<3∧i=q*3+r:=⟨i / 3,i % 3,Nat.mod_lt _ (by omega),by omega⟩
  have hq:q<S.length:=by omega
  by_cases hqk:q=k
  ·subst hqk;have h1:=tabL_get (S.set q s) q s (by simp [hq]) r hr;rw [h1]
   have hl:(tabL S).length=S.length*3:=tabL_len S
   have:r=0∨r=1∨r=2:=by omega
   rcases this with rfl | rfl | rfl
   ·rw [List.getElem?_set_ne (by omega),List.getElem?_set_ne (by omega),Nat.add_zero,List.getElem?_set_self (by omega)];rfl
   ·rw [List.getElem?_set_ne (by omega),List.getElem?_set_self (by simp;omega)];rfl
   ·rw [List.getElem?_set_self (by simp;omega)];rfl
  ·have hs:S[q]?=some S[q]:=List.getElem?_eq_getElem hq;have h1:=tabL_get (S.set k s) q S[q] (by rw [List.getElem?_set_ne (Ne.symm hqk)];exact hs) r hr;have h2:=tabL_get S q S[q] hs r hr;rw [h1,List.getElem?_set_ne (by omega),List.getElem?_set_ne (by omega),List.getElem?_set_ne (by omega),h2]
 ·rw [List.getElem?_eq_none (by simp [tabL_len];omega),List.getElem?_eq_none (by simp [tabL_len];omega)]
theorem OwnS.put3 {w:World} {B E g n c k:Nat} {S:List Sl} (h:OwnS w B E (.slice (some ⟨g,0,none⟩) n c) S) (hk:k<S.length) (s:Sl):
  OwnS (((w.setCell ⟨g,k*3,none⟩ (.int .i64 s.gen)).setCell ⟨g,k*3+1,none⟩ (.bool s.used)).setCell ⟨g,k*3+2,none⟩ (.int .i64 s.at_)) B E (.slice (some ⟨g,0,none⟩) n c) (S.set k s)∧
   w.grownBy (((w.setCell ⟨g,k*3,none⟩ (.int .i64 s.gen)).setCell ⟨g,k*3+1,none⟩ (.bool s.used)).setCell ⟨g,k*3+2,none⟩ (.int .i64 s.at_)) (some g)∧B≤g∧g<w.heap.size∧∀j,w.frozen? ⟨g,j,none⟩=false:=by
 have hn:n=S.length:=by
  obtain ⟨g',cap,cur,hv,_⟩:=own_form h (by omega)
  injection hv
 subst hn;have h1:=World.ownsRow.stored h (k*3) (.int .i64 s.gen)
 have h2:=World.ownsRow.stored h1.1 (k*3+1) (.bool s.used)
 have h3:=World.ownsRow.stored h2.1 (k*3+2) (.int .i64 s.at_)
 have hl:=h.lt g rfl;refine ⟨?_,⟨rfl,rfl,rfl,?_,fun q hq hne=>?_⟩,hl.1,hl.2,fun j=>h.frozenAt j⟩
 ·unfold OwnS;rw [←tabL_set S k s hk,List.length_set]
  exact h3.1
 ·simp [World.setCell]
 ·exact (h3.2.block q (by simpa [World.setCell] using hq) hne).trans ((h2.2.block q (by simpa [World.setCell] using hq) hne).trans (h1.2.block q hq hne))
theorem OwnS.form {w:World} {B E:Nat} {v:Value} {S:List Sl} (h:OwnS w B E v S) (hn:0<S.length):∃g n c,v=.slice (some ⟨g,0,none⟩) n c∧n=S.length:=by
 obtain ⟨g,cap,cur,hv,_⟩:=own_form h hn;exact ⟨g,_,cap,hv,rfl⟩
theorem OwnS.cells {w:World} {B E g n c k:Nat} {S:List Sl} {s:Sl} (h:OwnS w B E (.slice (some ⟨g,0,none⟩) n c) S) (hs:S[k]?=some s):
  (∀W,(Instr.indexAt 29 (.slice (some ⟨g,0,none⟩) n c) (.int .i64 (k:Int))).run Tryz.prog W=.ok (.pointer (some ⟨g,k*3,none⟩)) W)∧w.cell? ⟨g,k*3,none⟩=some (.int .i64 s.gen)∧w.cell? ⟨g,k*3+1,none⟩=some (.bool s.used)∧w.cell? ⟨g,k*3+2,none⟩=some (.int .i64 s.at_):=by
 have hk:k<S.length:=(List.getElem?_eq_some_iff.1 hs).1;have t0:=Rd.cell (OwnS.rd h) (tabL_get S k s hs 0 (by omega))
 have t1:=Rd.cell (OwnS.rd h) (tabL_get S k s hs 1 (by omega))
 have t2:=Rd.cell (OwnS.rd h) (tabL_get S k s hs 2 (by omega))
 refine ⟨fun W=>?_,?_,?_,?_⟩
 ·have:=Rd.ixN (P:=Tryz.prog) (OwnS.rd h) Tryz.underlying29 size_slot hk W;simpa [cellAt] using this
 ·simpa [cellAt] using t0
 ·simpa [cellAt] using t1
 ·simpa [cellAt] using t2
theorem OwnM.slots {w W:World} {B g n c:Nat} {tv ov:Value} {m:Mo} {S:List Sl} (h:OwnM w B 37 tv ov (.slice (some ⟨g,0,none⟩) n c) m) (hg:w.grownBy W (some g)) (hS:OwnS W B 37 (.slice (some ⟨g,0,none⟩) n c) S):
  OwnM W B 37 tv ov (.slice (some ⟨g,0,none⟩) n c) ⟨m.types,m.objs,S⟩:=by
 refine ⟨OwnT.kept h.t h.s hg (by decide) (by decide),?_,hS⟩
 obtain ⟨vs,a1,a2,a4,a5⟩:=h.o;exact ⟨vs,a1,World.ownsRow.kept a2 hg (own_unlike a2 h.s (by decide)),fun i x l h5 h6=>World.ownsRow.kept (a4 i x l h5 h6) hg (own_unlike (a4 i x l h5 h6) h.s (by decide)),a5⟩
def Keep (w w':World) (row:Option Nat):Prop:=w.heap.size≤w'.heap.size∧∀k,k<w.heap.size→some k≠row→w'.heap[k]?=w.heap[k]?
theorem Keep.of_below {w w':World} {row:Option Nat} (h:Below w.heap.size w w'):Keep w w' row:=⟨h.size,fun k hk _=>h.block k hk⟩
theorem Keep.grown {w w' w'':World} {row:Option Nat} (h:Keep w w' row) (hg:w'.grownBy w'' row):Keep w w'' row:=⟨Nat.le_trans h.1 hg.size,fun k hk hr=>(hg.block k (Nat.lt_of_lt_of_le hk h.1) hr).trans (h.2 k hk hr)⟩
theorem Keep.setCell {w w':World} {row:Option Nat} (h:Keep w w' row) {p:Addr} (hp:w.heap.size≤p.block) (u:Value):Keep w (w'.setCell p u) row:=
 ⟨by simpa [World.setCell] using h.1,fun k hk hr=>(Below.heap_setCell w' p u k (by omega)).trans (h.2 k hk hr)⟩
theorem Bx.keep {w w':World} {g:Nat} {t:TypeId} {cs:Array Value} {row:Option Nat} (h:Bx w g t cs) (hk:Keep w w' row) (hne:row=none∨row≠some g):Bx w' g t cs:=by
 have hl:=h.lt;unfold Bx at *;rw [hk.2 g hl (by
  rcases hne with rfl | h
  ·simp
  ·exact fun e=>h e.symm)]
 exact h
theorem OwnM.setH {w:World} {B p i:Nat} {tv ov sv u:Value} {m:Mo} {cs:Array Value} (h:OwnM w B 37 tv ov sv m) (hg:Bx w p 39 cs):OwnM (w.setCell ⟨p,i,none⟩ u) B 37 tv ov sv m:=
 ⟨h.t.set hg (by decide) (by decide),h.o.set hg (by decide) (by decide),own_set h.s hg (by decide)⟩
theorem handle_ok (tv ov sv:Value) (m:Mo) (n:Int) (kk:Nat) (s:Sl) (hnx:next m.slots=some kk) (hs:m.slots[kk]?=some s) (hgen:∀s∈m.slots,0≤s.gen∧s.gen≤2147483647) (hlen:m.slots.length=16) (B0:Nat) (w:World) (h:OwnM w B0 37 tv ov sv m) (hB:B0≤w.heap.size):
  Calls Tryz.prog 67 #[.agg #[tv,ov,sv],.int .i64 n] w fun e w'=>e=.returned (.tuple #[.agg #[.int .i64 kk,.int .i64 (s.gen+1)],.bool true])∧OwnM w' B0 37 tv ov sv ⟨m.types,m.objs,m.slots.set kk ⟨s.gen+1,true,n⟩⟩∧Below B0 w w'∧Keep w w' sv.ownBlock:=by
 have B:=Below.refl w.heap.size w;obtain ⟨gS,sc,rfl⟩:∃g c,sv=.slice (some ⟨g,0,none⟩) 16 c:=by obtain ⟨g,n,c,e,e2⟩:=h.s.form (by omega);rw [e2,hlen] at e;exact ⟨g,c,e⟩
 have ls:=h.rd.s.len;rw [hlen] at ls;obtain ⟨_,⟨s',hs',hu,hg1⟩,hbefore⟩:=nextFrom_some hnx;rw [Nat.sub_zero] at hs' hbefore;obtain rfl:s'=s:=by rw [hs] at hs';injection hs' with e;exact e.symm
 have hkk:kk<16:=by have:=(List.getElem?_eq_some_iff.1 hs).1;omega
 have hg2:=hgen s' (List.mem_of_getElem? hs)
 have H:=hD h;have HS:=hD hs;have HBF:=hD hbefore;have HL:=hD hlen;have HGEN:=hD hgen;have hmx:s'.gen<2147483647:=by omega
 obtain ⟨gn,us,sa⟩:=s';dsimp only at hu hmx hg2 ⊢;subst hu;have hwr:IntKind.i64.wrap (gn+1)=gn+1:=IntWalk.i64_in _ (by omega)
 clear hs hs' hbefore hnx hgen hg1;go_in;go_upto_region 1 with (fail)
 refine wpb11 (31) (#[tv,ov,.slice (some ⟨gS,0,none⟩) 16 sc]) (39) (#[.int .i64 0,.int .i64 0]) ?_;rintro wa1 ⟨g1,g2,b⟩
 replace B:=B.trans (b.mono B.size);clear b;replace c_g1:=g1.five;replace c_g2:=g2.five;have HG:=hD (And.intro g1 (And.intro g2 B))
 clear g1 g2 B c_g1 c_g2;have hwa:=HG.out.1.cell;go_wp2;clear hwa
 go_loopg [11] kk (fun g i wr=>∃j:Nat,j≤kk∧g=kk-j∧i=.int .i64 j∧Hid (Bx wr w.heap.size 31 #[tv,ov,.slice (some ⟨gS,0,none⟩) 16 sc]∧Bx wr (w.heap.size+1) 39 #[.int .i64 0,.int .i64 0]∧Below w.heap.size w wr))
 case atStart=>exact ⟨0,by omega,by omega,rfl,HG⟩
 case round=>
  clear HG;obtain ⟨j,hj,rfl,rfl,hh⟩:=hrel;obtain ⟨g1,g2,B⟩:=hh.out;have hj16:j<16:=by omega
  have hx:m.slots[j]?=some (m.slots[j]'(by have:=HL.out;omega)):=List.getElem?_eq_getElem _;obtain ⟨x,hxx⟩:=exq (m.slots[j]'(by have:=HL.out;omega))
  rw [←hxx] at hx;clear hxx;obtain ⟨ix,m0,m1,m2⟩:=OwnS.cells (H.out.s.below B) hx;have HX:=hD hx;clear hx hh;obtain ⟨xg,xu,xa⟩:=x;dsimp only at m0 m1 m2;have hzr:=B.size;go_upto_region 4 with (fail)
  refine wpb1 (37) (#[.int .i64 xg,.bool xu,.int .i64 xa]) ?_;rintro wa1 ⟨g3,b⟩
  replace g1:=g1.below b;replace c_g1:=g1.five;replace g2:=g2.below b;replace c_g2:=g2.five;replace B:=B.trans (b.mono B.size);clear b;replace c_g3:=g3.five;clear m0 m1 m2;by_cases hjk:j=kk
  ·subst hjk;have e1:(⟨xg,xu,xa⟩:Sl)=⟨gn,false,sa⟩:=by have:=HX.out;rw [HS.out] at this;injection this with e;exact e.symm
   injection e1 with e1 e2 e3
   subst e1;subst e2;subst e3;have HP:=hD (OwnS.put3 (k:=j) (H.out.s.below B) (by have:=HL.out;omega) ⟨xg+1,true,n⟩)
   obtain ⟨_,p0,p1,p2⟩:=OwnS.cells (H.out.s.below B) HX.out;have fz:=HP.out.2.2.2.2;have HO:=hD (H.out.below B)
   have hne1:gS≠w.heap.size:=by
    rcases own_not_bx HO.out.s g1 (by decide) with h | h
    ·simp [Value.ownBlock] at h
    ·intro e;exact h (by simp [Value.ownBlock,e])
   have hne2:gS≠w.heap.size+1:=by
    rcases own_not_bx HO.out.s g2 (by decide) with h | h
    ·simp [Value.ownBlock] at h
    ·intro e;exact h (by simp [Value.ownBlock,e])
   have hne3:gS≠wr.heap.size:=by
    have h1:=(H.out.s.lt gS rfl).2;have h2:=hzr;omega
   have fz2:=g2.free;go_wp2;refine bodyPost_ret (v:=.tuple #[.agg #[.int .i64 j,.int .i64 (xg+1)],.bool true]) (by simp [results,Tryz.results67,go_sem,c_g2]) rfl ?_;have b0:=H.out.below B;have hM3:=OwnM.slots b0 HP.out.2.1 HP.out.1;have r2:Bx _ (w.heap.size+1) 39 _:=g2.grown HP.out.2.1 (.inr (fun e=>hne2 (by injection e)))
   have hb1:Keep w _ (some gS):=(Keep.of_below B).grown HP.out.2.1;have hB3:=(B.mono hB).grown HP.out.2.1 (Nat.le_trans hB B.size) (fun k hk=>by injection hk with hk;rw [←hk];exact HP.out.2.2.1)
   refine ⟨rfl,(hM3.setH r2).setH (r2.set _),?_,?_⟩
   ·exact (hB3.setCell (p:=⟨w.heap.size+1,0,none⟩) (by simp;omega) _).setCell (p:=⟨w.heap.size+1,1,none⟩) (by simp;omega) _
   ·exact (hb1.setCell (p:=⟨w.heap.size+1,0,none⟩) (by simp) _).setCell (p:=⟨w.heap.size+1,1,none⟩) (by simp) _
  ·have hjk2:j<kk:=by omega
   have hnf:=HBF.out j _ hjk2 HX.out;have hgx:=HGEN.out _ (List.mem_of_getElem? HX.out)
   dsimp only at hnf hgx;have hj2:(j:Int)<16:=by omega
   have HH:=hD (And.intro g1 (And.intro g2 B))
   cases xu
   ·have hge:¬xg<2147483647:=fun h=>hnf ⟨rfl,by omega⟩
    clear hnf;go_wp2;clear g1 g2 g3 B c_g1 c_g2 c_g3
    go_roundg (kk-(j+1))
    case measure=>omega
    case rel=>exact ⟨j+1,by omega,rfl,by go_num,HH⟩
   ·clear hnf;go_wp2;clear g1 g2 g3 B c_g1 c_g2 c_g3
    go_roundg (kk-(j+1))
    case measure=>omega
    case rel=>exact ⟨j+1,by omega,rfl,by go_num,HH⟩
theorem handle_no (tv ov sv:Value) (m:Mo) (n:Int) (hnx:next m.slots=none) (hgen:∀s∈m.slots,0≤s.gen∧s.gen≤2147483647) (hlen:m.slots.length=16) (w:World) (h:Mod w tv ov sv m):
  Calls Tryz.prog 67 #[.agg #[tv,ov,sv],.int .i64 n] w fun e w'=>e=.returned (.tuple #[.agg #[.int .i64 0,.int .i64 0],.bool false])∧Below w.heap.size w w':=by
 have B:=Below.refl w.heap.size w;have ls:=h.s.len;rw [hlen] at ls;have hall:∀(j:Nat) (s:Sl),m.slots[j]?=some s→¬(s.used=false∧s.gen<2147483647):=by
  have aux:∀(L:List Sl) (k:Nat),nextFrom L k=none→∀(j:Nat) (s:Sl),L[j]?=some s→¬(s.used=false∧s.gen≠2147483647):=by
   intro L;induction L with
   | nil=>intro k _ j s hs;simp at hs
   | cons x L ih=>
    intro k hk j s hs;rw [nextFrom] at hk;split at hk
    ·cases hk
    ·rename_i hx;cases j with
     | zero=>simp at hs;subst hs;exact hx
     | succ j=>exact ih _ hk j s (by simpa using hs)
  intro j s hs hh;exact aux _ _ hnx j s hs ⟨hh.1,by have:=hh.2;omega⟩
 have H:=hD h;have HL:=hD hlen;have HA:=hD hall;clear hnx hgen hlen h hall;go_in;go_upto_region 1 with (fail)
 refine wpb11 (31) (#[tv,ov,sv]) (39) (#[.int .i64 0,.int .i64 0]) ?_;rintro wa1 ⟨g1,g2,b⟩
 replace B:=B.trans (b.mono B.size);clear b;obtain ⟨c_g1,f_g1,a_g1,d_g1,e_g1⟩:=g1.five;obtain ⟨c_g2,f_g2,a_g2,d_g2,e_g2⟩:=g2.five;have HG:=hD (And.intro g1 (And.intro g2 B))
 clear g1 g2 B c_g1 c_g2 f_g1 f_g2 a_g1 a_g2 d_g1 d_g2 e_g1 e_g2;have hwa:=HG.out.1.cell;go_wp2;clear hwa
 go_loopg [11] 16 (fun g i wr=>∃j:Nat,j≤16∧g=16-j∧i=.int .i64 j∧Hid (Bx wr w.heap.size 31 #[tv,ov,sv]∧Bx wr (w.heap.size+1) 39 #[.int .i64 0,.int .i64 0]∧Below w.heap.size w wr))
 case atStart=>exact ⟨0,by omega,by omega,rfl,HG⟩
 case round=>
  clear HG;obtain ⟨j,hj,rfl,rfl,hh⟩:=hrel;obtain ⟨g1,g2,B⟩:=hh.out;clear hh;by_cases hlt:j<16
  ·obtain ⟨b,o,s,ix,m0,m1,m2,hs⟩:=(H.out.s.below B).at_ (P:=Tryz.prog) Tryz.underlying29 size_slot (k:=j) (by have:=HL.out;omega)
   have hnf:=HA.out j s hs.out;clear hs;obtain ⟨xg,xu,xa⟩:=s;dsimp only at m0 m1 m2 hnf;go_upto_region 4 with (fail)
   refine wpb1 (37) (#[.int .i64 xg,.bool xu,.int .i64 xa]) ?_;rintro wa1 ⟨g3,b⟩
   try clear c_g1 f_g1 a_g1 d_g1 e_g1
   replace g1:=g1.below b;obtain ⟨c_g1,f_g1,a_g1,d_g1,e_g1⟩:=g1.five;try clear c_g2 f_g2 a_g2 d_g2 e_g2
   replace g2:=g2.below b;obtain ⟨c_g2,f_g2,a_g2,d_g2,e_g2⟩:=g2.five;replace B:=B.trans (b.mono B.size);clear b;obtain ⟨c_g3,f_g3,a_g3,d_g3,e_g3⟩:=g3.five;clear m0 m1 m2;have HH:=hD (And.intro g1 (And.intro g2 B))
   cases xu
   ·have hge:¬xg<2147483647:=fun h=>hnf ⟨rfl,h⟩
    clear hnf;go_wp2;clear g1 g2 g3 B c_g1 c_g2 f_g1 f_g2 a_g1 a_g2 d_g1 d_g2 e_g1 e_g2 c_g3 f_g3 a_g3 d_g3 e_g3
    go_roundg (16-(j+1))
    case measure=>omega
    case rel=>exact ⟨j+1,by omega,rfl,by go_num,HH⟩
   ·clear hnf;go_wp2;clear g1 g2 g3 B c_g1 c_g2 f_g1 f_g2 a_g1 a_g2 d_g1 d_g2 e_g1 e_g2 c_g3 f_g3 a_g3 d_g3 e_g3
    go_roundg (16-(j+1))
    case measure=>omega
    case rel=>exact ⟨j+1,by omega,rfl,by go_num,HH⟩
  ·obtain rfl:j=16:=by omega
   have c_g2:=g2.cell;have f_g2:=g2.free;go_wp2;refine bodyPost_ret (v:=.tuple #[.agg #[.int .i64 0,.int .i64 0],.bool false]) (by simp [results,Tryz.results67,go_sem,c_g2]) rfl ⟨rfl,?_⟩
   exact (B.setCell (p:=⟨w.heap.size+1,0,none⟩) (by simp) _).setCell (p:=⟨w.heap.size+1,1,none⟩) (by simp) _
end
section
open Go.RowKit L02 L13 L18 L20
theorem OwnS.put1 {w:World} {B E g n c k:Nat} {S:List Sl} {s:Sl} (h:OwnS w B E (.slice (some ⟨g,0,none⟩) n c) S) (hs:S[k]?=some s) (a:Int):
  OwnS (w.setCell ⟨g,k*3+2,none⟩ (.int .i64 a)) B E (.slice (some ⟨g,0,none⟩) n c) (S.set k ⟨s.gen,s.used,a⟩)∧
   w.grownBy (w.setCell ⟨g,k*3+2,none⟩ (.int .i64 a)) (some g)∧B≤g∧g<w.heap.size∧∀j,w.frozen? ⟨g,j,none⟩=false:=by
 have hk:k<S.length:=(List.getElem?_eq_some_iff.1 hs).1;have hn:n=S.length:=by
  obtain ⟨g',cap,cur,hv,_⟩:=own_form h (by omega)
  injection hv
 subst hn;have h3:=World.ownsRow.stored h (k*3+2) (.int .i64 a)
 have hl:=h.lt g rfl;have hsame:∀i:Nat,i<3→∀u,(slC s)[i]?=some u→(tabL S).set (k*3+i) u=tabL S:=by
  intro i hi u hu;have t0:=tabL_get S k s hs i hi;rw [hu] at t0;apply List.ext_getElem?;intro j;by_cases hj:j=k*3+i
  ·subst hj;rw [List.getElem?_set_self (List.getElem?_eq_some_iff.1 t0).1,t0]
  ·rw [List.getElem?_set_ne (Ne.symm hj)]
 have h0:=hsame 0 (by omega) (.int .i64 s.gen) rfl;have h1:=hsame 1 (by omega) (.bool s.used) rfl;rw [Nat.add_zero] at h0;refine ⟨?_,h3.2,hl.1,hl.2,fun j=>h.frozenAt j⟩
 unfold OwnS;rw [←tabL_set S k ⟨s.gen,s.used,a⟩ hk,List.length_set]
 show World.ownsRow _ _ _ _ _ _ ((((tabL S).set (k*3) (.int .i64 s.gen)).set (k*3+1) (.bool s.used)).set (k*3+2) (.int .i64 a))
 rw [h0,h1]
 exact h3.1
theorem own_ne_bx {w:World} {B e sz n n' p g c:Nat} {xs:List Value} {t:TypeId} {cs:Array Value} (h:w.ownsRow B e sz (.slice (some ⟨g,0,none⟩) n c) n' xs) (hg:Bx w p t cs) (hne:e≠t):g≠p:=by
 rintro rfl;rcases own_not_bx h hg hne with h | h
 ·cases h
 ·exact h rfl
end
section
open Go.RowKit L01 L02 L05 L06 L07 L13 L14 L15 L16 L18 L19
def whole (L:List Hb):Bool:=match L with | [b]=>decide (b.kind=2) | _=>false
end
section
open Go Go.RowKit
section
variable {P:Program} {ops:Array Oper} {w:World}
theorem wpStill_of_quiet {Q:Act→Prop}:∀(l:List Oper) (a:Act),wpQuiet P ops (fun W=>W=w) Q l a→wpStill P ops w Q l a
 | [],a,h=>h
 | o :: l,a,h=>by
  unfold wpQuiet at h;unfold wpStill;by_cases hw:Region.wanted o (yielded ops a.tmps)=true
  ·rw [if_pos hw] at h ⊢;obtain ⟨v,h1,h2⟩:=h;have h3:=h1 w rfl;have h4:=wpStill_of_quiet l _ h2;unfold Oper.quietAt at h3;unfold Oper.still;cases hr:(execOp a.eval o).run P w with
   | ok n w'=>
    rw [hr] at h3;cases n with
    | value u=>obtain ⟨e1,e2⟩:=h3;subst e2;exact ⟨e1,h4⟩
    | skip=>obtain ⟨e1,e2⟩:=h3;subst e2;exact ⟨e1,h4⟩
    | enter f args=>obtain ⟨e1,e2⟩:=h3;exact ⟨e1,v,e2,h4⟩
    | _=>exact absurd h3 id
   | halt x w'=>rw [hr] at h3;exact absurd h3 id
  ·rw [if_neg hw] at h ⊢;exact wpStill_of_quiet l _ h
theorem wp_region_qtail {id:Nat} {Q:Exit→Act→World→Prop} {a:Act} {l:List Oper} (n:Nat) (hm:P.follows .mixedOrders=true) (hB:Region.lexTailB .any l.toArray n=true)
  (h:wpQuiet P l.toArray (fun W=>W=w.drew) (fun a'=>wpList P l.toArray Q (l.drop n) a' w.drew) (l.take n) a):(Code.region id l.toArray true).wp P Q a w:=
 wp_region_still_tail n hm hB (wpStill_of_quiet _ _ h)
end
end
section
open Go.RowKit L01 L02 L05 L06 L07 L13 L14 L15 L18 L19 L20
theorem refV_idxI {O:List Hb} {v:UInt64} (h:O.length≤960):((refV O v).toNat:Int)=idxI O v.toNat+1:=by
 unfold refV idxI;cases h2:idx O v.toNat with
 | none=>simp
 | some i=>
  obtain ⟨b,h3,_⟩:=idx_some h2
  have:=(List.getElem?_eq_some_iff.1 h3).1;show ((UInt64.ofNat (i+1)).toNat:Int)=(i:Int)+1;rw [UInt64.toNat_ofNat',Nat.mod_eq_of_lt (by omega)];omega
theorem slOf_used {O:List Hb} {s:Sl} (h:s.used=true):slOf O s=⟨s.gen,true,idxI O s.at_⟩:=by
 unfold slOf;rw [if_pos h];rfl
theorem slOf_not {O:List Hb} {s:Sl} (h:s.used=false):slOf O s=s:=by unfold slOf;rw [h];rfl
theorem form_T {w:World} {B:Nat} {v:Value} {L:List (List UInt8)} (h:OwnT w B v L):∃A n c,v=.slice A n c:=by
 obtain ⟨vs,_,h2,_⟩:=h;obtain ⟨A,c,e⟩:=own_form' h2;exact ⟨A,_,c,e⟩
end
section
open Go.RowKit L01 L02 L18
end
section
open Go.RowKit L01 L02 L05 L06 L07 L13 L14 L15 L18 L19 L20
theorem find_hd {l:List UInt64} {k a nn q:Nat} {sg:Int} {b:Hb} {t:List UInt8} (h:Hd l k a nn q sg b t):find l a=b∧findErr l a=0:=by
 obtain ⟨hbL,_⟩:=objs_mem.1 (List.mem_of_getElem? h.ho)
 obtain ⟨j,hj⟩:=List.getElem?_of_mem hbL;have hp:=List.pairwise_iff_getElem.1 (chain_apart (chain_iff.1 (parsed_ok.1 (allErr_ok h.rt.al).2).1)).2;have hf:findB (allL l) a=some b:=findB_first hj h.hat (fun i c hi hc e=>by
  obtain ⟨i1,i2⟩:=List.getElem?_eq_some_iff.1 hc;obtain ⟨j1,j2⟩:=List.getElem?_eq_some_iff.1 hj
  have:=hp i j i1 j1 hi;rw [i2,j2,h.hat,e] at this;obtain ⟨x,_,_,hs,h4,_⟩:=all_mem h.rt.al (List.mem_of_getElem? hc)
  have hz:=szN_ge hs
  have:c.size=szN l x:=by rw [h4];exact stand_size hs
  omega)
 have he:findErr l a=0:=by rw [findErr,if_pos h.rt.al,hf];rfl
 exact ⟨by rw [find,if_pos he,hf];rfl,he⟩
theorem find24_any (v:Value) (l:List UInt64) (sl g n:Int) (p:Int) (kd:UInt8) (r:Int) (hp:p=kiAt l sl g n) (hk:kd=kiK l sl g n) (hr:r=kiErr l sl g n) (w:World) (h:Words w v l):
  Calls Tryz.prog 76 #[v,.agg #[.int .i64 sl,.int .i64 g],.int .i64 n] w fun e w'=>e=.returned (.tuple #[.int .i64 p,.int .u8 kd.toNat,.int .i64 r])∧Below w.heap.size w w':=by
 have B:=Below.refl w.heap.size w;have H:=hD h;obtain ⟨c,hc⟩:=exq (chk19 l)
 have CK:=hD (Check19_any v l c hc)
 have hno:r≠0→p=0∧kd=0:=fun h0=>⟨by rw [hp,kiAt,if_neg (by rw [←hr];exact h0)],by rw [hk,kiK,if_neg (by rw [←hr];exact h0)]⟩
 by_cases h0:c=0;case neg=>
  have haski:askI l sl g=c:=by rw [askI,if_neg (by rw [←hc];exact h0),hc]
  have hra:r=c:=by rw [hr,kiErr,haski,if_neg h0]
  obtain ⟨rfl,rfl⟩:=hno (by rw [hra];exact h0)
  subst hra;have n1:(r != 0)=true:=by rw [bne_iff_ne];exact h0
  clear hp hk hr hno h hc h0 haski;go_in;go_upto_region 1 with (fail)
  refine wpb1 (39) (#[.int .i64 sl,.int .i64 g]) ?_;rintro wa1 ⟨g1,b⟩
  replace B:=B.trans (b.mono B.size);clear b;replace c_g1:=g1.five;go_wp2_with fail;refine (CK.out _ (H.out.below B)).mono ?_;rintro e wa2 ⟨rfl,b⟩
  replace g1:=g1.below b;replace c_g1:=g1.five;replace B:=B.trans (b.mono B.size);clear b;go_wp2
  go_ret3
  exact ⟨rfl,B⟩
 case pos=>
  subst h0;obtain ⟨x,hx⟩:=exq (res l sl g)
  obtain ⟨d,hd⟩:=exq (resErr l sl g)
  have RT:=hD (Resolve_any v l sl g x d hx hd)
  have ha:askI l sl g=d:=by rw [askI,if_pos hc.symm,hd]
  by_cases h1:d=0;case neg=>
   have hra:r=d:=by rw [hr,kiErr,ha,if_neg h1]
   obtain ⟨rfl,rfl⟩:=hno (by rw [hra];exact h1)
   subst hra;have n1:(r != 0)=true:=by rw [bne_iff_ne];exact h1
   clear hp hk hr hno h hc hx hd ha h1;go_in;go_upto_region 1 with (fail)
   refine wpb1 (39) (#[.int .i64 sl,.int .i64 g]) ?_;rintro wa1 ⟨g1,b⟩
   replace B:=B.trans (b.mono B.size);clear b;replace c_g1:=g1.five;go_wp2_with fail;refine (CK.out _ (H.out.below B)).mono ?_;rintro e wa2 ⟨rfl,b⟩
   replace g1:=g1.below b;replace c_g1:=g1.five;replace B:=B.trans (b.mono B.size);clear b;go_wp2_with fail;refine (RT.out _ (H.out.below B)).mono ?_;rintro e wa3 ⟨rfl,b⟩
   replace g1:=g1.below b;replace c_g1:=g1.five;replace B:=B.trans (b.mono B.size);clear b;go_wp2
   go_ret3
   exact ⟨rfl,B⟩
  case pos=>
   subst h1;obtain ⟨k,a,nn,q,b,t,rfl,hh⟩:=Hd.of ha;obtain ⟨f1,f2⟩:=find_hd hh;have hxa:x=(a:Int):=by rw [hx];exact hh.hres
   have rt:=hh.rt;have FT:=hD (Find_any v l a b 0 f1.symm f2.symm)
   obtain ⟨sw,hsw⟩:=exq (sW l)
   obtain ⟨st,hst⟩:=exq (sT l)
   obtain ⟨i0,hi0⟩:=exq (is0 l)
   obtain ⟨i1,hi1⟩:=exq (is1 l)
   obtain ⟨T,hT⟩:=exq (T19 l)
   have T3:=hD (TRead_any v l sw st i0 i1 0 hsw hst hi0 hi1 rt.tw.symm)
   have KT:=hD (KTable_any v l st T 0 (by rw [hT,hst];rfl) (by rw [hst];exact rt.ty.symm))
   have hTq:T[q]?=some t:=by rw [hT];exact hh.hT
   have hqT:=(List.getElem?_eq_some_iff.1 hTq).1;obtain ⟨nf,hnf⟩:=exq t.length;have hn8:nf≤8:=by rw [hnf];exact hh.hn8
   have ha2:=hh.ha2;have hbq:=hh.hty;have hki:kiErr l k g n=if 0≤n∧n<(nf:Int) then 0 else 2:=by rw [kiErr,if_pos ha,hh.kinds,hnf]
   have hki2:0≤n∧n<(nf:Int)→p=(a:Int)+2+n∧kd=t.getD n.toNat 0:=fun hn=>by
    have e0:kiErr l k g n=0:=by rw [hki,if_pos hn]
    exact ⟨by rw [hp,kiAt,if_pos e0,hh.hres],by rw [hk,kiK,if_pos e0,hh.kinds]⟩
   rw [←hr] at hki;have HKI:=hD hki;have HKI2:=hD hki2;have HNO:=hD hno;have HTQ:=hD hTq;have HNF:=hD hnf;have HQT:=hD hqT;subst hxa;obtain ⟨bat,bsz,bkd,bty,bmk,bnx⟩:=b;dsimp only at hbq;subst hbq;clear hp hk hr hno h hc hx hd ha hh f1 f2 rt hsw hst hi0 hi1 hT hTq hqT hnf hki hki2;go_in;go_upto_region 1 with (fail)
   refine wpb1 (39) (#[.int .i64 k,.int .i64 g]) ?_;rintro wa1 ⟨g1,b⟩
   replace B:=B.trans (b.mono B.size);clear b;replace c_g1:=g1.five;go_wp2_with fail;refine (CK.out _ (H.out.below B)).mono ?_;rintro e wa2 ⟨rfl,b⟩
   replace g1:=g1.below b;replace c_g1:=g1.five;replace B:=B.trans (b.mono B.size);clear b;go_wp2_with fail;refine (RT.out _ (H.out.below B)).mono ?_;rintro e wa3 ⟨rfl,b⟩
   replace g1:=g1.below b;replace c_g1:=g1.five;replace B:=B.trans (b.mono B.size);clear b;clear c_g1;clear g1;go_wp2_with fail;refine (FT.out _ (H.out.below B)).mono ?_;rintro e wa4 ⟨rfl,b⟩
   replace B:=B.trans (b.mono B.size);clear b;go_upto_region 8 with (fail)
   refine wpb1 (64) (#[.int .i64 bat,.int .i64 bsz,.int .i64 bkd,.int .i64 q,.bool bmk,.int .u64 bnx.toNat]) ?_;rintro wa5 ⟨g2,b⟩
   replace B:=B.trans (b.mono B.size);clear b;replace c_g2:=g2.five;go_wp2_with fail;refine (T3.out _ (H.out.below B)).mono ?_;rintro e wa6 ⟨rfl,b⟩
   replace g2:=g2.below b;replace c_g2:=g2.five;replace B:=B.trans (b.mono B.size);clear b;go_upto_region 11 with (fail)
   refine wpb10 (51) (#[.int .i64 sw,.int .i64 st]) ?_;rintro wa7 ⟨g3,b⟩
   replace g2:=g2.below b;replace c_g2:=g2.five;replace B:=B.trans (b.mono B.size);clear b;replace c_g3:=g3.five;go_wp2_with fail;refine (KT.out _ (H.out.below B)).mono ?_;rintro e wa8 ⟨xt,rfl,ot,b⟩
   replace g2:=g2.below b;replace c_g2:=g2.five;replace g3:=g3.below b;replace c_g3:=g3.five;replace B:=B.trans (b.mono B.size);clear b;clear c_g3;clear g3;obtain ⟨ad,yt,t2,iy,m3,ht2,hby⟩:=ot.rd.at_ HQT.out;obtain rfl:t2=t:=by have:=ht2.out;rw [HTQ.out] at this;injection this with e;exact e.symm
   have lx:=Rd.len hby.out Tryz.underlying66;rw [←HNF.out] at lx;have HBY:=hD hby.out;clear ht2 hby ot;by_cases hn:0≤n∧n<(nf:Int)
   ·obtain ⟨hn0,hn1⟩:=hn;obtain ⟨e1,e2⟩:=HKI2.out ⟨hn0,hn1⟩
    have hr0:r=0:=by rw [HKI.out,if_pos ⟨hn0,hn1⟩]
    obtain ⟨i,rfl⟩:=Int.eq_ofNat_of_zero_le hn0;obtain ⟨bd,kk,ib,m4,hkk⟩:=HBY.out.at_ (P:=Tryz.prog) Tryz.underlying66 one_u8 (k:=i) (by rw [←HNF.out];omega)
    have hkd:kd=kk:=by rw [e2,Int.toNat_natCast,List.getD_eq_getElem?_getD,hkk.out];rfl
    subst hr0;subst hkd;subst e1;have g0:decide ((i:Int)<0)=false:=decide_eq_false (by omega)
    have g4:decide ((nf:Int)≤(i:Int))=false:=decide_eq_false (by omega)
    have g4':decide (nf≤i)=false:=decide_eq_false (by omega)
    have w1:IntKind.i64.wrap ((a:Int)+2)=(a:Int)+2:=IntWalk.i64_in _ (by omega)
    have w2:IntKind.i64.wrap ((a:Int)+2+(i:Int))=(a:Int)+2+(i:Int):=IntWalk.i64_in _ (by omega)
    clear e2 hkk hn0 hn1;go_wp2;go_big_quiet (fail)
    go_wp2
    go_ret3
    exact ⟨rfl,below_drewN B _⟩
   ·have hr0:r=2:=by rw [HKI.out,if_neg hn]
    obtain ⟨rfl,rfl⟩:=HNO.out (by rw [hr0];decide)
    subst hr0;by_cases hneg:n<0
    ·have g0:decide (n<0)=true:=decide_eq_true hneg;clear hn hneg;go_wp2
     go_ret3
     exact ⟨rfl,B⟩
    ·have g0:decide (n<0)=false:=decide_eq_false hneg;have g4:decide ((nf:Int)≤n)=true:=decide_eq_true (by omega)
     clear hn hneg;go_wp2
     go_ret3
     exact ⟨rfl,B⟩
end
section
open Go.RowKit L01 L02 L05 L06 L07 L13 L14 L15 L18 L19 L20
end
section
open Go.RowKit
def PtrH (w:World) (v:Value) (tt:Option (Int×Int)):Prop:=match tt with
 | none=>v=.pointer none
 | some t=>∃g,v=.pointer (some ⟨g,0,none⟩)∧Bx w g 39 #[.int .i64 t.1,.int .i64 t.2]
theorem PtrH.below {w w':World} {v:Value} {tt:Option (Int×Int)} (h:PtrH w v tt) (hb:Below w.heap.size w w'):PtrH w' v tt:=by
 cases tt with
 | none=>exact h
 | some t=>obtain ⟨g,h1,h2⟩:=h;exact ⟨g,h1,h2.below hb⟩
end
section
open Go.RowKit L01 L02 L05 L06 L07 L13 L14 L15 L18 L19 L20
theorem ent_own {w:World} {base:Nat} {a:Int} {x:UInt64} (h:base≤w.heap.size):OwnE (w.alloc (.cells #[.int .i64 a,.int .u64 x.toNat] 131)) base (.slice (some ⟨w.heap.size,0,none⟩) 1 1) [(a,x)]:=
 ⟨rfl,.inr ⟨w.heap.size,1,#[.int .i64 a,.int .u64 x.toNat],rfl,h,blk_new w _,Nat.le_refl _,by decide,rfl,rfl⟩⟩
theorem setV_f {k:UInt8} {x:UInt64} (h:k.toNat=2):setV k x=if FloatOk x then x else no:=by
 unfold setV;by_cases hf:FloatOk x
 ·rw [if_neg (fun e=>e.2 hf),if_pos hf]
 ·rw [if_pos ⟨h,hf⟩,if_neg hf]
theorem setV_o {k:UInt8} {x:UInt64} (h:k.toNat≠2):setV k x=x:=by
 unfold setV;rw [if_neg (fun e=>h e.1)]
theorem new_cases {l:List UInt64} {k a nn q i:Nat} {sg:Int} {b:Hb} {t:List UInt8} {kd:UInt8} {x:UInt64} (h:L19.Fd l k a nn q i sg b t kd x) (h3:kd.toNat=3) (hx:x≠0):(newErr l x.toNat=0∨newErr l x.toNat=23)∧(x.toNat:Int)≤2048:=by
 have rt:=h.hd.rt;obtain ⟨c,hc,e⟩:=(h.ref h3).resolve_left hx;obtain ⟨a',h1,h2,h3',h4,_,_,_,h8,_⟩:=objs_at rt.al hc
 have:=rt.sz.2.1;have hr:128≤(x.toNat:Int)∧(x.toNat:Int)<2048:=by rw [←e,h2];omega
 refine ⟨?_,by omega⟩
 unfold L18.newErr;rw [if_pos rt.sl,if_pos hr]
 by_cases hn:next (slots l)=none
 ·rw [if_pos hn];exact .inr rfl
 ·rw [if_neg hn];exact .inl rfl
theorem Get24_any (v:Value) (l:List UInt64) (sl g n:Int) (x:UInt64) (r:Int) (hx:x=giV l sl g n) (hr:r=giE l sl g n) (w:World) (h:Words w v l):
  Calls Tryz.prog 32 #[v,.agg #[.int .i64 sl,.int .i64 g],.int .i64 n] w fun e w'=>e=.returned (.tuple #[.int .u64 x.toNat,.int .i64 r])∧Below w.heap.size w w':=by
 have B:=Below.refl w.heap.size w;have H:=hD h;obtain ⟨p,hp⟩:=exq (kiAt l sl g n)
 obtain ⟨kd,hkd⟩:=exq (kiK l sl g n)
 obtain ⟨e0,he⟩:=exq (kiErr l sl g n)
 have FT:=hD (find24_any v l sl g n p kd e0 hp hkd he)
 have hx0:r≠0→x=0:=fun h0=>by rw [hx,giV,if_neg (by rw [←hr];exact h0)]
 by_cases h0:e0=0;case neg=>
  have hre:r=e0:=by rw [hr,giE,←he,if_neg h0]
  obtain rfl:=hx0 (by rw [hre];exact h0)
  subst hre;have n1:(r != 0)=true:=by rw [bne_iff_ne];exact h0
  clear hx hr hx0 h hp hkd he h0;go_in;go_upto_region 1 with (fail)
  refine wpb1 (39) (#[.int .i64 sl,.int .i64 g]) ?_;rintro wa1 ⟨g1,b⟩
  replace B:=B.trans (b.mono B.size);clear b;replace c_g1:=g1.five;go_wp2_with fail;refine (FT.out _ (H.out.below B)).mono ?_;rintro e wa2 ⟨rfl,b⟩
  replace g1:=g1.below b;replace c_g1:=g1.five;replace B:=B.trans (b.mono B.size);clear b;go_wp2
  go_ret2
  exact ⟨rfl,B⟩
 case pos=>
  subst h0;by_cases h3:kd.toNat=3
  ·have hre:r=42:=by rw [hr,giE,if_pos he.symm,←hkd,if_pos h3]
   obtain rfl:=hx0 (by rw [hre];decide)
   subst hre;have k3:((kd.toNat:Int)==3)=true:=by rw [beq_iff_eq];omega
   clear hx hr hx0 h hp hkd he h3;go_in;go_upto_region 1 with (fail)
   refine wpb1 (39) (#[.int .i64 sl,.int .i64 g]) ?_;rintro wa1 ⟨g1,b⟩
   replace B:=B.trans (b.mono B.size);clear b;replace c_g1:=g1.five;go_wp2_with fail;refine (FT.out _ (H.out.below B)).mono ?_;rintro e wa2 ⟨rfl,b⟩
   replace g1:=g1.below b;replace c_g1:=g1.five;replace B:=B.trans (b.mono B.size);clear b;go_wp2
   go_ret2
   exact ⟨rfl,B⟩
  ·have hre:r=0:=by rw [hr,giE,if_pos he.symm,←hkd,if_neg h3]
   have k3:((kd.toNat:Int)==3)=false:=by rw [beq_eq_false_iff_ne];omega
   obtain ⟨k,a,nn,q,i,b,t,kd',x',rfl,rfl,fd⟩:=Fd.of he.symm;have hxx:x=x':=by rw [hx,giV,if_pos (by rw [←hr];exact hre),fd.hW]
   have hpp:p=(a:Int)+2+(i:Int):=by rw [hp,fd.hAt];omega
   have HX:=hD fd.hx;subst hre;subst hxx;subst hpp;clear hx hr hx0 h hp hkd he h3 fd;go_in;go_upto_region 1 with (fail)
   refine wpb1 (39) (#[.int .i64 k,.int .i64 g]) ?_;rintro wa1 ⟨g1,b⟩
   replace B:=B.trans (b.mono B.size);clear b;replace c_g1:=g1.five;go_wp2_with fail;refine (FT.out _ (H.out.below B)).mono ?_;rintro e wa2 ⟨rfl,b⟩
   replace g1:=g1.below b;replace c_g1:=g1.five;replace B:=B.trans (b.mono B.size);clear b;obtain ⟨ad,x2,ia,m0,hx2⟩:=(H.out.below B).at_ (P:=Tryz.prog) Tryz.underlying22 one_u64 (k:=a+2+i) (List.getElem?_eq_some_iff.1 HX.out).1;obtain rfl:x2=x:=by have:=hx2.out;rw [HX.out] at this;injection this with e;exact e.symm
   have ia2:∀W,(Instr.indexAt 22 v (.int .i64 ((a:Int)+2+(i:Int)))).run Tryz.prog W=.ok (.pointer (some ad)) W:=ia;clear hx2 ia;go_wp2
   go_ret2
   exact ⟨rfl,B⟩
theorem Set24_any (v:Value) (l:List UInt64) (sl g n:Int) (x:UInt64) (E:List (Int×UInt64)) (r:Int) (hx:E=siL l sl g n x) (hr:r=giE l sl g n) (w:World) (h:Words w v l):
  Calls Tryz.prog 26 #[v,.agg #[.int .i64 sl,.int .i64 g],.int .i64 n,.int .u64 x.toNat] w fun e w'=>∃y,e=.returned (.tuple #[y,.int .i64 r])∧OwnE w' w.heap.size y E∧Below w.heap.size w w':=by
 have B:=Below.refl w.heap.size w;have H:=hD h;obtain ⟨p,hp⟩:=exq (kiAt l sl g n)
 obtain ⟨kd,hkd⟩:=exq (kiK l sl g n)
 obtain ⟨e0,he⟩:=exq (kiErr l sl g n)
 have FT:=hD (find24_any v l sl g n p kd e0 hp hkd he)
 have hx0:r≠0→E=[]:=fun h0=>by rw [hx,siL,if_neg (by rw [←hr];exact h0)]
 by_cases h0:e0=0;case neg=>
  have hre:r=e0:=by rw [hr,giE,←he,if_neg h0]
  obtain rfl:=hx0 (by rw [hre];exact h0)
  subst hre;have n1:(r != 0)=true:=by rw [bne_iff_ne];exact h0
  clear hx hr hx0 h hp hkd he h0;go_in;go_upto_region 1 with (fail)
  refine wpb1 (39) (#[.int .i64 sl,.int .i64 g]) ?_;rintro wa1 ⟨g1,b⟩
  replace B:=B.trans (b.mono B.size);clear b;replace c_g1:=g1.five;go_wp2_with fail;refine (FT.out _ (H.out.below B)).mono ?_;rintro e wa2 ⟨rfl,b⟩
  replace g1:=g1.below b;replace c_g1:=g1.five;replace B:=B.trans (b.mono B.size);clear b;go_wp2
  go_ret2
  exact ⟨_,rfl,OwnE.nil _ _,B⟩
 case pos=>
  subst h0;by_cases h3:kd.toNat=3
  ·have hre:r=42:=by rw [hr,giE,if_pos he.symm,←hkd,if_pos h3]
   obtain rfl:=hx0 (by rw [hre];decide)
   subst hre;have k3:((kd.toNat:Int)==3)=true:=by rw [beq_iff_eq];omega
   clear hx hr hx0 h hp hkd he h3;go_in;go_upto_region 1 with (fail)
   refine wpb1 (39) (#[.int .i64 sl,.int .i64 g]) ?_;rintro wa1 ⟨g1,b⟩
   replace B:=B.trans (b.mono B.size);clear b;replace c_g1:=g1.five;go_wp2_with fail;refine (FT.out _ (H.out.below B)).mono ?_;rintro e wa2 ⟨rfl,b⟩
   replace g1:=g1.below b;replace c_g1:=g1.five;replace B:=B.trans (b.mono B.size);clear b;go_wp2
   go_ret2
   exact ⟨_,rfl,OwnE.nil _ _,B⟩
  ·have hre:r=0:=by rw [hr,giE,if_pos he.symm,←hkd,if_neg h3]
   have k3:((kd.toNat:Int)==3)=false:=by rw [beq_eq_false_iff_ne];omega
   have hE:E=[(p,setV kd x)]:=by rw [hx,siL,if_pos (by rw [←hr];exact hre),←hp,←hkd]
   subst hre;subst hE;by_cases h2:kd.toNat=2
   ·have k2:((kd.toNat:Int)==2)=true:=by rw [beq_iff_eq];omega
    have HV:=hD (setV_f (x:=x) h2)
    have hxl:=toNat_lt x;have w1:=and_int (a:=(x.toNat:Int) / 4503599627370496) 11 (by omega) (by omega) 2047 (by decide) (by omega)
    rw [show ((2 ^ 11:Nat):Int)=2048 from rfl] at w1;have hwr:IntKind.u64.wrap ((x.toNat:Int)*4096)=(x.toNat:Int)*4096 % 18446744073709551616:=rfl;obtain ⟨q1,hq1⟩:=exq ((x.toNat:Int) / 4503599627370496 % 2048==2047)
    obtain ⟨q2,hq2⟩:=exq ((x.toNat:Int)*4096 % 18446744073709551616 != 0)
    have hfi:(q1=true∧q2=true∧x.toNat≠9221120237041090561)↔¬FloatOk x:=by
     rw [←float_iff19 x,hq1,hq2,beq_iff_eq,bne_iff_ne]
    have HFI:=hD hfi;have q1e:=hq1.symm;have q2e:=hq2.symm;clear hx hr hx0 h hp hkd he h3 h2 hq1 hq2 hfi;cases q1 <;> cases q2;all_goals
     go_in;go_upto_region 1 with (fail)
     refine wpb1 (39) (#[.int .i64 sl,.int .i64 g]) ?_;rintro wa1 ⟨g1,b⟩
     replace B:=B.trans (b.mono B.size);clear b;replace c_g1:=g1.five;go_wp2_with fail;refine (FT.out _ (H.out.below B)).mono ?_;rintro e wa2 ⟨rfl,b⟩
     replace g1:=g1.below b;replace c_g1:=g1.five;replace B:=B.trans (b.mono B.size);clear b;go_wp2
     go_ret2
     refine ⟨_,rfl,?_,B.alloc B.size _⟩
     first
      | (rw [HV.out,if_pos (Decidable.not_not.1 (fun hn=>by have:=HFI.out.2 hn;simp at this))];exact ent_own B.size)
      | (have e9:setV kd x=no:=(by rw [HV.out];exact Classical.byCases (p:=FloatOk x) (fun hf=>by rw [if_pos hf];apply UInt64.toNat.inj;exact Decidable.not_not.1 (fun hn=>HFI.out.1 ⟨by first | rfl | trivial,by first | rfl | trivial,hn⟩ hf)) (fun hf=>by rw [if_neg hf]));rw [e9];exact ent_own (x:=no) B.size)
   ·have k2:((kd.toNat:Int)==2)=false:=by rw [beq_eq_false_iff_ne];omega
    have HV:=hD (setV_o (x:=x) h2)
    clear hx hr hx0 h hp hkd he h3 h2;go_in;go_upto_region 1 with (fail)
    refine wpb1 (39) (#[.int .i64 sl,.int .i64 g]) ?_;rintro wa1 ⟨g1,b⟩
    replace B:=B.trans (b.mono B.size);clear b;replace c_g1:=g1.five;go_wp2_with fail;refine (FT.out _ (H.out.below B)).mono ?_;rintro e wa2 ⟨rfl,b⟩
    replace g1:=g1.below b;replace c_g1:=g1.five;replace B:=B.trans (b.mono B.size);clear b;go_wp2
    go_ret2
    refine ⟨_,rfl,?_,B.alloc B.size _⟩
    rw [HV.out]
    exact ent_own B.size
end
section
open Go Go.RowKit
section
variable {P:Program} {ops:Array Oper} {md:Region.Mode} {C:Array Bool→World→Prop} {nn:Nat→Bool} {x:Nat→Value} {T:Nat→Sem Next→Prop}
def wpAnyH (P:Program) (md:Region.Mode) (ops:Array Oper) (C:Array Bool→World→Prop) (nn:Nat→Bool) (x:Nat→Value) (T:Nat→Sem Next→Prop) (n:Nat) (L:Array Bool→Act→Prop):Nat→Array Bool→Act→Prop
 | 0,listed,a=>L listed a
 | f+1,listed,a=>
  Region.ready md ops listed≠[]∧∀i∈Region.ready md ops listed,i<n∧qOpM P md ops C nn x T i (wpAnyH P md ops C nn x T n L f (listed.setIfInBounds i true)) a
theorem wpAnyH_first {n i:Nat} {oi:Oper} {v:Value} {L:Array Bool→Act→Prop} (hi:ops[i]?=some oi) (hsel:∀(j:Nat) (o:Oper) cs b,ops[j]?=some o→o.op≠.select cs b)
  (hs:Region.sinkB md ops n=true) (hc:Region.chainB md ops n=true) (hn:n<ops.size) (hin:i<n)
  (hdone:∀listed a,L listed a→∀j∈Region.ready md ops listed,n≤j):
  ∀(f:Nat) (listed:Array Bool) (a:Act),HeadInv md ops n listed→
   (∀j oj,ops[j]?=some oj→j≠i→listed.getD j true=false→(∀e∈oj.after,Region.binds md e=true→e.on≠i)→oi.apart ops oj=true)→
   i∈Region.ready md ops listed→YieldsM P md ops C nn x i oi v a∧(nn i=true→T i (execOp a.eval oi))→
   wpAnyH P md ops C nn x T n L f (listed.setIfInBounds i true) (a.put oi.dst v)→wpAnyH P md ops C nn x T n L (f+1) listed a:=by
 intro f;induction f with
 | zero=>
  intro listed a inv _ hr hy H;have hun:=(mem_ready.1 hr).1;refine ⟨fun h=>(by rw [h] at hr;cases hr),fun j hj=>?_⟩
  have hjn:j<n:=by
   rcases Nat.lt_or_ge j n with h | h
   ·exact h
   ·exact absurd hj (tail_waits hs hc hn inv _ i rfl hin hun j h)
  refine ⟨hjn,?_⟩
  by_cases hji:j=i
  ·subst hji;unfold qOpM;simp only [hi];exact ⟨v,hy,H⟩
  ·have:=hdone _ _ H j (ready_mono hj hji)
   omega
 | succ f ih=>
  intro listed a inv hfree hr hy H;have hun:=(mem_ready.1 hr).1;refine ⟨fun h=>(by rw [h] at hr;cases hr),fun j hj=>?_⟩
  have hjn:j<n:=by
   rcases Nat.lt_or_ge j n with h | h
   ·exact h
   ·exact absurd hj (tail_waits hs hc hn inv _ i rfl hin hun j h)
  refine ⟨hjn,?_⟩
  by_cases hji:j=i
  ·subst hji;unfold qOpM;simp only [hi];exact ⟨v,hy,H⟩
  ·have h1:=(H.2 j (ready_mono hj hji)).2;obtain ⟨hjun,oj,hoj,hall⟩:=mem_ready.1 hj;have hnot:∀e∈oj.after,Region.binds md e=true→e.on≠i:=fun e he hb heq=>by
    have h1:=hall e he hb;rw [heq,getD_both hun] at h1;cases h1
   have h2:=qOpM_put hoj (hfree j oj hoj hji hjun hnot) (fun cs b=>hsel i oi cs b hi) (fun cs b=>hsel j oj cs b hoj) hy h1;have hfree':∀k ok,ops[k]?=some ok→k≠i→(listed.setIfInBounds j true).getD k true=false→
     (∀e∈ok.after,Region.binds md e=true→e.on≠i)→oi.apart ops ok=true:=fun k ok hk hki hun hno=>by
    refine hfree k ok hk hki ?_ hno;by_cases hjk:j=k
    ·subst hjk;exact hjun
    ·rw [getD_set_ne true hjk] at hun;exact hun
   refine qOpM_mono (fun a' h3=>ih (listed.setIfInBounds j true) a' (inv.set hj hjn) hfree' (ready_mono hr (Ne.symm hji)) h3.1 ?_) h2;rw [Array.setIfInBounds_comm _ _ hji]
   exact h3.2
theorem wpAnyH_lex {n g:Nat} {Lq:Act→Prop} (hsel:Region.noSelect ops=true) (hs:Region.sinkB md ops n=true) (hc:Region.chainB md ops n=true) (hn:n<ops.size):
  ∀(l:List Oper) (k:Nat) (listed:Array Bool) (a:Act),(∀j,j<l.length→l[j]?=ops[k+j]?)→k+l.length=n→HeadInv md ops n listed→(∀j,j<k→listed.getD j false=true)→
  Region.lexHead md ops g l.length k listed=true→wpM P md ops C nn x T Lq l k a→
  wpAnyH P md ops C nn x T n (fun listed' a'=>Region.seqB md ops g n listed'=true∧(∀j,j<n→listed'.getD j false=true)∧Lq a') l.length listed a
 | [],k,listed,a,_,hk,_,hd,hB,h=>by
  have:k=n:=by simpa using hk
  subst this;exact ⟨by simpa [Region.lexHead] using hB,hd,h⟩
 | o :: l,k,listed,a,hl,hk,inv,hd,hB,h=>by
  have h0:ops[k]?=some o:=by simpa using (hl 0 (by simp)).symm
  simp only [List.length_cons,Region.lexHead,Bool.and_eq_true] at hB;obtain ⟨⟨hr,hf⟩,hB'⟩:=hB;have hkn:k<n:=by simp only [List.length_cons] at hk;omega
  have hr':k∈Region.ready md ops listed:=by simpa using hr
  obtain ⟨v,hy,hK⟩:=h;have hun:=(mem_ready.1 hr').1;exact wpAnyH_first h0 (Region.noSelect_spec hsel) hs hc hn hkn (fun listed' a' hL=>seqB_ready hL.1) l.length listed a inv (Region.free_spec h0 hf) hr' hy
   (wpAnyH_lex hsel hs hc hn l (k+1) _ _ (fun j hj=>by have:=hl (j+1) (by simp;omega);simpa [Nat.add_assoc,Nat.add_comm 1 j] using this) (by simp only [List.length_cons] at hk;omega) (inv.set hr' hkn) (fun j hj=>by
    by_cases hjk:j=k
    ·subst hjk;exact (getD_on hun).2
    ·rw [getD_set_ne false (Ne.symm hjk)];exact hd j (by omega)) hB' hK)
theorem wpAny_of_H {G:Type} {val:G→Nat→Value} {V:G→Prop} {Ag:Array Bool→G→G→Prop} {Cg:G→Array Bool→World→Prop} {Tg:G→Nat→Sem Next→Prop} {Q':Exit→Act→World→Prop} {n gt:Nat} {L:G→Array Bool→Act→Prop}
  (hL:∀g l a w,Cg g l w→L g l a→wpAny P md ops Q' gt l a w)
  (hrf:∀(l:Array Bool) g,Ag l g g) (htr:∀(l:Array Bool) g g' g'',Ag l g g'→Ag l g' g''→Ag l g g'') (hmn:∀(l:Array Bool) i g g',Ag (l.setIfInBounds i true) g g'→l.getD i true=false→Ag l g g')
  (hvl:∀(l:Array Bool) i g g',nn i=true→l.getD i true=false→Ag (l.setIfInBounds i true) g g'→val g i=val g' i) (hag:∀(l:Array Bool) g g' w,Ag l g g'→Cg g l w→Cg g' l w)
  (hT:∀i s (l:Array Bool) w g,nn i=true→Tg g i s→V g→i∈Region.ready md ops l→Cg g l w→uponN P (fun v w'=>∃g',V g'∧Ag l g g'∧v=val g' i∧Cg g' (l.setIfInBounds i true) w') (s.run P w)):
  ∀(fuel:Nat) (l:Array Bool) (a:Act) (w:World) (g0:G),V g0→Cg g0 l w→
  (∀g,V g→Ag l g0 g→wpAnyH P md ops (Cg g) nn (val g) (Tg g) n (L g) fuel l a)→wpAny P md ops Q' (fuel+gt) l a w
 | 0,l,a,w,g0,hg0,hC,h=>by rw [Nat.zero_add];exact hL g0 l a w hC (h g0 hg0 (hrf _ _))
 | fuel+1,l,a,w,g0,hg0,hC,h=>by
  rw [show fuel+1+gt=(fuel+gt)+1 by omega]
  refine ⟨fun h0=>absurd h0 (h g0 hg0 (hrf _ _)).1,fun i hi=>?_⟩
  have hun:=(mem_ready.1 hi).1;have h1:=((h g0 hg0 (hrf _ _)).2 i hi).2;unfold qOpM at h1;unfold wpOp;split
  ·rename_i ho;simp only [ho] at h1
  ·rename_i o ho;simp only [ho] at h1;obtain ⟨v,⟨h2,hT0⟩,h3⟩:=h1;have next:nn i=true→∀g',V g'→Ag l g0 g'→∀w',Cg g' (l.setIfInBounds i true) w'→wpAny P md ops Q' (fuel+gt) (l.setIfInBounds i true) (a.put o.dst (val g' i)) w':=by
    intro hn g' hg' hA w' hC';refine wpAny_of_H (n:=n) hL hrf htr hmn hvl hag hT fuel _ _ w' g' hg' hC' fun g hg hA2=>?_;have h4:=((h g hg (htr _ _ _ _ hA (hmn _ _ _ _ hA2 hun))).2 i hi).2;unfold qOpM at h4;simp only [ho] at h4;obtain ⟨v',⟨h5,_⟩,h6⟩:=h4;rcases h5 with ⟨_,e5,_⟩ | ⟨hne,_⟩
    ·rw [hvl _ _ _ _ hn hun hA2,←e5];exact h6
    ·rw [hn] at hne;cases hne
   rcases h2 with ⟨hn,hv,hw⟩ | ⟨hn,h2⟩
   ·rw [if_pos hw]
    left;have h5:=hT i _ l w g0 hn (hT0 hn) hg0 hi hC;unfold Oper.wp
    generalize (execOp a.eval o).run P w=r at*
    cases r with
    | ok n w'=>
     cases n <;> simp only [uponN] at h5 <;> simp only [Oper.upon]
     case value u=>obtain ⟨g',e1,e2,rfl,e4⟩:=h5;exact next hn g' e1 e2 _ e4
     case enter f args=>
      refine h5.mono fun e w'' ⟨u,he,g',e1,e2,e3,e4⟩=>?_;subst he;subst e3;exact next hn g' e1 e2 _ e4
    | halt y w'=>simp only [uponN] at h5
   ·have hval:∀g,V g→Ag (l.setIfInBounds i true) g0 g→wpAnyH P md ops (Cg g) nn (val g) (Tg g) n (L g) fuel (l.setIfInBounds i true) (a.put o.dst v):=by
     intro g hg hA2;have hA:=hmn _ _ _ _ hA2 hun;have h4:=((h g hg hA).2 i hi).2;unfold qOpM at h4;simp only [ho] at h4;obtain ⟨v',⟨h5,_⟩,h6⟩:=h4;rcases h5 with ⟨e,_⟩ | ⟨_,h5⟩
     ·rw [hn] at e;cases e
     ·have hvv:v=v':=by
       rcases h2 with ⟨hw,ha⟩ | ⟨hw,rfl,_⟩
       ·rcases h5 with ⟨_,hb⟩ | ⟨hw',_⟩
        ·exact uponV_val (ha l w hi hC) (hb l w hi (hag _ _ _ _ hA hC))
        ·rw [hw] at hw';cases hw'
       ·rcases h5 with ⟨hw',_⟩ | ⟨_,e,_⟩
        ·rw [hw] at hw';cases hw'
        ·exact e.symm
      rw [hvv];exact h6
    rcases h2 with ⟨hw,ha⟩ | ⟨hw,rfl,hv⟩
    ·rw [if_pos hw]
     left;have h5:=ha l w hi hC;unfold Oper.wp
     generalize (execOp a.eval o).run P w=r at*
     cases r with
     | ok n w'=>
      cases n <;> simp only [uponV] at h5 <;> simp only [Oper.upon]
      case value u=>obtain ⟨e1,e2⟩:=h5;rw [e1];exact wpAny_of_H (n:=n) hL hrf htr hmn hvl hag hT fuel _ _ w' g0 hg0 e2 hval
      case skip=>obtain ⟨e1,e2⟩:=h5;rw [←e1];exact wpAny_of_H (n:=n) hL hrf htr hmn hvl hag hT fuel _ _ w' g0 hg0 e2 hval
     | halt y w'=>simp only [uponV] at h5
    ·rw [if_neg (by rw [hw];exact Bool.false_ne_true)]
     exact wpAny_of_H (n:=n) hL hrf htr hmn hvl hag hT fuel _ _ w g0 hg0 (hv l w hi hC) hval
end
structure FutP (w:World) (p:World→Prop) where
 W:World
 h:Below w.heap.size w W
 hp:p W
def CH (w:World) (ns:List Nat) (dep:Nat→List Nat) (Φ:Nat→(Nat→Value)→World→Prop) (g:Nat→Value):Array Bool→World→Prop:=fun listed W=>
 Below w.heap.size w W∧∀k∈ns,listed.getD k false=true→Φ k g W∧∀j∈dep k,listed.getD j false=true
section
variable {P:Program} {ops:Array Oper} {rest:List Oper} {o:Oper} {a:Act} {Q:Act→Prop} {k:Nat} {md:Region.Mode} {T:Nat→Sem Next→Prop} {w:World} {ns:List Nat} {dep:Nat→List Nat} {Φ:Nat→(Nat→Value)→World→Prop} {g:Nat→Value}
theorem wpH_nil {C:Array Bool→World→Prop} {nn:Nat→Bool} {x:Nat→Value} (h:Q a):wpM P md ops C nn x T Q [] k a:=h
theorem wpH_read0 (hV:isV o.op=true) (hn:(ns.contains k)=false)
  (h:wpQuiet P ops (fun W=>∃x:Fut w,W=x.W) (fun a'=>wpM P md ops (CH w ns dep Φ g) (fun i=>ns.contains i) g T Q rest (k+1) a') [o] a):wpM P md ops (CH w ns dep Φ g) (fun i=>ns.contains i) g T Q (o :: rest) k a:=by
 have skip:∀{listed:Array Bool} {W:World},CH w ns dep Φ g listed W→CH w ns dep Φ g (listed.setIfInBounds k true) W:=fun {listed W} hW=>by
  refine ⟨hW.1,fun j hj hl=>?_⟩
  have hjk:k≠j:=fun e=>by subst e;rw [List.contains_iff_mem.2 hj] at hn;cases hn
  rw [getD_set_ne false hjk] at hl;obtain ⟨h1,h2⟩:=hW.2 j hj hl;exact ⟨h1,fun i hi=>getD_set_true (h2 i hi)⟩
 unfold wpQuiet at h;split at h
 ·rename_i hw;obtain ⟨v,h1,h2⟩:=h;refine ⟨v,⟨.inr ⟨hn,.inl ⟨hw,fun listed W hl hW=>?_⟩⟩,fun e=>(by have e':ns.contains k=true:=e;rw [hn] at e';cases e')⟩,h2⟩
  have h3:=h1 W ⟨⟨W,hW.1⟩,rfl⟩
  unfold Oper.quietAt at h3;cases hr:(execOp a.eval o).run P W with
  | ok n w'=>
   obtain ⟨u,rfl⟩:=isV_value hV hr;rw [hr] at h3;simp only [Oper.quietUpon] at h3;simp only [uponV]
   obtain ⟨e1,e2⟩:=h3;subst e1;exact ⟨e2,skip hW⟩
  | halt x w'=>rw [hr] at h3;simp only [Oper.quietUpon] at h3
 ·rename_i hw;exact ⟨undef,⟨.inr ⟨hn,.inr ⟨by simpa using hw,rfl,fun listed W hl hW=>skip hW⟩⟩,fun e=>(by have e':ns.contains k=true:=e;rw [hn] at e';cases e')⟩,h⟩
theorem wpH_pure (hn:ns.contains k=false) (hw:Region.wanted o (yielded ops a.tmps)=true) {v:Value} (hr:∀W,(execOp a.eval o).run P W=.ok (.value v) W) (h:wpM P md ops (CH w ns dep Φ g) (fun i=>ns.contains i) g T Q rest (k+1) (a.put o.dst v)):wpM P md ops (CH w ns dep Φ g) (fun i=>ns.contains i) g T Q (o :: rest) k a:=by
 refine ⟨v,⟨.inr ⟨hn,.inl ⟨hw,fun listed W hl hW=>?_⟩⟩,fun e=>(by have e':ns.contains k=true:=e;rw [hn] at e';cases e')⟩,h⟩
 rw [hr W]
 refine ⟨rfl,hW.1,fun j hj hl'=>?_⟩
 have hjk:k≠j:=fun e=>by subst e;rw [List.contains_iff_mem.2 hj] at hn;cases hn
 rw [getD_set_ne false hjk] at hl';obtain ⟨h1,h2⟩:=hW.2 j hj hl';exact ⟨h1,fun i hi=>getD_set_true (h2 i hi)⟩
theorem wpH_new (hn:ns.contains k=true) (hw:Region.wanted o (yielded ops a.tmps)=true) (hT:T k (execOp a.eval o)) (h:wpM P md ops (CH w ns dep Φ g) (fun i=>ns.contains i) g T Q rest (k+1) (a.put o.dst (g k))):wpM P md ops (CH w ns dep Φ g) (fun i=>ns.contains i) g T Q (o :: rest) k a:=
 ⟨g k,⟨.inl ⟨hn,rfl,hw⟩,fun _=>hT⟩,h⟩
end
def TS (P:Program) (w:World) (dep:Nat→List Nat) (V:Nat→Value→Prop) (Φ:Nat→(Nat→Value)→World→Prop) (g:Nat→Value) (k:Nat) (s:Sem Next):Prop:=
 ∀W,Below w.heap.size w W→(∀j∈dep k,Φ j g W)→uponN P (fun v W'=>V k v∧Below W.heap.size W W'∧∀g',g' k=v→(∀j∈dep k,g' j=g j)→Φ k g' W') (s.run P W)
section
variable {P:Program} {w:World} {dep:Nat→List Nat} {V:Nat→Value→Prop} {Φ:Nat→(Nat→Value)→World→Prop} {g:Nat→Value} {k:Nat} {o:Oper} {a:Act}
theorem TS.call {f:FuncId} {xs:Array Operand} {ats:Array TypeId} {dst:Option Tmp} {ty:TypeId} {pos:String} {after:Array Edge} {gd:Option (Nat×Bool)} {av:Array Value} (hav:xs.map a.eval=av) (hf:∀W,(callFunc f (#[]++av++#[])).run P W=.ok (.enter f av) W)
  (h:∀W,Below w.heap.size w W→(∀j∈dep k,Φ j g W)→Calls P f av W fun e W'=>∃v,e=.returned v∧V k v∧Below W.heap.size W W'∧∀g',g' k=v→(∀j∈dep k,g' j=g j)→Φ k g' W'):
  TS P w dep V Φ g k (execOp a.eval ⟨dst,.call ⟨.value (.func f),xs,ats⟩,ty,pos,after,gd⟩):=by
 intro W hW hd;rw [execOp_call_go,hav,hf]
 exact h W hW hd
theorem TS.val {s:Sem Next} (h:∀W,Below w.heap.size w W→(∀j∈dep k,Φ j g W)→∃v W',s.run P W=.ok (.value v) W'∧V k v∧Below W.heap.size W W'∧∀g',g' k=v→(∀j∈dep k,g' j=g j)→Φ k g' W'):TS P w dep V Φ g k s:=by
 intro W hW hd;obtain ⟨v,W',h1,h2⟩:=h W hW hd;rw [h1];exact h2
theorem TS.make {t:TypeId} {l c:Operand} (ho:o.op=.makeSlice t l c) {lv cv:Value} (hl:a.eval l=lv) (hc:a.eval c=cv)
  (h:∀W,Below w.heap.size w W→(∀j∈dep k,Φ j g W)→∃v W',(Instr.makeSlice t lv cv).run P W=.ok v W'∧V k v∧Below W.heap.size W W'∧∀g',g' k=v→(∀j∈dep k,g' j=g j)→Φ k g' W'):TS P w dep V Φ g k (execOp a.eval o):=by
 refine TS.val fun W hW hd=>?_;obtain ⟨v,W',h1,h2⟩:=h W hW hd;refine ⟨v,W',?_,h2⟩
 simp [execOp,ho,hl,hc,h1]
theorem TS.sem {s:Sem Value} (hs:execOp a.eval o=(do pure (Next.value (←s)))) (h:∀W,Below w.heap.size w W→(∀j∈dep k,Φ j g W)→∃v W',s.run P W=.ok v W'∧V k v∧Below W.heap.size W W'∧∀g',g' k=v→(∀j∈dep k,g' j=g j)→Φ k g' W'):TS P w dep V Φ g k (execOp a.eval o):=by
 refine TS.val fun W hW hd=>?_;obtain ⟨v,W',h1,h2⟩:=h W hW hd;refine ⟨v,W',?_,h2⟩
 rw [hs,Sem.run_bind,h1];rfl
end
theorem wp_region_ftail {P:Program} {id:Nat} {Q:Exit→Act→World→Prop} {a:Act} {w:World} {l:List Oper} (n:Nat) (ns:List Nat) (dep:Nat→List Nat) (V:Nat→Value→Prop) (Φ:Nat→(Nat→Value)→World→Prop)
  (hm:P.follows .mixedOrders=true) (hB:Region.lexTailB .any l.toArray n=true)
  (hnj:(ns.all fun k=>decide (k<n) && match l.toArray[k]? with | some o=>(dep k).all (fun j=>ns.contains j && o.after.any fun e=>Region.binds .any e && e.on==j) | none=>false)=true)
  (hst:∀k∈ns,∀g W W',Φ k g W→Below W.heap.size W W'→Φ k g W')
  (hdp:∀k∈ns,∀g g' W,(∀j,(j=k∨j∈dep k)→g j=g' j)→Φ k g W→Φ k g' W)
  (hV0:∀k∈ns,∃v,V k v)
  (h:∀g,(∀k∈ns,V k (g k))→wpM P .any l.toArray (CH w ns dep Φ g) (fun i=>ns.contains i) g (TS P w dep V Φ g) (fun a'=>∀W,Below w.heap.size w W→(∀k∈ns,Φ k g W)→wpList P l.toArray Q (l.drop n) a' W) (l.take n) 0 a):(Code.region id l.toArray true).wp P Q a w:=by
 simp only [Region.lexTailB,Bool.and_eq_true,decide_eq_true_eq] at hB;obtain ⟨⟨⟨⟨hsel,hn⟩,hs⟩,hc⟩,hlex⟩:=hB;have hn':n<l.length:=by simpa using hn
 have htl:(l.take n).length=n:=by simp;omega
 have hdl:(l.drop n).length=l.toArray.size-n:=by simp
 have inv0:HeadInv .any l.toArray n (Array.replicate l.toArray.size false):=
  ⟨by simp,fun j oj _ hl=>(by rw [getD_replicate_false] at hl;cases hl),fun t _ ht=>getD_in (by simpa using ht) (getD_replicate_false _ _)⟩
 have H:=fun g hg=>wpAnyH_lex (md:=.any) (g:=l.toArray.size-n) hsel hs hc hn (l.take n) 0 _ a (fun j hj=>by
  have hj':j<n:=by rw [htl] at hj;exact hj
  simp [hj']) (by simpa using htl) inv0 (fun j hj=>by omega) (by rw [htl];exact hlex) (h g hg)
 have un:∀{listed:Array Bool} {i:Nat},listed.getD i true=false→listed.getD i false=false:=fun {listed i} h1=>getD_both h1;obtain ⟨g0,hg0⟩:∃g0:Nat→Value,∀k∈ns,V k (g0 k):=by
  have h1:∀k,∃v,k∈ns→V k v:=fun k=>by
   by_cases hk:k∈ns
   ·obtain ⟨v,hv⟩:=hV0 k hk;exact ⟨v,fun _=>hv⟩
   ·exact ⟨undef,fun h=>absurd h hk⟩
  obtain ⟨f,hf⟩:=Classical.axiomOfChoice h1;exact ⟨f,hf⟩
 refine wp_region_any hm ?_
 have:=wpAny_of_H (P:=P) (md:=.any) (ops:=l.toArray) (Q':=Q) (gt:=l.toArray.size-n) (n:=n) (nn:=fun i=>ns.contains i) (G:=Nat→Value) (val:=fun g=>g) (V:=fun g=>∀k∈ns,V k (g k))
  (Ag:=fun listed g g'=>∀k∈ns,listed.getD k false=true→g k=g' k) (Cg:=CH w ns dep Φ) (Tg:=TS P w dep V Φ)
  (L:=fun g listed' a'=>Region.seqB .any l.toArray (l.toArray.size-n) n listed'=true∧(∀j,j<n→listed'.getD j false=true)∧∀W,Below w.heap.size w W→(∀k∈ns,Φ k g W)→wpList P l.toArray Q (l.drop n) a' W)
  (fun g listed a' W hC hL=>by
   obtain ⟨h1,h2,h3⟩:=hL;have hlt:∀k∈ns,k<n:=fun k hk=>by
    have:=List.all_eq_true.1 hnj k hk;simp only [Bool.and_eq_true,decide_eq_true_eq] at this;exact this.1
   have:=wpAny_of_seq (md:=.any) (Q':=Q) (l.drop n) n listed a' W (fun j=>by simp [List.getElem?_drop]) (by rw [hdl];exact h1) (h3 W hC.1 (fun k hk=>(hC.2 k hk (h2 k (hlt k hk))).1))
   rwa [hdl] at this)
  (fun _ _ _ _ _=>rfl) (fun l g g' g'' h1 h2 k hk hl=>(h1 k hk hl).trans (h2 k hk hl))
  (fun listed i g g' h1 h2 k hk hl=>h1 k hk (getD_set_true hl))
  (fun listed i g g' hi h1 h2=>h2 i (List.contains_iff_mem.1 hi) (getD_on h1).2)
  (fun listed g g' W hA hC=>⟨hC.1,fun k hk hl=>⟨hdp k hk g g' W (fun j hj=>by
   rcases hj with rfl | hj
   ·exact hA j hk hl
   ·have hdj:=List.all_eq_true.1 hnj k hk;simp only [Bool.and_eq_true] at hdj;have h2:=(hC.2 k hk hl).2 j hj;cases ho:l.toArray[k]? with
    | none=>rw [ho] at hdj;cases hdj.2
    | some o=>
     have h3:=hdj.2;simp only [ho] at h3;have h4:=List.all_eq_true.1 h3 j hj;simp only [Bool.and_eq_true] at h4;exact hA j (List.contains_iff_mem.1 h4.1) h2) (hC.2 k hk hl).1,(hC.2 k hk hl).2⟩⟩)
  (fun i s listed W g hi hTs hg hr hC=>by
   have hin:i∈ns:=List.contains_iff_mem.1 hi;have hun:=(mem_ready.1 hr).1;have hdj:=List.all_eq_true.1 hnj i hin;simp only [Bool.and_eq_true] at hdj;obtain ⟨o,ho,_⟩:=(mem_ready.1 hr).2;have h3:=hdj.2;simp only [ho] at h3;have hdeps:∀j∈dep i,j∈ns∧listed.getD j false=true:=fun j hj=>by
    have h4:=List.all_eq_true.1 h3 j hj;simp only [Bool.and_eq_true] at h4;exact ⟨List.contains_iff_mem.1 h4.1,ready_after ho h4.2 hr⟩
   have h5:=hTs W hC.1 (fun j hj=>(hC.2 j (hdeps j hj).1 (hdeps j hj).2).1)
   refine uponN_mono (fun v W' ⟨e0,e1,e2⟩=>?_) h5;refine ⟨fun j=>if j=i then v else g j,fun k hk=>?_,fun k hk hl=>?_,by simp,hC.1.trans (e1.mono hC.1.size),fun k hk hl=>?_⟩
   ·by_cases hki:k=i
    ·subst hki;simpa using e0
    ·simpa [hki] using hg k hk
   ·have hki:k≠i:=fun e=>by subst e;rw [un hun] at hl;cases hl
    simp [hki]
   ·by_cases hki:k=i
    ·subst hki;refine ⟨e2 _ (by simp) (fun j hj=>?_),fun j hj=>getD_set_true (hdeps j hj).2⟩
     have hjk:j≠k:=fun e=>by subst e;have:=(hdeps j hj).2;rw [un hun] at this;cases this
     simp [hjk]
    ·rw [getD_set_ne false (Ne.symm hki)] at hl;obtain ⟨f1,f2⟩:=hC.2 k hk hl;refine ⟨hdp k hk g _ W' (fun j hj=>?_) (hst k hk g W W' f1 e1),fun j hj=>getD_set_true (f2 j hj)⟩
     have hji:j≠i:=fun e=>by
      subst e;rcases hj with e | hj
      ·exact hki e.symm
      ·have:=f2 j hj;rw [un hun] at this;cases this
     simp [hji])
  _ _ a (World.drew w) g0 hg0 ⟨(Below.refl _ _).drew,fun k hk hl=>by rw [getD_replicate_false] at hl;cases hl⟩ (fun g hg _=>H g hg)
 rw [htl,show n+(l.toArray.size-n)=l.toArray.size by omega] at this;exact this
def ΦB (b k0:Nat) (mk:Nat→Value) (t:TypeId) (cs:Array Value) (k:Nat) (g:Nat→Value) (W:World):Prop:=k=k0→∃p,g k0=mk p∧Bx W p t cs∧b≤p
def VB (mk:Nat→Value) (_k:Nat) (v:Value):Prop:=∃p,v=mk p
theorem TS.block {P:Program} {w:World} {mk:Nat→Value} {t:TypeId} {cs:Array Value} {g:Nat→Value} {k0:Nat} {o:Oper} {a:Act} (s:Sem Value) (hs:execOp a.eval o=(do pure (Next.value (←s)))) (hr:∀W,s.run P W=.ok (mk W.heap.size) (W.alloc (.cells cs t))):
  TS P w (fun _=>[]) (VB mk) (ΦB w.heap.size k0 mk t cs) g k0 (execOp a.eval o):=
 TS.sem hs fun W hW _=>⟨_,_,hr W,⟨_,rfl⟩,(Below.refl _ _).alloc (Nat.le_refl _) _,fun g' hg' _ _=>⟨_,hg',Bx.new _ _ _,hW.size⟩⟩
theorem wp_region_fblock {P:Program} {id:Nat} {Q:Exit→Act→World→Prop} {a:Act} {w:World} {l:List Oper} (n k0:Nat) (mk:Nat→Value) (t:TypeId) (cs:Array Value) (hmk:∀p q,mk p=mk q→p=q)
  (hm:P.follows .mixedOrders=true) (hB:Region.lexTailB .any l.toArray n=true)
  (hnj:(([k0]:List Nat).all fun k=>decide (k<n) && match l.toArray[k]? with | some o=>(([]:List Nat)).all (fun j=>([k0]:List Nat).contains j && o.after.any fun e=>Region.binds .any e && e.on==j) | none=>false)=true)
  (h:∀g p,g k0=mk p→wpM P .any l.toArray (CH w [k0] (fun _=>[]) (ΦB w.heap.size k0 mk t cs) g) (fun i=>([k0]:List Nat).contains i) g (TS P w (fun _=>[]) (VB mk) (ΦB w.heap.size k0 mk t cs) g)
   (fun a'=>∀W,Below w.heap.size w W→Bx W p t cs→w.heap.size≤p→wpList P l.toArray Q (l.drop n) a' W) (l.take n) 0 a):(Code.region id l.toArray true).wp P Q a w:=by
 refine wp_region_ftail n [k0] (fun _=>[]) (VB mk) (ΦB w.heap.size k0 mk t cs) hm hB hnj ?_ ?_ ?_ ?_
 ·intro k hk g W W' h hb e;obtain ⟨p,a1,a2,a3⟩:=h e;exact ⟨p,a1,a2.below hb,a3⟩
 ·intro k hk g g' W he h e;obtain ⟨p,a1,a2,a3⟩:=h e;subst e;exact ⟨p,by rw [←he k (.inl rfl)];exact a1,a2,a3⟩
 ·intro k _;exact ⟨mk 0,0,rfl⟩
 ·intro g hV;obtain ⟨p,hp⟩:=hV k0 (by simp)
  have h1:=h g p hp;have mono:∀(r:List Oper) (k:Nat) (a':Act),wpM P .any l.toArray (CH w [k0] (fun _=>[]) (ΦB w.heap.size k0 mk t cs) g) (fun i=>([k0]:List Nat).contains i) g (TS P w (fun _=>[]) (VB mk) (ΦB w.heap.size k0 mk t cs) g)
    (fun a'=>∀W,Below w.heap.size w W→Bx W p t cs→w.heap.size≤p→wpList P l.toArray Q (l.drop n) a' W) r k a'→wpM P .any l.toArray (CH w [k0] (fun _=>[]) (ΦB w.heap.size k0 mk t cs) g) (fun i=>([k0]:List Nat).contains i) g (TS P w (fun _=>[]) (VB mk) (ΦB w.heap.size k0 mk t cs) g)
    (fun a'=>∀W,Below w.heap.size w W→(∀k∈[k0],ΦB w.heap.size k0 mk t cs k g W)→wpList P l.toArray Q (l.drop n) a' W) r k a':=by
   intro r;induction r with
   | nil=>
    intro k a' h0 W hW hΦ;obtain ⟨q,b1,b2,b3⟩:=hΦ k0 (by simp) rfl;obtain rfl:=hmk _ _ (hp.symm.trans b1)
    exact h0 W hW b2 b3
   | cons o r ih=>intro k a' h0;obtain ⟨v,h1,h2⟩:=h0;exact ⟨v,h1,ih _ _ h2⟩
  exact mono _ _ _ h1
theorem Bx.rdK {w:World} {p n sz:Nat} {t:TypeId} {cs:Array Value} (h:Bx w p t cs) (hs:cs.size=n*sz) (hn:n≤1048576):Rd w sz (.slice (some ⟨p,0,none⟩) n n) n cs.toList:=by
 refine ⟨_,n,rfl,by omega,by omega,by simpa using hs,fun h=>(by cases h),fun _ ad hh=>?_⟩
 cases hh;refine ⟨rfl,h.lt,fun j u hu=>?_⟩
 rw [show (0+j)=j by omega,h.cell]
 simpa using hu
theorem mk_ptr (p q:Nat) (h:Value.pointer (some ⟨p,0,none⟩)=Value.pointer (some ⟨q,0,none⟩)):p=q:=by
 injection h with h;injection h with h;injection h with h
theorem mk_sl (n p q:Nat) (h:Value.slice (some ⟨p,0,none⟩) n n=Value.slice (some ⟨q,0,none⟩) n n):p=q:=by
 injection h with h;injection h with h;injection h with h
end
end Go.Proofs.YteejianjjpdimaaGreat
