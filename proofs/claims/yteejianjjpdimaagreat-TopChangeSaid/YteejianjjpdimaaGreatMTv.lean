/- Contracts of the functions that the laws 'T' reach, part 22. No condition. -/
import Derived.Test.YteejianjjpdimaaGreatMTu
set_option linter.unusedVariables false
set_option linter.unusedSimpArgs false
set_option maxRecDepth 100000
set_option maxHeartbeats 8000000
namespace Go.Proofs.YteejianjjpdimaaGreat
section
open Go.RowKit L01 L02 L05 L06 L07 L13 L14 L15 L18 L19
theorem fold_step {l:List UInt64} {E:List (Int×UInt64)} {j:Nat} {e:Int×UInt64} (h:E[j]?=some e):(E.take (j+1)).foldl put1 l=put1 ((E.take j).foldl put1 l) e:=by
 rw [List.take_add_one,h,List.foldl_append];rfl
theorem fold_len (l:List UInt64) (E:List (Int×UInt64)):(E.foldl put1 l).length=l.length:=by
 induction E generalizing l with
 | nil=>rfl
 | cons e F ih=>rw [List.foldl_cons,ih,put1_len]
theorem Made_any (v ev:Value) (l:List UInt64) (E:List (Int×UInt64)) (hl:l.length≤1048576) (w:World) (h:Words w v l) (he:Ents w ev E):
  Calls Tryz.prog 35 #[v,ev] w fun e w'=>∃y,e=.returned y∧OwnW w' w.heap.size 42 y (made l E)∧Below w.heap.size w w':=by
 have B:=Below.refl w.heap.size w;have H:=hD h;have HE:=hD he;have HL:=hD hl;have le1:=Rd.len he Tryz.underlying71;have le2:=Rd.len_le he;obtain ⟨N,hN⟩:=exq E.length;rw [←hN] at le1 le2;obtain ⟨M,hM⟩:=exq l.length;have HN:=hD hN;have HM:=hD hM;have hM1:M≤1048576:=by omega
 clear h he hl hN hM;go_in;go_wp2_with fail;refine (Twin_any v l _ (H.out.below B) HL.out).mono ?_;rintro e w1 ⟨y,rfl,oy,b⟩
 replace B:=B.trans (b.mono B.size)
 have HB:=hD (And.intro (own_mono oy (Nat.le_refl _)) B)
 clear oy b B;go_wp2
 go_loopg [6] N (fun g i wr=>∃j:Nat,j≤N∧j≤100∧g=N-j∧i=.int .i64 j∧Hid (OwnW wr w.heap.size 42 y ((E.take j).foldl put1 l)∧Below w.heap.size w wr))
 case atStart=>exact ⟨0,by omega,by omega,by omega,rfl,HB⟩
 case round=>
  clear HB;obtain ⟨j,hj,hj2,rfl,rfl,hh⟩:=hrel;obtain ⟨oy,B⟩:=hh.out;clear hh;by_cases hlt:j<N
  ·by_cases h100:j<100
   ·obtain ⟨b,o,s1,s2,ia,m0,m1,hs⟩:=(HE.out.below B).at_ (k:=j) (by rw [←HN.out];exact hlt)
    have ly:=Rd.len oy.rd Tryz.underlying22;have hlen:((E.take j).foldl put1 l).length=M:=by rw [fold_len,HM.out]
    rw [hlen] at ly;have hst:=fold_step (l:=l) hs.out;by_cases h0:0≤s1
    ·by_cases h1:s1<M
     ·obtain ⟨ad,u0,ia2,ca,fa,hb,-,hset⟩:=own_at (P:=Tryz.prog) oy Tryz.underlying22 one_u64 (k:=s1) h0 (by rw [hlen];exact h1)
      have HR:=hD (show OwnW (wr.setCell ad (.int .u64 s2.toNat)) w.heap.size 42 y ((E.take (j+1)).foldl put1 l)∧Below w.heap.size w (wr.setCell ad (.int .u64 s2.toNat)) from by
       refine ⟨?_,B.setCell (p:=ad) hb _⟩
       rw [hst,put1,if_pos ⟨h0,by rw [hlen];exact h1⟩]
       exact OwnW.set (hset (.int .u64 s2.toNat)))
      have g1:decide (s1<(M:Int))=true:=decide_eq_true h1;have g0:decide (0≤s1)=true:=decide_eq_true h0;clear oy hlen hst hset hs hb B;go_upto_region 6 with (fail)
      refine wp_region_qtail 12 (by kernel_rfl) (by kernel_rfl) ?_;simp only [List.take_succ_cons,List.take_zero,List.drop_succ_cons,List.drop_zero]
      iterate 12 (go_big_quiet_step (fail))
      refine wpQuiet_nil ?_;go_wp2
      go_roundg (N-(j+1))
      case measure=>omega
      case rel=>exact ⟨j+1,by omega,by omega,rfl,by go_num,hD ⟨HR.out.1,HR.out.2.drew⟩⟩
     ·have HR:=hD (show OwnW wr w.heap.size 42 y ((E.take (j+1)).foldl put1 l)∧Below w.heap.size w wr from by
       refine ⟨?_,B⟩
       rw [hst,put1,if_neg (fun h=>h1 (by have h9:s1<_:=h.2;rw [hlen] at h9;exact h9))]
       exact oy)
      clear oy hlen hst hs B;go_wp2
      go_roundg (N-(j+1))
      case measure=>omega
      case rel=>exact ⟨j+1,by omega,by omega,rfl,by go_num,HR⟩
    ·have HR:=hD (show OwnW wr w.heap.size 42 y ((E.take (j+1)).foldl put1 l)∧Below w.heap.size w wr from by
      refine ⟨?_,B⟩
      rw [hst,put1,if_neg (fun h=>h0 h.1)]
      exact oy)
     clear oy hlen hst hs B;go_wp2
     go_roundg (N-(j+1))
     case measure=>omega
     case rel=>exact ⟨j+1,by omega,by omega,rfl,by go_num,HR⟩
   ·obtain rfl:j=100:=by omega
    have HR:=hD (show OwnW wr w.heap.size 42 y (made l E)∧Below w.heap.size w wr from ⟨oy,B⟩)
    clear oy B;go_wp2
    go_ret
    exact ⟨_,rfl,HR.out⟩
  ·have e1:E.take j=E.take 100:=by
    rw [List.take_of_length_le (by rw [←HN.out];omega),List.take_of_length_le (by rw [←HN.out];omega)]
   rw [e1] at oy;have HR:=hD (show OwnW wr w.heap.size 42 y (made l E)∧Below w.heap.size w wr from ⟨oy,B⟩)
   obtain rfl:j=N:=by omega
   clear oy B e1;go_wp2
   go_ret
   exact ⟨_,rfl,HR.out⟩
end
section
open Go.RowKit L02 L07 L13 L14 L15 L16 L18 L19 L20
def zeroH:Array Value:=#[.int .i64 0,.int .i64 0]
def hnA (h:Int×Int):Array Value:=#[.int .i64 h.1,.int .i64 h.2]
def set2 (w:World) (p:Nat) (h:Int×Int):World:=(w.setCell ⟨p,0,none⟩ (.int .i64 h.1)).setCell ⟨p,1,none⟩ (.int .i64 h.2)
def zeroM:Array Value:=#[.slice none 0 0,.slice none 0 0,.slice none 0 0]
def set3m (w:World) (p:Nat) (a b c:Value):World:=((w.setCell ⟨p,0,none⟩ a).setCell ⟨p,1,none⟩ b).setCell ⟨p,2,none⟩ c
theorem Bx.put2 {w:World} {p:Nat} {t:TypeId} {x y:Value} (h:Bx w p t #[x,y]) (s:Int×Int):Bx (set2 w p s) p t (hnA s):=by
 have:=(h.set (i:=0) (.int .i64 s.1)).set (i:=1) (.int .i64 s.2)
 simpa [set2,hnA] using this
theorem Bx.put3 {w:World} {p:Nat} {t:TypeId} {x y z:Value} (h:Bx w p t #[x,y,z]) (a b c:Value):Bx (set3m w p a b c) p t #[a,b,c]:=by
 have:=((h.set (i:=0) a).set (i:=1) b).set (i:=2) c;simpa [set3m] using this
theorem Bx.far2 {w:World} {g p:Nat} {t:TypeId} {cs:Array Value} (h:Bx w g t cs) (hne:g≠p) (s:Int×Int):Bx (set2 w p s) g t cs:=(h.far (p:=⟨p,0,none⟩) hne _).far (p:=⟨p,1,none⟩) hne _
theorem Bx.far3m {w:World} {g p:Nat} {t:TypeId} {cs:Array Value} (h:Bx w g t cs) (hne:g≠p) (a b c:Value):Bx (set3m w p a b c) g t cs:=((h.far (p:=⟨p,0,none⟩) hne _).far (p:=⟨p,1,none⟩) hne _).far (p:=⟨p,2,none⟩) hne _
theorem below_set2 {B:Nat} {w0 w:World} {p:Nat} (h:Below B w0 w) (hp:B≤p) (s:Int×Int):Below B w0 (set2 w p s):=(h.setCell (p:=⟨p,0,none⟩) hp _).setCell (p:=⟨p,1,none⟩) hp _
theorem below_set3m {B:Nat} {w0 w:World} {p:Nat} (h:Below B w0 w) (hp:B≤p) (a b c:Value):Below B w0 (set3m w p a b c):=((h.setCell (p:=⟨p,0,none⟩) hp _).setCell (p:=⟨p,1,none⟩) hp _).setCell (p:=⟨p,2,none⟩) hp _
def FTH (w:World) (b1 b2:Int×Int) (g:Nat×Nat) (φ:Nat→Bool) (W:World):Prop:=
 Below w.heap.size w W∧(φ 10=true→φ 8=true)∧(φ 11=true→φ 9=true)∧(φ 8=true→w.heap.size≤g.1∧Bx W g.1 39 (if φ 10=true then hnA b1 else zeroH))∧
  (φ 9=true→w.heap.size≤g.2∧Bx W g.2 39 (if φ 11=true then hnA b2 else zeroH))∧(φ 8=true→φ 9=true→g.1≠g.2)
def valH2 (g:Nat×Nat) (k:Nat):Value:=if k=8 then .pointer (some ⟨g.1,0,none⟩) else .pointer (some ⟨g.2,0,none⟩)
def AgH2 (φ:Nat→Bool) (g g':Nat×Nat):Prop:=(φ 8=true→g.1=g'.1)∧(φ 9=true→g.2=g'.2)
theorem FTH.dep {w:World} {b1 b2:Int×Int} {g:Nat×Nat}:Dep (FTH w b1 b2 g) [8,9,10,11]:=by
 rintro φ ψ W h ⟨h1,h2,h3,h4,h5,h6⟩
 have e1:=h 8 (by simp);have e2:=h 9 (by simp);have e3:=h 10 (by simp);have e4:=h 11 (by simp)
 rw [e1,e3] at h2;rw [e2,e4] at h3;rw [e1,e3] at h4;rw [e2,e4] at h5;rw [e1,e2] at h6;exact ⟨h1,h2,h3,h4,h5,h6⟩
theorem FTH.agree {w:World} {b1 b2:Int×Int} {g g':Nat×Nat} {φ:Nat→Bool} {W:World} (hA:AgH2 φ g g') (h:FTH w b1 b2 g φ W):FTH w b1 b2 g' φ W:=by
 obtain ⟨h1,h2,h3,h4,h5,h6⟩:=h;exact ⟨h1,h2,h3,fun e=>by rw [←hA.1 e];exact h4 e,fun e=>by rw [←hA.2 e];exact h5 e,fun e e2=>by rw [←hA.1 e,←hA.2 e2];exact h6 e e2⟩
theorem FTH.start {w:World} {b1 b2:Int×Int} {g:Nat×Nat}:FTH w b1 b2 g (fun _=>false) w.drew:=⟨(Below.refl _ w).drew,fun e=>(by cases e),fun e=>(by cases e),fun e=>(by cases e),fun e=>(by cases e),fun e=>(by cases e)⟩
theorem FTH.below {w:World} {b1 b2:Int×Int} {g:Nat×Nat} {φ:Nat→Bool} {W W':World} (h:FTH w b1 b2 g φ W) (hb:Below W.heap.size W W'):FTH w b1 b2 g φ W':=by
 obtain ⟨h1,h2,h3,h4,h5,h6⟩:=h;exact ⟨h1.trans (hb.mono h1.size),h2,h3,fun e=>⟨(h4 e).1,(h4 e).2.below hb⟩,fun e=>⟨(h5 e).1,(h5 e).2.below hb⟩,h6⟩
theorem FTH.alloc1 {w:World} {b1 b2:Int×Int} {g:Nat×Nat} {φ:Nat→Bool} {W:World} (h:FTH w b1 b2 g φ W) (h0:φ 8=false):FTH w b1 b2 (W.heap.size,g.2) (fun j=>j==8 || φ j) (W.alloc (.cells zeroH 39)):=by
 obtain ⟨h1,h2,h3,h4,h5,h6⟩:=h;have h10:φ 10=false:=by
  cases e:φ 10
  ·rfl
  ·rw [h2 e] at h0;cases h0
 refine ⟨h1.alloc h1.size _,fun _=>by simp,fun e=>by simpa using h3 (by simpa using e),fun _=>⟨h1.size,?_⟩,fun e=>?_,fun _ e=>?_⟩
 ·simp [h10];exact Bx.new _ _ _
 ·obtain ⟨a1,a2⟩:=h5 (by simpa using e)
  exact ⟨a1,by simpa using a2.alloc _⟩
 ·have:=(h5 (by simpa using e)).2.lt;show W.heap.size≠g.2;omega
theorem FTH.alloc2 {w:World} {b1 b2:Int×Int} {g:Nat×Nat} {φ:Nat→Bool} {W:World} (h:FTH w b1 b2 g φ W) (h0:φ 9=false):FTH w b1 b2 (g.1,W.heap.size) (fun j=>j==9 || φ j) (W.alloc (.cells zeroH 39)):=by
 obtain ⟨h1,h2,h3,h4,h5,h6⟩:=h;have h10:φ 11=false:=by
  cases e:φ 11
  ·rfl
  ·rw [h3 e] at h0;cases h0
 refine ⟨h1.alloc h1.size _,fun e=>by simpa using h2 (by simpa using e),fun _=>by simp,fun e=>?_,fun _=>⟨h1.size,?_⟩,fun e _=>?_⟩
 ·obtain ⟨a1,a2⟩:=h4 (by simpa using e)
  exact ⟨a1,by simpa using a2.alloc _⟩
 ·simp [h10];exact Bx.new _ _ _
 ·have:=(h4 (by simpa using e)).2.lt;show g.1≠W.heap.size;omega
theorem FTH.store1 {w:World} {b1 b2:Int×Int} {g:Nat×Nat} {φ:Nat→Bool} {W:World} (h:FTH w b1 b2 g φ W) (h8:φ 8=true) (h0:φ 10=false):
  (∀i,W.cell? ⟨g.1,i,none⟩=zeroH[i]?)∧(∀i,W.frozen? ⟨g.1,i,none⟩=false)∧FTH w b1 b2 g (fun j=>j==10 || φ j) (set2 W g.1 b1):=by
 obtain ⟨h1,h2,h3,h4,h5,h6⟩:=h;obtain ⟨a1,a2⟩:=h4 h8;rw [h0] at a2;have a3:Bx W g.1 39 zeroH:=a2;refine ⟨a3.cell,a3.free,below_set2 h1 a1 b1,fun _=>by simpa using h8,fun e=>by simpa using h3 (by simpa using e),fun _=>⟨a1,by simpa using Bx.put2 a3 b1⟩,fun e=>?_,fun _ e=>h6 h8 (by simpa using e)⟩
 obtain ⟨c1,c2⟩:=h5 (by simpa using e)
 exact ⟨c1,by simpa using c2.far2 (Ne.symm (h6 h8 (by simpa using e))) b1⟩
theorem FTH.store2 {w:World} {b1 b2:Int×Int} {g:Nat×Nat} {φ:Nat→Bool} {W:World} (h:FTH w b1 b2 g φ W) (h8:φ 9=true) (h0:φ 11=false):
  (∀i,W.cell? ⟨g.2,i,none⟩=zeroH[i]?)∧(∀i,W.frozen? ⟨g.2,i,none⟩=false)∧FTH w b1 b2 g (fun j=>j==11 || φ j) (set2 W g.2 b2):=by
 obtain ⟨h1,h2,h3,h4,h5,h6⟩:=h;obtain ⟨a1,a2⟩:=h5 h8;rw [h0] at a2;have a3:Bx W g.2 39 zeroH:=a2;refine ⟨a3.cell,a3.free,below_set2 h1 a1 b2,fun e=>by simpa using h2 (by simpa using e),fun _=>by simpa using h8,fun e=>?_,fun _=>⟨a1,by simpa using Bx.put2 a3 b2⟩,fun e _=>h6 (by simpa using e) h8⟩
 obtain ⟨c1,c2⟩:=h4 (by simpa using e)
 exact ⟨c1,by simpa using c2.far2 (h6 (by simpa using e) h8) b2⟩
def TH2 (_k:Nat) (s:Sem Next):Prop:=∀W,s.run Tryz.prog W=.ok (.value (.pointer (some ⟨W.heap.size,0,none⟩))) (W.alloc (.cells zeroH 39))
theorem FXN.belowTH {w:World} {b1 b2:Int×Int} {g:Nat×Nat} (x:FXN (FTH w b1 b2 g)):Below w.heap.size w x.W:=by obtain ⟨V,φ,hF⟩:=x;exact hF.1
theorem FTH.call {w:World} {b1 b2:Int×Int} {g:Nat×Nat} {f:FuncId} {args:Array Value} {v:Value} {x:FXN (FTH w b1 b2 g)} (h:Calls Tryz.prog f args x.W fun e w'=>e=.returned v∧Below x.W.heap.size x.W w'):
  Calls Tryz.prog f args x.W fun e w''=>e=.returned v∧∃y:FXN (FTH w b1 b2 g),w''=y.W:=by
 obtain ⟨V,φ,hF⟩:=x;exact h.mono fun _ w' ⟨he,hb⟩=>⟨he,⟨w',φ,hF.below hb⟩,rfl⟩
def FSt (b0:Nat) (w0:World) (R:World→Prop) (p9 p10:Nat) (t o s:Value) (h:Int×Int) (a b:Nat) (φ:Nat→Bool) (W:World):Prop:=
 Below b0 w0 W∧R W∧Bx W p9 31 (if φ a=true then #[t,o,s] else zeroM)∧Bx W p10 39 (if φ b=true then hnA h else zeroH)
structure StR (b0:Nat) (w0:World) (R:World→Prop) (p9 p10:Nat):Prop where
 below:∀W W',R W→Below W.heap.size W W'→R W'
 set:∀W p t cs i u,(p=p9∧t=31)∨(p=p10∧t=39)→Bx W p t cs→R W→R (W.setCell ⟨p,i,none⟩ u)
 ne:p9≠p10
 le:b0≤p9∧b0≤p10
 size:b0≤w0.heap.size
section
variable {b0:Nat} {w0:World} {R:World→Prop} {p9 p10:Nat} {t o s:Value} {h:Int×Int} {a b:Nat} {φ:Nat→Bool} {W W':World}
theorem FSt.dep:Dep (FSt b0 w0 R p9 p10 t o s h a b) [a,b]:=by
 rintro φ ψ W hh ⟨h1,h2,h3,h4⟩
 have e1:=hh a (by simp);have e2:=hh b (by simp)
 rw [e1] at h3;rw [e2] at h4;exact ⟨h1,h2,h3,h4⟩
theorem FSt.below (hR:StR b0 w0 R p9 p10) (hF:FSt b0 w0 R p9 p10 t o s h a b φ W) (hb:Below W.heap.size W W'):FSt b0 w0 R p9 p10 t o s h a b φ W':=by
 obtain ⟨h1,h2,h3,h4⟩:=hF;exact ⟨h1.trans (hb.mono (Nat.le_trans hR.size h1.size)),hR.below _ _ h2 hb,h3.below hb,h4.below hb⟩
theorem FSt.store9 (hR:StR b0 w0 R p9 p10) (hab:a≠b) (hF:FSt b0 w0 R p9 p10 t o s h a b φ W) (h0:φ a=false):
  (∀i,W.cell? ⟨p9,i,none⟩=zeroM[i]?)∧(∀i,W.frozen? ⟨p9,i,none⟩=false)∧FSt b0 w0 R p9 p10 t o s h a b (fun j=>j==a || φ j) (set3m W p9 t o s):=by
 obtain ⟨h1,h2,h3,h4⟩:=hF;rw [h0] at h3;have x3:Bx W p9 31 zeroM:=h3;have r0:=hR.set _ p9 _ _ 0 t (.inl ⟨rfl,rfl⟩) x3 h2;have x4:=x3.set (i:=0) t;have r1:=hR.set _ p9 _ _ 1 o (.inl ⟨rfl,rfl⟩) x4 r0;have x5:=x4.set (i:=1) o;have r2:=hR.set _ p9 _ _ 2 s (.inl ⟨rfl,rfl⟩) x5 r1;refine ⟨x3.cell,x3.free,below_set3m h1 hR.le.1 _ _ _,r2,by simpa using Bx.put3 x3 t o s,?_⟩
 have e:(b==a || φ b)=φ b:=by rw [beq_eq_false_iff_ne.2 (Ne.symm hab),Bool.false_or]
 show Bx _ _ _ (if (b==a || φ b)=true then _ else _)
 rw [e]
 exact h4.far3m (Ne.symm hR.ne) _ _ _
theorem FSt.store10 (hR:StR b0 w0 R p9 p10) (hab:a≠b) (hF:FSt b0 w0 R p9 p10 t o s h a b φ W) (h0:φ b=false):
  (∀i,W.cell? ⟨p10,i,none⟩=zeroH[i]?)∧(∀i,W.frozen? ⟨p10,i,none⟩=false)∧FSt b0 w0 R p9 p10 t o s h a b (fun j=>j==b || φ j) (set2 W p10 h):=by
 obtain ⟨h1,h2,h3,h4⟩:=hF;rw [h0] at h4;have x3:Bx W p10 39 zeroH:=h4;have r0:=hR.set _ p10 _ _ 0 (.int .i64 h.1) (.inr ⟨rfl,rfl⟩) x3 h2;have x4:=x3.set (i:=0) (.int .i64 h.1)
 have r1:=hR.set _ p10 _ _ 1 (.int .i64 h.2) (.inr ⟨rfl,rfl⟩) x4 r0;refine ⟨x3.cell,x3.free,below_set2 h1 hR.le.2 _,r1,?_,by simpa using Bx.put2 x3 h⟩
 have e:(a==b || φ a)=φ a:=by rw [beq_eq_false_iff_ne.2 hab,Bool.false_or]
 show Bx _ _ _ (if (a==b || φ a)=true then _ else _)
 rw [e]
 exact h3.far2 hR.ne _
theorem FXN.st (x:FXN (FSt b0 w0 R p9 p10 t o s h a b)):R x.W:=by obtain ⟨V,φ,hF⟩:=x;exact hF.2.1
theorem FSt.call (hR:StR b0 w0 R p9 p10) {f:FuncId} {args:Array Value} {v:Value} {x:FXN (FSt b0 w0 R p9 p10 t o s h a b)} (hc:Calls Tryz.prog f args x.W fun e w'=>e=.returned v∧Below x.W.heap.size x.W w'):
  Calls Tryz.prog f args x.W fun e w''=>e=.returned v∧∃y:FXN (FSt b0 w0 R p9 p10 t o s h a b),w''=y.W:=by
 obtain ⟨V,φ,hF⟩:=x;exact hc.mono fun _ w' ⟨he,hb⟩=>⟨he,⟨w',φ,hF.below hR hb⟩,rfl⟩
end
def FSg (b0:Nat) (w0:World) (R:World→Prop) (p9 p10:Nat) (t o s:Value) (h:Int×Int) (Rg:Value→World→Prop) (k a b:Nat) (g:Value) (φ:Nat→Bool) (W:World):Prop:=
 FSt b0 w0 R p9 p10 t o s h a b φ W∧(φ k=true→Rg g W)
section
variable {b0:Nat} {w0:World} {R:World→Prop} {p9 p10:Nat} {t o s:Value} {h:Int×Int} {Rg:Value→World→Prop} {k a b:Nat} {g:Value} {φ:Nat→Bool} {W W':World}
theorem FSg.dep:Dep (FSg b0 w0 R p9 p10 t o s h Rg k a b g) [k,a,b]:=by
 rintro φ ψ W hh ⟨h1,h2⟩
 refine ⟨FSt.dep φ ψ W (fun j hj=>hh j (List.mem_cons_of_mem _ hj)) h1,?_⟩
 rw [hh k (by simp)] at h2;exact h2
theorem FSg.call (hR:StR b0 w0 R p9 p10) (hG:∀g,StR b0 w0 (Rg g) p9 p10) {f:FuncId} {args:Array Value} {v:Value} {x:FXN (FSg b0 w0 R p9 p10 t o s h Rg k a b g)} (hc:Calls Tryz.prog f args x.W fun e w'=>e=.returned v∧Below x.W.heap.size x.W w'):
  Calls Tryz.prog f args x.W fun e w''=>e=.returned v∧∃y:FXN (FSg b0 w0 R p9 p10 t o s h Rg k a b g),w''=y.W:=by
 obtain ⟨V,φ,hF⟩:=x;exact hc.mono fun _ w' ⟨he,hb⟩=>⟨he,⟨w',φ,hF.1.below hR hb,fun e=>(hG g).below _ _ (hF.2 e) hb⟩,rfl⟩
theorem FXN.sg (x:FXN (FSg b0 w0 R p9 p10 t o s h Rg k a b g)):R x.W:=by obtain ⟨V,φ,hF⟩:=x;exact hF.1.2.1
theorem set3R (hR:StR b0 w0 R p9 p10) {cs:Array Value} (x3:Bx W p9 31 cs) (h2:R W):R (set3m W p9 t o s):=by
 have r0:=hR.set _ p9 _ _ 0 t (.inl ⟨rfl,rfl⟩) x3 h2;have x4:=x3.set (i:=0) t;have r1:=hR.set _ p9 _ _ 1 o (.inl ⟨rfl,rfl⟩) x4 r0;have x5:=x4.set (i:=1) o;exact hR.set _ p9 _ _ 2 s (.inl ⟨rfl,rfl⟩) x5 r1
theorem set2R (hR:StR b0 w0 R p9 p10) {cs:Array Value} (x3:Bx W p10 39 cs) (h2:R W):R (set2 W p10 h):=by
 have r0:=hR.set _ p10 _ _ 0 (.int .i64 h.1) (.inr ⟨rfl,rfl⟩) x3 h2;have x4:=x3.set (i:=0) (.int .i64 h.1)
 exact hR.set _ p10 _ _ 1 (.int .i64 h.2) (.inr ⟨rfl,rfl⟩) x4 r0
theorem FSg.store9 (hR:StR b0 w0 R p9 p10) (hG:∀g,StR b0 w0 (Rg g) p9 p10) (hab:a≠b) (hka:k≠a) (hF:FSg b0 w0 R p9 p10 t o s h Rg k a b g φ W) (h0:φ a=false):
  (∀i,W.cell? ⟨p9,i,none⟩=zeroM[i]?)∧(∀i,W.frozen? ⟨p9,i,none⟩=false)∧FSg b0 w0 R p9 p10 t o s h Rg k a b g (fun j=>j==a || φ j) (set3m W p9 t o s):=by
 obtain ⟨s1,s2,s3⟩:=hF.1.store9 hR hab h0;refine ⟨s1,s2,s3,fun e=>?_⟩
 have e2:φ k=true:=by
  have:(k==a || φ k)=true:=e
  rwa [beq_eq_false_iff_ne.2 hka,Bool.false_or] at this
 exact set3R (hG g) hF.1.2.2.1 (hF.2 e2)
theorem FSg.store10 (hR:StR b0 w0 R p9 p10) (hG:∀g,StR b0 w0 (Rg g) p9 p10) (hab:a≠b) (hkb:k≠b) (hF:FSg b0 w0 R p9 p10 t o s h Rg k a b g φ W) (h0:φ b=false):
  (∀i,W.cell? ⟨p10,i,none⟩=zeroH[i]?)∧(∀i,W.frozen? ⟨p10,i,none⟩=false)∧FSg b0 w0 R p9 p10 t o s h Rg k a b g (fun j=>j==b || φ j) (set2 W p10 h):=by
 obtain ⟨s1,s2,s3⟩:=hF.1.store10 hR hab h0;refine ⟨s1,s2,s3,fun e=>?_⟩
 have e2:φ k=true:=by
  have:(k==b || φ k)=true:=e
  rwa [beq_eq_false_iff_ne.2 hkb,Bool.false_or] at this
 exact set2R (hG g) hF.1.2.2.2 (hF.2 e2)
end
end
section
open Go.RowKit L02 L07 L13 L14 L15 L16 L18 L19 L20
structure St (R:World→Prop):Prop where
 below:∀W W',R W→Below W.heap.size W W'→R W'
 set:∀W p t cs i u,t=31∨t=39→Bx W p t cs→R W→R (W.setCell ⟨p,i,none⟩ u)
theorem St.own (B e sz n:Nat) (v:Value) (xs:List Value) (h1:e≠31) (h2:e≠39):St (fun W=>W.ownsRow B e sz v n xs):=
 ⟨fun W W' h hb=>own_below h hb,fun W p t cs i u ht hb h=>own_set h hb (by rcases ht with rfl | rfl <;> assumption)⟩
theorem St.ent (B:Nat) (v:Value) (E:List (Int×UInt64)):St (fun W=>OwnE W B v E):=St.own _ _ _ _ _ _ (by decide) (by decide)
theorem St.words (B:Nat) (v:Value) (l:List UInt64):St (fun W=>OwnW W B 42 v l):=St.own _ _ _ _ _ _ (by decide) (by decide)
theorem St.model (B:Nat) (t o s:Value) (m:Mo):St (fun W=>OwnM W B 37 t o s m):=
 ⟨fun W W' h hb=>h.below hb,fun W p t cs i u ht hb h=>by
  rcases ht with rfl | rfl
  ·exact ⟨h.t.set hb (by decide) (by decide),h.o.set hb (by decide) (by decide),own_set h.s hb (by decide)⟩
  ·exact ⟨h.t.set hb (by decide) (by decide),h.o.set hb (by decide) (by decide),own_set h.s hb (by decide)⟩⟩
theorem St.and {R S:World→Prop} (h:St R) (k:St S):St (fun W=>R W∧S W):=
 ⟨fun W W' a hb=>⟨h.below W W' a.1 hb,k.below W W' a.2 hb⟩,fun W p t cs i u ht hb a=>⟨h.set W p t cs i u ht hb a.1,k.set W p t cs i u ht hb a.2⟩⟩
theorem St.imp {p:Prop} {R:World→Prop} (h:St R):St (fun W=>p→R W):=
 ⟨fun W W' a hb hp=>h.below W W' (a hp) hb,fun W q t cs i u ht hb a hp=>h.set W q t cs i u ht hb (a hp)⟩
theorem St.triv:St (fun _=>True):=⟨fun _ _ _ _=>trivial,fun _ _ _ _ _ _ _ _ _=>trivial⟩
theorem St.set2 {R:World→Prop} (h:St R) {W:World} {p:Nat} {cs:Array Value} (s:Int×Int) (hb:Bx W p 39 cs) (hr:R W):R (Proofs.YteejianjjpdimaaGreat.set2 W p s):=
 h.set _ p _ _ 1 _ (.inr rfl) (hb.set (i:=0) _) (h.set _ p _ _ 0 _ (.inr rfl) hb hr)
theorem St.set3 {R:World→Prop} (h:St R) {W:World} {p:Nat} {cs:Array Value} (a b c:Value) (hb:Bx W p 31 cs) (hr:R W):R (set3m W p a b c):=
 h.set _ p _ _ 2 _ (.inl rfl) ((hb.set (i:=0) _).set (i:=1) _) (h.set _ p _ _ 1 _ (.inl rfl) (hb.set (i:=0) _) (h.set _ p _ _ 0 _ (.inl rfl) hb hr))
structure Pl where
 p5:Nat
 p7:Nat
 p9:Nat
 p10:Nat
 p12:Nat
 p13:Nat
 p15:Nat
 p16:Nat
 p17:Nat
structure Pl.Ok (P:Pl) (b0:Nat):Prop where
 le:b0≤P.p5∧b0≤P.p7∧b0≤P.p9∧b0≤P.p10∧b0≤P.p12∧b0≤P.p13∧b0≤P.p15∧b0≤P.p16∧b0≤P.p17
 old:P.p5<P.p9∧P.p7<P.p9∧P.p9<P.p10∧P.p10<P.p12∧P.p10<P.p13∧P.p12<P.p15∧P.p13<P.p15∧P.p15<P.p16∧P.p16<P.p17
structure Fm (w W:World) (P:Pl) (mv cc:Array Value) (h1 h2:Int×Int) (nv:Value×Value×Value) (x y:Int×Int) (R:World→Prop):Prop where
 ok:P.Ok w.heap.size
 g5:Bx W P.p5 31 mv
 g7:Bx W P.p7 44 cc
 g9:Bx W P.p9 31 zeroM
 g10:Bx W P.p10 39 zeroH
 g12:Bx W P.p12 39 (hnA h1)
 g13:Bx W P.p13 39 (hnA h2)
 g15:Bx W P.p15 31 #[nv.1,nv.2.1,nv.2.2]
 g16:Bx W P.p16 39 (hnA x)
 g17:Bx W P.p17 39 (hnA y)
 r:R W
 st:St R
 B:Below w.heap.size w W
section
variable {w W W':World} {P:Pl} {mv cc:Array Value} {h1 h2:Int×Int} {nv:Value×Value×Value} {x y:Int×Int} {R S:World→Prop}
theorem Fm.below (h:Fm w W P mv cc h1 h2 nv x y R) (hb:Below W.heap.size W W'):Fm w W' P mv cc h1 h2 nv x y R:=
 ⟨h.ok,h.g5.below hb,h.g7.below hb,h.g9.below hb,h.g10.below hb,h.g12.below hb,h.g13.below hb,h.g15.below hb,h.g16.below hb,h.g17.below hb,h.st.below _ _ h.r hb,h.st,h.B.trans (hb.mono h.B.size)⟩
theorem Fm.with (h:Fm w W P mv cc h1 h2 nv x y R) (hS:St S) (hs:S W):Fm w W P mv cc h1 h2 nv x y (fun W=>R W∧S W):=
 ⟨h.ok,h.g5,h.g7,h.g9,h.g10,h.g12,h.g13,h.g15,h.g16,h.g17,⟨h.r,hs⟩,h.st.and hS,h.B⟩
theorem Fm.to (h:Fm w W P mv cc h1 h2 nv x y R) (hS:St S) (hs:R W→S W):Fm w W P mv cc h1 h2 nv x y S:=
 ⟨h.ok,h.g5,h.g7,h.g9,h.g10,h.g12,h.g13,h.g15,h.g16,h.g17,hs h.r,hS,h.B⟩
theorem Fm.set16 (h:Fm w W P mv cc h1 h2 nv x y R) (s:Int×Int):Fm w (set2 W P.p16 s) P mv cc h1 h2 nv s y R:=by
 have o:=h.ok.old;have l:=h.ok.le;exact ⟨h.ok,h.g5.far2 (by omega) s,h.g7.far2 (by omega) s,h.g9.far2 (by omega) s,h.g10.far2 (by omega) s,h.g12.far2 (by omega) s,h.g13.far2 (by omega) s,h.g15.far2 (by omega) s,Bx.put2 h.g16 s,h.g17.far2 (by omega) s,h.st.set2 s h.g16 h.r,h.st,below_set2 h.B (by omega) s⟩
theorem Fm.set17 (h:Fm w W P mv cc h1 h2 nv x y R) (s:Int×Int):Fm w (set2 W P.p17 s) P mv cc h1 h2 nv x s R:=by
 have o:=h.ok.old;have l:=h.ok.le;exact ⟨h.ok,h.g5.far2 (by omega) s,h.g7.far2 (by omega) s,h.g9.far2 (by omega) s,h.g10.far2 (by omega) s,h.g12.far2 (by omega) s,h.g13.far2 (by omega) s,h.g15.far2 (by omega) s,h.g16.far2 (by omega) s,Bx.put2 h.g17 s,h.st.set2 s h.g17 h.r,h.st,below_set2 h.B (by omega) s⟩
theorem Fm.set15 (h:Fm w W P mv cc h1 h2 nv x y R) (a b c:Value):Fm w (set3m W P.p15 a b c) P mv cc h1 h2 (a,b,c) x y R:=by
 have o:=h.ok.old;have l:=h.ok.le;exact ⟨h.ok,h.g5.far3m (by omega) a b c,h.g7.far3m (by omega) a b c,h.g9.far3m (by omega) a b c,h.g10.far3m (by omega) a b c,h.g12.far3m (by omega) a b c,h.g13.far3m (by omega) a b c,Bx.put3 h.g15 a b c,h.g16.far3m (by omega) a b c,h.g17.far3m (by omega) a b c,h.st.set3 a b c h.g15 h.r,h.st,below_set3m h.B (by omega) a b c⟩
theorem Fm.str (h:Fm w W P mv cc h1 h2 nv x y R):StR w.heap.size w (fun V=>Bx V P.p5 31 mv∧Bx V P.p7 44 cc∧Bx V P.p15 31 #[nv.1,nv.2.1,nv.2.2]∧Bx V P.p16 39 (hnA x)∧R V) P.p9 P.p10:=by
 have o:=h.ok.old;have l:=h.ok.le;refine ⟨fun V V' ⟨a,b,c,d,e⟩ hb=>⟨a.below hb,b.below hb,c.below hb,d.below hb,h.st.below _ _ e hb⟩,fun V p t cs i u ht hb ⟨a,b,c,d,e⟩=>?_,by omega,by omega,Nat.le_refl _⟩
 rcases ht with ⟨rfl,rfl⟩ | ⟨rfl,rfl⟩
 ·exact ⟨a.far (p:=⟨P.p9,i,none⟩) (by show P.p5≠P.p9;omega) u,b.far (p:=⟨P.p9,i,none⟩) (by show P.p7≠P.p9;omega) u,c.far (p:=⟨P.p9,i,none⟩) (by show P.p15≠P.p9;omega) u,d.far (p:=⟨P.p9,i,none⟩) (by show P.p16≠P.p9;omega) u,h.st.set _ _ _ _ i u (.inl rfl) hb e⟩
 ·exact ⟨a.far (p:=⟨P.p10,i,none⟩) (by show P.p5≠P.p10;omega) u,b.far (p:=⟨P.p10,i,none⟩) (by show P.p7≠P.p10;omega) u,c.far (p:=⟨P.p10,i,none⟩) (by show P.p15≠P.p10;omega) u,d.far (p:=⟨P.p10,i,none⟩) (by show P.p16≠P.p10;omega) u,h.st.set _ _ _ _ i u (.inr rfl) hb e⟩
theorem Fm.rr (h:Fm w W P mv cc h1 h2 nv x y R):Bx W P.p5 31 mv∧Bx W P.p7 44 cc∧Bx W P.p15 31 #[nv.1,nv.2.1,nv.2.2]∧Bx W P.p16 39 (hnA x)∧R W:=⟨h.g5,h.g7,h.g15,h.g16,h.r⟩
end
end
section
open Go.RowKit L02 L07 L13 L14 L15 L16 L18 L19 L20
def TH3 (f:FuncId) (av1 av2:Array Value) (k:Nat) (s:Sem Next):Prop:=if k=3 then ∀W,s.run Tryz.prog W=.ok (.enter f av1) W else if k=7 then ∀W,s.run Tryz.prog W=.ok (.enter f av2) W else TH2 k s
def valH3 (b1 b2:Int×Int) (g:Nat×Nat) (k:Nat):Value:=if k=3 then .agg (hnA b1) else if k=7 then .agg (hnA b2) else valH2 g k
theorem Dep.more {F:(Nat→Bool)→World→Prop} {js ks:List Nat} (h:Dep F js) (hk:∀j∈js,j∈ks):Dep F ks:=fun φ ψ W hh hF=>h φ ψ W (fun j hj=>hh j (hk j hj)) hF
theorem wp_region_twoHC {id:Nat} {Q:Exit→Act→World→Prop} {ac:Act} {w:World} {l:List Oper} (b1 b2:Int×Int) (f:FuncId) (av1 av2:Array Value)
  (hm:(Tryz.prog).follows .mixedOrders=true) (hB:Region.lexB .any l.toArray=true)
  (hf:(([3,7,8,9,10,11]:List Nat).all fun j=>(setAll l.length 0 (Array.replicate l.length false)).getD j false)=true)
  (hnj:(([3,7,8,9]:List Nat).all fun k=>([3,7,8,9,10,11]:List Nat).contains k && match l.toArray[k]? with | some o=>(([]:List Nat)).all (fun j=>o.after.any fun e=>Region.binds .any e && e.on==j) | none=>false)=true)
  (hc1:∀W,Below w.heap.size w W→Calls Tryz.prog f av1 W fun e W'=>e=.returned (.agg (hnA b1))∧Below W.heap.size W W')
  (hc2:∀W,Below w.heap.size w W→Calls Tryz.prog f av2 W fun e W'=>e=.returned (.agg (hnA b2))∧Below W.heap.size W W')
  (h:∀g,wpM Tryz.prog .any l.toArray (CN (FTH w b1 b2 g)) (fun i=>([3,7,8,9]:List Nat).contains i) (valH3 b1 b2 g) (TH3 f av1 av2) (fun a'=>∀w',FTH w b1 b2 g (fun _=>true) w'→Q .normal a' w') l 0 ac):(Code.region id l.toArray true).wp Tryz.prog Q ac w:=by
 refine wp_region_M (G:=Nat×Nat) (valH3 b1 b2) AgH2 (FTH w b1 b2) [3,7,8,9,10,11] [3,7,8,9] (fun _=>[]) (TH3 f av1 av2) (0,0) (fun g=>FTH.dep.more (by simp)) hm hB hf hnj
  (fun φ ψ g g' he h=>⟨fun e=>h.1 (by rw [he 8 (by simp)];exact e),fun e=>h.2 (by rw [he 9 (by simp)];exact e)⟩) (fun φ g=>⟨fun _=>rfl,fun _=>rfl⟩) (fun φ g g' g'' h1 h2=>⟨fun e=>(h1.1 e).trans (h2.1 e),fun e=>(h1.2 e).trans (h2.2 e)⟩) (fun φ k g g' h hk=>⟨fun e=>h.1 (by simp [e]),fun e=>h.2 (by simp [e])⟩) ?_ (fun φ g g' W h hF=>FTH.agree h hF) (fun g=>⟨fun e=>(by cases e),fun e=>(by cases e)⟩) FTH.start ?_ h
 ·intro φ k g g' hk h0 hA;simp only [List.mem_cons,List.not_mem_nil,or_false] at hk;rcases hk with rfl | rfl | rfl | rfl
  ·rfl
  ·rfl
  ·have e:=hA.1 (by simp)
   simp [valH3,valH2,e]
  ·have e:=hA.2 (by simp)
   simp [valH3,valH2,e]
 ·intro k s φ W g hk hT h0 _ hF;simp only [List.mem_cons,List.not_mem_nil,or_false] at hk;rcases hk with rfl | rfl | rfl | rfl
  ·have hT':∀W,s.run Tryz.prog W=.ok (.enter f av1) W:=hT;rw [hT' W]
   refine (hc1 W hF.1).mono fun e W' ⟨e1,e2⟩=>⟨_,e1,g,⟨fun _=>rfl,fun _=>rfl⟩,rfl,?_⟩
   exact FTH.dep _ _ _ (fun j hj=>by
    simp only [List.mem_cons,List.not_mem_nil,or_false] at hj;rcases hj with rfl | rfl | rfl | rfl <;> simp) (hF.below e2)
  ·have hT':∀W,s.run Tryz.prog W=.ok (.enter f av2) W:=hT;rw [hT' W]
   refine (hc2 W hF.1).mono fun e W' ⟨e1,e2⟩=>⟨_,e1,g,⟨fun _=>rfl,fun _=>rfl⟩,rfl,?_⟩
   exact FTH.dep _ _ _ (fun j hj=>by
    simp only [List.mem_cons,List.not_mem_nil,or_false] at hj;rcases hj with rfl | rfl | rfl | rfl <;> simp) (hF.below e2)
  ·have hT':∀W,s.run Tryz.prog W=.ok (.value (.pointer (some ⟨W.heap.size,0,none⟩))) (W.alloc (.cells zeroH 39)):=hT;rw [hT' W]
   exact ⟨(W.heap.size,g.2),⟨fun e=>(by rw [h0] at e;cases e),fun _=>rfl⟩,rfl,hF.alloc1 h0⟩
  ·have hT':∀W,s.run Tryz.prog W=.ok (.value (.pointer (some ⟨W.heap.size,0,none⟩))) (W.alloc (.cells zeroH 39)):=hT;rw [hT' W]
   exact ⟨(g.1,W.heap.size),⟨fun _=>rfl,fun e=>(by rw [h0] at e;cases e)⟩,rfl,hF.alloc2 h0⟩
end
section
open Go.RowKit L02 L07 L13 L14 L15 L16 L18 L19 L20
def THg (f1 f2:FuncId) (av1 av2:Array Value) (k:Nat) (s:Sem Next):Prop:=if k=2 then ∀W,s.run Tryz.prog W=.ok (.enter f1 av1) W else ∀W,s.run Tryz.prog W=.ok (.enter f2 av2) W
def valSg (g:Value) (k:Nat):Value:=if k=2 then g else .bool true
theorem wp_region_sg {b0:Nat} {w0:World} {R:World→Prop} {p9 p10:Nat} {t o s:Value} {h1:Int×Int} {Rg:Value→World→Prop} {id:Nat} {Q:Exit→Act→World→Prop} {ac:Act} {w:World} {l:List Oper} (f1 f2:FuncId) (av1 av2:Array Value)
  (hR:StR b0 w0 R p9 p10) (hG:∀g,StR b0 w0 (Rg g) p9 p10) (hm:(Tryz.prog).follows .mixedOrders=true) (hB:Region.lexB .any l.toArray=true)
  (hf:(([2,7,9,10]:List Nat).all fun j=>(setAll l.length 0 (Array.replicate l.length false)).getD j false)=true)
  (hnj:(([2,7]:List Nat).all fun k=>([2,7,9,10]:List Nat).contains k && match l.toArray[k]? with | some o=>(([]:List Nat)).all (fun j=>o.after.any fun e=>Region.binds .any e && e.on==j) | none=>false)=true)
  (hC:FSt b0 w0 R p9 p10 t o s h1 9 10 (fun _=>false) w.drew)
  (hc1:∀W,Below b0 w0 W→R W→Calls Tryz.prog f1 av1 W fun e W'=>∃y,e=.returned y∧Rg y W'∧Below W.heap.size W W')
  (hc2:∀W,Below b0 w0 W→R W→Calls Tryz.prog f2 av2 W fun e W'=>e=.returned (.bool true)∧Below W.heap.size W W')
  (h:∀g,wpM Tryz.prog .any l.toArray (CN (FSg b0 w0 R p9 p10 t o s h1 Rg 2 9 10 g)) (fun i=>([2,7]:List Nat).contains i) (valSg g) (THg f1 f2 av1 av2) (fun a'=>∀w',FSg b0 w0 R p9 p10 t o s h1 Rg 2 9 10 g (fun _=>true) w'→Q .normal a' w') l 0 ac):(Code.region id l.toArray true).wp Tryz.prog Q ac w:=by
 refine wp_region_M (G:=Value) valSg (fun φ g g'=>φ 2=true→g=g') (FSg b0 w0 R p9 p10 t o s h1 Rg 2 9 10) [2,7,9,10] [2,7] (fun _=>[]) (THg f1 f2 av1 av2) (.bool false) (fun g=>FSg.dep.more (by simp)) hm hB hf hnj
  (fun φ ψ g g' he h e=>h (by rw [he 2 (by simp)];exact e)) (fun φ g _=>rfl) (fun φ g g' g'' h1 h2 e=>(h1 e).trans (h2 e)) (fun φ k g g' h hk e=>h (by simp [e])) ?_ (fun φ g g' W h hF=>⟨hF.1,fun e=>by rw [←h e];exact hF.2 e⟩) (fun g e=>by cases e) ⟨hC,fun e=>by cases e⟩ ?_ h
 ·intro φ k g g' hk h0 hA;simp only [List.mem_cons,List.not_mem_nil,or_false] at hk;rcases hk with rfl | rfl
  ·have e:=hA (by simp)
   simp [valSg,e]
  ·rfl
 ·intro k s9 φ W g hk hT h0 _ hF;simp only [List.mem_cons,List.not_mem_nil,or_false] at hk;have dp:∀(k:Nat) (W':World),k≠9→k≠10→FSt b0 w0 R p9 p10 t o s h1 9 10 φ W'→FSt b0 w0 R p9 p10 t o s h1 9 10 (fun i=>i==k || φ i) W':=fun k W' k9 k10 h=>FSt.dep _ _ _ (fun j hj=>by
   simp only [List.mem_cons,List.not_mem_nil,or_false] at hj;rcases hj with rfl | rfl
   ·simp [Ne.symm k9]
   ·simp [Ne.symm k10]) h
  rcases hk with rfl | rfl
  ·have hT':∀W,s9.run Tryz.prog W=.ok (.enter f1 av1) W:=hT;rw [hT' W]
   refine (hc1 W hF.1.1 hF.1.2.1).mono fun e W' ⟨y,e1,e2,e3⟩=>⟨_,e1,y,fun e=>(by rw [h0] at e;cases e),rfl,dp 2 W' (by decide) (by decide) (hF.1.below hR e3),fun _=>e2⟩
  ·have hT':∀W,s9.run Tryz.prog W=.ok (.enter f2 av2) W:=hT;rw [hT' W]
   refine (hc2 W hF.1.1 hF.1.2.1).mono fun e W' ⟨e1,e3⟩=>⟨_,e1,g,fun _=>rfl,rfl,dp 7 W' (by decide) (by decide) (hF.1.below hR e3),fun e=>(hG g).below _ _ (hF.2 (by simpa using e)) e3⟩
end
section
open Go.RowKit L01 L02 L05 L06 L07 L13 L14 L15 L16 L18 L19
theorem runE_zero (p:Nat) (x:UInt64) (k:Nat):runE (p:Int) (x :: List.replicate (k+1) 0)=runE (p:Int) (x :: List.replicate k 0)++[((p:Int)+((k+1:Nat):Int),0)]:=by
 rw [List.replicate_succ',←List.cons_append,runE_app,List.length_cons,List.length_replicate];rfl
theorem one_ents:(Tryz.prog.info? 71).map (·.size)=some 1:=by kernel_rfl
theorem eC_one (E:List (Int×UInt64)):∀u∈eC E,u.oneCell'=true:=by
 intro u hu;obtain ⟨e,_,h⟩:=List.mem_flatMap.1 hu;simp at h;rcases h with rfl | rfl <;> rfl
theorem Left_any (p n c:Nat) (b:Hb) (hb:b.at_=p) (hs:b.size=c) (hk:b.kind=2) (hok:BkOk b) (hn:RightN n) (hle:n≤c) (hp:p≤100000) (w:World):
  Calls Tryz.prog 65 #[.agg #[.int .i64 b.at_,.int .i64 b.size,.int .i64 b.kind,.int .i64 b.ty,.bool b.mark,.int .u64 b.next.toNat],.int .i64 n] w fun e w'=>(c=n→e=.returned (.tuple #[.agg zeroB,.bool false,.int .i64 0]))∧(c≠n→e=.returned (.tuple #[.agg (bkA (restH p n c)),.bool true,.int .i64 0]))∧Below w.heap.size w w':=by
 have B:=Below.refl w.heap.size w;have CT:=hD (HCheck_any b 0 (hErr_ok hok).symm)
 have RT:=hD (right21_any n true (decide_eq_true hn).symm)
 have hbd:=hok.bounds;obtain ⟨bat,bsz,bk1,bty,bmk,bnx⟩:=b;dsimp only at hb hs hk hbd CT;subst hb;subst hs;subst hk;clear hok hn;by_cases he:c=n
 ·subst he;have g1:decide ((c:Int)<(c:Int))=false:=decide_eq_false (by omega)
  go_in;go_upto_region 1 with (fail)
  refine wpb11 (64) (#[.int .i64 p,.int .i64 c,.int .i64 2,.int .i64 bty,.bool bmk,.int .u64 bnx.toNat]) (64) (#[.int .i64 0,.int .i64 0,.int .i64 0,.int .i64 0,.bool false,.int .u64 0]) ?_;rintro wa1 ⟨g1,g2,b⟩
  replace B:=B.trans (b.mono B.size);clear b;replace c_g1:=g1.five;replace c_g2:=g2.five;go_wp2_with fail;refine (CT.out _).mono ?_;rintro e wa2 ⟨rfl,b⟩
  replace g1:=g1.below b;replace c_g1:=g1.five;replace g2:=g2.below b;replace c_g2:=g2.five;replace B:=B.trans (b.mono B.size);clear b;go_wp2_with fail;refine (RT.out _).mono ?_;rintro e w3 ⟨rfl,rfl⟩
  go_wp2;refine bodyPost_ret (v:=.tuple #[.agg #[.int .i64 0,.int .i64 0,.int .i64 0,.int .i64 0,.bool false,.int .u64 0],.bool false,.int .i64 0]) (by simp [results,Tryz.results65,go_sem,c_g1,c_g2]) rfl ?_;refine ⟨fun _=>rfl,fun h=>absurd rfl h,?_⟩
  exact bdn
 ·have g1:decide ((c:Int)<(n:Int))=false:=decide_eq_false (by omega)
  have g2:((n:Int)==(c:Int))=false:=by rw [beq_eq_false_iff_ne];omega
  have w1:IntKind.i64.wrap ((p:Int)+(n:Int))=(p:Int)+(n:Int):=IntWalk.i64_in _ (by omega)
  have w2:IntKind.i64.wrap ((c:Int)-(n:Int))=(c:Int)-(n:Int):=IntWalk.i64_in _ (by omega)
  go_in;go_upto_region 1 with (fail)
  refine wpb11 (64) (#[.int .i64 p,.int .i64 c,.int .i64 2,.int .i64 bty,.bool bmk,.int .u64 bnx.toNat]) (64) (#[.int .i64 0,.int .i64 0,.int .i64 0,.int .i64 0,.bool false,.int .u64 0]) ?_;rintro wa1 ⟨g1,g2,b⟩
  replace B:=B.trans (b.mono B.size);clear b;replace c_g1:=g1.five;replace c_g2:=g2.five;go_wp2_with fail;refine (CT.out _).mono ?_;rintro e wa2 ⟨rfl,b⟩
  replace g1:=g1.below b;replace c_g1:=g1.five;replace g2:=g2.below b;replace c_g2:=g2.five;replace B:=B.trans (b.mono B.size);clear b;go_wp2_with fail;refine (RT.out _).mono ?_;rintro e w3 ⟨rfl,rfl⟩
  go_wp2;have HE:=hD (show bkA (restH p n c)=#[.int .i64 ((p:Int)+(n:Int)),.int .i64 ((c:Int)-(n:Int)),.int .i64 2,.int .i64 0,.bool false,.int .u64 0] from by
   unfold bkA restH;dsimp only;rw [show ((p+n:Nat):Int)=(p:Int)+(n:Int) by omega,show ((c-n:Nat):Int)=(c:Int)-(n:Int) by omega]
   rfl)
  refine bodyPost_ret (v:=.tuple #[.agg #[.int .i64 ((p:Int)+(n:Int)),.int .i64 ((c:Int)-(n:Int)),.int .i64 2,.int .i64 0,.bool false,.int .u64 0],.bool true,.int .i64 0]) (by simp [results,Tryz.results65,go_sem,c_g1,c_g2]) rfl ?_;refine ⟨fun h=>absurd h he,fun _=>by rw [HE.out],?_⟩
  exact bdn
theorem block22_any (p:Nat) (m:Nat) (b:Hb) (x:UInt64) (hb:b.at_=p) (hx:x=L14.word b) (hok:BkOk b) (hp:p≤100000) (hm:m≤20) (w:World):
  Calls Tryz.prog 64 #[.agg #[.int .i64 b.at_,.int .i64 b.size,.int .i64 b.kind,.int .i64 b.ty,.bool b.mark,.int .u64 b.next.toNat],.int .i64 m] w fun e w'=>∃y,e=.returned (.tuple #[y,.int .i64 0])∧OwnE w' w.heap.size y (runE p (x :: List.replicate m 0))∧Below w.heap.size w w':=by
 have B:=Below.refl w.heap.size w;have WT:=hD (HWord_any b x 0 hx (hErr_ok hok).symm)
 obtain ⟨bat,bsz,bk1,bty,bmk,bnx⟩:=b;dsimp only at hb WT;subst hb;clear hok hx;go_in;go_upto_region 1 with (fail)
 refine wpb1 (64) (#[.int .i64 p,.int .i64 bsz,.int .i64 bk1,.int .i64 bty,.bool bmk,.int .u64 bnx.toNat]) ?_;rintro wa1 ⟨g1,b⟩
 replace B:=B.trans (b.mono B.size);clear b;replace c_g1:=g1.five;go_wp2_with fail;refine (WT.out _).mono ?_;rintro e wa2 ⟨rfl,b⟩
 replace g1:=g1.below b;replace c_g1:=g1.five;replace B:=B.trans (b.mono B.size);clear b;have hb1:=B.size;go_upto_region 3 with (fail)
 have hfr:OwnE (wa2.alloc (.cells #[.int .i64 p,.int .u64 x.toNat] 131)) w.heap.size (.slice (some ⟨wa2.heap.size,0,none⟩) 1 1) (runE p (x :: List.replicate 0 0)):=ent_own hb1;refine wp_gen (fun V=>OwnE V w.heap.size (.slice (some ⟨wa2.heap.size,0,none⟩) 1 1) (runE p (x :: List.replicate 0 0))∧Bx V w.heap.size 64 #[.int .i64 p,.int .i64 bsz,.int .i64 bk1,.int .i64 bty,.bool bmk,.int .u64 bnx.toNat]∧Below w.heap.size w V) ⟨hfr,g1.alloc _,B.alloc hb1 _⟩ ?_;clear hfr g1 B c_g1 hb1;intro V0 hV0;have HV:=hD hV0;clear hV0;go_wp2
 go_loopg [8,9] (m+1) (fun gg ov i wr=>∃k:Nat,k≤m∧gg=m+1-k∧i=.int .i64 ((k+1:Nat):Int)∧Hid (OwnE wr w.heap.size ov (runE p (x :: List.replicate k 0))∧Bx wr w.heap.size 64 #[.int .i64 p,.int .i64 bsz,.int .i64 bk1,.int .i64 bty,.bool bmk,.int .u64 bnx.toNat]∧Below w.heap.size w wr))
 case atStart=>exact ⟨0,by omega,by omega,rfl,HV⟩
 case round=>
  clear HV;obtain ⟨k,hk,rfl,rfl,hh⟩:=hrel;obtain ⟨oy,g1,B⟩:=hh.out;by_cases hlt:k+1≤m
  ·have w1:IntKind.i64.wrap ((p:Int)+((k+1:Nat):Int))=(p:Int)+((k+1:Nat):Int):=IntWalk.i64_in _ (by omega)
   have w2:IntKind.i64.wrap (((k+1:Nat):Int)+1)=((k+1+1:Nat):Int):=by rw [show ((k+1+1:Nat):Int)=((k+1:Nat):Int)+1 by omega];exact IntWalk.i64_in _ (by omega)
   have g0:decide (((k+1:Nat):Int)≤(m:Int))=true:=decide_eq_true (by omega)
   have hne:=own_not_bx oy g1 (by decide)
   have hlen:(runE (p:Int) (x :: List.replicate k 0)).length≤100:=by rw [runE_len,List.length_cons,List.length_replicate];omega
   have c_1:=g1.cell
   generalize hkk:((k+1:Nat):Int)=kk at*
   go_wp2_with (at_builtin;refine wpList_append (by rfl) rfl rfl rfl Tryz.underlying71 info_ent rfl (by omega) (by exact own_below oy ((Below.refl _ _).alloc (Nat.le_refl _) _)) (by exact lit_ent ((p:Int)+kk) 0 (by simp)) (by simp [Value.oneCell']) (by omega) (by omega) (by exact B.alloc B.size _) (Nat.le_refl _) ?_;intro v1 w3 o3 B3 g3;have q1:=(g1.alloc _).grown g3 hne)
   have HH:=hD (show OwnE w3 w.heap.size v1 (runE p (x :: List.replicate (k+1) 0))∧Bx w3 w.heap.size 64 #[.int .i64 p,.int .i64 bsz,.int .i64 bk1,.int .i64 bty,.bool bmk,.int .u64 bnx.toNat]∧Below w.heap.size w w3 from ⟨OwnE.of o3 (by rw [runE_zero,←hkk];exact eC_snoc _ _ _),q1,B3⟩)
   clear o3 B3 q1 g3
   go_roundg (m+1-(k+1))
   case measure=>omega
   case rel=>exact ⟨k+1,by omega,rfl,by rw [←hkk,show ((k+1+1:Nat):Int)=((k+1:Nat):Int)+1 by omega],HH⟩
  ·obtain rfl:k=m:=by omega
   have g0:decide (((k+1:Nat):Int)≤(k:Int))=false:=decide_eq_false (by omega)
   have HR:=hD (And.intro oy B)
   clear oy g1 B;go_wp2
   go_ret2
   exact ⟨_,rfl,HR.out⟩
theorem ents_form {w:World} {v:Value} {E:List (Int×UInt64)} (h:Ents w v E):∃A c,v=.slice A E.length c:=by obtain ⟨A,c,e,_⟩:=h;exact ⟨A,c,e⟩
theorem join22_any (lv v1 v2:Value) (E1 E2:List (Int×UInt64)) (h1:E1.length≤50) (h2:E2.length≤50) (w:World) (hl:Rd w 1 lv 2 [v1,v2]) (hv1:Ents w v1 E1) (hv2:Ents w v2 E2):
  Calls Tryz.prog 66 #[lv] w fun e w'=>∃y,e=.returned y∧OwnE w' w.heap.size y (E1++E2)∧Below w.heap.size w w':=by
 have B:=Below.refl w.heap.size w;have HL:=hD hl;have HV1:=hD hv1;have HV2:=hD hv2;have ll:=Rd.len hl Tryz.underlying174;have ll2:∀ty W,(Builtin.len_ #[174] ty #[lv]).run Tryz.prog W=.ok (.int .i64 2) W:=ll;have i0:∀W,(Instr.indexAt 174 lv (.int .i64 0)).run Tryz.prog W=.ok (.pointer (some (cellAt lv 0))) W:=fun W=>by have:=Rd.ixN (P:=Tryz.prog) hl Tryz.underlying174 one_ents (k:=0) (by omega) W;rw [Nat.zero_mul] at this;exact this
 have i1:∀W,(Instr.indexAt 174 lv (.int .i64 1)).run Tryz.prog W=.ok (.pointer (some (cellAt lv 1))) W:=fun W=>by have:=Rd.ixN (P:=Tryz.prog) hl Tryz.underlying174 one_ents (k:=1) (by omega) W;rw [Nat.one_mul] at this;exact this
 have HH:=hD (show OwnE w w.heap.size (.slice none 0 0) []∧Below w.heap.size w w from ⟨OwnE.nil _ _,B⟩)
 clear hl hv1 hv2 ll B;go_in;go_wp2;clear ll2
 go_loopg [3,8] 2 (fun gg ov i wr=>∃k:Nat,k≤2∧gg=2-k∧i=.int .i64 k∧Hid (OwnE wr w.heap.size ov (if k=0 then [] else if k=1 then E1 else E1++E2)∧Below w.heap.size w wr))
 case atStart=>exact ⟨0,by omega,by omega,rfl,HH⟩
 case round=>
  clear HH;obtain ⟨k,hk,rfl,rfl,hh⟩:=hrel;have hk3:k=0∨k=1∨k=2:=by omega
  clear hk;rcases hk3 with rfl | rfl | rfl
  ·obtain ⟨oy,B⟩:=hh.out;rw [if_pos rfl] at oy;clear hh;have c0:=(HL.out.below B).cell (j:=0) (u:=v1) rfl;have q1:=Rd.below HV1.out B;go_wp2_with (at_builtin;refine wpList_append (by rfl) rfl rfl rfl Tryz.underlying71 info_ent rfl (by omega) (by exact oy) (by exact q1) (eC_one _) (by simp;omega) (by simp;omega) (by exact B) (Nat.le_refl _) ?_;intro v3 w3 o3 B3 g3;clear g3)
   have HH:=hD (show OwnE w3 w.heap.size v3 E1∧Below w.heap.size w w3 from ⟨OwnE.of o3 (by simp [eC]),B3⟩)
   clear o3 B3 oy B q1 c0
   go_roundg (2-1)
   case measure=>omega
   case rel=>exact ⟨1,by omega,rfl,by go_num,HH⟩
  ·obtain ⟨oy,B⟩:=hh.out;rw [if_neg (by omega),if_pos rfl] at oy;clear hh;have c0:=(HL.out.below B).cell (j:=1) (u:=v2) rfl;have q1:=Rd.below HV2.out B;go_wp2_with (at_builtin;refine wpList_append (by rfl) rfl rfl rfl Tryz.underlying71 info_ent rfl (by omega) (by exact oy) (by exact q1) (eC_one _) (by omega) (by omega) (by exact B) (Nat.le_refl _) ?_;intro v3 w3 o3 B3 g3;clear g3)
   have HH:=hD (show OwnE w3 w.heap.size v3 (E1++E2)∧Below w.heap.size w w3 from ⟨OwnE.of o3 (by simp [eC]),B3⟩)
   clear o3 B3 oy B q1 c0
   go_roundg (2-2)
   case measure=>omega
   case rel=>exact ⟨2,by omega,rfl,by go_num,HH⟩
  ·obtain ⟨oy,B⟩:=hh.out;rw [if_neg (by omega),if_neg (by omega)] at oy;have HR:=hD (And.intro oy B)
   clear hh oy B i0 i1;go_wp2
   go_ret
   exact ⟨_,rfl,HR.out⟩
end
end Go.Proofs.YteejianjjpdimaaGreat
