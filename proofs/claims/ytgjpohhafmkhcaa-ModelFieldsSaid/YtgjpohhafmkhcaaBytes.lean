/- Slices of bytes. -/
import Derived.Test.YtgjpohhafmkhcaaInfo
import Derived.Test.YtgjpohhafmkhcaaRow
set_option linter.unusedVariables false
set_option linter.unusedSimpArgs false
namespace Go.Proofs.Ytgjpohhafmkhcaa
open Go.RowKit

theorem bytes_loop (bs : ByteArray) : ∀ (n i : Nat) (r : List UInt8), bs.size - i = n → ByteArray.toList.loop bs i r = r.reverse ++ bs.data.toList.drop i
  | 0, i, r, h => by
    rw [ByteArray.toList.loop, if_neg (by omega), List.drop_of_length_le (by rw [Array.length_toList]; exact (by have : bs.size = bs.data.size := rfl; omega))]
    simp
  | n + 1, i, r, h => by
    have hi : i < bs.data.toList.length := by rw [Array.length_toList]; have : bs.size = bs.data.size := rfl; omega
    rw [ByteArray.toList.loop, if_pos (by omega), bytes_loop bs n (i + 1) _ (by omega), List.drop_eq_getElem_cons hi]
    have : bs.get! i = bs.data.toList[i] := by
      show bs.data[i]! = _
      rw [getElem!_pos bs.data i (by simpa using hi)]
      simp
    rw [this]; simp
theorem bytes_toList (bs : ByteArray) : bs.toList = bs.data.toList := by
  show ByteArray.toList.loop bs 0 [] = _
  rw [bytes_loop bs _ 0 [] rfl]; simp

def u8 (x : UInt8) : Value := .int .u8 x.toNat
def Byts (w : World) (v : Value) (l : List UInt8) : Prop := Rd w 1 v l.length (l.map u8)
def OwnB (w : World) (base E : Nat) (v : Value) (l : List UInt8) : Prop := w.ownsRow base E 1 v l.length (l.map u8)
theorem one_u8 : (Try.prog.info? 5).map (·.size) = some 1 := by kernel_rfl
theorem info_u8 : (Try.prog.info? 5).map (fun i => (i.zero, i.size, i.bytes)) = some (some (.int .u8 0), 1, 1) := by kernel_rfl
theorem one_u8s (l : List UInt8) : ∀ u ∈ l.map u8, u.oneCell' = true := by
  intro u hu; obtain ⟨x, _, rfl⟩ := List.mem_map.1 hu; rfl
section
variable {P : Program} {w w' : World} {v : Value} {l : List UInt8} {base E : Nat}
theorem OwnB.rd (h : OwnB w base E v l) : Byts w v l := Rd.of_own h
theorem Byts.below (h : Byts w v l) (hb : Below w.heap.size w w') : Byts w' v l := Rd.below h hb
theorem Byts.alloc (h : Byts w v l) (o : Obj) : Byts (w.alloc o) v l := Rd.alloc h o
theorem OwnB.below (h : OwnB w base E v l) (hb : Below w.heap.size w w') : OwnB w' base E v l := own_below h hb
theorem OwnB.nil (w : World) (base E : Nat) : OwnB w base E (.slice none 0 0) [] := World.ownsRow_nil w base E 1
theorem Byts.nil (w : World) : Byts w (.slice none 0 0) [] := Rd.nil w 1
theorem OwnB.of {n : Nat} {xs : List Value} (h : w.ownsRow base E 1 v n xs) (hx : xs = l.map u8) : OwnB w base E v l := by
  subst hx
  have hn : n = l.length := by have := h.1; simp at this; omega
  subst hn; exact h
theorem Byts.at_ {t e : TypeId} (h : Byts w v l) (ht : P.underlying t = some (.slice e)) (hi : (P.info? e).map (·.size) = some 1) {k : Nat} (hk : k < l.length) :
    ∃ ad x, (∀ W, (Instr.indexAt t v (.int .i64 (k : Int))).run P W = .ok (.pointer (some ad)) W) ∧ w.cell? ad = some (.int .u8 (UInt8.toNat x)) ∧ Hid (l[k]? = some x) :=
  ⟨_, l[k], fun W => Rd.ixN h ht hi hk W, by rw [Nat.mul_one]; exact Rd.cell h (by simp [hk]; rfl), by unfold Hid; simp [hk]⟩
/-- a literal of bytes -/
theorem lit_byts {w : World} {cs : Array Value} {e n m : Nat} (l : List UInt8) (hn : w.heap.size = n) (h : cs.toList = l.map u8) (hm : m = l.length) (hl : l.length ≤ 1048576) : Byts (w.alloc (.cells cs e)) (.slice (some ⟨n, 0, none⟩) m m) l := by
  subst hn
  have hs : cs.size = m := by rw [← Array.length_toList, h]; simp [hm]
  have := lit_rdN (w := w) (e := e) hs (by omega)
  rw [h] at this
  subst hm; exact this
theorem lit_ownB {w : World} {cs : Array Value} {e n m base : Nat} (l : List UInt8) (hn : w.heap.size = n) (hb : base ≤ n) (h : cs.toList = l.map u8) (hm : m = l.length) (hl : l.length ≤ 1048576) : OwnB (w.alloc (.cells cs e)) base e (.slice (some ⟨n, 0, none⟩) m m) l := by
  subst hn
  have hs : cs.size = m := by rw [← Array.length_toList, h]; simp [hm]
  subst hm
  have := World.ownsRow_lit (base := base) (size := 1) (e := e) w cs l.length hb (by simp [maxLen]; omega) (by simpa using hs)
  rw [h] at this
  exact this

theorem bx_byts {w : World} {g n c : Nat} {cs : Array Value} {e : TypeId} (l : List UInt8) (h : Bx w g e cs) (hl : cs.toList = l.map u8) (hn : n = l.length) (hc : c = l.length) (hm : l.length ≤ 1048576) : Byts w (.slice (some ⟨g, 0, none⟩) n c) l := by
  subst hn hc
  have hs : cs.size = l.length := by rw [← Array.length_toList, hl]; simp
  unfold Byts
  refine ⟨_, l.length, rfl, Nat.le_refl _, by omega, by simp, fun h => (by cases h), fun _ ad hh => ?_⟩
  cases hh
  refine ⟨rfl, h.lt, fun j u hu => ?_⟩
  rw [show (0 + j) = j by omega, h.cell, ← hl] at *
  simpa using hu
/-- string(bytes) -/
abbrev strOf (l : List UInt8) : Value := .string ⟨l.toArray⟩
theorem Byts.str {src dst e : TypeId} (h : Byts w v l) (hs : P.underlying src = some (.slice e)) (he : P.underlying e = some (.int .u8)) (hd : P.underlying dst = some .string) :
    (convert src dst v).run P w = .ok (.string ⟨l.toArray⟩) w := by
  rcases Nat.eq_zero_or_pos l.length with h0 | h0
  · obtain ⟨A, c, rfl, h1, h2, h3, h4, h5⟩ := h
    have hl : l = [] := List.eq_nil_of_length_eq_zero h0
    subst hl
    cases A with
    | none => exact run_convert_bytes_nil w src e hs he _ _ dst hd
    | some ad =>
      rw [run_convert_bytes_string w src dst e _ _ c hs he hd]
      have := run_bytesToString (P := P) w ad 0 c [] (by
        have := run_loadCells_list (P := P) w ad [] (fun j v hj => by simp at hj)
        simpa using this)
      simp only [List.foldl_nil] at this
      exact this
  · obtain ⟨b, o, c, rfl, hb, hc, hcell⟩ := Rd.form h h0
    have := run_convert_bytes_arg (P := P) w src e hs he b o l.length c (l.map fun x => (x.toNat : Int)) (by simp) (fun i hi => by
      rw [hcell i (.int .u8 (l[i].toNat : Int)) (by simp [hi]; rfl)]
      simp [List.getD_eq_getElem?_getD, hi]) dst hd
    rw [this]
    unfold strOfNums
    rw [List.map_map]
    congr 3
    have : ((fun n : Int => UInt8.ofNat n.toNat) ∘ fun x : UInt8 => (x.toNat : Int)) = id := by
      funext x; simp
    rw [this, List.map_id]
theorem str_dec (a b : List UInt8) : ((⟨a.toArray⟩ : ByteArray).toList == (⟨b.toArray⟩ : ByteArray).toList) = decide (a = b) := by
  rw [bytes_toList, bytes_toList]
  exact Bool.eq_iff_iff.2 (by rw [beq_iff_eq, decide_eq_true_iff])
theorem str_eql {t : TypeId} (a b : List UInt8) (r : Bool) (hr : r = decide (a = b)) (W : World) : (binOp .eql t (strOf a) (strOf b)).run P W = .ok (.bool r) W := by
  subst hr
  unfold strOf
  rw [binOp_string_eql, str_dec]; rfl
theorem str_neq {t : TypeId} (a b : List UInt8) (r : Bool) (hr : r = !decide (a = b)) (W : World) : (binOp .neq t (strOf a) (strOf b)).run P W = .ok (.bool r) W := by
  subst hr
  unfold strOf
  rw [binOp_string_neq, str_dec]; rfl
end
end Go.Proofs.Ytgjpohhafmkhcaa
