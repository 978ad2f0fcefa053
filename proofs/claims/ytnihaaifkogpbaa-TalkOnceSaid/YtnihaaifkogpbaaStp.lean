/- Walks: whether a number is in a list, whether a list rises, whether sets are apart. -/
import Derived.Test.YtnihaaifkogpbaaStep
import Derived.Test.YtnihaaifkogpbaaStpM
import Derived.Test.YtnihaaifkogpbaaRows
import Derived.IntWalk
namespace Go.Proofs.Ytnihaaifkogpbaa
open Go.ChangeShapes Go.WideShapes Go.ChangeAt Go.RowKit
set_option linter.unusedVariables false

theorem elem64 : Elem Try.prog 23 29 1 8 := Elem.of (z := .int .u64 0) Try.underlying23 (by kernel_rfl) rfl (by decide)
theorem elemSets : Elem Try.prog 110 23 1 24 := Elem.of (z := .slice none 0 0) Try.underlying110 (by kernel_rfl) rfl (by decide)
theorem u64_at {w : World} {D : Dom} {A : Option Addr} {n c : Nat} {l : List Nat} (h : rpU64.sl w D A n c l) {k : Nat} (hk : k < n) :
    ∃ b off x, A = some ⟨b, off, none⟩ ∧ D b ∧ l[k]? = some x ∧ w.cell? ⟨b, off + k, none⟩ = some (.int .u64 (x : Int)) ∧ x ≤ 18446744073709551615 := by
  obtain ⟨b, off, x, cs, hA, hb, hx, hc, hg⟩ := Rp.sl_at h hk
  obtain ⟨rfl, hlt⟩ := hc
  have := hg 0 _ rfl
  exact ⟨b, off, x, hA, hb, hx, by simpa [rpU64] using this, by omega⟩
abbrev rpSets : Rp (List (List Nat)) := rpSlice (rpSlice rpU64)

/-- Where a number first stands in a list, -1 if nowhere. -/
def IndexIs (l : List Nat) (x : Nat) (r : Int) : Prop := (∃ k : Nat, r = k ∧ l[k]? = some x ∧ ∀ (j : Nat), j < k → l[j]? ≠ some x) ∨ (r = -1 ∧ x ∉ l)
def IndexPost (l : List Nat) (x : Nat) (w : World) (e : Ending) (w' : World) : Prop := ∃ r : Int, IndexIs l x r ∧ e = .returned (.int .i64 r) ∧ w = w'
theorem index_any {D : Dom} {A : Option Addr} {n c : Nat} {l : List Nat} (x : Nat) {w : World} (hl : rpU64.sl w D A n c l) :
    Calls Try.prog 85 #[.slice A n c, .int .u64 (x : Int)] w (IndexPost l x w) := by
  obtain ⟨hlen, hnc, hcm⟩ := Rp.sl_len hl
  unfold maxLen at hcm
  have HL := Lib.hid hl
  have HN := Lib.hid hlen
  clear hl hlen
  go_enter Try.func85, Try.ntmps85
  go_wp2_with fail
  go_loop [8] (fun i => ∃ k : Nat, k ≤ n ∧ i = .int .i64 k ∧ Hid (∀ j, j < k → l[j]? ≠ some x)) (fun i => n - (intOf i).toNat)
  case atStart => exact ⟨0, by omega, rfl, fun j h => by omega⟩
  case round =>
    obtain ⟨k, hk, rfl, hsh⟩ := hrel
    by_cases hkn : k < n
    · obtain ⟨b, off, y, rfl, hb, hy, hc, hlt⟩ := u64_at HL.out hkn
      have hd : decide ((k : Int) < (n : Int)) = true := by simp; omega
      have HY := Lib.hid hy
      clear hy
      by_cases hyx : y = x
      · have hq : ((x : Int) == (y : Int)) = true := by simp; omega
        have HX := Lib.hid hyx
        clear hyx
        go_wp2_with fail
        go_ret
        exact ⟨k, .inl ⟨k, rfl, HX.out ▸ HY.out, hsh.out⟩, rfl, rfl⟩
      · have hq : ((x : Int) == (y : Int)) = false := by simp; omega
        have HX := Lib.hid hyx
        clear hyx
        go_wp2_with fail
        go_round
        case rel =>
          refine ⟨k + 1, by omega, by go_num, fun j hj hz => ?_⟩
          rcases Nat.lt_or_ge j k with h | h
          · exact hsh.out j h hz
          · obtain rfl : j = k := by omega
            rw [HY.out] at hz
            injection hz with hz
            exact HX.out hz
        case measure => simp [intOf]; omega
    · obtain rfl : k = n := by omega
      have hd : decide ((k : Int) < (k : Int)) = false := by simp
      go_wp2_with fail
      go_ret
      exact ⟨-1, .inr ⟨rfl, fun hm => by
        obtain ⟨j, hj⟩ := List.getElem?_of_mem hm
        exact hsh.out j (by have := (List.getElem?_eq_some_iff.1 hj).1; have := HN.out; omega) hj⟩, rfl, rfl⟩
theorem contains_any {D : Dom} {A : Option Addr} {n c : Nat} {l : List Nat} (x : Nat) {w : World} (hl : rpU64.sl w D A n c l) :
    Calls Try.prog 83 #[.slice A n c, .int .u64 (x : Int)] w fun e w' => e = .returned (.bool (dec (x ∈ l))) ∧ w = w' := by
  have HI := Lib.hid (index_any x hl)
  clear hl
  go_enter Try.func83, Try.ntmps83
  go_wp2_with fail
  refine HI.out.mono ?_; rintro e w1 ⟨r, hr, rfl, rfl⟩
  rcases hr with ⟨k, rfl, hk, _⟩ | ⟨rfl, hx⟩
  · have HK := Lib.hid (List.mem_of_getElem? hk)
    clear hk
    go_wp2_with fail
    go_ret
    rw [dec_true HK.out]
    exact ⟨rfl, rfl⟩
  · have HX := Lib.hid hx
    clear hx
    go_wp2_with fail
    go_ret
    rw [dec_false HX.out]
    exact ⟨rfl, rfl⟩

theorem rises_any {D : Dom} {A : Option Addr} {n c : Nat} {l : List Nat} {w : World} (hl : rpU64.sl w D A n c l) (hD : ∀ k, D k → k < w.heap.size) :
    Calls Try.prog 64 #[.slice A n c] w fun e w' => e = .returned (.bool (dec (Rises l))) ∧ Below w.heap.size w w' := by
  obtain ⟨hlen, hnc, hcm⟩ := Rp.sl_len hl
  unfold maxLen at hcm
  have HL := Lib.hid hl
  have HN := Lib.hid hlen
  have HD := Lib.hid hD
  clear hl hlen hD
  go_enter Try.func64, Try.ntmps64
  go_wp2_with fail
  go_loopw [3] (fun i wr => ∃ k : Nat, k ≤ n ∧ i = .int .i64 ((k : Int) + 1) ∧ Hid (∀ (j a b : Nat), j < k → l[j]? = some a → l[j + 1]? = some b → a < b) ∧ Below w.heap.size w wr) (fun i _ => n + 1 - (intOf i).toNat)
  case atStart => exact ⟨0, by omega, rfl, fun j a b h => by omega, Below.refl _ _⟩
  case round =>
    obtain ⟨k, hk, rfl, hsh, hbel⟩ := hrel
    have HB := Lib.hid hbel
    by_cases hkn : k + 1 < n
    · obtain ⟨b, off, y, rfl, hb, hy, hc, hlt⟩ := u64_at (Rp.sl_below HL.out hbel HD.out) (show k < n by omega)
      obtain ⟨b', off', z, hA, hb', hz, hc', hlt'⟩ := u64_at (Rp.sl_below HL.out hbel HD.out) hkn
      injection hA with hA
      injection hA with h1 h2
      subst h1; subst h2
      have hd : decide ((k : Int) + 1 < (n : Int)) = true := by simp; omega
      have hw1 : IntKind.i64.wrap (k : Int) = (k : Int) := IntWalk.i64_in _ (by omega)
      have hk0 : (0 : Int) ≤ (k : Int) := by omega
      have hk1 : (k : Int) + 1 < (n : Int) := by omega
      have hk3 : (0 : Int) ≤ (k : Int) + 1 := by omega
      have hk2 : (k : Int) < (n : Int) := by omega
      have ht : ((k : Int) + 1).toNat = k + 1 := by omega
      have HY := Lib.hid hy
      have HZ := Lib.hid hz
      clear hy hz hbel
      by_cases hyz : z ≤ y
      · have hq : decide ((z : Int) ≤ (y : Int)) = true := by simp; omega
        go_wp2_with fail
        go_quiet (fail)
        clear hw1 ht
        go_wp2_with fail
        go_ret
        rw [dec_false (fun h => by have := h k y z HY.out HZ.out; omega)]
        exact ⟨rfl, HB.out.trans ⟨rfl, rfl, rfl, Nat.le_refl _, fun _ _ => rfl⟩⟩
      · have hq : decide ((z : Int) ≤ (y : Int)) = false := by simp; omega
        go_wp2_with fail
        go_quiet (fail)
        clear hw1 ht
        go_wp2_with fail
        go_roundw
        case rel =>
          refine ⟨k + 1, by omega, by go_num, fun j a b hj ha hb => ?_, HB.out.trans ⟨rfl, rfl, rfl, Nat.le_refl _, fun _ _ => rfl⟩⟩
          rcases Nat.lt_or_ge j k with h | h
          · exact hsh.out j a b h ha hb
          · obtain rfl : j = k := by omega
            rw [HY.out] at ha
            rw [HZ.out] at hb
            injection ha with ha
            injection hb with hb
            omega
        case measure => simp [intOf]; omega
    · have hd : decide ((k : Int) + 1 < (n : Int)) = false := by simp; omega
      go_wp2_with fail
      go_ret
      have hr : Rises l := fun j a b ha hb => hsh.out j a b (by have := (List.getElem?_eq_some_iff.1 hb).1; have := HN.out; omega) ha hb
      rw [dec_true hr]
      exact ⟨rfl, HB.out⟩
end Go.Proofs.Ytnihaaifkogpbaa
