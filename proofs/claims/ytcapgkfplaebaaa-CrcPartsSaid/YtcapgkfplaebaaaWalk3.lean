/- The walks of chapter 7's sums. -/
import Derived.Test.YtcapgkfplaebaaaWalk2
namespace Go.Proofs.Ytcapgkfplaebaaa
open Go.ChangeShapes Go.WideShapes Go.ChangeAt Go.RowKit
open Crc
set_option linter.unusedVariables false

theorem tab_at {w : World} {g : Nat} {t : TypeId} (h : Blk w g t (tabUpto 16)) (c : BitVec 32) : w.cell? ⟨g, (c &&& 15#32).toNat, none⟩ = some (.int .u32 ((steps 4 (c &&& 15#32)).toNat : Int)) := by
  rw [h.cell]
  have hlt : (c &&& 15#32).toNat < 16 := by
    rw [BitVec.toNat_and]
    exact Nat.lt_of_le_of_lt Nat.and_le_right (by decide)
  rw [Array.getElem?_eq_getElem (by simpa [tabUpto] using hlt)]
  simp only [tabUpto, Array.getElem_ofFn, hlt, if_true, BitVec.ofNat_toNat, BitVec.setWidth_eq]

theorem take_succ {α : Type} {l : List α} {k : Nat} {x : α} (h : l[k]? = some x) : l.take (k + 1) = l.take k ++ [x] := by
  rw [List.take_add_one, h]; rfl
theorem add_take {st : W32} {l : List UInt8} {k : Nat} {x : UInt8} (h : l[k]? = some x) : add st (l.take (k + 1)) = into (add st (l.take k)) x := by
  rw [take_succ h, add_append]; rfl
/-- What a round of Add makes of a state, its steps by name. -/
theorem into_parts (s : BitVec 32) (x : UInt8) : ∃ c1 i1 t1 r1 i2 t2 r2 : BitVec 32,
    bits .xor .u32 (s.toNat : Int) (x.toNat : Int) = (c1.toNat : Int) ∧ bits .and .u32 (c1.toNat : Int) 15 = (i1.toNat : Int) ∧ i1.toNat < 16 ∧
    bits .xor .u32 ((c1.toNat : Int) / (16 : Int)) (t1.toNat : Int) = (r1.toNat : Int) ∧ bits .and .u32 (r1.toNat : Int) 15 = (i2.toNat : Int) ∧ i2.toNat < 16 ∧
    bits .xor .u32 ((r1.toNat : Int) / (16 : Int)) (t2.toNat : Int) = (r2.toNat : Int) ∧ into s x = r2 ∧
    (∀ (w : World) (g : Nat) (t : TypeId), Blk w g t (tabUpto 16) → w.cell? ⟨g, i1.toNat, none⟩ = some (.int .u32 (t1.toNat : Int)) ∧ w.cell? ⟨g, i2.toNat, none⟩ = some (.int .u32 (t2.toNat : Int))) := by
  have lt16 : ∀ c : BitVec 32, (c &&& 15#32).toNat < 16 := fun c => by
    rw [BitVec.toNat_and]; exact Nat.lt_of_le_of_lt Nat.and_le_right (by decide)
  have e15 : (((15#32).toNat : Nat) : Int) = 15 := rfl
  have ex : (((x.toBitVec.zeroExtend 32).toNat : Nat) : Int) = (x.toNat : Int) := by simp [BitVec.truncate_eq_setWidth]
  have eq : into s x = steps 4 (steps 4 (s ^^^ x.toBitVec.zeroExtend 32)) := by rw [← steps_add]; rfl
  rw [eq]
  generalize hc : s ^^^ x.toBitVec.zeroExtend 32 = c at *
  have hxx : bits .xor .u32 (s.toNat : Int) (x.toNat : Int) = (c.toNat : Int) := by rw [← ex, bits_xor32, hc]
  refine ⟨c, c &&& 15#32, steps 4 (c &&& 15#32), steps 4 c, steps 4 c &&& 15#32, steps 4 (steps 4 c &&& 15#32), steps 4 (steps 4 c), hxx, ?_, lt16 _, ?_, ?_, lt16 _, ?_, rfl, fun w g t h => ⟨tab_at h _, tab_at h _⟩⟩
  · rw [← bits_and32, e15]
  · rw [shr4, bits_xor32, half]
  · rw [← bits_and32, e15]
  · rw [shr4, bits_xor32, half]

theorem add_any (st : BitVec 32) (A : Option Addr) (n c : Nat) (l : List UInt8) (B : Nat) (w : World) (hl : rpU8.sl w B A n c l) (hB : B ≤ w.heap.size) :
    Calls Try.prog 13 #[.int .u32 (st.toNat : Int), .slice A n c] w fun e w' => e = .returned (.int .u32 ((add st l).toNat : Int)) ∧ Below w.heap.size w w' := by
  have hmax := Rp.sl_len hl
  obtain ⟨hlen, hnc, hcm⟩ := hmax
  unfold maxLen at hcm
  have hn0 : n ≤ 9223372036854775807 := by omega
  have HL := Lib.hid hlen
  have HSL := Lib.hid hl
  clear hlen hl hcm hnc
  go_enter Try.func13, Try.ntmps13
  go_wp2_with (first
    | (go_at_call 22; refine (table_any _).mono ?_; rintro e w1 ⟨rfl, hb⟩)
    | (refine wpList_put_row rfl 42 (.tmp 5) (.tmp 8) rfl w1.heap.size (tabUpto 16) rfl rfl 42 _ (Blk.new w1 42 _) (by rw [tabUpto_size]; kernel_rfl) (by rw [tabUpto_size]; rfl) (by kernel_rfl) ?_; intro w2 hblk hgr))
  have hbel : Below w.heap.size w w2 := (hb.alloc hb.size _).grown hgr (by simp; have := hb.size; omega) (by intro k hk; injection hk with hk; have := hb.size; omega)
  have hsl2 := Rp.sl_below HSL.out hbel hB
  have HSL2 := Lib.hid hsl2
  clear hgr hb HSL hsl2
  go_loop [0, 11] (fun s i => ∃ k : Nat, k ≤ n ∧ i = .int .i64 k ∧ s = .int .u32 ((add st (l.take k)).toNat : Int)) (fun _ i => n - (intOf i).toNat)
  case atStart => exact ⟨0, by omega, rfl, rfl⟩
  case round =>
    obtain ⟨k, hk, rfl, rfl⟩ := hrel
    by_cases hlt : k < n
    · obtain ⟨b, off, x, rfl, hbB, hx, hcell⟩ := bytes_at HSL2.out hlt
      have hadd := add_take (st := st) hx
      obtain ⟨c1, i1, t1, r1, i2, t2, r2, h1, h2, l1, h3, h4, l2, h5, h6, ht⟩ := into_parts (add st (l.take k)) x
      obtain ⟨ht1, ht2⟩ := ht w2 _ _ hblk
      rw [h6] at hadd
      have HA := Lib.hid hadd
      clear hadd h6 ht hx
      have hd : decide ((k : Int) < (n : Int)) = true := by simp; omega
      have := x.toNat_lt
      have := c1.isLt
      have := r1.isLt
      go_wp2
      go_round
      case rel => exact ⟨k + 1, by omega, by go_num, by rw [HA.out]⟩
      case measure => simp [intOf]; omega
    · obtain rfl : k = n := by omega
      have ht : l.take k = l := by rw [List.take_of_length_le (by rw [HL.out]; omega)]
      go_wp2
      go_ret
      exact ⟨rfl, hbel⟩

theorem begin_any (w : World) : Calls Try.prog 16 #[] w fun e w' => e = .returned (.int .u32 ((full.toNat : Nat) : Int)) ∧ w = w' := by
  go_enter Try.func16, Try.ntmps16
  go_wp2
  go_ret
  exact ⟨rfl, rfl⟩
theorem not32 (c : BitVec 32) : bits .xor .u32 IntKind.u32.max (c.toNat : Int) = ((~~~c).toNat : Int) := by
  have h := bits_xor32 (BitVec.allOnes 32) c
  rw [BitVec.allOnes_xor] at h
  exact h
theorem end_any (c : BitVec 32) (w : World) : Calls Try.prog 15 #[.int .u32 (c.toNat : Int)] w fun e w' => e = .returned (.int .u32 ((~~~c).toNat : Int)) ∧ w = w' := by
  have := c.isLt
  have h := not32 c
  generalize ~~~c = d at *
  go_enter Try.func15, Try.ntmps15
  go_wp2
  go_ret
  exact ⟨rfl, rfl⟩

theorem sum_any (A : Option Addr) (n c : Nat) (l : List UInt8) (B : Nat) (w : World) (hl : rpU8.sl w B A n c l) (hB : B ≤ w.heap.size) :
    Calls Try.prog 10 #[.slice A n c] w fun e w' => e = .returned (.int .u32 ((sum l).toNat : Int)) ∧ Below w.heap.size w w' := by
  have HL := Lib.hid hl
  have hs : sum l = ~~~ add full l := rfl
  have HS := Lib.hid hs
  clear hl hs
  go_enter Try.func10, Try.ntmps10
  go_wp2_with fail
  refine (begin_any _).mono ?_; rintro e w' ⟨rfl, rfl⟩
  go_wp2_with fail
  refine (add_any full A n c l B _ HL.out hB).mono ?_; rintro e w' ⟨rfl, hb⟩
  go_wp2_with fail
  refine (end_any _ _).mono ?_; rintro e w' ⟨rfl, rfl⟩
  go_wp2_with fail
  go_ret
  exact ⟨ret_u32 (by rw [HS.out, BitVec.toNat_not]), hb⟩

theorem ref_add_any (st : BitVec 32) (A : Option Addr) (n c : Nat) (l : List UInt8) (B : Nat) (w : World) (hl : rpU8.sl w B A n c l) (hB : B ≤ w.heap.size) :
    Calls Try.prog 14 #[.int .u32 (st.toNat : Int), .slice A n c] w fun e w' => e = .returned (.int .u32 ((add st l).toNat : Int)) ∧ w = w' := by
  obtain ⟨hlen, hnc, hcm⟩ := Rp.sl_len hl
  unfold maxLen at hcm
  have hn0 : n ≤ 9223372036854775807 := by omega
  have HL := Lib.hid hlen
  have HSL := Lib.hid hl
  clear hlen hl hcm hnc
  go_enter Try.func14, Try.ntmps14
  go_wp2
  go_loop [0, 5] (fun s i => ∃ k : Nat, k ≤ n ∧ i = .int .i64 k ∧ s = .int .u32 ((add st (l.take k)).toNat : Int)) (fun _ i => n - (intOf i).toNat)
  case atStart => exact ⟨0, by omega, rfl, rfl⟩
  case round =>
    obtain ⟨k, hk, rfl, rfl⟩ := hrel
    by_cases hlt : k < n
    · obtain ⟨b, off, x, rfl, hbB, hx, hcell⟩ := bytes_at HSL.out hlt
      have hadd := add_take (st := st) hx
      have HA := Lib.hid hadd
      clear hadd hx
      have hd : decide ((k : Int) < (n : Int)) = true := by simp; omega
      go_wp2_with (go_at_call 23; refine (into_any _ _ _).mono ?_; rintro e w' ⟨rfl, rfl⟩)
      go_round
      case rel => exact ⟨k + 1, by omega, by go_num, by rw [HA.out]⟩
      case measure => simp [intOf]; omega
    · obtain rfl : k = n := by omega
      have ht : l.take k = l := by rw [List.take_of_length_le (by rw [HL.out]; omega)]
      go_wp2
      go_ret
      exact ⟨rfl, rfl⟩
theorem ref_sum_any (A : Option Addr) (n c : Nat) (l : List UInt8) (B : Nat) (w : World) (hl : rpU8.sl w B A n c l) (hB : B ≤ w.heap.size) :
    Calls Try.prog 12 #[.slice A n c] w fun e w' => e = .returned (.int .u32 ((sum l).toNat : Int)) ∧ w = w' := by
  have h := BitVec.isLt (add full l)
  have hs : ((sum l).toNat : Int) = 4294967295 - ((add full l).toNat : Int) := by
    unfold sum
    rw [BitVec.toNat_not]
    omega
  have HL := Lib.hid hl
  have HS := Lib.hid hs
  clear hl hs
  go_enter Try.func12, Try.ntmps12
  go_wp2_with fail
  refine (ref_add_any full A n c l B _ HL.out hB).mono ?_; rintro e w' ⟨rfl, rfl⟩
  go_wp2_with fail
  go_ret
  exact ⟨ret_u32 (by rw [HS.out]), rfl⟩

theorem same_any (A A' : Option Addr) (n c n' c' : Nat) (l l' : List UInt8) (B : Nat) (w : World) (hl : rpU8.sl w B A n c l) (hl' : rpU8.sl w B A' n' c' l') :
    Calls Try.prog 11 #[.slice A n c, .slice A' n' c'] w fun e w' => e = .returned (.bool (l == l')) ∧ w = w' := by
  have h1 := run_bytes_string (P := Try.prog) hl 22 9 5 Try.underlying22 Try.underlying5 Try.underlying9
  have h2 := run_bytes_string (P := Try.prog) hl' 22 9 5 Try.underlying22 Try.underlying5 Try.underlying9
  go_enter Try.func11, Try.ntmps11
  go_wp2
  go_ret
  exact ⟨rfl, rfl⟩

def nine : List UInt8 := [49, 50, 51, 52, 53, 54, 55, 56, 57]
theorem sum_nine : sum nine = 3808858755#32 := by decide +kernel
theorem sum_nil : sum [] = 0#32 := by decide +kernel
theorem live_any (w : World) : Calls Try.prog 8 #[] w fun e w' => e = .returned (.bool true) ∧ Below w.heap.size w w' := by
  have h9 := Lib.hid sum_nine
  have h0 := Lib.hid sum_nil
  have kc := fun (w : World) (C : Array Value) (n c : Nat) => Lib.run_convert_bytes_const (P := Try.prog) w 22 5 C n c Try.underlying22 Try.underlying5
  go_enter Try.func8, Try.ntmps8
  go_wp2_with fail
  refine (sum_any _ 9 9 nine (w.heap.size + 1) _ (bytes_of_cells (l := nine) (fun i => World.cell?_alloc_mark _ _ _ _ _) ?_ rfl (by decide) (by decide)) (by simp)).mono ?_
  · intro i x hx
    match i, hx with
    | 0, hx | 1, hx | 2, hx | 3, hx | 4, hx | 5, hx | 6, hx | 7, hx | 8, hx => cases hx; rfl
  rintro e w1 ⟨rfl, hb⟩
  rw [h9.out]
  go_wp2_with fail
  refine (sum_any none 0 0 [] 0 _ (Rp.sl_nil _ _ _ _ _ (by decide)) (Nat.zero_le _)).mono ?_
  rintro e w2 ⟨rfl, hb2⟩
  rw [h0.out]
  go_wp2_with fail
  go_ret
  exact ⟨rfl, (((Below.refl _ _).alloc (Nat.le_refl _) _).trans (hb.mono (by simp))).trans (hb2.mono (by have := hb.size; simp at this; omega))⟩
end Go.Proofs.Ytcapgkfplaebaaa
