/- The reference's bytes of a stripe. -/
import Derived.Test.YtmdgmnaaopineaaStrX
import Derived.Test.YtmdgmnaaopineaaStp3
namespace Go.Proofs.Ytmdgmnaaopineaa
open Go.ChangeShapes Go.WideShapes Go.ChangeAt Go.RowKit
set_option linter.unusedVariables false
def pk (T n : Nat) (sets : List (List Nat)) (k : Nat) : List UInt8 := flat (T :: n :: ((sets.take k).map setn).flatten)
theorem pk_zero (T n : Nat) (sets : List (List Nat)) : pk T n sets 0 = vbytes T ++ vbytes n := by simp [pk, flat_cons, flat_nil]
theorem pk_step {T n k : Nat} {sets : List (List Nat)} {x : List Nat} (h : sets[k]? = some x) : pk T n sets (k + 1) = pk T n sets k ++ vbytes x.length ++ flat (stepsFrom none x) := by
  unfold pk
  rw [List.take_add_one, h]
  simp [flat_cons, flat_append, setn]
theorem pk_end {f t : Nat} {sets : List (List Nat)} : pk (t - f - 1) sets.length sets sets.length = stb (f, t, sets) := by
  unfold pk stb stn
  rw [List.take_length]
theorem vbytes_bv {x : Nat} (h : x < 128) : (vbytes x).map bv = [.int .u8 (x : Int)] := by
  rw [vbytes_lt h]
  show [Value.int .u8 ((UInt8.ofNat x).toNat : Int)] = _
  rw [ofNat_small (by omega)]
section
variable {D : Dom} {A : Option Addr} {n c f t : Nat} {sets : List (List Nat)} {w : World}
set_option maxRecDepth 100000 in
set_option maxHeartbeats 3000000 in
theorem rsb_any (hs : (rpSlice rpU64).sl w D A n c sets) (hD : ∀ k, D k → k < w.heap.size) (hok : SOk (f, t, sets)) :
    Calls Try.prog 48 #[.agg (stpV f t A n c)] w fun e w' => ∃ A2 m c2, e = .returned (.slice A2 m c2) ∧ w'.ownsRow w.heap.size 5 1 (.slice A2 m c2) m ((stb (f, t, sets)).map bv) ∧ Below w.heap.size w w' := by
  obtain ⟨hlen, hnc, hcm⟩ := Rp.sl_len hs
  obtain ⟨hft, ht62, hn1, hn8, hset⟩ := hok
  simp only at hft ht62 hn1 hn8 hset
  subst hlen
  rw [← pk_end]
  have HV : Hid (∀ (x : Nat) (w : World), x < 18446744073709551616 → Calls Try.prog 101 #[.int .u64 (x : Int)] w fun e w' => ∃ A n c, e = .returned (.slice A n c) ∧ w'.ownsRow w.heap.size 5 1 (.slice A n c) n ((vbytes x).map bv) ∧ n ≤ 10 ∧ Below w.heap.size w w') := fun x w hx => (rvbytes_any 9 x w (by omega) (by decide) hx).mono fun e w' ⟨A, n, c, h1, h2, h3⟩ => ⟨A, n, c, h1, h2, by have := h2.1; have := vbytes_10 hx; simp at *; omega, h3⟩
  have HL : Hid (∀ (k b off : Nat) (x : List Nat) (A2 : Option Addr) (c2 : Nat), sets[k]? = some x → rpU64.sl w D A2 x.length c2 x → ∀ w', Below w.heap.size w w' → Calls Try.prog 102 #[.slice A2 x.length c2] w' fun e w'' => ∃ A2 m c2, e = .returned (.slice A2 m c2) ∧ w''.ownsRow w'.heap.size 5 1 (.slice A2 m c2) m ((flat (stepsFrom none x)).map bv) ∧ m ≤ 80 ∧ Below w'.heap.size w' w'') := fun k b off x A2 c2 hx hr w' hb => by
    obtain ⟨⟨h1, h2, h3, h4⟩, _⟩ := setOk_iff.1 (hset k x hx)
    exact (rlbytes_any (Rp.sl_below hr hb hD) (fun k hk => Nat.lt_of_lt_of_le (hD k hk) hb.size) h3 (by omega)).mono fun e w'' ⟨A, n, c, h1, h2, h3, h4⟩ => ⟨A, n, c, h1, h2, by omega, h4⟩
  have HLEN : Hid (∀ (k : Nat) (x : List Nat), sets[k]? = some x → x.length ≤ 8) := fun k x hx => (setOk_iff.1 (hset k x hx)).1.2.1
  obtain ⟨T, hT⟩ : ∃ T, T = t - f - 1 := ⟨_, rfl⟩
  rw [← hT]
  have s0 : IntKind.u64.wrap ((t : Int) - (f : Int)) = (t : Int) - (f : Int) := IntWalk.u64_in _ (by omega)
  have s1 : IntKind.u64.wrap ((t : Int) - (f : Int) - 1) = (T : Int) := by rw [IntWalk.u64_in _ (by omega)]; omega
  have s2 : IntKind.u8.wrap (sets.length : Int) = (sets.length : Int) := IntWalk.u8_in _ (by omega)
  have HT64 : Hid (T < 18446744073709551616) := (by omega : T < 18446744073709551616)
  have HK0 := Lib.hid (blk11 w 31 (stpV f t A sets.length c))
  have HB0 := Lib.hid (below1 w (.cells (stpV f t A sets.length c) 31))
  have HS := Lib.hid hs
  have HD := Lib.hid hD
  have HN8 := Lib.hid hn8
  have HS2 := Lib.hid (vbytes_bv (x := sets.length) (by omega))
  clear hs hD hset hT hft ht62 hnc hcm
  generalize sets.length = N at *
  go_enter Try.func48, Try.ntmps48
  go_wp2_with fail
  generalize World.alloc w _ = w0 at *
  have k0 := (show Blk w0 _ _ _ from HK0.out).cell 0
  have k1 := (show Blk w0 _ _ _ from HK0.out).cell 1
  go_wp2_with fail
  refine (HV.out T _ HT64.out).mono ?_; rintro e w1 ⟨A1, n1, c1, rfl, ho1, hn1', hb1⟩
  have HO1 := Lib.hid (own_mono ho1 HB0.out.size)
  have HK1 := Lib.hid (keepB (show Blk w0 w.heap.size 31 _ from HK0.out) hb1)
  have HB1 := Lib.hid (stepB HB0.out hb1)
  have k2 := (show Blk w1 w.heap.size 31 _ from HK1.out).cell 2
  clear k0 k1 ho1 hb1 s0 s1
  have hmx : n1 + 1 ≤ maxLen := by unfold maxLen; omega
  go_wp2_with (at_builtin; refine wpList_app rfl (.tmp 12) (.tmp 17) _ rfl elemB rfl (HO1.out.alloc _) rfl (Src.new w1 (.int .u8 (N : Int)) _ rfl) hmx (by omega) (by have := HB1.out.size; simp; omega) ?_; intro A5 c5 w5 ho5 hg5 hat5; have HO5 := Lib.hid ho5; have HK5 := Lib.hid ((keepB (show Blk w1 w.heap.size 31 _ from HK1.out) (below1 w1 (.cells #[.int .u8 (N : Int)] 5))).grown hg5 (Pen.ne' (keepB (show Blk w1 w.heap.size 31 _ from HK1.out) (below1 w1 (.cells #[.int .u8 (N : Int)] 5))) (HO1.out.alloc _) (by decide))); have HB5 := Lib.hid ((stepB HB1.out (below1 w1 (.cells #[.int .u8 (N : Int)] 5))).grown hg5 (stepB HB1.out (below1 w1 (.cells #[.int .u8 (N : Int)] 5))).size (fun j hj => (HO1.out.lt j hj).1)); clear ho5 hg5 hat5 k2)
  go_loopw [3, 4] (fun o i wr => ∃ (k m : Nat) (A2 : Option Addr) (c2 : Nat), k ≤ N ∧ i = .int .i64 k ∧ o = .slice A2 m c2 ∧ m ≤ 20 + 90 * k ∧ Hid (wr.ownsRow w.heap.size 5 1 (.slice A2 m c2) m ((pk T N sets k).map bv)) ∧ Hid (Blk wr w.heap.size 31 (stpV f t A N c)) ∧ Hid (Below w.heap.size w wr)) (fun _ i _ => N - (intOf i).toNat)
  case atStart => exact ⟨0, n1 + 1, A5, c5, by omega, rfl, rfl, by omega, by rw [pk_zero, List.map_append, HS2.out]; exact HO5.out, HK5.out, HB5.out⟩
  case round =>
    clear HO1 HK1 HB1 HO5 HK5 HB5
    obtain ⟨k, m, A2, c2, hk, rfl, rfl, hm, hown, hkb, hbel⟩ := hrel
    have k2 := (show Blk wr w.heap.size 31 _ from hkb.out).cell 2
    by_cases hkn : k < N
    case neg =>
      obtain rfl : k = N := by omega
      have hd : decide ((k : Int) < (k : Int)) = false := by simp
      go_wp2_with fail
      go_ret
      exact ⟨A2, m, c2, rfl, hown.out, hbel.out⟩
    case pos =>
      have hd : decide ((k : Int) < (N : Int)) = true := by simp; omega
      have hkI : (0 : Int) ≤ (k : Int) := by omega
      have hknI : (k : Int) < (N : Int) := by omega
      obtain ⟨b, off, x, A3, c3, rfl, hb, hx, hcell, hrow⟩ := rows_at HS.out hkn
      have hblt := HD.out b hb
      have HC := Lib.hid hcell
      have hcw := (hbel.out.cell (p := ⟨b, off + k, none⟩) hblt).trans hcell
      have HBL := Lib.hid hblt
      have hx8 := HLEN.out k x hx
      have s3 : IntKind.u8.wrap (x.length : Int) = (x.length : Int) := IntWalk.u8_in _ (by omega)
      have HX := Lib.hid (vbytes_bv (x := x.length) (by omega))
      have HSTEP := Lib.hid (pk_step (T := T) (n := N) hx)
      have HCALL := Lib.hid (HL.out k b off x A3 c3 hx hrow)
      have hmx2 : m + 1 ≤ maxLen := by unfold maxLen; omega
      have hzz := hbel.out.size
      clear hx hrow hcell hblt hb
      generalize x.length = X at *
      go_wp2_with (at_builtin; refine wpList_app rfl (.tmp 26) (.tmp 34) _ rfl elemB rfl (hown.out.alloc _) rfl (Src.new wr (.int .u8 (X : Int)) _ rfl) hmx2 (by omega) (by simp; omega) ?_; intro A5 c5 w5 ho5 hg5 hat5; have HO5 := Lib.hid ho5; have HK5 := Lib.hid ((keepB (show Blk wr w.heap.size 31 _ from hkb.out) (below1 wr (.cells #[.int .u8 (X : Int)] 5))).grown hg5 (Pen.ne' (keepB (show Blk wr w.heap.size 31 _ from hkb.out) (below1 wr (.cells #[.int .u8 (X : Int)] 5))) (hown.out.alloc _) (by decide))); have HB5 := Lib.hid ((stepB hbel.out (below1 wr (.cells #[.int .u8 (X : Int)] 5))).grown hg5 (stepB hbel.out (below1 wr (.cells #[.int .u8 (X : Int)] 5))).size (fun j hj => (hown.out.lt j hj).1)); clear ho5 hg5 hat5 k2 hcw; have k2 := (show Blk w5 w.heap.size 31 _ from HK5.out).cell 2; have hcw := (HB5.out.cell (p := ⟨b, off + k, none⟩) HBL.out).trans HC.out)
      refine (HCALL.out _ HB5.out).mono ?_; rintro e w6 ⟨A6, n6, c6, rfl, ho6, hn6, hb6⟩
      have HO6 := Lib.hid ho6
      have HO7 := Lib.hid (keepO HO5.out hb6)
      have HK7 := Lib.hid (keepB (show Blk w5 w.heap.size 31 _ from HK5.out) hb6)
      have HB7 := Lib.hid (stepB HB5.out hb6)
      clear ho6 hb6 k2 hcw
      have hmx3 : m + 1 + n6 ≤ maxLen := by unfold maxLen; omega
      go_wp2_with (at_builtin; refine wpList_app rfl (.tmp 36) (.tmp 42) _ rfl elemB rfl HO7.out rfl (Src.bytes (own_bytes HO6.out)) hmx3 (by omega) HB7.out.size ?_; intro A8 c8 w8 ho8 hg8 hat8; have HO8 := Lib.hid ho8; have HK8 := Lib.hid ((show Blk w6 w.heap.size 31 _ from HK7.out).grown hg8 (Pen.ne' (show Blk w6 w.heap.size 31 _ from HK7.out) HO7.out (by decide))); have HB8 := Lib.hid (HB7.out.grown hg8 HB7.out.size (fun j hj => (HO7.out.lt j hj).1)); clear ho8 hg8 hat8)
      go_roundw
      case rel => exact ⟨k + 1, m + 1 + n6, A8, c8, by omega, by go_num, rfl, by omega, by rw [HSTEP.out, List.map_append, List.map_append, HX.out]; exact HO8.out, HK8.out, HB8.out⟩
      case measure => simp [intOf]; omega
end
end Go.Proofs.Ytmdgmnaaopineaa
