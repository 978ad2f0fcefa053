/- A stripe is written: zigzag.steps, PutRising, stripe.Put, stripe.Bytes. -/
import Derived.Test.YtmdgmnaaopineaaStrX
import Derived.Test.YtmdgmnaaopineaaStp3
import Derived.Test.YtmdgmnaaopineaaPut
namespace Go.Proofs.Ytmdgmnaaopineaa
open Go.ChangeShapes Go.WideShapes Go.ChangeAt Go.RowKit
set_option linter.unusedVariables false
theorem stepsFrom_length : ∀ (o : Option Nat) (l : List Nat), (stepsFrom o l).length = l.length
  | o, [] => by rw [stepsFrom_nil]
  | o, x :: xs => by rw [stepsFrom_cons, List.length_cons, stepsFrom_length, List.length_cons]
theorem stepsFrom_lt : ∀ (o : Option Nat) (l : List Nat) (B : Nat), (∀ x ∈ l, x < B) → ∀ x ∈ stepsFrom o l, x < B
  | o, [], B, h, x, hx => by rw [stepsFrom_nil] at hx; cases hx
  | o, y :: ys, B, h, x, hx => by
    rw [stepsFrom_cons] at hx
    rcases List.mem_cons.1 hx with rfl | hx
    · have := h y (by simp)
      cases o with
      | none => exact this
      | some a => show y - a - 1 < B; omega
    · exact stepsFrom_lt _ ys B (fun z hz => h z (by simp [hz])) x hx
section
variable {D : Dom} {A : Option Addr} {n c : Nat} {l : List Nat} {w : World}
set_option maxRecDepth 100000 in
set_option maxHeartbeats 2000000 in
theorem steps_any (hl : rpU64.sl w D A n c l) (hD : ∀ k, D k → k < w.heap.size) (hr : Rises l) (hn : n ≤ 1000) :
    Calls Try.prog 137 #[.slice A n c] w fun e w' => ∃ A2 c2, e = .returned (.slice A2 n c2) ∧ w'.ownsRow w.heap.size 22 1 (.slice A2 n c2) n ((stepsFrom none l).map uv) ∧ Below w.heap.size w w' := by
  obtain ⟨hlen, hnc, hcm⟩ := Rp.sl_len hl
  have HL := Lib.hid hl
  have HN := Lib.hid hlen
  have HD := Lib.hid hD
  have HRI := Lib.hid hr
  clear hl hlen hD hr hcm hnc
  go_enter Try.func137, Try.ntmps137
  go_wp2_with fail
  go_loopw [3, 8] (fun o i wr => ∃ (k : Nat) (A2 : Option Addr) (c2 : Nat), k ≤ n ∧ i = .int .i64 k ∧ o = .slice A2 k c2 ∧ Hid (wr.ownsRow w.heap.size 22 1 (.slice A2 k c2) k ((stepsFrom none (l.take k)).map uv)) ∧ Hid (Below w.heap.size w wr)) (fun _ i _ => n - (intOf i).toNat)
  case atStart => exact ⟨0, none, 0, by omega, rfl, rfl, World.ownsRow_nil _ _ _ _, Below.refl _ _⟩
  case round =>
    obtain ⟨k, A2, c2, hk, rfl, rfl, hown, hbel⟩ := hrel
    by_cases hkn : k < n
    case neg =>
      obtain rfl : k = n := by omega
      have hd : decide ((k : Int) < (k : Int)) = false := by simp
      go_wp2_with fail
      go_ret
      have := hown.out
      rw [List.take_of_length_le (by rw [HN.out]; exact Nat.le_refl _)] at this
      exact ⟨A2, c2, rfl, this, hbel.out⟩
    case pos =>
      have hd : decide ((k : Int) < (n : Int)) = true := by simp; omega
      have hkI : (0 : Int) ≤ (k : Int) := by omega
      have hknI : (k : Int) < (n : Int) := by omega
      obtain ⟨b, off, y, rfl, hb, hy, hc, hlt⟩ := u64_at (Rp.sl_below HL.out hbel.out HD.out) hkn
      have HST := Lib.hid (stepsFrom_snoc l none k y hy)
      have hmx : k + 1 ≤ maxLen := by unfold maxLen; omega
      have hsz := hbel.out.size
      by_cases hk0 : k = 0
      case pos =>
        subst hk0
        have HS1 : Hid (stepsFrom none (l.take (0 + 1)) = stepsFrom none (l.take 0) ++ [y]) := HST.out
        have hc0 : wr.cell? ⟨b, off, none⟩ = some (.int .u64 (y : Int)) := by simpa using hc
        clear hy hlt
        go_wp2_with (at_builtin; refine wpList_app rfl (.tmp 23) (.tmp 25) _ rfl elem64 rfl (hown.out.alloc _) rfl (Src.new wr (.int .u64 (y : Int)) _ rfl) hmx (by omega) (by simp; omega) ?_; intro A5 c5 w5 ho5 hg5 hat5; have HO5 := Lib.hid ho5; have HB5 := Lib.hid ((stepB hbel.out (below1 wr (.cells #[.int .u64 (y : Int)] 22))).grown hg5 (stepB hbel.out (below1 wr (.cells #[.int .u64 (y : Int)] 22))).size (fun j hj => (hown.out.lt j hj).1)); clear ho5 hg5 hat5)
        go_roundw
        case rel => exact ⟨0 + 1, A5, c5, by omega, by go_num, rfl, by rw [HS1.out, List.map_append]; exact HO5.out, HB5.out⟩
        case measure => simp [intOf]; omega
      case neg =>
        have hq : decide ((0 : Int) < (k : Int)) = true := by simp; omega
        obtain ⟨b', off', a, hA', hb', ha, hca, hlta⟩ := u64_at (k := k - 1) (Rp.sl_below HL.out hbel.out HD.out) (by omega)
        injection hA' with hA'
        injection hA' with hA1 hA2 _
        subst hA1; subst hA2
        have hlt2 : a < y := HRI.out (k - 1) a y ha (by rw [show k - 1 + 1 = k by omega]; exact hy)
        have hpr : prevOf none l k = some a := by
          obtain ⟨j, rfl⟩ : ∃ j, k = j + 1 := ⟨k - 1, by omega⟩
          exact ha
        have HS1 : Hid (stepsFrom none (l.take (k + 1)) = stepsFrom none (l.take k) ++ [y - a - 1]) := by
          have := HST.out; rw [this, hpr]; rfl
        have s0 : IntKind.u64.wrap ((a : Int) + 1) = (a : Int) + 1 := IntWalk.u64_in _ (by omega)
        have s1 : IntKind.u64.wrap ((y : Int) - ((a : Int) + 1)) = ((y - a - 1 : Nat) : Int) := by rw [IntWalk.u64_in _ (by omega)]; omega
        obtain ⟨Y, hY⟩ : ∃ Y, Y = y - a - 1 := ⟨_, rfl⟩
        rw [← hY] at s1 HS1
        obtain ⟨J, hJ⟩ : ∃ J, J = k - 1 := ⟨_, rfl⟩
        have hcb : wr.cell? ⟨b, off + J, none⟩ = some (.int .u64 (a : Int)) := by rw [hJ]; exact hca
        have s2 : IntKind.i64.wrap ((k : Int) - 1) = (J : Int) := by rw [IntWalk.i64_in _ (by omega)]; omega
        have hJ0 : (0 : Int) ≤ (J : Int) := by omega
        have hJ1 : (J : Int) < (n : Int) := by omega
        clear hy hlt hlt2 hpr ha hY hlta hca hJ
        go_wp2_with (at_builtin; refine wpList_app rfl (.tmp 23) (.tmp 25) _ rfl elem64 rfl (hown.out.alloc _) rfl (Src.new wr (.int .u64 (Y : Int)) _ rfl) hmx (by omega) (by simp; omega) ?_; intro A5 c5 w5 ho5 hg5 hat5; have HO5 := Lib.hid ho5; have HB5 := Lib.hid ((stepB hbel.out (below1 wr (.cells #[.int .u64 (Y : Int)] 22))).grown hg5 (stepB hbel.out (below1 wr (.cells #[.int .u64 (Y : Int)] 22))).size (fun j hj => (hown.out.lt j hj).1)); clear ho5 hg5 hat5)
        go_roundw
        case rel => exact ⟨k + 1, A5, c5, by omega, by go_num, rfl, by rw [HS1.out, List.map_append]; exact HO5.out, HB5.out⟩
        case measure => simp [intOf]; omega
end
section
variable {D F : Dom} {A : Option Addr} {n c g : Nat} {l : List Nat} {b : List UInt8} {most code : Int} {w : World}
/-- What a call that writes numbers gives. -/
def PutIs (w : World) (F : Dom) (g : Nat) (most : Int) (b : List UInt8) (code : Int) (ns : List Nat) (e : Ending) (w' : World) : Prop :=
  e = .returned (.tuple #[]) ∧ ∃ F', Pen w' F' g most (putsB most (b, code) (ns.map vbytes)).1 (putsB most (b, code) (ns.map vbytes)).2 ∧ Chg F w w' ∧ (∀ k, F' k → F k ∨ w.heap.size ≤ k)
theorem puts_len (most : Int) (b : List UInt8) (code : Int) (ns : List Nat) (h : ∀ x ∈ ns, x < 18446744073709551616) : (putsB most (b, code) (ns.map vbytes)).1.length ≤ b.length + 10 * ns.length := by
  have h1 := putsB_len most (b, code) (ns.map vbytes)
  have h2 := vpieces_len ns h
  simp only at h1
  omega
theorem puts_snoc (most : Int) (b : List UInt8) (code : Int) (ns : List Nat) (x : Nat) : putsB most (b, code) ((ns ++ [x]).map vbytes) = putB most (putsB most (b, code) (ns.map vbytes)).1 (putsB most (b, code) (ns.map vbytes)).2 (vbytes x) := by
  rw [List.map_append]; exact putsB_snoc _ _ _ _
theorem puts_append (most : Int) (b : List UInt8) (code : Int) (ns ms : List Nat) : putsB most (b, code) ((ns ++ ms).map vbytes) = putsB most ((putsB most (b, code) (ns.map vbytes)).1, (putsB most (b, code) (ns.map vbytes)).2) (ms.map vbytes) := by
  rw [List.map_append]; exact putsB_append _ _ _ _
set_option maxRecDepth 100000 in
set_option maxHeartbeats 2000000 in
theorem putRising_any (h : Pen w F g most b code) (h0 : 0 ≤ most) (h1 : most ≤ 9223372036854775807) (hb : b.length ≤ 100000000) (hl : rpU64.sl w D A n c l) (hD : ∀ k, D k → k < w.heap.size) (hr : Rises l) (hl64 : ∀ x ∈ l, x < 18446744073709551616) (hn : n ≤ 1000) :
    Calls Try.prog 105 #[.pointer (some ⟨g, 0, none⟩), .slice A n c] w (PutIs w F g most b code (stepsFrom none l)) := by
  have hlen := (Rp.sl_len hl).1
  have HP := Lib.hid h
  have hri := fun w' (hb : Below w.heap.size w w') => rises_any (Rp.sl_below hl hb hD) (fun k hk => Nat.lt_of_lt_of_le (hD k hk) hb.size)
  rw [dec_true hr] at hri
  have HRI := Lib.hid hri
  have HST : Hid (∀ w', Below w.heap.size w w' → _) := fun w' (hb : Below w.heap.size w w') => steps_any (Rp.sl_below hl hb hD) (fun k hk => Nat.lt_of_lt_of_le (hD k hk) hb.size) hr hn
  have hsl : (stepsFrom none l).length = n := by rw [stepsFrom_length, hlen]
  have hs64 := stepsFrom_lt none l _ hl64
  have HFL := Lib.hid h.lt
  generalize stepsFrom none l = ns at *
  have HSL := Lib.hid hsl
  have HS64 := Lib.hid hs64
  clear h hl hD hr hl64 hlen hri hsl hs64
  go_enter Try.func105, Try.ntmps105
  go_wp2_with fail
  refine (HRI.out _ (Below.refl _ _)).mono ?_; rintro e w1 ⟨rfl, hb1⟩
  have HB1 := Lib.hid hb1
  clear hb1
  go_wp2_with fail
  refine (HST.out _ HB1.out).mono ?_; rintro e w2 ⟨A2, c2, rfl, ho, hb2⟩
  have HB2 := Lib.hid (stepB HB1.out hb2)
  have HO2 := Lib.hid (own_mono ho HB1.out.size)
  clear ho hb2
  go_wp2_with fail
  go_loopw [14] (fun i wr => ∃ (k : Nat) (F' : Dom), k ≤ n ∧ i = .int .i64 k ∧ Hid (Pen wr F' g most (putsB most (b, code) ((ns.take k).map vbytes)).1 (putsB most (b, code) ((ns.take k).map vbytes)).2) ∧ Hid (Chg (fun k => F k ∨ w2.heap.size ≤ k) w2 wr) ∧ Hid (∀ q, F' q → F q ∨ w2.heap.size ≤ q)) (fun i _ => n - (intOf i).toNat)
  case atStart => exact ⟨0, F, by omega, rfl, HP.out.below HB2.out, Chg.refl _ _, fun q hq => .inl hq⟩
  case round =>
    obtain ⟨k, F', hk, rfl, hpen, hchg, hF'⟩ := hrel
    by_cases hlt : k < n
    · obtain ⟨x, hx⟩ : ∃ x, ns[k]? = some x := ⟨_, List.getElem?_eq_getElem (by rw [HSL.out]; exact hlt)⟩
      have hx64 := HS64.out x (List.mem_of_getElem? hx)
      have hown := chO HO2.out hchg.out (fun q hq hF => by
        have h2 := HO2.out.lt q hq
        rcases hF with hF | hF
        · have := HFL.out q hF; omega
        · omega)
      obtain ⟨bo, rfl, hbo, _, _, hco, _⟩ := own_block hown (show 0 < n by omega)
      have hcell := hco k (uv x) (by rw [List.getElem?_map, hx]; rfl)
      unfold uv at hcell
      have hts : ns.take (k + 1) = ns.take k ++ [x] := by rw [List.take_add_one, hx]; rfl
      have hlen : (putsB most (b, code) ((ns.take k).map vbytes)).1.length ≤ 1000000000 := by
        have h1 := puts_len most b code (ns.take k) (fun y hy => HS64.out y (List.mem_of_mem_take hy))
        have h3 : (ns.take k).length ≤ k := by rw [List.length_take]; omega
        omega
      have HV := Lib.hid (vput_at hpen.out h0 h1 hlen x hx64)
      have HTS := Lib.hid hts
      have hzr := hchg.out.size
      have hd : decide ((k : Int) < (n : Int)) = true := by simp; omega
      have hkI : (0 : Int) ≤ (k : Int) := by omega
      have hkI2 : (k : Int) < (n : Int) := by omega
      clear hts hlen hx hx64 hco hown
      go_wp2_with fail
      refine HV.out.mono ?_; rintro e w3 ⟨rfl, F3, hp3, hch3, hF3⟩
      have HP3 := Lib.hid hp3
      have HCH3 := Lib.hid hch3
      have HF3 := Lib.hid hF3
      clear hp3 hch3 hF3 hcell
      go_wp2_with fail
      go_roundw
      case rel =>
        refine ⟨k + 1, F3, by omega, by go_num, ?_, ?_, ?_⟩
        · show Pen _ _ _ _ _ _
          rw [HTS.out, puts_snoc]; exact HP3.out
        · exact hchg.out.trans (HCH3.out.more (fun q _ hq => hF'.out q hq))
        · intro q hq
          rcases HF3.out q hq with h | h
          · exact hF'.out q h
          · exact .inr (by omega)
      case measure => simp [intOf]; omega
    · obtain rfl : k = n := by omega
      have hd : decide ((k : Int) < (k : Int)) = false := by simp
      have HP3 : Hid (Pen wr F' g most (putsB most (b, code) (ns.map vbytes)).1 (putsB most (b, code) (ns.map vbytes)).2) := by
        have := hpen.out
        rw [List.take_of_length_le (by rw [HSL.out]; exact Nat.le_refl _)] at this
        exact this
      clear hpen
      go_wp2_with fail
      go_end0
      refine ⟨rfl, F', HP3.out, (Chg.of_pure HB2.out F).trans (hchg.out.more (fun k hk h => ?_)), fun k hk => ?_⟩
      · rcases h with h | h
        · exact h
        · omega
      · rcases hF'.out k hk with h | h
        · exact .inl h
        · exact .inr (Nat.le_trans HB2.out.size h)
end
end Go.Proofs.Ytmdgmnaaopineaa
