/- Walks: numbers as text (packages numtext, guerdonref01), and the texts of dates. -/
import Derived.Test.YtfhlignhdnhmlaaDoorWalkD
import Derived.Test.YtfhlignhdnhmlaaDoorStrs
import Derived.Test.YtfhlignhdnhmlaaDoorShelf
set_option linter.unusedSimpArgs false
set_option linter.unusedVariables false
namespace Go.Proofs.YtfhlignhdnhmlaaDoor
open Go.RowKit
attribute [local irreducible] Calls

/-- The library's table of powers of ten. -/
def Tab (w : World) : Prop := Lib.TabIs Tryd.prog w "internal/strconv.uint64pow10" .u64 Lib.pow10Tab
theorem Tab.below {w w' : World} (h : Tab w) (hb : Below w.heap.size w w') : Tab w' := by
  have hg : Tryd.prog.globalNamed "internal/strconv.uint64pow10" = some 0 := by kernel_rfl
  refine var?_below hb hg ?_ h
  unfold Tab Lib.TabIs World.var? at h
  simp only [hg, Option.bind_some] at h
  by_cases hlt : 0 < w.heap.size
  · exact hlt
  · rw [Array.getElem?_eq_none (by omega)] at h
    simp at h
theorem i64_lo (n : Int) (h : -9223372036854775808 ≤ n ∧ n ≤ 9223372036854775807) : -9223372036854775808 ≤ n := h.1

theorem c_numtext_FormatInt (n : Int) (w : World) (h0 : -9223372036854775808 ≤ n) (h1 : n ≤ 9223372036854775807) (ht : Tab w) :
    Calls Tryd.prog 56 #[.int .i64 n] w (Ret (bs (Lib.itoa n)) w) := by
  have hc := fun W (hW : Tab W) => Tryd.strconv_Itoa n h0 h1 W hW
  replace hc := hid hc
  replace h0 := hid h0
  replace h1 := hid h1
  go_enter Tryd.func56, Tryd.ntmps56
  go_wp2_with (go_at_call 69; refine (hc.out _ ht).mono ?_; intro e w' hh; obtain ⟨rfl, k, os, rfl⟩ := hh)
  go_ret
  exact ⟨rfl, Below_grow _ _ _⟩


theorem c_Repeat (s : ByteArray) (c : Int) (w : World) (h0 : 0 ≤ c) (h1 : c ≤ 4194304) (hs : s.size ≤ 4194304) :
    Calls Tryd.prog 71 #[.string s, .int .i64 c] w (Ret (bs (Lib.repeatL s.data.toList c.toNat)) w) := by
  obtain ⟨n, rfl⟩ := Int.eq_ofNat_of_zero_le h0
  have : s.size * n ≤ 4194304 * 4194304 := Nat.mul_le_mul hs (by omega)
  exact (Tryd.strings_Repeat s n w (by omega) (by omega)).mono fun e w' h => ⟨h.1, h.2⟩

theorem c_date_pad (n k : Int) (w : World) (h0 : -9223372036854775808 ≤ n) (h1 : n ≤ 9223372036854775807) (hk0 : 0 ≤ k) (hk1 : k ≤ 100) (ht : Tab w) :
    Calls Tryd.prog 63 #[.int .i64 n, .int .i64 k] w (Ret (bs (padL k.toNat (Lib.itoa n))) w) := by
  obtain ⟨l0, l1⟩ := itoa_len h0 h1
  have hrl : ∀ c : Int, 0 ≤ c → c ≤ 100 → (Lib.repeatL [48] c.toNat).length ≤ 100 := fun c h0 h1 => by rw [repeat_zero]; simp; omega
  replace hrl := hrl (max 0 (k - (Lib.itoa n).length)) (by omega) (by omega)
  go_enter Tryd.func63, Tryd.ntmps63
  go_wp2_with (first | ((with_reducible refine wp_region_ext2 ?_ ?_ ?_); (kernel_rfl); (kernel_rfl)) | ((with_reducible refine wp_region_ext ?_ ?_ ?_); (kernel_rfl); (kernel_rfl)) | go_big_quiet_step (first | (go_at_call 56; exact quiet_of_ret (c_numtext_FormatInt _ _ h0 h1 ht)) | (go_at_call 71; exact quiet_of_ret (c_Repeat _ _ _ (by omega) (by omega) (by decide)))) | ((with_reducible refine wpQuiet_nil ?_); intro x1) | (go_at_call 56; refine (c_numtext_FormatInt _ _ h0 h1 ht).mono ?_; intro e w' hh; first | obtain ⟨rfl, yw, rfl⟩ := Ret.ext2 hh | obtain ⟨rfl, yw, rfl⟩ := Ret.ext hh) | (go_at_call 71; refine (c_Repeat _ _ _ (by omega) (by omega) (by decide)).mono ?_; intro e w' hh; first | obtain ⟨rfl, yw, rfl⟩ := Ret.ext2 hh | obtain ⟨rfl, yw, rfl⟩ := Ret.ext hh))
  go_ret
  exact ⟨by
    rw [repeat_zero]
    simp only [ba_append, padL]
    rw [show (max 0 (k - ((Lib.itoa n).length : Int))).toNat = k.toNat - (Lib.itoa n).length by omega]; rfl, (by repeat (first | with_reducible exact Below.refl _ _ | with_reducible refine B_ext ?_ _ | with_reducible refine B_alloc ?_ _ | with_reducible refine Below.drew ?_ | with_reducible refine B_set ?_ _ _ _))⟩


theorem conv1 (W : World) (b : Nat) (x : Nat) (h : W.cell? ⟨b, 0, none⟩ = some (.int .u8 (x : Int))) :
    (convert 64 9 (.slice (some ⟨b, 0, none⟩) 1 1)).run Tryd.prog W = .ok (.string ⟨[UInt8.ofNat x].toArray⟩) W := by
  have := run_convert_bytes_arg (P := Tryd.prog) W 64 5 Tryd.underlying64 Tryd.underlying5 b 0 1 1 [(x : Int)] rfl
    (fun i hi => by
      have : i = 0 := by omega
      subst this; simpa using h) 9 Tryd.underlying9
  rw [this]; rfl

set_option maxRecDepth 100000 in
set_option maxHeartbeats 1000000 in
theorem c_ref01_digits : ∀ (n : Nat) (w : World), n < 18446744073709551616 → Calls Tryd.prog 70 #[.int .u64 n] w (Ret (bs (Lib.decDigits n)) w) := by
  intro n
  induction n using Nat.strongRecOn with
  | _ n ih =>
    intro w hn
    by_cases h : n < 10
    · have hr := hid (show Lib.decDigits n = [UInt8.ofNat (48 + n)] by rw [Lib.decDigits, dif_pos h])
      have hcv := fun (W : World) (b : Nat) (hc : W.cell? ⟨b, 0, none⟩ = some (.int .u8 (48 + (n : Int)))) => conv1 W b (48 + n) (by rw [hc]; simp)
      clear ih hn
      go_enter Tryd.func70, Tryd.ntmps70
      go_wp2
      go_ret
      exact ⟨by rw [hr.out] <;> simp, (by repeat (first | with_reducible exact Below.refl _ _ | with_reducible refine B_ext ?_ _ | with_reducible refine B_alloc ?_ _ | with_reducible refine Below.drew ?_ | with_reducible refine B_set ?_ _ _ _))⟩
    · have hr := hid (show Lib.decDigits n = Lib.decDigits (n / 10) ++ [UInt8.ofNat (48 + n % 10)] by rw [Lib.decDigits, dif_neg h])
      have hcv := fun (W : World) (b : Nat) (hc : W.cell? ⟨b, 0, none⟩ = some (.int .u8 (48 + (n : Int) % 10))) => conv1 W b (48 + n % 10) (by rw [hc]; simp)
      have hl := (decDigits_len 18 (n / 10) (by omega)).2
      have hih : ∀ W, Calls Tryd.prog 70 #[.int .u64 ((n : Int) / 10)] W (Ret (bs (Lib.decDigits (n / 10))) W) := fun W => by
        have := ih (n / 10) (by omega) W (by omega)
        rwa [show ((n / 10 : Nat) : Int) = (n : Int) / 10 by omega] at this
      replace hih := hid hih
      have e1 : IntKind.u64.wrap ((n : Int) / 10) = (n : Int) / 10 := by simp [IntKind.wrap, IntKind.bits, IntKind.signed]; omega
      have e2 : IntKind.u64.wrap (48 + (n : Int) % 10) = 48 + (n : Int) % 10 := by simp [IntKind.wrap, IntKind.bits, IntKind.signed]; omega
      have e3 : IntKind.u8.wrap (48 + (n : Int) % 10) = 48 + (n : Int) % 10 := by simp [IntKind.wrap, IntKind.bits, IntKind.signed]; omega
      have e0 : (n : Int).tmod 10 = (n : Int) % 10 := Int.tmod_eq_emod_of_nonneg (by omega)
      have e4 : IntKind.u64.wrap ((n : Int) % 10) = (n : Int) % 10 := by simp [IntKind.wrap, IntKind.bits, IntKind.signed]; omega
      clear ih hn
      go_enter Tryd.func70, Tryd.ntmps70
      go_wp2_with fail
      go_region_with (first | (go_at_call 70; refine (hih.out _).mono ?_; intro e w' hh; obtain ⟨rfl, yw, rfl⟩ := Ret.ext hh))
      all_goals go_wp2
      all_goals go_ret
      all_goals exact ⟨by rw [hr.out]; simp [ba_append] <;> rfl, (by repeat (first | with_reducible exact Below.refl _ _ | with_reducible refine B_ext ?_ _ | with_reducible refine B_alloc ?_ _ | with_reducible refine Below.drew ?_ | with_reducible refine B_set ?_ _ _ _))⟩

set_option maxRecDepth 100000 in
theorem c_ref01_FormatInt (n : Int) (w : World) (h0 : -9223372036854775808 ≤ n) (h1 : n ≤ 9223372036854775807) :
    Calls Tryd.prog 57 #[.int .i64 n] w (Ret (bs (Lib.itoa n)) w) := by
  by_cases h : n < 0
  · obtain ⟨k, rfl⟩ : ∃ k : Nat, n = -(k : Int) := ⟨n.natAbs, by omega⟩
    have hr := hid (show Lib.itoa (-(k : Int)) = 45 :: Lib.decDigits k by simp [Lib.itoa, h]; omega)
    have hc := fun W => c_ref01_digits k W (by omega)
    replace hc := hid hc
    have hl := (decDigits_len 18 k (by omega)).2
    have e1 : IntKind.i64.wrap (-(k : Int) + 1) = -(k : Int) + 1 := by rw [IntKind.wrap_i64]; omega
    have e2 : IntKind.i64.wrap (-(-(k : Int) + 1)) = k - 1 := by rw [IntKind.wrap_i64]; omega
    have e3 : IntKind.u64.wrap ((k : Int) - 1) = k - 1 := by simp [IntKind.wrap, IntKind.bits, IntKind.signed]; omega
    have e4 : IntKind.u64.wrap (k : Int) = k := by simp [IntKind.wrap, IntKind.bits, IntKind.signed]; omega
    clear h0 h1
    go_enter Tryd.func57, Tryd.ntmps57
    go_wp2_with (first | ((with_reducible refine wp_region_ext2 ?_ ?_ ?_); (kernel_rfl); (kernel_rfl)) | ((with_reducible refine wp_region_ext ?_ ?_ ?_); (kernel_rfl); (kernel_rfl)) | go_big_quiet_step (first | (go_at_call 70; exact quiet_of_ret (hc.out _))) | ((with_reducible refine wpQuiet_nil ?_); intro x1) | (go_at_call 70; refine (hc.out _).mono ?_; intro e w' hh; first | obtain ⟨rfl, yw, rfl⟩ := Ret.ext2 hh | obtain ⟨rfl, yw, rfl⟩ := Ret.ext hh))
    go_ret
    exact ⟨by rw [hr.out]; simp [ba_append], (by repeat (first | with_reducible exact Below.refl _ _ | with_reducible refine B_ext ?_ _ | with_reducible refine B_alloc ?_ _ | with_reducible refine Below.drew ?_ | with_reducible refine B_set ?_ _ _ _))⟩
  · obtain ⟨k, rfl⟩ := Int.eq_ofNat_of_zero_le (Int.not_lt.1 h)
    have hr := hid (show Lib.itoa (k : Int) = Lib.decDigits k by simp [Lib.itoa, h])
    have hc := fun W => c_ref01_digits k W (by omega)
    replace hc := hid hc
    have e3 : IntKind.u64.wrap (k : Int) = k := by simp [IntKind.wrap, IntKind.bits, IntKind.signed]; omega
    clear h0 h1
    go_enter Tryd.func57, Tryd.ntmps57
    go_wp2_with (first | ((with_reducible refine wp_region_ext2 ?_ ?_ ?_); (kernel_rfl); (kernel_rfl)) | ((with_reducible refine wp_region_ext ?_ ?_ ?_); (kernel_rfl); (kernel_rfl)) | go_big_quiet_step (first | (go_at_call 70; exact quiet_of_ret (hc.out _))) | ((with_reducible refine wpQuiet_nil ?_); intro x1) | (go_at_call 70; refine (hc.out _).mono ?_; intro e w' hh; first | obtain ⟨rfl, yw, rfl⟩ := Ret.ext2 hh | obtain ⟨rfl, yw, rfl⟩ := Ret.ext hh))
    go_ret
    exact ⟨by rw [hr.out] <;> rfl, (by repeat (first | with_reducible exact Below.refl _ _ | with_reducible refine B_ext ?_ _ | with_reducible refine B_alloc ?_ _ | with_reducible refine Below.drew ?_ | with_reducible refine B_set ?_ _ _ _))⟩

theorem c_ref04_pad (k n : Int) (w : World) (h0 : -9223372036854775808 ≤ k) (h1 : k ≤ 9223372036854775807) (hk0 : 0 ≤ n) (hk1 : n ≤ 100) :
    Calls Tryd.prog 64 #[.int .i64 k, .int .i64 n] w (Ret (bs (padL n.toNat (Lib.itoa k))) w) := by
  obtain ⟨l0, l1⟩ := itoa_len h0 h1
  have hc := hid (fun W => c_ref01_FormatInt k W h0 h1)
  clear h0 h1
  go_enter Tryd.func64, Tryd.ntmps64
  go_wp2_with (first | ((with_reducible refine wp_region_ext2 ?_ ?_ ?_); (kernel_rfl); (kernel_rfl)) | ((with_reducible refine wp_region_ext ?_ ?_ ?_); (kernel_rfl); (kernel_rfl)) | go_big_quiet_step (first | (go_at_call 57; exact quiet_of_ret (hc.out _))) | ((with_reducible refine wpQuiet_nil ?_); intro x1) | (go_at_call 57; refine (hc.out _).mono ?_; intro e w' hh; first | obtain ⟨rfl, yw, rfl⟩ := Ret.ext2 hh | obtain ⟨rfl, yw, rfl⟩ := Ret.ext hh))
  go_loopw [5] (fun s wr => ∃ x, wr = ext w x ∧ ∃ i : Nat, s = bs (List.replicate i 48 ++ Lib.itoa k) ∧ (i = 0 ∨ (i : Int) + (Lib.itoa k).length ≤ n)) (fun s _ => (n - strLen s).toNat)
  case atStart => exact ⟨_, rfl, 0, by simp, .inl rfl⟩
  case round =>
    obtain ⟨x, rfl, i, rfl, hi⟩ := hrel
    by_cases hlt : (i : Int) + (Lib.itoa k).length < n
    · go_wp2_with (first | ((with_reducible refine wp_region_ext2 ?_ ?_ ?_); (kernel_rfl); (kernel_rfl)) | ((with_reducible refine wp_region_ext ?_ ?_ ?_); (kernel_rfl); (kernel_rfl)) | go_big_quiet_step (fail) | ((with_reducible refine wpQuiet_nil ?_); intro x1))
      go_roundw
      case rel => exact ⟨_, rfl, i + 1, by simp [ba_append, List.replicate_succ], .inr (by omega)⟩
      case measure => simp [strLen, ba_append, ByteArray.size]; omega
    · have hr := hid (show padL n.toNat (Lib.itoa k) = List.replicate i 48 ++ Lib.itoa k by
        unfold padL; rw [show n.toNat - (Lib.itoa k).length = i by omega])
      go_wp2_with (first | ((with_reducible refine wp_region_ext2 ?_ ?_ ?_); (kernel_rfl); (kernel_rfl)) | ((with_reducible refine wp_region_ext ?_ ?_ ?_); (kernel_rfl); (kernel_rfl)) | go_big_quiet_step (fail) | ((with_reducible refine wpQuiet_nil ?_); intro x1))
      go_ret
      exact ⟨by rw [hr.out] <;> rfl, (by repeat (first | with_reducible exact Below.refl _ _ | with_reducible refine B_ext ?_ _ | with_reducible refine B_alloc ?_ _ | with_reducible refine Below.drew ?_ | with_reducible refine B_set ?_ _ _ _))⟩

end Go.Proofs.YtfhlignhdnhmlaaDoor
