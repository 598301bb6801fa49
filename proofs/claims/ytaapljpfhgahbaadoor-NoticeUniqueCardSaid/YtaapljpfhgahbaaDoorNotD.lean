/- Notices read: the program's way and the reference's way are one, plainly. -/
import Derived.Test.YtaapljpfhgahbaaDoorNotC
set_option linter.unusedSimpArgs false
set_option linter.unusedVariables false
namespace Go.Proofs.YtaapljpfhgahbaaDoor
open Go.RowKit

abbrev badN : Ntc × Int := ((0, 0, 0, 0, 0), 2)
/-- The last place of w in a list, from p on; k where there is none. -/
def kf (w : List UInt8) : List (List UInt8) → Nat → Int → Int
  | [], _, k => k
  | x :: l, p, k => kf w l (p + 1) (if x = w then (p : Int) else k)
def finN (s : List UInt8) (n : Ntc) (a b c d : Int) : Ntc × Int :=
  if a = 0 ∧ b = 0 ∧ c = 0 ∧ d = 0 ∧ validN n = true ∧ fmtN n = s then (n, 0) else badN
theorem L36_end {N n : Nat} {s : List UInt8} {X Y : List PV} {d1 d2 d3 d4 d5 a h m k c e1 e2 e3 e4 : Int} :
    L36_11 N (n + 1) s X Y 5 5 d1 d2 d3 d4 d5 a h m k c e1 e2 e3 e4 = some (finN s (a, h, m, k, c) e1 e2 e3 e4) := by
  rw [L36_11_eq, aIf_if, if_neg (by simp)]
  simp only [F51_v, F34_v, onSome_ok, aIf_if, aGd_if]
  unfold finN
  by_cases h1 : e1 = 0 ∧ e2 = 0 ∧ e3 = 0 ∧ e4 = 0
  rotate_left
  · rw [if_pos (by simp; omega), if_pos (by simp), if_neg (fun h => h1 ⟨h.1, h.2.1, h.2.2.1, h.2.2.2.1⟩)]
  obtain ⟨rfl, rfl, rfl, rfl⟩ := h1
  rw [if_neg (by simp)]
  cases hv : validN (a, h, m, k, c) with
  | false => simp
  | true =>
    by_cases hf : fmtN (a, h, m, k, c) = s
    · simp [hf]
    · simp [hf]
theorem L36_k {N : Nat} {s : List UInt8} {W : List (List UInt8)} (hW : 6 < W.length) {d1 d2 d3 d4 d5 a h m c e1 e2 e3 e4 : Int} : ∀ (q n p : Nat) (k : Int), 5 - p = q → p ≤ 5 → q < n →
    L36_11 N n s (W.map .str) (kindsL.map .str) 5 (p : Int) d1 d2 d3 d4 d5 a h m k c e1 e2 e3 e4 = some (finN s (a, h, m, kf (W.getD 6 []) (kindsL.drop p) p k, c) e1 e2 e3 e4) := by
  intro q
  induction q with
  | zero =>
    intro n p k hq hp hn
    obtain ⟨n, rfl⟩ : ∃ m, n = m + 1 := ⟨n - 1, by omega⟩
    have : p = 5 := by omega
    subst this
    exact L36_end
  | succ q ih =>
    intro n p k hq hp hn
    obtain ⟨n, rfl⟩ : ∃ m, n = m + 1 := ⟨n - 1, by omega⟩
    have hlt : p < kindsL.length := by show p < 5; omega
    rw [L36_11_eq, aIf_if, if_pos (by simp; omega), onGet_nat (by simpa using hlt)]
    simp only [List.getElem_map, onStr_ok]
    rw [onMem (l := W) (i := 6) (by omega) (by omega), show (6 : Int).toNat = 6 from rfl]
    simp only [aIf_if, aGd_if, beq_iff_eq]
    rw [w64 (by omega) (by omega), List.drop_eq_getElem_cons hlt, kf]
    have e : (p : Int) + 1 = ((p + 1 : Nat) : Int) := by omega
    rw [e]
    by_cases hw : kindsL[p] = W.getD 6 []
    · rw [if_pos hw, if_pos (by simp), ih n (p + 1) _ (by omega) (by omega) (by omega), if_pos hw]
    · rw [if_neg hw, ih n (p + 1) _ (by omega) (by omega) (by omega), if_neg hw]
def numsN (ws : List (List UInt8)) : Int × Int × Int × Int := ((parseS (ws.getD 1 [])).1, (parseS (ws.getD 3 [])).1, (parM (ws.getD 5 [])).1, (parseT 2 (sgn (ws.getD 7 [])).1 (sgn (ws.getD 7 [])).2).1)
def parN (s : List UInt8) : Ntc × Int :=
  if (spl 32 s).length = 8 then
    finN s ((numsN (spl 32 s)).1, (numsN (spl 32 s)).2.1, (numsN (spl 32 s)).2.2.1, kf ((spl 32 s).getD 6 []) kindsL 0 0, (numsN (spl 32 s)).2.2.2) (parseS ((spl 32 s).getD 1 [])).2 (parseS ((spl 32 s).getD 3 [])).2 (parM ((spl 32 s).getD 5 [])).2 (parseT 2 (sgn ((spl 32 s).getD 7 [])).1 (sgn ((spl 32 s).getD 7 [])).2).2
  else badN
theorem spl_mem_len {c : UInt8} : ∀ (s : List UInt8) (w : List UInt8), w ∈ spl c s → w.length ≤ s.length
  | [], w, h => by simp [spl] at h; simp [h]
  | b :: s, w, h => by
    unfold spl at h
    split at h
    · rcases List.mem_cons.1 h with rfl | h
      · simp
      · have := spl_mem_len s w h; simp; omega
    · split at h
      · simp at h; subst h; simp
      · rename_i v vs hv
        rcases List.mem_cons.1 h with rfl | h
        · have := spl_mem_len s v (by rw [hv]; simp); simp; omega
        · have := spl_mem_len s w (by rw [hv]; simp [h]); simp; omega
theorem getD_len {s : List UInt8} (i : Nat) : ((spl 32 s).getD i []).length ≤ s.length := by
  rw [List.getD_eq_getElem?_getD]
  cases h : (spl 32 s)[i]? with
  | none => simp
  | some w => exact spl_mem_len s w (List.mem_of_getElem? h)
theorem F36_v {N : Nat} {s : List UInt8} (hN : s.length < N) (hN2 : 100 < N) (hs : s.length ≤ 1000000) : F36 N s = some (parN s) := by
  rw [F36_eq, F58_v hs hN, onSome_ok, aIf_if, parN]
  by_cases h8 : (spl 32 s).length = 8
  rotate_left
  · rw [if_pos (by simp; omega), if_neg h8, aGd_if, if_pos (by simp)]
  have g1 := getD_len (s := s) 1
  have g3 := getD_len (s := s) 3
  have g5 := getD_len (s := s) 5
  have g7 := getD_len (s := s) 7
  rw [if_neg (by simp; omega), if_pos h8]
  simp only [aGd_if]
  rw [onMem (by omega) (by omega), show (1 : Int).toNat = 1 from rfl, F59_parse (by omega), onSome_ok, if_pos (by simp), if_pos (by simp)]
  rw [onMem (by omega) (by omega), show (3 : Int).toNat = 3 from rfl, F59_parse (by omega), onSome_ok, if_pos (by simp), if_pos (by simp)]
  rw [onMem (by omega) (by omega), show (5 : Int).toNat = 5 from rfl, F60_v (by omega), onSome_ok, if_pos (by simp), if_pos (by simp)]
  rw [onMem (by omega) (by omega), show (7 : Int).toNat = 7 from rfl, F61_parse (a1 := 2) (by omega) (by omega), onSome_ok, if_pos (by simp), if_pos (by simp)]
  rw [F54_eq, onSome_ok]
  exact L36_k (N := N) (s := s) (W := spl 32 s) (by omega) 5 N 0 0 (by omega) (by omega) (by omega)
/-! ## The reference -/
/-- The first kind, from k on, of which the text is s. -/
def kr (s : List UInt8) (a h m c : Int) : Nat → Nat → Ntc × Int
  | 0, _ => badN
  | q + 1, k => if fmtN (a, h, m, (k : Int), c) = s then ((a, h, m, (k : Int), c), 0) else kr s a h m c q (k + 1)
theorem L37_k {N : Nat} (hN : 300 < N) {s : List UInt8} {d1 d2 d3 d4 d5 a h m c : Int} : ∀ (q n k : Nat) (x : Int), k + q = 5 → q < n →
    L37_10 N n s (k : Int) d1 d2 d3 d4 d5 a h m x c = some (kr s a h m c q k) := by
  intro q
  induction q with
  | zero =>
    intro n k x hk hn
    obtain ⟨n, rfl⟩ : ∃ m, n = m + 1 := ⟨n - 1, by omega⟩
    rw [L37_10_eq, aIf_if, if_neg (by simp; omega), aGd_if, if_pos (by simp)]; rfl
  | succ q ih =>
    intro n k x hk hn
    obtain ⟨n, rfl⟩ : ∃ m, n = m + 1 := ⟨n - 1, by omega⟩
    rw [L37_10_eq, aIf_if, if_pos (by simp; omega), aGd_if, if_pos (by simp), F35_v hN, onSome_ok, aIf_if, kr]
    by_cases hf : fmtN (a, h, m, (k : Int), c) = s
    · rw [if_pos (by simpa using hf), if_pos hf, aGd_if, if_pos (by simp)]
    · rw [if_neg (by simpa using hf), if_neg hf, w64 (by omega) (by omega)]
      exact ih n (k + 1) _ (by omega) (by omega)
def parR (s : List UInt8) : Ntc × Int :=
  if (fld none s).length = 8 then kr s (numsN (fld none s)).1 (numsN (fld none s)).2.1 (numsN (fld none s)).2.2.1 (numsN (fld none s)).2.2.2 4 1 else badN
theorem fld_mem_len : ∀ (s : List UInt8) (c : Option (List UInt8)) (w : List UInt8), w ∈ fld c s → w.length ≤ (c.getD []).length + s.length
  | [], none, w, h => by simp [fld] at h
  | [], some v, w, h => by simp [fld] at h; simp [h]
  | b :: s, c, w, h => by
    by_cases hb : b.toNat = 32 ∨ b.toNat = 9
    · cases c with
      | none =>
        rw [fld_sep0 hb] at h
        have := fld_mem_len s none w h
        simp at this ⊢; omega
      | some v =>
        rw [fld_sep v hb] at h
        rcases List.mem_cons.1 h with rfl | h
        · simp
        · have := fld_mem_len s none w h
          simp at this ⊢; omega
    · rw [fld_chr c hb] at h
      have := fld_mem_len s _ w h
      simp at this ⊢; omega
theorem fgetD_len {s : List UInt8} (i : Nat) : ((fld none s).getD i []).length ≤ s.length := by
  rw [List.getD_eq_getElem?_getD]
  cases h : (fld none s)[i]? with
  | none => simp
  | some w => have := fld_mem_len s none w (List.mem_of_getElem? h); simpa using this
theorem F37_v {N : Nat} {s : List UInt8} (hN : s.length + 2 ≤ N) (hN2 : 300 < N) (hs : s.length ≤ 5000) : F37 N s = some (parR s) := by
  rw [F37_eq, F62_f hs hN, onSome_ok, aIf_if, parR]
  by_cases h8 : (fld none s).length = 8
  rotate_left
  · rw [if_pos (by simp; omega), if_neg h8, aGd_if, if_pos (by simp)]
  have g1 := fgetD_len (s := s) 1
  have g3 := fgetD_len (s := s) 3
  have g5 := fgetD_len (s := s) 5
  have g7 := fgetD_len (s := s) 7
  rw [if_neg (by simp; omega), if_pos h8]
  rw [onMem (by omega) (by omega), show (1 : Int).toNat = 1 from rfl, F63_parse (by omega) (by omega) (by omega), onSome_ok]
  rw [onMem (by omega) (by omega), show (3 : Int).toNat = 3 from rfl, F63_parse (by omega) (by omega) (by omega), onSome_ok]
  rw [onMem (by omega) (by omega), show (5 : Int).toNat = 5 from rfl, F64_v (by omega), onSome_ok]
  rw [onMem (by omega) (by omega), show (7 : Int).toNat = 7 from rfl, F65_parse (a1 := 2) (by omega) (by omega) (by omega), onSome_ok, aGd_if, if_pos (by simp)]
  exact L37_k hN2 4 N 1 0 (by omega) (by omega)

/-! ## One and the same -/
theorem dg_solid {w : List UInt8} (h : w.all dg = true) : solid w = true := by
  unfold solid
  rw [List.all_eq_true] at h ⊢
  intro b hb
  have := dg_iff.1 (h b hb)
  simp; omega
theorem solid_app {v w : List UInt8} (h1 : solid v = true) (h2 : solid w = true) : solid (v ++ w) = true := by
  simp only [solid, List.all_append, Bool.and_eq_true] at *
  exact ⟨h1, h2⟩
theorem itoaF_solid {n : Int} (h0 : 0 ≤ n) : solid (itoaF n) = true ∧ itoaF n ≠ [] := by
  obtain ⟨k, rfl⟩ := nat_of h0
  rw [itoaF_nat]
  exact ⟨dg_solid (decF_all _ _), decF_ne (by decide)⟩
theorem padS_solid {w : Nat} {n : Int} (h0 : 0 ≤ n) : solid (padS w n) = true := by
  refine solid_app ?_ (itoaF_solid h0).1
  unfold solid
  rw [List.all_eq_true]
  intro b hb
  rw [(List.mem_replicate.1 hb).2]; decide
theorem fmtM_solid {m : Int} (h0 : 0 ≤ m) (h1 : m ≤ 3599) : solid (fmtM m) = true ∧ fmtM m ≠ [] := by
  unfold fmtM
  rw [if_pos (by simp [mvB']; omega)]
  exact ⟨solid_app (solid_app (padS_solid (by omega)) (by decide)) (padS_solid (by omega)), by simp⟩
theorem solid_take {w : List UInt8} (k : Nat) (h : solid w = true) : solid (w.take k) = true ∧ solid (w.drop k) = true := by
  simp only [solid, List.all_eq_true] at *
  exact ⟨fun b hb => h b (List.mem_of_mem_take hb), fun b hb => h b (List.mem_of_mem_drop hb)⟩
theorem sgn_solid {w : List UInt8} (h : solid w = true) : solid (sgn w).1 = true := by
  cases w with
  | nil => rfl
  | cons b l =>
    unfold sgn
    dsimp only
    split
    · simp only [solid, List.all_cons, Bool.and_eq_true] at h ⊢; exact h.2
    · exact h
theorem fixS_solid {w : List UInt8} (h : solid w = true) : solid (fixS 2 w) = true ∧ fixS 2 w ≠ [] := by
  unfold fixS
  rw [if_neg (by decide)]
  unfold fixU
  have hp : solid (pad 2 (sgn w).1) = true := by
    unfold pad
    refine solid_app ?_ (sgn_solid h)
    unfold solid
    rw [List.all_eq_true]
    intro b hb
    rw [(List.mem_replicate.1 hb).2]; decide
  refine ⟨solid_app ?_ (solid_app (solid_app (solid_take _ hp).1 (by decide)) (solid_take _ hp).2), by simp⟩
  split <;> decide
theorem words_solid {n : Ntc} (hv : validN n = true) : ∀ w ∈ wordsN n, solid w = true ∧ w ≠ [] := by
  have hb := validN_ok hv
  intro w hw
  simp only [wordsN, List.mem_cons, List.not_mem_nil, or_false] at hw
  rcases hw with rfl | rfl | rfl | rfl | rfl | rfl | rfl | rfl
  · exact ⟨by decide, by decide⟩
  · exact itoaF_solid (by omega)
  · exact ⟨by decide, by decide⟩
  · exact itoaF_solid (by omega)
  · exact ⟨by decide, by decide⟩
  · exact fmtM_solid (by omega) (by omega)
  · have : n.2.2.2.1 = 1 ∨ n.2.2.2.1 = 2 ∨ n.2.2.2.1 = 3 ∨ n.2.2.2.1 = 4 := by omega
    rcases this with h | h | h | h <;> rw [h] <;> exact ⟨by decide, by decide⟩
  · exact fixS_solid (itoaF_solid (by omega)).1
theorem nums_words {n : Ntc} (hv : validN n = true) : numsN (wordsN n) = (n.1, n.2.1, n.2.2.1, n.2.2.2.2) ∧ (parseS ((wordsN n).getD 1 [])).2 = 0 ∧ (parseS ((wordsN n).getD 3 [])).2 = 0 ∧ (parM ((wordsN n).getD 5 [])).2 = 0 ∧
    (parseT 2 (sgn ((wordsN n).getD 7 [])).1 (sgn ((wordsN n).getD 7 [])).2).2 = 0 := by
  have hb := validN_ok hv
  have e1 : (wordsN n).getD 1 [] = itoaF n.1 := rfl
  have e3 : (wordsN n).getD 3 [] = itoaF n.2.1 := rfl
  have e5 : (wordsN n).getD 5 [] = fmtM n.2.2.1 := rfl
  have e7 : (wordsN n).getD 7 [] = fixS 2 (itoaF n.2.2.2.2) := rfl
  have p1 := parse_int_back (n := n.1) (by omega) (by omega)
  have p3 := parse_int_back (n := n.2.1) (by omega) (by omega)
  have p5 := fmtM_parse (m := n.2.2.1) (by omega) (by omega)
  have p7 : parseT 2 (sgn (fixS 2 (itoaF n.2.2.2.2))).1 (sgn (fixS 2 (itoaF n.2.2.2.2))).2 = (n.2.2.2.2, 0) := parse_fix_back (n := n.2.2.2.2) (a1 := 2) (by decide) (by omega) (by omega)
  unfold numsN
  rw [e1, e3, e5, e7, p1, p3, p5, p7]
  simp
theorem kf_words {n : Ntc} (hv : validN n = true) : kf ((wordsN n).getD 6 []) kindsL 0 0 = n.2.2.2.1 := by
  have hb := validN_ok hv
  have e6 : (wordsN n).getD 6 [] = kindsL.getD n.2.2.2.1.toNat [] := rfl
  rw [e6]
  have : n.2.2.2.1 = 1 ∨ n.2.2.2.1 = 2 ∨ n.2.2.2.1 = 3 ∨ n.2.2.2.1 = 4 := by omega
  rcases this with h | h | h | h <;> rw [h] <;> decide
theorem parN_fmt {n : Ntc} (hv : validN n = true) : parN (fmtN n) = (n, 0) := by
  have hs : spl 32 (fmtN n) = wordsN n := by
    unfold fmtN
    rw [if_pos hv]
    exact spl_jw (by simp [wordsN]) (fun w hw => (words_solid hv w hw).1)
  obtain ⟨h1, h2, h3, h4, h5⟩ := nums_words hv
  unfold parN
  rw [hs, if_pos (by simp [wordsN]), h1, h2, h3, h4, h5, kf_words hv, finN]
  have e : ((n.1, n.2.1, n.2.2.1, n.2.2.2.1, n.2.2.2.2) : Ntc) = n := rfl
  dsimp only
  rw [e, if_pos ⟨rfl, rfl, rfl, rfl, hv, rfl⟩]
theorem parN_cases (s : List UInt8) : parN s = badN ∨ ∃ n, parN s = (n, 0) ∧ validN n = true ∧ fmtN n = s := by
  unfold parN
  split
  · unfold finN
    split
    · rename_i h; exact .inr ⟨_, rfl, h.2.2.2.2.1, h.2.2.2.2.2⟩
    · exact .inl rfl
  · exact .inl rfl
theorem kr_cases (s : List UInt8) (a h m c : Int) : ∀ (q k : Nat), kr s a h m c q k = badN ∨ ∃ n, kr s a h m c q k = (n, 0) ∧ fmtN n = s
  | 0, k => .inl rfl
  | q + 1, k => by
    unfold kr
    split
    · rename_i h; exact .inr ⟨_, rfl, h⟩
    · exact kr_cases s a h m c q (k + 1)
theorem kr_find {n : Ntc} (hv : validN n = true) : ∀ (q k : Nat), (k : Int) ≤ n.2.2.2.1 → n.2.2.2.1 < k + q → kr (fmtN n) n.1 n.2.1 n.2.2.1 n.2.2.2.2 q k = (n, 0)
  | 0, k, h1, h2 => by omega
  | q + 1, k, h1, h2 => by
    unfold kr
    by_cases hk : (k : Int) = n.2.2.2.1
    · rw [hk, if_pos rfl]
    · rw [if_neg ?_]
      · exact kr_find hv q (k + 1) (by omega) (by omega)
      · intro he
        by_cases hv2 : validN (n.1, n.2.1, n.2.2.1, (k : Int), n.2.2.2.2) = true
        · have p1 := parN_fmt hv
          have p2 := parN_fmt hv2
          rw [he, p1] at p2
          simp only [Prod.mk.injEq, and_true] at p2
          have : n.2.2.2.1 = (k : Int) := by rw [p2]
          exact hk this.symm
        · have : fmtN (n.1, n.2.1, n.2.2.1, (k : Int), n.2.2.2.2) = [] := by unfold fmtN; rw [if_neg hv2]
          rw [this] at he
          unfold fmtN at he
          rw [if_pos hv] at he
          simp [wordsN, jw, wNotice] at he
theorem par_same (s : List UInt8) : parN s = parR s := by
  rcases parN_cases s with h | ⟨n, h, hv, rfl⟩
  · rw [h]
    unfold parR
    split
    · rename_i h8
      rcases kr_cases s (numsN (fld none s)).1 (numsN (fld none s)).2.1 (numsN (fld none s)).2.2.1 (numsN (fld none s)).2.2.2 4 1 with h2 | ⟨n, h2, hf⟩
      · exact h2.symm
      · by_cases hv : validN n = true
        · rw [← hf, parN_fmt hv] at h
          simp at h
        · have : s = [] := by rw [← hf]; unfold fmtN; rw [if_neg hv]
          rw [this] at h8
          simp [fld] at h8
    · rfl
  · rw [h]
    have hb := validN_ok hv
    have hs : fld none (fmtN n) = wordsN n := by
      unfold fmtN
      rw [if_pos hv]
      exact fld_jw (words_solid hv)
    obtain ⟨h1, _⟩ := nums_words hv
    unfold parR
    rw [hs, if_pos (by simp [wordsN]), h1]
    exact (kr_find hv 4 1 (by omega) (by omega)).symm
end Go.Proofs.YtaapljpfhgahbaaDoor
