/-
  SetHas: slices.IndexFunc, and what it finds.
-/
import Derived.Test.YtejialnbelleeaaDoorRefG
import Derived.Test.YtejialnbelleeaaDoorSetR
namespace Go.Proofs.YtejialnbelleeaaDoor
open Go Go.RowKit

theorem closure_any (b : Nat) (n : Int) (g : Nat) (w : World) (hg : w.heap[g]? = some (.cells #[.int .i64 n] 3 (0, 0))) (hb : b < 256) :
    Calls Tryd.prog 45 #[.int .u8 (b : Int), .pointer (some ⟨g, 0, none⟩)] w fun e w' => e = .returned (.bool (decide (n ≤ (b : Int)))) ∧ w = w' := by
  have c0 : w.cell? ⟨g, 0, none⟩ = some (.int .i64 n) := blk_cell hg 0
  have i1 : (0 : Int) ≤ (b : Int) := by omega
  have i2 : (b : Int) < 256 := by omega
  by_cases h : n ≤ (b : Int)
  · rw [decide_eq_true h]
    go_enter Tryd.func45, Tryd.ntmps45
    go_wp2
    go_ret
    exact ⟨rfl, rfl⟩
  · rw [decide_eq_false h]
    go_enter Tryd.func45, Tryd.ntmps45
    go_wp2
    go_ret
    exact ⟨rfl, rfl⟩

/-- What is found in a row. -/
def FoundAt (n : Int) (l : List Nat) (r : Int) : Prop := (r = -1 ∧ ∀ i (h : i < l.length), ¬ n ≤ (l[i] : Int)) ∨ ∃ j, ∃ h : j < l.length, r = (j : Int) ∧ n ≤ (l[j] : Int) ∧ ∀ i (h : i < l.length), i < j → ¬ n ≤ (l[i] : Int)

set_option maxRecDepth 100000 in
set_option maxHeartbeats 2000000 in
theorem indexF_any (l : List Nat) (v : Value) (n : Int) (g : Nat) (w : World) (hv : BytesAt w v l) (hl : ∀ b ∈ l, b < 256) (hg : w.heap[g]? = some (.cells #[.int .i64 n] 3 (0, 0))) :
    Calls Tryd.prog 44 #[v, .func (.func 45) #[] #[.pointer (some ⟨g, 0, none⟩)]] w fun e w' => ∃ r, e = .returned (.int .i64 r) ∧ FoundAt n l r ∧ w = w' := by
  obtain ⟨A, c, rfl, ⟨hc, hm⟩, hcells⟩ := hv
  replace hcells := Lib.hid hcells
  go_enter Tryd.func44, Tryd.ntmps44
  go_wp2
  go_loopw [8] (fun i wr => ∃ k : Nat, k ≤ l.length ∧ i = .int .i64 (k : Int) ∧ (∀ i (h : i < l.length), i < k → ¬ n ≤ (l[i] : Int)) ∧ w = wr) (fun i _ => l.length - (intOf i).toNat)
  case atStart => exact ⟨0, Nat.zero_le _, rfl, fun i h h0 => absurd h0 (Nat.not_lt_zero _), rfl⟩
  case round =>
    obtain ⟨k, hk, rfl, hno, rfl⟩ := hrel
    by_cases hlt : k < l.length
    · have i1 : (k : Int) < (l.length : Int) := by omega
      rcases hcells.out with h | ⟨b, off, hA, hcell⟩
      · rw [h] at hlt; simp at hlt
      subst hA
      have e0 := bytes_cell hcell (Ext.refl G0 w) hlt
      have hb := hl _ (List.getElem_mem hlt)
      have HC := Lib.hid (closure_any l[k] n g w hg hb)
      clear hcell
      by_cases hy : n ≤ (l[k] : Int)
      · have hF : FoundAt n l (k : Int) := .inr ⟨k, hlt, rfl, hy, hno⟩
        rw [decide_eq_true hy] at HC
        replace hF := Lib.hid hF
        clear hy hno
        generalize l[k] = z at *
        go_wp2_with fail
        refine HC.out.mono ?_
        rintro e w0 ⟨rfl, rfl⟩
        go_wp2
        go_ret
        exact ⟨_, rfl, hF.out, rfl⟩
      · have hno' : ∀ i (h : i < l.length), i < k + 1 → ¬ n ≤ (l[i] : Int) := fun i h h1 => by
          by_cases e : i = k
          · subst e; exact hy
          · exact hno i h (by omega)
        rw [decide_eq_false hy] at HC
        replace hno' := Lib.hid hno'
        clear hy hno
        generalize l[k] = z at *
        go_wp2_with fail
        refine HC.out.mono ?_
        rintro e w0 ⟨rfl, rfl⟩
        go_wp2
        go_roundw
        case rel => exact ⟨k + 1, by omega, by go_num, fun i h h1 => by have := hno'.out i h h1; omega, trivial⟩
        case measure => simp [intOf]; omega
    · obtain rfl : k = l.length := by omega
      have hF : FoundAt n l (-1) := .inl ⟨rfl, fun i h => hno i h h⟩
      replace hF := Lib.hid hF
      clear hno
      go_wp2
      go_ret
      exact ⟨_, rfl, hF.out, rfl⟩

theorem preS_mem (s : Bs) (i : Nat) : i ∈ preS s 256 ↔ i < 256 ∧ s.getLsbD i = true := by
  unfold preS; rw [List.mem_filter, List.mem_range]
theorem preS_sorted (s : Bs) : (preS s 256).Pairwise (· < ·) := List.Pairwise.filter _ List.pairwise_lt_range
/-- What is found is what comes next. -/
theorem found_next (s : Bs) (n r : Int) (hf : FoundAt n (preS s 256) r) : (r = -1 ∧ nextS s (max n 0).toNat = none) ∨ ∃ j, ∃ h : j < (preS s 256).length, r = (j : Int) ∧ nextS s (max n 0).toNat = some (preS s 256)[j] := by
  have hs := List.pairwise_iff_getElem.1 (preS_sorted s)
  have hin : ∀ b, b < 256 → s.getLsbD b = true → ∃ i, ∃ h : i < (preS s 256).length, (preS s 256)[i] = b := fun b h1 h2 => List.getElem_of_mem ((preS_mem s b).2 ⟨h1, h2⟩)
  obtain ⟨k, hk⟩ : ∃ k, k = (max n 0).toNat := ⟨_, rfl⟩
  rw [← hk]
  rcases hf with ⟨rfl, hno⟩ | ⟨j, hj, rfl, hy, hno⟩
  · refine .inl ⟨rfl, ?_⟩
    cases hN : nextS s k with
    | none => rfl
    | some b =>
      obtain ⟨h1, h2, h3, _⟩ := firstP_some _ _ hN
      obtain ⟨i, hi, e⟩ := hin b (by omega) h3
      exact absurd (by rw [e]; omega) (hno i hi)
  · refine .inr ⟨j, hj, rfl, ?_⟩
    have hm := (preS_mem s _).1 (List.getElem_mem hj)
    cases hN : nextS s k with
    | none =>
      have := firstP_none _ _ hN (preS s 256)[j] (by omega) (by omega)
      rw [hm.2] at this; cases this
    | some b =>
      obtain ⟨h1, h2, h3, h4⟩ := firstP_some _ _ hN
      obtain ⟨i, hi, e⟩ := hin b (by omega) h3
      have hij : ¬ i < j := fun h => hno i hi h (by rw [e]; omega)
      have hle : (preS s 256)[j] ≤ b := by
        by_cases h : j = i
        · subst h; omega
        · have := hs j i hj hi (by omega); omega
      have hge : b ≤ (preS s 256)[j] := by
        rcases Nat.lt_or_ge (preS s 256)[j] b with h | h
        · have := h4 _ (by omega) h
          rw [hm.2] at this; cases this
        · exact h
      rw [show b = (preS s 256)[j] by omega]

end Go.Proofs.YtejialnbelleeaaDoor
