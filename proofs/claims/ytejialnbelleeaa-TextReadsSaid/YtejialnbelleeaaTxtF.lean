/-
  Package text: digit.
-/
import Derived.Test.YtejialnbelleeaaTxtE
import Derived.Laws.RangeString
namespace Go.Proofs.Ytejialnbelleeaa
open Go Go.RowKit

/-- The digits' signs. -/
def dsign (i : Nat) : Nat := if i < 10 then 48 + i else 87 + i
/-- Which digit a byte is, from the i-th on, among n. -/
def digF (c : Nat) : Nat → Nat → Int
  | 0, _ => -1
  | n + 1, i => if c = dsign i ∨ (9 < i ∧ c + 32 = dsign i) then (i : Int) else digF c n (i + 1)

set_option maxHeartbeats 2000000 in
theorem digit_loop (c base : Nat) (T : ByteArray) (w : World) (hc : c < 256) (hsl : ∀ w, (Instr.slice 9 (.string ⟨#[48, 49, 50, 51, 52, 53, 54, 55, 56, 57, 97, 98, 99, 100, 101, 102]⟩) none (some (.int .i64 (base : Int))) none).run Try.prog w = .ok (.string T) w) (hb : base ≤ 16) (hTs : T.size = base)
    (hT : ∀ i, (h : i < T.size) → (T[i]'h).toNat = dsign i) :
    Calls Try.prog 42 #[.int .i32 (c : Int), .int .i64 (base : Int)] w fun e w' => e = .returned (.int .i64 (digF c base 0)) ∧ Ext G0 w w' := by
  have HT := Lib.hid hT
  clear hT
  obtain ⟨res, hres⟩ : ∃ res, res = digF c base 0 := ⟨_, rfl⟩
  rw [← hres]
  have HR := Lib.hid hres
  clear hres
  go_enter Try.func42, Try.ntmps42
  go_wp2
  go_loopw [] (fun w' => ∃ pos : Nat, w' = w.iter T pos ∧ pos ≤ base ∧ digF c (base - pos) pos = digF c base 0) (fun w' => T.size - w'.iterPos w.heap.size)
  case atStart => exact ⟨0, rfl, Nat.zero_le _, rfl⟩
  case round =>
    obtain ⟨pos, rfl, hp, hD⟩ := hrel
    by_cases hlt : pos < base
    · have hlt' : pos < T.size := by omega
      have ht := HT.out pos hlt'
      have hds : dsign pos < 128 := by unfold dsign; split <;> omega
      have hn0 := fun ty => run_next_ascii (P := Try.prog) w T pos ty hlt' (by omega)
      have hti : ((T[pos]'hlt').toNat : Int) = (dsign pos : Int) := by omega
      have hn : ∀ ty, (Instr.next (.pointer (some ⟨w.heap.size, 0, none⟩)) true ty).run Try.prog (w.iter T pos) = .ok (.tuple #[.bool true, .int .i64 (pos : Int), .int .i32 (dsign pos : Int)]) (w.iter T (pos + 1)) := fun ty => by rw [hn0 ty, hti]
      have hD1 : digF c (base - pos) pos = if c = dsign pos ∨ (9 < pos ∧ c + 32 = dsign pos) then (pos : Int) else digF c (base - (pos + 1)) (pos + 1) := by
        obtain ⟨d, hd⟩ : ∃ d, base - pos = d + 1 := ⟨base - pos - 1, by omega⟩
        rw [hd, show base - (pos + 1) = d by omega]
        rfl
      rw [hD1] at hD
      clear hn0 hti ht hD1
      have hc1 : (c = dsign pos) ∨ (c ≠ dsign pos ∧ 9 < pos ∧ c + 32 = dsign pos) ∨ (c ≠ dsign pos ∧ 9 < pos ∧ c + 32 ≠ dsign pos) ∨ (c ≠ dsign pos ∧ ¬ 9 < pos) := by omega
      have hx : Ext G0 w (w.iter T (pos + 1)) := (Ext.refl _ _).alloc _
      rcases hc1 with h1 | ⟨h1, h2, h3⟩ | ⟨h1, h2, h3⟩ | ⟨h1, h2⟩
      · rw [if_pos (.inl h1)] at hD
        have t1 : ((c : Int) == (dsign pos : Int)) = true := by simp [h1]
        replace hD := Lib.hid hD
        clear h1
        generalize dsign pos = d at *
        go_wp2
        go_ret
        exact ⟨by rw [HR.out, ← hD.out]; rfl, hx⟩
      · rw [if_pos (.inr ⟨h2, h3⟩)] at hD
        have t1 : ((c : Int) == (dsign pos : Int)) = false := by simp; omega
        have t2 : decide ((9 : Int) < (pos : Int)) = true := by simp; omega
        have t3 : ((c : Int) == (dsign pos : Int) - 32) = true := by simp; omega
        replace hD := Lib.hid hD
        have hdd : (0 : Int) ≤ dsign pos ∧ (dsign pos : Int) < 128 := by omega
        have s1 : IntKind.i32.wrap ((dsign pos : Int) - 32) = (dsign pos : Int) - 32 := by rw [IntKind.wrap_i32]; omega
        clear h1 h3
        generalize dsign pos = d at *
        go_wp2
        go_ret
        exact ⟨by rw [HR.out, ← hD.out]; rfl, hx⟩
      · rw [if_neg (by omega)] at hD
        have t1 : ((c : Int) == (dsign pos : Int)) = false := by simp; omega
        have t2 : decide ((9 : Int) < (pos : Int)) = true := by simp; omega
        have t3 : ((c : Int) == (dsign pos : Int) - 32) = false := by simp; omega
        replace hD := Lib.hid hD
        have s1 : IntKind.i32.wrap ((dsign pos : Int) - 32) = (dsign pos : Int) - 32 := by rw [IntKind.wrap_i32]; omega
        clear h1 h3
        generalize dsign pos = d at *
        go_wp2
        go_roundw
        case rel => exact ⟨pos + 1, rfl, by omega, hD.out⟩
        case measure => simp; omega
      · rw [if_neg (by omega)] at hD
        have t1 : ((c : Int) == (dsign pos : Int)) = false := by simp; omega
        have t2 : decide ((9 : Int) < (pos : Int)) = false := by simp; omega
        replace hD := Lib.hid hD
        clear h1
        generalize dsign pos = d at *
        go_wp2
        go_roundw
        case rel => exact ⟨pos + 1, rfl, by omega, hD.out⟩
        case measure => simp; omega
    · obtain rfl : pos = base := by omega
      have hn : ∀ ty, (Instr.next (.pointer (some ⟨w.heap.size, 0, none⟩)) true ty).run Try.prog (w.iter T pos) = .ok (.tuple #[.bool false]) (w.iter T pos) := fun ty => run_next_end (P := Try.prog) w T pos ty (by omega)
      rw [Nat.sub_self] at hD
      replace hD := Lib.hid hD
      go_wp2
      go_ret
      refine ⟨?_, (Ext.refl _ _).alloc _⟩
      rw [HR.out, ← hD.out]
      rfl

/-- What a digit is worth. -/
def digN (c base : Nat) : Int := digF c base 0
theorem digit_any (c base : Nat) (w : World) (hc : c < 256) (hb : base = 10 ∨ base = 16) :
    Calls Try.prog 42 #[.int .i32 (c : Int), .int .i64 (base : Int)] w fun e w' => e = .returned (.int .i64 (digN c base)) ∧ Ext G0 w w' := by
  rcases hb with rfl | rfl
  · refine digit_loop c 10 ⟨#[48, 49, 50, 51, 52, 53, 54, 55, 56, 57]⟩ w hc (fun w => by kernel_rfl) (by decide) rfl ?_
    intro i h
    have h : i < 10 := h
    have : ∀ j : Fin 10, ((⟨#[48, 49, 50, 51, 52, 53, 54, 55, 56, 57]⟩ : ByteArray)[j.val]'(by exact j.isLt)).toNat = dsign j.val := by decide +kernel
    exact this ⟨i, h⟩
  · refine digit_loop c 16 ⟨#[48, 49, 50, 51, 52, 53, 54, 55, 56, 57, 97, 98, 99, 100, 101, 102]⟩ w hc (fun w => by kernel_rfl) (by decide) rfl ?_
    intro i h
    have h : i < 16 := h
    have : ∀ j : Fin 16, ((⟨#[48, 49, 50, 51, 52, 53, 54, 55, 56, 57, 97, 98, 99, 100, 101, 102]⟩ : ByteArray)[j.val]'(by exact j.isLt)).toNat = dsign j.val := by decide +kernel
    exact this ⟨i, h⟩

end Go.Proofs.Ytejialnbelleeaa
