/-
  The reference for sets: named, Named. Printed by wip/tools/mk_refj.py.
-/
import Derived.Test.YtejialnbelleeaaDoorRefC
import Derived.Test.YtejialnbelleeaaDoorRefA
import Derived.Test.YtejialnbelleeaaDoorSetK
namespace Go.Proofs.YtejialnbelleeaaDoor
open Go Go.RowKit


theorem ba_of_toList {a b : ByteArray} (h : a.toList = b.toList) : a = b := by
  rw [ByteArray.toList_eq, ByteArray.toList_eq] at h
  exact ByteArray.ext (Array.toList_inj.1 h)
/-- Has the named set a byte? -/
def refN (name : ByteArray) (k : Nat) : Bool := match tabN name with
  | some s => s.getLsbD k
  | none => false
theorem amongR_any (b lo hi : Int) (w : World) :
    Calls Tryd.prog 59 #[.int .i64 b, .int .i64 lo, .int .i64 hi] w fun e w' => e = .returned (.bool (decide (lo ≤ b) && decide (b ≤ hi))) ∧ w = w' := by
  by_cases h : lo ≤ b
  · rw [decide_eq_true h, Bool.true_and]
    go_enter Tryd.func59, Tryd.ntmps59
    go_wp2
    go_ret
    exact ⟨rfl, rfl⟩
  · rw [decide_eq_false h, Bool.false_and]
    go_enter Tryd.func59, Tryd.ntmps59
    go_wp2
    go_ret
    exact ⟨rfl, rfl⟩

theorem ref_alpha (k : Nat) (h : k < 256) : refN ⟨#[97, 108, 112, 104, 97]⟩ k = ((decide ((65 : Int) ≤ (k : Int)) && decide ((k : Int) ≤ 90)) || (decide ((97 : Int) ≤ (k : Int)) && decide ((k : Int) ≤ 122))) := by
  have : ∀ x : Fin 256, refN ⟨#[97, 108, 112, 104, 97]⟩ x.val = ((decide ((65 : Int) ≤ ((x.val : Nat) : Int)) && decide (((x.val : Nat) : Int) ≤ 90)) || (decide ((97 : Int) ≤ ((x.val : Nat) : Int)) && decide (((x.val : Nat) : Int) ≤ 122))) := by decide +kernel
  exact this ⟨k, h⟩
theorem ref_upper (k : Nat) (h : k < 256) : refN ⟨#[117, 112, 112, 101, 114]⟩ k = ((decide ((65 : Int) ≤ (k : Int)) && decide ((k : Int) ≤ 90))) := by
  have : ∀ x : Fin 256, refN ⟨#[117, 112, 112, 101, 114]⟩ x.val = ((decide ((65 : Int) ≤ ((x.val : Nat) : Int)) && decide (((x.val : Nat) : Int) ≤ 90))) := by decide +kernel
  exact this ⟨k, h⟩
theorem ref_lower (k : Nat) (h : k < 256) : refN ⟨#[108, 111, 119, 101, 114]⟩ k = ((decide ((97 : Int) ≤ (k : Int)) && decide ((k : Int) ≤ 122))) := by
  have : ∀ x : Fin 256, refN ⟨#[108, 111, 119, 101, 114]⟩ x.val = ((decide ((97 : Int) ≤ ((x.val : Nat) : Int)) && decide (((x.val : Nat) : Int) ≤ 122))) := by decide +kernel
  exact this ⟨k, h⟩
theorem ref_digit (k : Nat) (h : k < 256) : refN ⟨#[100, 105, 103, 105, 116]⟩ k = ((decide ((48 : Int) ≤ (k : Int)) && decide ((k : Int) ≤ 57))) := by
  have : ∀ x : Fin 256, refN ⟨#[100, 105, 103, 105, 116]⟩ x.val = ((decide ((48 : Int) ≤ ((x.val : Nat) : Int)) && decide (((x.val : Nat) : Int) ≤ 57))) := by decide +kernel
  exact this ⟨k, h⟩
theorem ref_alnum (k : Nat) (h : k < 256) : refN ⟨#[97, 108, 110, 117, 109]⟩ k = ((decide ((65 : Int) ≤ (k : Int)) && decide ((k : Int) ≤ 90)) || (decide ((97 : Int) ≤ (k : Int)) && decide ((k : Int) ≤ 122)) || (decide ((48 : Int) ≤ (k : Int)) && decide ((k : Int) ≤ 57))) := by
  have : ∀ x : Fin 256, refN ⟨#[97, 108, 110, 117, 109]⟩ x.val = ((decide ((65 : Int) ≤ ((x.val : Nat) : Int)) && decide (((x.val : Nat) : Int) ≤ 90)) || (decide ((97 : Int) ≤ ((x.val : Nat) : Int)) && decide (((x.val : Nat) : Int) ≤ 122)) || (decide ((48 : Int) ≤ ((x.val : Nat) : Int)) && decide (((x.val : Nat) : Int) ≤ 57))) := by decide +kernel
  exact this ⟨k, h⟩
theorem ref_xdigit (k : Nat) (h : k < 256) : refN ⟨#[120, 100, 105, 103, 105, 116]⟩ k = ((decide ((48 : Int) ≤ (k : Int)) && decide ((k : Int) ≤ 57)) || (decide ((65 : Int) ≤ (k : Int)) && decide ((k : Int) ≤ 70)) || (decide ((97 : Int) ≤ (k : Int)) && decide ((k : Int) ≤ 102))) := by
  have : ∀ x : Fin 256, refN ⟨#[120, 100, 105, 103, 105, 116]⟩ x.val = ((decide ((48 : Int) ≤ ((x.val : Nat) : Int)) && decide (((x.val : Nat) : Int) ≤ 57)) || (decide ((65 : Int) ≤ ((x.val : Nat) : Int)) && decide (((x.val : Nat) : Int) ≤ 70)) || (decide ((97 : Int) ≤ ((x.val : Nat) : Int)) && decide (((x.val : Nat) : Int) ≤ 102))) := by decide +kernel
  exact this ⟨k, h⟩
theorem ref_blank (k : Nat) (h : k < 256) : refN ⟨#[98, 108, 97, 110, 107]⟩ k = (((k : Int) == 9) || ((k : Int) == 32)) := by
  have : ∀ x : Fin 256, refN ⟨#[98, 108, 97, 110, 107]⟩ x.val = ((((x.val : Nat) : Int) == 9) || (((x.val : Nat) : Int) == 32)) := by decide +kernel
  exact this ⟨k, h⟩
theorem ref_space (k : Nat) (h : k < 256) : refN ⟨#[115, 112, 97, 99, 101]⟩ k = ((decide ((9 : Int) ≤ (k : Int)) && decide ((k : Int) ≤ 13)) || ((k : Int) == 32)) := by
  have : ∀ x : Fin 256, refN ⟨#[115, 112, 97, 99, 101]⟩ x.val = ((decide ((9 : Int) ≤ ((x.val : Nat) : Int)) && decide (((x.val : Nat) : Int) ≤ 13)) || (((x.val : Nat) : Int) == 32)) := by decide +kernel
  exact this ⟨k, h⟩
theorem ref_cntrl (k : Nat) (h : k < 256) : refN ⟨#[99, 110, 116, 114, 108]⟩ k = (decide ((k : Int) < 32) || ((k : Int) == 127)) := by
  have : ∀ x : Fin 256, refN ⟨#[99, 110, 116, 114, 108]⟩ x.val = (decide (((x.val : Nat) : Int) < 32) || (((x.val : Nat) : Int) == 127)) := by decide +kernel
  exact this ⟨k, h⟩
theorem ref_graph (k : Nat) (h : k < 256) : refN ⟨#[103, 114, 97, 112, 104]⟩ k = ((decide ((33 : Int) ≤ (k : Int)) && decide ((k : Int) ≤ 126))) := by
  have : ∀ x : Fin 256, refN ⟨#[103, 114, 97, 112, 104]⟩ x.val = ((decide ((33 : Int) ≤ ((x.val : Nat) : Int)) && decide (((x.val : Nat) : Int) ≤ 126))) := by decide +kernel
  exact this ⟨k, h⟩
theorem ref_print (k : Nat) (h : k < 256) : refN ⟨#[112, 114, 105, 110, 116]⟩ k = ((decide ((32 : Int) ≤ (k : Int)) && decide ((k : Int) ≤ 126))) := by
  have : ∀ x : Fin 256, refN ⟨#[112, 114, 105, 110, 116]⟩ x.val = ((decide ((32 : Int) ≤ ((x.val : Nat) : Int)) && decide (((x.val : Nat) : Int) ≤ 126))) := by decide +kernel
  exact this ⟨k, h⟩
theorem ref_punct (k : Nat) (h : k < 256) : refN ⟨#[112, 117, 110, 99, 116]⟩ k = ((decide ((33 : Int) ≤ (k : Int)) && decide ((k : Int) ≤ 126)) && !(decide ((65 : Int) ≤ (k : Int)) && decide ((k : Int) ≤ 90)) && !(decide ((97 : Int) ≤ (k : Int)) && decide ((k : Int) ≤ 122)) && !(decide ((48 : Int) ≤ (k : Int)) && decide ((k : Int) ≤ 57))) := by
  have : ∀ x : Fin 256, refN ⟨#[112, 117, 110, 99, 116]⟩ x.val = ((decide ((33 : Int) ≤ ((x.val : Nat) : Int)) && decide (((x.val : Nat) : Int) ≤ 126)) && !(decide ((65 : Int) ≤ ((x.val : Nat) : Int)) && decide (((x.val : Nat) : Int) ≤ 90)) && !(decide ((97 : Int) ≤ ((x.val : Nat) : Int)) && decide (((x.val : Nat) : Int) ≤ 122)) && !(decide ((48 : Int) ≤ ((x.val : Nat) : Int)) && decide (((x.val : Nat) : Int) ≤ 57))) := by decide +kernel
  exact this ⟨k, h⟩
theorem tab_none (name : ByteArray) (m0 : name ≠ ⟨#[97, 108, 112, 104, 97]⟩) (m1 : name ≠ ⟨#[117, 112, 112, 101, 114]⟩) (m2 : name ≠ ⟨#[108, 111, 119, 101, 114]⟩) (m3 : name ≠ ⟨#[100, 105, 103, 105, 116]⟩) (m4 : name ≠ ⟨#[97, 108, 110, 117, 109]⟩) (m5 : name ≠ ⟨#[120, 100, 105, 103, 105, 116]⟩) (m6 : name ≠ ⟨#[98, 108, 97, 110, 107]⟩) (m7 : name ≠ ⟨#[115, 112, 97, 99, 101]⟩) (m8 : name ≠ ⟨#[99, 110, 116, 114, 108]⟩) (m9 : name ≠ ⟨#[103, 114, 97, 112, 104]⟩) (m10 : name ≠ ⟨#[112, 114, 105, 110, 116]⟩) (m11 : name ≠ ⟨#[112, 117, 110, 99, 116]⟩) : tabN name = none := by
  unfold tabN tabT
  rw [List.find?_eq_none.2]
  · rfl
  · intro p hp hq
    have h3 : p.1 = name.data.toList := by simpa using hq
    have h4 : name = ⟨p.1.toArray⟩ := by rw [h3]
    simp only [nameT, List.mem_cons, List.not_mem_nil, or_false] at hp
    rcases hp with rfl | rfl | rfl | rfl | rfl | rfl | rfl | rfl | rfl | rfl | rfl | rfl
    · exact m0 h4
    · exact m1 h4
    · exact m2 h4
    · exact m3 h4
    · exact m4 h4
    · exact m5 h4
    · exact m6 h4
    · exact m7 h4
    · exact m8 h4
    · exact m9 h4
    · exact m10 h4
    · exact m11 h4
set_option maxRecDepth 100000 in
set_option maxHeartbeats 16000000 in
theorem rnamed_any (name : ByteArray) (k : Nat) (w : World) (hk : k < 256) :
    Calls Tryd.prog 57 #[.string name, .int .i64 (k : Int)] w fun e w' => e = .returned (.bool (refN name k)) ∧ w = w' := by
  have hall : ∀ (x : ByteArray) (y : List UInt8), x ≠ ⟨y.toArray⟩ → (x.toList == y) = false := fun x y h => by rw [beq_eq_false_iff_ne]; exact fun e => h (by rw [ByteArray.toList_eq] at e; exact ByteArray.ext (Array.toList_inj.1 e))
  obtain ⟨u, hu⟩ : ∃ u, u = (decide ((65 : Int) ≤ (k : Int)) && decide ((k : Int) ≤ 90)) := ⟨_, rfl⟩
  obtain ⟨l, hl⟩ : ∃ l, l = (decide ((97 : Int) ≤ (k : Int)) && decide ((k : Int) ≤ 122)) := ⟨_, rfl⟩
  obtain ⟨d, hd⟩ : ∃ d, d = (decide ((48 : Int) ≤ (k : Int)) && decide ((k : Int) ≤ 57)) := ⟨_, rfl⟩
  obtain ⟨a, ha⟩ : ∃ a, a = (decide ((65 : Int) ≤ (k : Int)) && decide ((k : Int) ≤ 70)) := ⟨_, rfl⟩
  obtain ⟨b, hb⟩ : ∃ b, b = (decide ((97 : Int) ≤ (k : Int)) && decide ((k : Int) ≤ 102)) := ⟨_, rfl⟩
  obtain ⟨s, hs⟩ : ∃ s, s = (decide ((9 : Int) ≤ (k : Int)) && decide ((k : Int) ≤ 13)) := ⟨_, rfl⟩
  obtain ⟨g, hg⟩ : ∃ g, g = (decide ((33 : Int) ≤ (k : Int)) && decide ((k : Int) ≤ 126)) := ⟨_, rfl⟩
  obtain ⟨p, hp⟩ : ∃ p, p = (decide ((32 : Int) ≤ (k : Int)) && decide ((k : Int) ≤ 126)) := ⟨_, rfl⟩
  obtain ⟨e9, he9⟩ : ∃ e9, e9 = ((k : Int) == 9) := ⟨_, rfl⟩
  obtain ⟨e32, he32⟩ : ∃ e32, e32 = ((k : Int) == 32) := ⟨_, rfl⟩
  obtain ⟨e127, he127⟩ : ∃ e127, e127 = ((k : Int) == 127) := ⟨_, rfl⟩
  obtain ⟨c, hc⟩ : ∃ c, c = decide ((k : Int) < 32) := ⟨_, rfl⟩
  have Hu := Lib.hid (amongR_any (k : Int) 65 90)
  rw [← hu] at Hu
  have Hl := Lib.hid (amongR_any (k : Int) 97 122)
  rw [← hl] at Hl
  have Hd := Lib.hid (amongR_any (k : Int) 48 57)
  rw [← hd] at Hd
  have Ha := Lib.hid (amongR_any (k : Int) 65 70)
  rw [← ha] at Ha
  have Hb := Lib.hid (amongR_any (k : Int) 97 102)
  rw [← hb] at Hb
  have Hs := Lib.hid (amongR_any (k : Int) 9 13)
  rw [← hs] at Hs
  have Hg := Lib.hid (amongR_any (k : Int) 33 126)
  rw [← hg] at Hg
  have Hp := Lib.hid (amongR_any (k : Int) 32 126)
  rw [← hp] at Hp
  by_cases n0 : name = ⟨#[97, 108, 112, 104, 97]⟩
  · have hq := n0
    clear n0
    have hv := ref_alpha k hk
    rw [← hq] at hv
    rw [← hu, ← hl] at hv
    replace hv := Lib.hid hv
    have E0 : (name.toList == [97, 108, 112, 104, 97]) = true := by rw [hq, ByteArray.toList_eq]; decide
    clear hq hall
    clear hu hl hd ha hb hs hg hp he9 he32 he127 hc
    generalize refN name k = r at *
    go_enter Tryd.func57, Tryd.ntmps57
    go_wp2_with fail
    refine (Hu.out _).mono ?_
    rintro e w0 ⟨rfl, rfl⟩
    go_wp2_with fail
    refine (Hl.out _).mono ?_
    rintro e w0 ⟨rfl, rfl⟩
    go_wp2_with fail
    refine (Hd.out _).mono ?_
    rintro e w0 ⟨rfl, rfl⟩
    skip
    cases u <;> cases l
    all_goals
      go_wp2
      go_ret
      exact ⟨by rw [hv.out]; rfl, rfl⟩
  by_cases n1 : name = ⟨#[117, 112, 112, 101, 114]⟩
  · have hq := n1
    clear n1 n0
    have hv := ref_upper k hk
    rw [← hq] at hv
    rw [← hu] at hv
    replace hv := Lib.hid hv
    have E0 : (name.toList == [97, 108, 112, 104, 97]) = false := by rw [hq, ByteArray.toList_eq]; decide
    have E1 : (name.toList == [117, 112, 112, 101, 114]) = true := by rw [hq, ByteArray.toList_eq]; decide
    clear hq hall
    clear hu hl hd ha hb hs hg hp he9 he32 he127 hc
    generalize refN name k = r at *
    go_enter Tryd.func57, Tryd.ntmps57
    go_wp2_with fail
    refine (Hu.out _).mono ?_
    rintro e w0 ⟨rfl, rfl⟩
    go_wp2_with fail
    refine (Hl.out _).mono ?_
    rintro e w0 ⟨rfl, rfl⟩
    go_wp2_with fail
    refine (Hd.out _).mono ?_
    rintro e w0 ⟨rfl, rfl⟩
    skip
    cases u
    all_goals
      go_wp2
      go_ret
      exact ⟨by rw [hv.out]; rfl, rfl⟩
  by_cases n2 : name = ⟨#[108, 111, 119, 101, 114]⟩
  · have hq := n2
    clear n2 n0 n1
    have hv := ref_lower k hk
    rw [← hq] at hv
    rw [← hl] at hv
    replace hv := Lib.hid hv
    have E0 : (name.toList == [97, 108, 112, 104, 97]) = false := by rw [hq, ByteArray.toList_eq]; decide
    have E1 : (name.toList == [117, 112, 112, 101, 114]) = false := by rw [hq, ByteArray.toList_eq]; decide
    have E2 : (name.toList == [108, 111, 119, 101, 114]) = true := by rw [hq, ByteArray.toList_eq]; decide
    clear hq hall
    clear hu hl hd ha hb hs hg hp he9 he32 he127 hc
    generalize refN name k = r at *
    go_enter Tryd.func57, Tryd.ntmps57
    go_wp2_with fail
    refine (Hu.out _).mono ?_
    rintro e w0 ⟨rfl, rfl⟩
    go_wp2_with fail
    refine (Hl.out _).mono ?_
    rintro e w0 ⟨rfl, rfl⟩
    go_wp2_with fail
    refine (Hd.out _).mono ?_
    rintro e w0 ⟨rfl, rfl⟩
    skip
    cases l
    all_goals
      go_wp2
      go_ret
      exact ⟨by rw [hv.out]; rfl, rfl⟩
  by_cases n3 : name = ⟨#[100, 105, 103, 105, 116]⟩
  · have hq := n3
    clear n3 n0 n1 n2
    have hv := ref_digit k hk
    rw [← hq] at hv
    rw [← hd] at hv
    replace hv := Lib.hid hv
    have E0 : (name.toList == [97, 108, 112, 104, 97]) = false := by rw [hq, ByteArray.toList_eq]; decide
    have E1 : (name.toList == [117, 112, 112, 101, 114]) = false := by rw [hq, ByteArray.toList_eq]; decide
    have E2 : (name.toList == [108, 111, 119, 101, 114]) = false := by rw [hq, ByteArray.toList_eq]; decide
    have E3 : (name.toList == [100, 105, 103, 105, 116]) = true := by rw [hq, ByteArray.toList_eq]; decide
    clear hq hall
    clear hu hl hd ha hb hs hg hp he9 he32 he127 hc
    generalize refN name k = r at *
    go_enter Tryd.func57, Tryd.ntmps57
    go_wp2_with fail
    refine (Hu.out _).mono ?_
    rintro e w0 ⟨rfl, rfl⟩
    go_wp2_with fail
    refine (Hl.out _).mono ?_
    rintro e w0 ⟨rfl, rfl⟩
    go_wp2_with fail
    refine (Hd.out _).mono ?_
    rintro e w0 ⟨rfl, rfl⟩
    skip
    cases d
    all_goals
      go_wp2
      go_ret
      exact ⟨by rw [hv.out]; rfl, rfl⟩
  by_cases n4 : name = ⟨#[97, 108, 110, 117, 109]⟩
  · have hq := n4
    clear n4 n0 n1 n2 n3
    have hv := ref_alnum k hk
    rw [← hq] at hv
    rw [← hu, ← hl, ← hd] at hv
    replace hv := Lib.hid hv
    have E0 : (name.toList == [97, 108, 112, 104, 97]) = false := by rw [hq, ByteArray.toList_eq]; decide
    have E1 : (name.toList == [117, 112, 112, 101, 114]) = false := by rw [hq, ByteArray.toList_eq]; decide
    have E2 : (name.toList == [108, 111, 119, 101, 114]) = false := by rw [hq, ByteArray.toList_eq]; decide
    have E3 : (name.toList == [100, 105, 103, 105, 116]) = false := by rw [hq, ByteArray.toList_eq]; decide
    have E4 : (name.toList == [97, 108, 110, 117, 109]) = true := by rw [hq, ByteArray.toList_eq]; decide
    clear hq hall
    clear hu hl hd ha hb hs hg hp he9 he32 he127 hc
    generalize refN name k = r at *
    go_enter Tryd.func57, Tryd.ntmps57
    go_wp2_with fail
    refine (Hu.out _).mono ?_
    rintro e w0 ⟨rfl, rfl⟩
    go_wp2_with fail
    refine (Hl.out _).mono ?_
    rintro e w0 ⟨rfl, rfl⟩
    go_wp2_with fail
    refine (Hd.out _).mono ?_
    rintro e w0 ⟨rfl, rfl⟩
    skip
    cases u <;> cases l <;> cases d
    all_goals
      go_wp2
      go_ret
      exact ⟨by rw [hv.out]; rfl, rfl⟩
  by_cases n5 : name = ⟨#[120, 100, 105, 103, 105, 116]⟩
  · have hq := n5
    clear n5 n0 n1 n2 n3 n4
    have hv := ref_xdigit k hk
    rw [← hq] at hv
    rw [← hd, ← ha, ← hb] at hv
    replace hv := Lib.hid hv
    have E0 : (name.toList == [97, 108, 112, 104, 97]) = false := by rw [hq, ByteArray.toList_eq]; decide
    have E1 : (name.toList == [117, 112, 112, 101, 114]) = false := by rw [hq, ByteArray.toList_eq]; decide
    have E2 : (name.toList == [108, 111, 119, 101, 114]) = false := by rw [hq, ByteArray.toList_eq]; decide
    have E3 : (name.toList == [100, 105, 103, 105, 116]) = false := by rw [hq, ByteArray.toList_eq]; decide
    have E4 : (name.toList == [97, 108, 110, 117, 109]) = false := by rw [hq, ByteArray.toList_eq]; decide
    have E5 : (name.toList == [120, 100, 105, 103, 105, 116]) = true := by rw [hq, ByteArray.toList_eq]; decide
    clear hq hall
    clear hu hl hd ha hb hs hg hp he9 he32 he127 hc
    generalize refN name k = r at *
    go_enter Tryd.func57, Tryd.ntmps57
    go_wp2_with fail
    refine (Hu.out _).mono ?_
    rintro e w0 ⟨rfl, rfl⟩
    go_wp2_with fail
    refine (Hl.out _).mono ?_
    rintro e w0 ⟨rfl, rfl⟩
    go_wp2_with fail
    refine (Hd.out _).mono ?_
    rintro e w0 ⟨rfl, rfl⟩
    skip
    cases d
    · go_wp2_with fail
      refine (Ha.out _).mono ?_
      rintro e w0 ⟨rfl, rfl⟩
      cases a
      · go_wp2_with fail
        refine (Hb.out _).mono ?_
        rintro e w0 ⟨rfl, rfl⟩
        go_wp2
        go_ret
        exact ⟨by rw [hv.out]; cases b <;> rfl, rfl⟩
      · go_wp2
        go_ret
        exact ⟨by rw [hv.out]; rfl, rfl⟩
    · go_wp2
      go_ret
      exact ⟨by rw [hv.out]; rfl, rfl⟩
  by_cases n6 : name = ⟨#[98, 108, 97, 110, 107]⟩
  · have hq := n6
    clear n6 n0 n1 n2 n3 n4 n5
    have hv := ref_blank k hk
    rw [← hq] at hv
    rw [← he9, ← he32] at hv
    replace hv := Lib.hid hv
    have E0 : (name.toList == [97, 108, 112, 104, 97]) = false := by rw [hq, ByteArray.toList_eq]; decide
    have E1 : (name.toList == [117, 112, 112, 101, 114]) = false := by rw [hq, ByteArray.toList_eq]; decide
    have E2 : (name.toList == [108, 111, 119, 101, 114]) = false := by rw [hq, ByteArray.toList_eq]; decide
    have E3 : (name.toList == [100, 105, 103, 105, 116]) = false := by rw [hq, ByteArray.toList_eq]; decide
    have E4 : (name.toList == [97, 108, 110, 117, 109]) = false := by rw [hq, ByteArray.toList_eq]; decide
    have E5 : (name.toList == [120, 100, 105, 103, 105, 116]) = false := by rw [hq, ByteArray.toList_eq]; decide
    have E6 : (name.toList == [98, 108, 97, 110, 107]) = true := by rw [hq, ByteArray.toList_eq]; decide
    clear hq hall
    replace he9 := he9.symm
    replace he32 := he32.symm
    clear hu hl hd ha hb hs hg hp he127 hc
    generalize refN name k = r at *
    go_enter Tryd.func57, Tryd.ntmps57
    go_wp2_with fail
    refine (Hu.out _).mono ?_
    rintro e w0 ⟨rfl, rfl⟩
    go_wp2_with fail
    refine (Hl.out _).mono ?_
    rintro e w0 ⟨rfl, rfl⟩
    go_wp2_with fail
    refine (Hd.out _).mono ?_
    rintro e w0 ⟨rfl, rfl⟩
    skip
    cases e9 <;> cases e32
    all_goals
      go_wp2
      go_ret
      exact ⟨by rw [hv.out]; rfl, rfl⟩
  by_cases n7 : name = ⟨#[115, 112, 97, 99, 101]⟩
  · have hq := n7
    clear n7 n0 n1 n2 n3 n4 n5 n6
    have hv := ref_space k hk
    rw [← hq] at hv
    rw [← hs, ← he32] at hv
    replace hv := Lib.hid hv
    have E0 : (name.toList == [97, 108, 112, 104, 97]) = false := by rw [hq, ByteArray.toList_eq]; decide
    have E1 : (name.toList == [117, 112, 112, 101, 114]) = false := by rw [hq, ByteArray.toList_eq]; decide
    have E2 : (name.toList == [108, 111, 119, 101, 114]) = false := by rw [hq, ByteArray.toList_eq]; decide
    have E3 : (name.toList == [100, 105, 103, 105, 116]) = false := by rw [hq, ByteArray.toList_eq]; decide
    have E4 : (name.toList == [97, 108, 110, 117, 109]) = false := by rw [hq, ByteArray.toList_eq]; decide
    have E5 : (name.toList == [120, 100, 105, 103, 105, 116]) = false := by rw [hq, ByteArray.toList_eq]; decide
    have E6 : (name.toList == [98, 108, 97, 110, 107]) = false := by rw [hq, ByteArray.toList_eq]; decide
    have E7 : (name.toList == [115, 112, 97, 99, 101]) = true := by rw [hq, ByteArray.toList_eq]; decide
    clear hq hall
    replace he32 := he32.symm
    clear hu hl hd ha hb hs hg hp he9 he127 hc
    generalize refN name k = r at *
    go_enter Tryd.func57, Tryd.ntmps57
    go_wp2_with fail
    refine (Hu.out _).mono ?_
    rintro e w0 ⟨rfl, rfl⟩
    go_wp2_with fail
    refine (Hl.out _).mono ?_
    rintro e w0 ⟨rfl, rfl⟩
    go_wp2_with fail
    refine (Hd.out _).mono ?_
    rintro e w0 ⟨rfl, rfl⟩
    skip
    go_wp2_with fail
    refine (Hs.out _).mono ?_
    rintro e w0 ⟨rfl, rfl⟩
    cases s <;> cases e32
    all_goals
      go_wp2
      go_ret
      exact ⟨by rw [hv.out]; rfl, rfl⟩
  by_cases n8 : name = ⟨#[99, 110, 116, 114, 108]⟩
  · have hq := n8
    clear n8 n0 n1 n2 n3 n4 n5 n6 n7
    have hv := ref_cntrl k hk
    rw [← hq] at hv
    rw [← hc, ← he127] at hv
    replace hv := Lib.hid hv
    have E0 : (name.toList == [97, 108, 112, 104, 97]) = false := by rw [hq, ByteArray.toList_eq]; decide
    have E1 : (name.toList == [117, 112, 112, 101, 114]) = false := by rw [hq, ByteArray.toList_eq]; decide
    have E2 : (name.toList == [108, 111, 119, 101, 114]) = false := by rw [hq, ByteArray.toList_eq]; decide
    have E3 : (name.toList == [100, 105, 103, 105, 116]) = false := by rw [hq, ByteArray.toList_eq]; decide
    have E4 : (name.toList == [97, 108, 110, 117, 109]) = false := by rw [hq, ByteArray.toList_eq]; decide
    have E5 : (name.toList == [120, 100, 105, 103, 105, 116]) = false := by rw [hq, ByteArray.toList_eq]; decide
    have E6 : (name.toList == [98, 108, 97, 110, 107]) = false := by rw [hq, ByteArray.toList_eq]; decide
    have E7 : (name.toList == [115, 112, 97, 99, 101]) = false := by rw [hq, ByteArray.toList_eq]; decide
    have E8 : (name.toList == [99, 110, 116, 114, 108]) = true := by rw [hq, ByteArray.toList_eq]; decide
    clear hq hall
    replace hc := hc.symm
    replace he127 := he127.symm
    clear hu hl hd ha hb hs hg hp he9 he32
    generalize refN name k = r at *
    go_enter Tryd.func57, Tryd.ntmps57
    go_wp2_with fail
    refine (Hu.out _).mono ?_
    rintro e w0 ⟨rfl, rfl⟩
    go_wp2_with fail
    refine (Hl.out _).mono ?_
    rintro e w0 ⟨rfl, rfl⟩
    go_wp2_with fail
    refine (Hd.out _).mono ?_
    rintro e w0 ⟨rfl, rfl⟩
    skip
    cases c <;> cases e127
    all_goals
      go_wp2
      go_ret
      exact ⟨by rw [hv.out]; rfl, rfl⟩
  by_cases n9 : name = ⟨#[103, 114, 97, 112, 104]⟩
  · have hq := n9
    clear n9 n0 n1 n2 n3 n4 n5 n6 n7 n8
    have hv := ref_graph k hk
    rw [← hq] at hv
    rw [← hg] at hv
    replace hv := Lib.hid hv
    have E0 : (name.toList == [97, 108, 112, 104, 97]) = false := by rw [hq, ByteArray.toList_eq]; decide
    have E1 : (name.toList == [117, 112, 112, 101, 114]) = false := by rw [hq, ByteArray.toList_eq]; decide
    have E2 : (name.toList == [108, 111, 119, 101, 114]) = false := by rw [hq, ByteArray.toList_eq]; decide
    have E3 : (name.toList == [100, 105, 103, 105, 116]) = false := by rw [hq, ByteArray.toList_eq]; decide
    have E4 : (name.toList == [97, 108, 110, 117, 109]) = false := by rw [hq, ByteArray.toList_eq]; decide
    have E5 : (name.toList == [120, 100, 105, 103, 105, 116]) = false := by rw [hq, ByteArray.toList_eq]; decide
    have E6 : (name.toList == [98, 108, 97, 110, 107]) = false := by rw [hq, ByteArray.toList_eq]; decide
    have E7 : (name.toList == [115, 112, 97, 99, 101]) = false := by rw [hq, ByteArray.toList_eq]; decide
    have E8 : (name.toList == [99, 110, 116, 114, 108]) = false := by rw [hq, ByteArray.toList_eq]; decide
    have E9 : (name.toList == [103, 114, 97, 112, 104]) = true := by rw [hq, ByteArray.toList_eq]; decide
    clear hq hall
    clear hu hl hd ha hb hs hg hp he9 he32 he127 hc
    generalize refN name k = r at *
    go_enter Tryd.func57, Tryd.ntmps57
    go_wp2_with fail
    refine (Hu.out _).mono ?_
    rintro e w0 ⟨rfl, rfl⟩
    go_wp2_with fail
    refine (Hl.out _).mono ?_
    rintro e w0 ⟨rfl, rfl⟩
    go_wp2_with fail
    refine (Hd.out _).mono ?_
    rintro e w0 ⟨rfl, rfl⟩
    skip
    go_wp2_with fail
    refine (Hg.out _).mono ?_
    rintro e w0 ⟨rfl, rfl⟩
    go_wp2
    go_ret
    exact ⟨by rw [hv.out]; rfl, rfl⟩
  by_cases n10 : name = ⟨#[112, 114, 105, 110, 116]⟩
  · have hq := n10
    clear n10 n0 n1 n2 n3 n4 n5 n6 n7 n8 n9
    have hv := ref_print k hk
    rw [← hq] at hv
    rw [← hp] at hv
    replace hv := Lib.hid hv
    have E0 : (name.toList == [97, 108, 112, 104, 97]) = false := by rw [hq, ByteArray.toList_eq]; decide
    have E1 : (name.toList == [117, 112, 112, 101, 114]) = false := by rw [hq, ByteArray.toList_eq]; decide
    have E2 : (name.toList == [108, 111, 119, 101, 114]) = false := by rw [hq, ByteArray.toList_eq]; decide
    have E3 : (name.toList == [100, 105, 103, 105, 116]) = false := by rw [hq, ByteArray.toList_eq]; decide
    have E4 : (name.toList == [97, 108, 110, 117, 109]) = false := by rw [hq, ByteArray.toList_eq]; decide
    have E5 : (name.toList == [120, 100, 105, 103, 105, 116]) = false := by rw [hq, ByteArray.toList_eq]; decide
    have E6 : (name.toList == [98, 108, 97, 110, 107]) = false := by rw [hq, ByteArray.toList_eq]; decide
    have E7 : (name.toList == [115, 112, 97, 99, 101]) = false := by rw [hq, ByteArray.toList_eq]; decide
    have E8 : (name.toList == [99, 110, 116, 114, 108]) = false := by rw [hq, ByteArray.toList_eq]; decide
    have E9 : (name.toList == [103, 114, 97, 112, 104]) = false := by rw [hq, ByteArray.toList_eq]; decide
    have E10 : (name.toList == [112, 114, 105, 110, 116]) = true := by rw [hq, ByteArray.toList_eq]; decide
    clear hq hall
    clear hu hl hd ha hb hs hg hp he9 he32 he127 hc
    generalize refN name k = r at *
    go_enter Tryd.func57, Tryd.ntmps57
    go_wp2_with fail
    refine (Hu.out _).mono ?_
    rintro e w0 ⟨rfl, rfl⟩
    go_wp2_with fail
    refine (Hl.out _).mono ?_
    rintro e w0 ⟨rfl, rfl⟩
    go_wp2_with fail
    refine (Hd.out _).mono ?_
    rintro e w0 ⟨rfl, rfl⟩
    skip
    go_wp2_with fail
    refine (Hp.out _).mono ?_
    rintro e w0 ⟨rfl, rfl⟩
    go_wp2
    go_ret
    exact ⟨by rw [hv.out]; rfl, rfl⟩
  by_cases n11 : name = ⟨#[112, 117, 110, 99, 116]⟩
  · have hq := n11
    clear n11 n0 n1 n2 n3 n4 n5 n6 n7 n8 n9 n10
    have hv := ref_punct k hk
    rw [← hq] at hv
    rw [← hg, ← hu, ← hl, ← hd] at hv
    replace hv := Lib.hid hv
    have E0 : (name.toList == [97, 108, 112, 104, 97]) = false := by rw [hq, ByteArray.toList_eq]; decide
    have E1 : (name.toList == [117, 112, 112, 101, 114]) = false := by rw [hq, ByteArray.toList_eq]; decide
    have E2 : (name.toList == [108, 111, 119, 101, 114]) = false := by rw [hq, ByteArray.toList_eq]; decide
    have E3 : (name.toList == [100, 105, 103, 105, 116]) = false := by rw [hq, ByteArray.toList_eq]; decide
    have E4 : (name.toList == [97, 108, 110, 117, 109]) = false := by rw [hq, ByteArray.toList_eq]; decide
    have E5 : (name.toList == [120, 100, 105, 103, 105, 116]) = false := by rw [hq, ByteArray.toList_eq]; decide
    have E6 : (name.toList == [98, 108, 97, 110, 107]) = false := by rw [hq, ByteArray.toList_eq]; decide
    have E7 : (name.toList == [115, 112, 97, 99, 101]) = false := by rw [hq, ByteArray.toList_eq]; decide
    have E8 : (name.toList == [99, 110, 116, 114, 108]) = false := by rw [hq, ByteArray.toList_eq]; decide
    have E9 : (name.toList == [103, 114, 97, 112, 104]) = false := by rw [hq, ByteArray.toList_eq]; decide
    have E10 : (name.toList == [112, 114, 105, 110, 116]) = false := by rw [hq, ByteArray.toList_eq]; decide
    have E11 : (name.toList == [112, 117, 110, 99, 116]) = true := by rw [hq, ByteArray.toList_eq]; decide
    clear hq hall
    clear hu hl hd ha hb hs hg hp he9 he32 he127 hc
    generalize refN name k = r at *
    go_enter Tryd.func57, Tryd.ntmps57
    go_wp2_with fail
    refine (Hu.out _).mono ?_
    rintro e w0 ⟨rfl, rfl⟩
    go_wp2_with fail
    refine (Hl.out _).mono ?_
    rintro e w0 ⟨rfl, rfl⟩
    go_wp2_with fail
    refine (Hd.out _).mono ?_
    rintro e w0 ⟨rfl, rfl⟩
    skip
    go_wp2_with fail
    refine (Hg.out _).mono ?_
    rintro e w0 ⟨rfl, rfl⟩
    cases g <;> cases u <;> cases l <;> cases d
    all_goals
      go_wp2
      go_ret
      exact ⟨by rw [hv.out]; rfl, rfl⟩
  have hv : refN name k = false := by unfold refN; rw [tab_none name n0 n1 n2 n3 n4 n5 n6 n7 n8 n9 n10 n11]
  replace hv := Lib.hid hv
  have E0 : (name.toList == [97, 108, 112, 104, 97]) = false := hall name [97, 108, 112, 104, 97] n0
  have E1 : (name.toList == [117, 112, 112, 101, 114]) = false := hall name [117, 112, 112, 101, 114] n1
  have E2 : (name.toList == [108, 111, 119, 101, 114]) = false := hall name [108, 111, 119, 101, 114] n2
  have E3 : (name.toList == [100, 105, 103, 105, 116]) = false := hall name [100, 105, 103, 105, 116] n3
  have E4 : (name.toList == [97, 108, 110, 117, 109]) = false := hall name [97, 108, 110, 117, 109] n4
  have E5 : (name.toList == [120, 100, 105, 103, 105, 116]) = false := hall name [120, 100, 105, 103, 105, 116] n5
  have E6 : (name.toList == [98, 108, 97, 110, 107]) = false := hall name [98, 108, 97, 110, 107] n6
  have E7 : (name.toList == [115, 112, 97, 99, 101]) = false := hall name [115, 112, 97, 99, 101] n7
  have E8 : (name.toList == [99, 110, 116, 114, 108]) = false := hall name [99, 110, 116, 114, 108] n8
  have E9 : (name.toList == [103, 114, 97, 112, 104]) = false := hall name [103, 114, 97, 112, 104] n9
  have E10 : (name.toList == [112, 114, 105, 110, 116]) = false := hall name [112, 114, 105, 110, 116] n10
  have E11 : (name.toList == [112, 117, 110, 99, 116]) = false := hall name [112, 117, 110, 99, 116] n11
  clear hall n0 n1 n2 n3 n4 n5 n6 n7 n8 n9 n10 n11
  clear hu hl hd ha hb hs hg hp he9 he32 he127 hc
  generalize refN name k = r at *
  go_enter Tryd.func57, Tryd.ntmps57
  go_wp2_with fail
  refine (Hu.out _).mono ?_
  rintro e w0 ⟨rfl, rfl⟩
  go_wp2_with fail
  refine (Hl.out _).mono ?_
  rintro e w0 ⟨rfl, rfl⟩
  go_wp2_with fail
  refine (Hd.out _).mono ?_
  rintro e w0 ⟨rfl, rfl⟩
  skip
  go_wp2
  go_ret
  exact ⟨by rw [hv.out]; rfl, rfl⟩

set_option maxRecDepth 100000 in
set_option maxHeartbeats 4000000 in
theorem rNamed_any (name : ByteArray) (w : World) :
    Calls Tryd.prog 29 #[.string name] w fun e w' => e = .returned (setV (ofP (refN name))) ∧ Below w.heap.size w w' := by
  have hz := zero_bools
  go_enter Tryd.func29, Tryd.ntmps29
  go_wp2
  generalize hwz : World.alloc (World.alloc w _) _ = wz
  have fR : wz.heap[w.heap.size]? = some (.cells (setC 0#256) 24 (0, 0)) := by rw [← hwz]; exact heap_two' w _ _
  have fB : wz.heap[w.heap.size + 1]? = some (.cells (boolsC fun _ => false) 85 (0, 0)) := by rw [← hwz]; exact heap_two w _ _
  have y0 : Ext G0 w wz := by rw [← hwz]; exact ((Ext.refl _ _).alloc _).alloc _
  clear hwz
  go_loopw [5] (fun i wr => ∃ k : Nat, k ≤ 256 ∧ i = .int .i64 (k : Int) ∧ wr.heap[w.heap.size]? = some (.cells (setC 0#256) 24 (0, 0)) ∧
      wr.heap[w.heap.size + 1]? = some (.cells (boolsC fun i => decide (i < k) && refN name i) 85 (0, 0)) ∧ Ext G0 w wr) (fun i _ => 256 - (intOf i).toNat)
  case atStart =>
    refine ⟨0, by omega, rfl, fR, ?_, y0⟩
    rw [boolsC_congr (q := fun _ => false) (fun i _ => by simp)]
    exact fB
  case round =>
    obtain ⟨k, hk, rfl, gR, gB, hx⟩ := hrel
    clear fR fB y0
    by_cases hlt : k < 256
    · have HN := Lib.hid (rnamed_any name k · hlt)
      have i1 : (k : Int) < 256 := by omega
      have hnew : boolsC (fun j => if j = k then refN name k else (fun i => decide (i < k) && refN name i) j) = boolsC fun i => decide (i < k + 1) && refN name i := boolsC_congr fun i _ => by
        by_cases e : i = k
        · subst e; simp
        · rw [if_neg e]
          have : decide (i < k) = decide (i < k + 1) := by rw [Bool.eq_iff_iff]; simp; omega
          simp only [this]
      have HW := Lib.hid hnew
      clear hnew
      have c0 := (blk_cell gB k).trans (boolsC_get _ k hlt)
      generalize refN name k = r at *
      have z := blk_free gB
      have hlB := lt_of_block gB
      go_wp2_with fail
      refine (HN.out _).mono ?_
      rintro e w1 ⟨rfl, rfl⟩
      go_wp2
      go_roundw
      case rel =>
        refine ⟨k + 1, by omega, by go_num, (Below.heap_setCell _ _ _ _ (by simp)).trans gR, ?_, hx.set (by simp) _⟩
        rw [blk_set gB, boolsC_set, HW.out]
      case measure => simp [intOf]; omega
    · obtain rfl : k = 256 := by omega
      have hfin : boolsC (fun i => decide (i < 256) && refN name i) = boolsC (refN name) := boolsC_congr fun i hi => by simp [hi]
      rw [hfin] at gB
      clear hfin
      go_wp2_with (first | (with_reducible refine wpList_load_row rfl 85 _ rfl (w.heap.size + 1) rfl _ _ _ _ gB Tryd.underlying85 rfl (info_bools _) ?_) | (go_at_call 58; refine (rof_any _ _).mono ?_; rintro e w2 ⟨rfl, hb2⟩; have gR2 := ext_heap (Ext.of_below hb2 G0) gR (fun x => x); obtain ⟨q0, q1, q2, q3⟩ := cells4 gR2; have zz := blk_free gR2; have hlR := lt_of_block gR2; have hx2 := hx.trans (Ext.of_below hb2 G0)))
      refine bodyPost_ret (v := setV (ofP (refN name))) (by simp [results, Tryd.results29, go_sem, q0, q1, q2, q3]) rfl ⟨rfl, ?_⟩
      exact ((((hx2.set (by simp) _).set (by simp) _).set (by simp) _).set (by simp) _).below

end Go.Proofs.YtejialnbelleeaaDoor
