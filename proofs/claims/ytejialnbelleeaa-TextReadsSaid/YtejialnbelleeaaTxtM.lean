/-
  The laws of the text: wakes; a call's word and kind.
-/
import Derived.Test.YtejialnbelleeaaTxtL
namespace Go.Proofs.Ytejialnbelleeaa
open Go Go.RowKit

abbrev tAbc : ByteArray := ⟨#[97, 98, 99]⟩
abbrev tNum : ByteArray := ⟨#[48, 49, 50, 55, 120]⟩
abbrev tHex : ByteArray := ⟨#[102, 70, 48]⟩

theorem strs_new (w : World) (l : List ByteArray) (cs : List Value) (t : TypeId) (h : l.flatMap strL = cs) (hm : (l.length : Int) ≤ 140737488351232) : StrsAt (w.alloc (.cells cs.toArray t)) (.slice (some ⟨w.heap.size, 0, none⟩) l.length l.length) l :=
  SlAt.new l cs t _ h (fun _ _ => rfl) (Nat.le_refl _) hm

theorem wk_is : isL (mets tAbc 0 0 [⟨#[98]⟩, ⟨#[97, 98]⟩, ⟨#[97]⟩]) 0 = .ok 2 2 := by kernel_rfl
theorem wk_want : wantR tAbc ⟨#[100]⟩ 2 = .fail 2 130 := by kernel_rfl
theorem wk_peek : peekN tAbc 2 130 = (0, false) := by kernel_rfl
theorem wk_num : numR tNum 0 200 false = .ok 127 4 := by kernel_rfl
theorem wk_num2 : numR tNum 0 200 true = .fail 1 130 := by kernel_rfl
theorem wk_hex : hexR tHex 0 2 = .ok 255 2 := by kernel_rfl
theorem wk_hex2 : hexR tHex 2 2 = .fail 3 130 := by kernel_rfl

set_option maxRecDepth 100000 in
set_option maxHeartbeats 4000000 in
theorem wakes_any (w : World) :
    Calls Try.prog 7 #[] w fun e w' => e = .returned (.bool true) ∧ Ext G0 w w' := by
  have hIs : ∀ g v w, RdAt w g tAbc 0 0 → StrsAt w v [⟨#[98]⟩, ⟨#[97, 98]⟩, ⟨#[97]⟩] → Calls Try.prog 14 #[.pointer (some ⟨g, 0, none⟩), v] w fun e w' => e = .returned (.int .i64 2) ∧ RdAt w' g tAbc 2 0 ∧ Ext (G1 g) w w' := fun g v w hr hv => by
    obtain ⟨A, c, rfl, hc, hs⟩ := hv
    have := Is_any g 0 tAbc 0 [⟨#[98]⟩, ⟨#[97, 98]⟩, ⟨#[97]⟩] A c w hr (by decide) (by decide) ⟨A, c, rfl, hc, hs⟩ (by intro t ht; simp at ht; rcases ht with rfl | rfl | rfl <;> decide)
    rw [wk_is] at this
    exact this
  have hWant : ∀ g w, RdAt w g tAbc 2 0 → Calls Try.prog 16 #[.pointer (some ⟨g, 0, none⟩), .string ⟨#[100]⟩] w fun e w' => e = .returned (.bool false) ∧ RdAt w' g tAbc 2 130 ∧ Ext (G1 g) w w' := fun g w hr => by
    have := Want_any g 2 tAbc 0 ⟨#[100]⟩ w hr (by decide) (by decide) (by decide)
    rw [wk_want] at this
    exact this
  have hErr : ∀ g s p w, RdAt w g s p 130 → Calls Try.prog 10 #[.pointer (some ⟨g, 0, none⟩)] w fun e w' => e = .returned (.tuple #[.int .i64 (p : Int), .int .i64 130]) ∧ Ext G0 w w' := fun g s p w hr => Err_any g p s 130 w hr
  have hPeek : ∀ g w, RdAt w g tAbc 2 130 → Calls Try.prog 8 #[.pointer (some ⟨g, 0, none⟩)] w fun e w' => e = .returned (.tuple #[.int .u8 0, .bool false]) ∧ Ext G0 w w' := fun g w hr => by
    have := Peek_any g 2 tAbc 130 w hr (by decide)
    rw [wk_peek] at this
    exact this
  have hNum : ∀ g w, RdAt w g tNum 0 0 → Calls Try.prog 18 #[.pointer (some ⟨g, 0, none⟩), .int .i64 200, .bool false] w fun e w' => e = .returned (.int .i64 127) ∧ RdAt w' g tNum 4 0 ∧ Ext (G1 g) w w' := fun g w hr => by
    have := Number_any g 0 tNum 0 200 false w hr (by decide) (by decide) (by decide)
    rw [wk_num] at this
    exact this
  have hNum2 : ∀ g w, RdAt w g tNum 0 0 → Calls Try.prog 18 #[.pointer (some ⟨g, 0, none⟩), .int .i64 200, .bool true] w fun e w' => e = .returned (.int .i64 0) ∧ RdAt w' g tNum 1 130 ∧ Ext (G1 g) w w' := fun g w hr => by
    have := Number_any g 0 tNum 0 200 true w hr (by decide) (by decide) (by decide)
    rw [wk_num2] at this
    exact this
  have hHex : ∀ g w, RdAt w g tHex 0 0 → Calls Try.prog 19 #[.pointer (some ⟨g, 0, none⟩), .int .i64 2] w fun e w' => e = .returned (.int .i64 255) ∧ RdAt w' g tHex 2 0 ∧ Ext (G1 g) w w' := fun g w hr => by
    have := Hex_any g 0 tHex 0 2 w hr (by decide) (by decide)
    rw [wk_hex] at this
    exact this
  have hHex2 : ∀ g w, RdAt w g tHex 2 0 → Calls Try.prog 19 #[.pointer (some ⟨g, 0, none⟩), .int .i64 2] w fun e w' => e = .returned (.int .i64 0) ∧ RdAt w' g tHex 3 130 ∧ Ext (G1 g) w w' := fun g w hr => by
    have := Hex_any g 2 tHex 0 2 w hr (by decide) (by decide)
    rw [wk_hex2] at this
    exact this
  replace hIs := Lib.hid hIs
  replace hWant := Lib.hid hWant
  replace hErr := Lib.hid hErr
  replace hPeek := Lib.hid hPeek
  replace hNum := Lib.hid hNum
  replace hNum2 := Lib.hid hNum2
  replace hHex := Lib.hid hHex
  replace hHex2 := Lib.hid hHex2
  go_enter Try.func7, Try.ntmps7
  go_wp2_with fail
  refine (Of_any _ _).mono ?_
  rintro e w1 ⟨g1, rfl, r1, n1, x1⟩
  go_wp2_with fail
  refine (hIs.out _ _ _ (r1.alloc _) (strs_new _ [⟨#[98]⟩, ⟨#[97, 98]⟩, ⟨#[97]⟩] _ _ rfl (by simp))).mono ?_
  rintro e w2 ⟨rfl, r2, x2⟩
  replace x2 : Ext G0 w w2 := x1.own (((Ext.refl _ _).alloc _).trans x2) n1
  clear r1 x1
  go_wp2_with fail
  refine (At_any _ _ _ _ _ r2).mono ?_
  rintro e w3 ⟨rfl, rfl⟩
  go_wp2_with fail
  refine (hWant.out _ _ r2).mono ?_
  rintro e w3 ⟨rfl, r3, x3⟩
  replace x3 := x2.own x3 n1
  clear r2 x2
  go_wp2_with fail
  refine (hErr.out _ _ _ _ r3).mono ?_
  rintro e w4 ⟨rfl, x4⟩
  have r4 := r3.ext x4 (fun x => x)
  replace x4 := x3.trans x4
  clear r3 x3
  go_wp2_with fail
  refine (hPeek.out _ _ r4).mono ?_
  rintro e w5 ⟨rfl, x5⟩
  replace x5 := x4.trans x5
  clear r4 x4 n1
  go_wp2_with fail
  refine (Of_any _ _).mono ?_
  rintro e w6 ⟨g6, rfl, r6, n6, x6⟩
  have m6 := Nat.le_trans x5.size n6
  replace x6 := x5.trans x6
  clear x5
  go_wp2_with fail
  refine (hNum.out _ _ r6).mono ?_
  rintro e w7 ⟨rfl, r7, x7⟩
  replace x7 := x6.own x7 m6
  clear x6 r6
  go_wp2_with fail
  refine (Of_any _ _).mono ?_
  rintro e w8 ⟨g8, rfl, r8, n8, x8⟩
  have m8 := Nat.le_trans x7.size n8
  have q8 := r7.ext x8 (fun x => x)
  have d8 : g6 ≠ g8 := by have := r7.lt; omega
  replace x8 := x7.trans x8
  clear x7 r7
  go_wp2_with fail
  refine (hNum2.out _ _ r8).mono ?_
  rintro e w9 ⟨rfl, r9, x9⟩
  have q9 := q8.ext x9 d8
  replace x9 := x8.own x9 m8
  clear x8 r8 q8
  go_wp2_with fail
  refine (hErr.out _ _ _ _ r9).mono ?_
  rintro e w10 ⟨rfl, x10⟩
  have q10 := q9.ext x10 (fun x => x)
  replace x10 := x9.trans x10
  clear x9 r9 q9 m8 d8
  go_wp2_with fail
  refine (Of_any _ _).mono ?_
  rintro e w11 ⟨g11, rfl, r11, n11, x11⟩
  have m11 := Nat.le_trans x10.size n11
  have q11 := q10.ext x11 (fun x => x)
  have d11 : g6 ≠ g11 := by have := q10.lt; omega
  replace x11 := x10.trans x11
  clear x10 q10
  go_wp2_with fail
  refine (hHex.out _ _ r11).mono ?_
  rintro e w12 ⟨rfl, r12, x12⟩
  have q12 := q11.ext x12 d11
  replace x12 := x11.own x12 m11
  clear x11 r11 q11
  go_wp2_with fail
  refine (hHex2.out _ _ r12).mono ?_
  rintro e w13 ⟨rfl, r13, x13⟩
  have q13 := q12.ext x13 d11
  replace x13 := x12.own x13 m11
  clear x12 r12 q12
  go_wp2_with fail
  refine (hErr.out _ _ _ _ r13).mono ?_
  rintro e w14 ⟨rfl, x14⟩
  have q14 := q13.ext x14 (fun x => x)
  replace x14 := x13.trans x14
  clear x13 r13 q13
  go_wp2_with fail
  refine (At_any _ _ _ _ _ q14).mono ?_
  rintro e w15 ⟨rfl, rfl⟩
  go_wp2
  go_ret
  exact ⟨rfl, x14⟩

/-! ### A call of a reader -/

/-- A call: its kind, its words, its set, its number, and whether it is plain. -/
structure CallR where
  k : Int
  l : List ByteArray
  A : Option Addr
  c : Nat
  a : Bs
  n : Int
  pl : Bool
abbrev callL (x : CallR) : List Value := [.int .i64 x.k, .slice x.A x.l.length x.c, wordV (word x.a 0), wordV (word x.a 1), wordV (word x.a 2), wordV (word x.a 3), .int .i64 x.n, .bool x.pl]
abbrev callC (x : CallR) : Array Value := #[.int .i64 x.k, .slice x.A x.l.length x.c, wordV (word x.a 0), wordV (word x.a 1), wordV (word x.a 2), wordV (word x.a 3), .int .i64 x.n, .bool x.pl]
abbrev callV (x : CallR) : Value := .agg (callC x)
/-- What is known of a call that came in. -/
structure CallR.good (x : CallR) (w : World) : Prop where
  strs : StrsAt w (.slice x.A x.l.length x.c) x.l
  sizes : ∀ t ∈ x.l, t.size ≤ 140737488351232
  n0 : -9223372036854775808 ≤ x.n
  n1 : x.n ≤ 9223372036854775807
  k0 : -9223372036854775808 ≤ x.k
  k1 : x.k ≤ 9223372036854775807
theorem CallR.good.ext {x : CallR} {w w' : World} (h : x.good w) (hx : Ext G0 w w') : x.good w' := ⟨h.strs.ext hx, h.sizes, h.n0, h.n1, h.k0, h.k1⟩
/-- A call's word. -/
def CallR.word (x : CallR) : ByteArray := match x.l with
  | [] => ⟨#[]⟩
  | t :: _ => t.extract 0 (min t.size 40)

set_option maxHeartbeats 1000000 in
theorem word_any (x : CallR) (w : World) (hg : x.good w) :
    Calls Try.prog 17 #[callV x] w fun e w' => e = .returned (.string x.word) ∧ Ext G0 w w' := by
  obtain ⟨k, l, A, c, a, n, pl⟩ := x
  obtain ⟨_, _, he, ⟨_, hm⟩, hcells⟩ := hg.strs
  have hsz := hg.sizes
  injection he with e1 e2 e3
  subst e1 e3
  clear e2 hg
  simp only at hcells hm hsz
  cases l with
  | nil =>
    go_enter Try.func17, Try.ntmps17
    go_wp2
    refine wp_loop_rounds 1 ?_
    rw [rounds_succ]
    go_wp2
    go_ret
    exact ⟨rfl, (Ext.refl _ _).alloc _⟩
  | cons t ts =>
    rcases hcells with h | ⟨b, off, rfl, hcell⟩
    · cases h
    have e0 : w.cell? ⟨b, off, none⟩ = some (.string t) := by
      have := hcell 0 t rfl 0 _ rfl
      simpa using this
    have hlb : b < w.heap.size := by
      rcases Nat.lt_or_ge b w.heap.size with h2 | h2
      · exact h2
      · simp [World.cell?, Array.getElem?_eq_none h2] at e0
    have hts := hsz t (by simp)
    clear hcell hsz
    have hw : CallR.word ⟨k, t :: ts, some ⟨b, off, none⟩, c, a, n, pl⟩ = t.extract 0 (min t.size 40) := rfl
    rw [hw]
    clear hw
    by_cases h40 : t.size ≤ 40
    · have hi : (t.size : Int) ≤ 40 := by omega
      rw [Nat.min_eq_left h40]
      go_enter Try.func17, Try.ntmps17
      go_wp2
      refine wp_loop_rounds 1 ?_
      rw [rounds_succ]
      go_wp2
      go_ret
      exact ⟨by rw [ByteArray.extract_zero_size]; rfl, (Ext.refl _ _).alloc _⟩
    · have hi : ¬ (t.size : Int) ≤ 40 := by omega
      rw [Nat.min_eq_right (by omega)]
      go_enter Try.func17, Try.ntmps17
      go_wp2
      refine wp_loop_rounds 1 ?_
      rw [rounds_succ]
      go_wp2
      go_ret
      exact ⟨rfl, (Ext.refl _ _).alloc _⟩

/-- A call's kind. -/
def CallR.kind (x : CallR) : Int := (x.k % 18446744073709551616) % 9
theorem CallR.kind_lt (x : CallR) : 0 ≤ x.kind ∧ x.kind < 9 := by unfold CallR.kind; omega
set_option maxHeartbeats 1000000 in
theorem kind_any (x : CallR) (w : World) :
    Calls Try.prog 22 #[callV x] w fun e w' => e = .returned (.int .i64 x.kind) ∧ Ext G0 w w' := by
  obtain ⟨k, l, A, c, a, n, pl⟩ := x
  have hk := CallR.kind_lt ⟨k, l, A, c, a, n, pl⟩
  unfold CallR.kind at *
  simp only at *
  go_enter Try.func22, Try.ntmps22
  have e1 : wrap64 ((IntKind.u64.wrap k).tmod 9) = k % 18446744073709551616 % 9 := by
    rw [IntKind.wrap_u64, Int.tmod_eq_emod_of_nonneg (by omega)]
    unfold wrap64; omega
  replace e1 := Lib.hid e1
  clear hk
  go_wp2
  go_ret
  refine ⟨?_, (Ext.refl _ _).alloc _⟩
  rw [← e1.out]
  rfl

end Go.Proofs.Ytejialnbelleeaa
