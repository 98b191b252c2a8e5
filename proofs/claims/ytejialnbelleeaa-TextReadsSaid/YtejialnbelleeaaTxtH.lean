/-
  Package text: Number.
-/
import Derived.Test.YtejialnbelleeaaTxtG
import Derived.ScopeJumps
import Derived.WalkMore
namespace Go.Proofs.Ytejialnbelleeaa
open Go Go.RowKit

/-- What the digit at a place is worth; below 0: there is none. -/
def valN (s : ByteArray) (q : Nat) : Int := if q < s.size then digN (byteA s q) 10 else -1
theorem digF_lt (c : Nat) : ∀ n i, -1 ≤ digF c n i ∧ digF c n i < n + i
  | 0, i => ⟨by simp [digF], by simp [digF]; omega⟩
  | n + 1, i => by
    have := digF_lt c n (i + 1)
    unfold digF
    split
    · omega
    · omega
theorem valN_lt (s : ByteArray) (q : Nat) : -1 ≤ valN s q ∧ valN s q < 10 := by
  unfold valN
  split
  · have := digF_lt (byteA s q) 10 0
    unfold digN; omega
  · omega

set_option maxHeartbeats 4000000 in
theorem value_any (g q bx : Nat) (s : ByteArray) (w : World) (hr : RdAt w g s q 0) (hbx : w.heap[bx]? = some (.cells #[.pointer (some ⟨g, 0, none⟩)] 29 (0, 0))) (hq : q ≤ s.size) :
    Calls Try.prog 41 #[.pointer (some ⟨bx, 0, none⟩)] w fun e w' => e = .returned (.int .i64 (valN s q)) ∧ Ext G0 w w' := by
  obtain ⟨r0, r1, r2⟩ := hr.cells
  have x0 : w.cell? ⟨bx, 0, none⟩ = some (.pointer (some ⟨g, 0, none⟩)) := blk_cell hbx 0
  by_cases hlt : q < s.size
  · have hv : valN s q = digN (byteA s q) 10 := by unfold valN; rw [if_pos hlt]
    rw [hv]
    have t1 : ((q : Int) == (s.size : Int)) = false := by simp; omega
    have i1 : (q : Int) < (s.size : Int) := by omega
    have e1 := byteA_eq hlt
    have hbl := byteA_lt s q
    have hd : ∀ w, Calls Try.prog 42 #[.int .i32 (byteA s q : Int), .int .i64 10] w fun e w' => e = .returned (.int .i64 (digN (byteA s q) 10)) ∧ Ext G0 w w' := fun w => digit_any (byteA s q) 10 w hbl (.inl rfl)
    have Hd := Lib.hid hd
    clear hd hv
    generalize digN (byteA s q) 10 = z at *
    generalize byteA s q = by_ at *
    have i2 : (by_ : Int) < 256 := by omega
    have i3 : (0 : Int) ≤ by_ := by omega
    have c1 : IntKind.i32.wrap (by_ : Int) = by_ := by rw [IntKind.wrap_i32]; omega
    go_enter Try.func41, Try.ntmps41
    go_wp2
    go_region
    go_wp2
    apply region_phi (leaves := (Leaf.val _) :: (Leaf.val _) :: (Leaf.val _) :: (Leaf.val _) :: (Leaf.val _) :: (Leaf.val _) :: (Leaf.val _) :: (Leaf.val _) :: (Leaf.val _) :: (Leaf.val _) :: (Leaf.val _) :: (Leaf.val _) :: (Leaf.val _) :: ([] : List Leaf)) (k := 13) (b := #[0, 1, 3, 7, 15, 0, 32, 96, 224, 480, 1023, 2047, 4095, 8191]) (ms := []) (E := Ext G0) mixed (by kernel_rfl) rfl (by kernel_rfl) rfl
    apply owed_walk rfl
    · intro w1 hw hf
      obtain ⟨r0, r1, r2⟩ := (hr.ext hw.ofDrew.ofDrew (fun x => x)).cells
      have x0 := cell_keep hw.ofDrew.ofDrew x0
      go_wp2
      exact ⟨rfl, rfl, Ext.refl _ _⟩
    · simp
    · go_simp
      try rfl
    apply owed_walk rfl
    · intro w1 hw hf
      obtain ⟨r0, r1, r2⟩ := (hr.ext hw.ofDrew.ofDrew (fun x => x)).cells
      have x0 := cell_keep hw.ofDrew.ofDrew x0
      go_wp2
      exact ⟨rfl, rfl, Ext.refl _ _⟩
    · simp
    · go_simp
      try rfl
    apply owed_walk rfl
    · intro w1 hw hf
      obtain ⟨r0, r1, r2⟩ := (hr.ext hw.ofDrew.ofDrew (fun x => x)).cells
      have x0 := cell_keep hw.ofDrew.ofDrew x0
      go_wp2
      exact ⟨rfl, rfl, Ext.refl _ _⟩
    · simp
    · go_simp
      try rfl
    apply owed_walk rfl
    · intro w1 hw hf
      obtain ⟨r0, r1, r2⟩ := (hr.ext hw.ofDrew.ofDrew (fun x => x)).cells
      have x0 := cell_keep hw.ofDrew.ofDrew x0
      go_wp2
      exact ⟨rfl, rfl, Ext.refl _ _⟩
    · simp
    · go_simp
      try rfl
    apply owed_walk rfl
    · intro w1 hw hf
      obtain ⟨r0, r1, r2⟩ := (hr.ext hw.ofDrew.ofDrew (fun x => x)).cells
      have x0 := cell_keep hw.ofDrew.ofDrew x0
      go_wp2
      exact ⟨rfl, rfl, Ext.refl _ _⟩
    · simp
    · go_simp
      try rfl
    apply owed_walk rfl
    · intro w1 hw hf
      obtain ⟨r0, r1, r2⟩ := (hr.ext hw.ofDrew.ofDrew (fun x => x)).cells
      have x0 := cell_keep hw.ofDrew.ofDrew x0
      go_wp2
      exact ⟨rfl, rfl, Ext.refl _ _⟩
    · simp
    · go_simp
      try rfl
    apply owed_walk rfl
    · intro w1 hw hf
      obtain ⟨r0, r1, r2⟩ := (hr.ext hw.ofDrew.ofDrew (fun x => x)).cells
      have x0 := cell_keep hw.ofDrew.ofDrew x0
      go_wp2
      exact ⟨rfl, rfl, Ext.refl _ _⟩
    · simp
    · go_simp
      try rfl
    apply owed_walk rfl
    · intro w1 hw hf
      obtain ⟨r0, r1, r2⟩ := (hr.ext hw.ofDrew.ofDrew (fun x => x)).cells
      have x0 := cell_keep hw.ofDrew.ofDrew x0
      go_wp2
      exact ⟨rfl, rfl, Ext.refl _ _⟩
    · simp
    · go_simp
      try rfl
    apply owed_walk rfl
    · intro w1 hw hf
      obtain ⟨r0, r1, r2⟩ := (hr.ext hw.ofDrew.ofDrew (fun x => x)).cells
      have x0 := cell_keep hw.ofDrew.ofDrew x0
      go_wp2
      exact ⟨rfl, rfl, Ext.refl _ _⟩
    · simp
    · go_simp
      try rfl
    apply owed_walk rfl
    · intro w1 hw hf
      obtain ⟨r0, r1, r2⟩ := (hr.ext hw.ofDrew.ofDrew (fun x => x)).cells
      have x0 := cell_keep hw.ofDrew.ofDrew x0
      go_wp2
      exact ⟨rfl, rfl, Ext.refl _ _⟩
    · simp
    · go_simp
      try rfl
    apply owed_walk rfl
    · intro w1 hw hf
      obtain ⟨r0, r1, r2⟩ := (hr.ext hw.ofDrew.ofDrew (fun x => x)).cells
      have x0 := cell_keep hw.ofDrew.ofDrew x0
      go_wp2
      exact ⟨rfl, rfl, Ext.refl _ _⟩
    · simp
    · go_simp
      try rfl
    apply owed_walk rfl
    · intro w1 hw hf
      obtain ⟨r0, r1, r2⟩ := (hr.ext hw.ofDrew.ofDrew (fun x => x)).cells
      have x0 := cell_keep hw.ofDrew.ofDrew x0
      go_wp2
      exact ⟨rfl, rfl, Ext.refl _ _⟩
    · simp
    · go_simp
      try rfl
    apply owed_walk rfl
    · intro w1 hw hf
      obtain ⟨r0, r1, r2⟩ := (hr.ext hw.ofDrew.ofDrew (fun x => x)).cells
      have x0 := cell_keep hw.ofDrew.ofDrew x0
      go_wp2_with (go_at_call 42; refine (Hd.out _).mono ?_; rintro e w2 ⟨rfl, hx2⟩)
      exact ⟨rfl, rfl, hx2⟩
    · simp
    · go_simp
      try rfl
    apply owed_end
    intro w1 hw _
    unfold Tail
    go_wp2
    go_ret
    exact ⟨rfl, hw.ofDrew.ofDrew⟩
  · obtain rfl : q = s.size := by omega
    have hv : valN s s.size = -1 := by unfold valN; rw [if_neg hlt]
    rw [hv]
    have t1 : ((s.size : Int) == (s.size : Int)) = true := by simp
    clear hv
    go_enter Try.func41, Try.ntmps41
    go_wp2
    go_region
    go_wp2
    go_ret
    exact ⟨rfl, (Ext.refl _ _).drew⟩

/-- What a further digit d may not follow: n, read from 'from_' up to q. -/
def overN (from_ : Nat) (gr : Int) (pl : Bool) (q : Nat) (n d : Int) : Prop := gr < 0 ∨ (pl = true ∧ q = from_ + 1 ∧ n = 0) ∨ gr / 10 < n ∨ (n = gr / 10 ∧ gr % 10 < d)
instance (from_ : Nat) (gr : Int) (pl : Bool) (q : Nat) (n d : Int) : Decidable (overN from_ gr pl q n d) := by unfold overN; exact inferInstance
/-- The digits from q on, behind n. -/
def numF (s : ByteArray) (from_ : Nat) (gr : Int) (pl : Bool) : Nat → Nat → Int → Res Int
  | 0, q, n => .ok n q
  | f + 1, q, n => if valN s q < 0 then .ok n q else if overN from_ gr pl q n (valN s q) then .fail q 130 else numF s from_ gr pl f (q + 1) (10 * n + valN s q)
def numR (s : ByteArray) (p : Nat) (gr : Int) (pl : Bool) : Res Int := if valN s p < 0 then .fail p 130 else numF s p gr pl (s.size + 1 - p) p 0

theorem scope_jumps2 {P : Program} {a : Act} {w : World} {Q : Exit → Act → World → Prop} {c rest : Code} (l : Nat) (J : Act → World → Prop) (μ : Act → World → Nat) (hf : findLabel c l = some (.seq .skip rest))
    (pass : ∀ a w, J a w → rest.wp P (Exit.jump l (fun a' w' => J a' w' ∧ μ a' w' < μ a w) Q) a w)
    (first : (∀ a w, J a w → rest.wp P (Exit.jump l J Q) a w) → c.wp P (Exit.jump l J Q) a w) : (Code.scope c).wp P Q a w :=
  wp_scope_jumps l J μ hf (first fun a w h => wp_mono (pass a w h) (by intro e a w h; cases e <;> first | exact h | exact ⟨h.1, h.2.1⟩)) (fun a w h => wp_seq (wp_skip (pass a w h)))

/-- Where a reader stands. -/
def placeOf (g : Nat) (w : World) : Nat := match w.cell? ⟨g, 1, none⟩ with
  | some (.int _ n) => n.toNat
  | _ => 0
theorem RdAt.place {w : World} {g : Nat} {s : ByteArray} {p : Nat} {e : Int} (h : RdAt w g s p e) : placeOf g w = p := by
  unfold placeOf; rw [h.cells.2.1]; simp

set_option maxRecDepth 100000 in
set_option maxHeartbeats 8000000 in
theorem Number1_any (g p bx bg bp : Nat) (s : ByteArray) (gr : Int) (pl : Bool) (w : World) (hr : RdAt w g s p 0) (hbx : w.heap[bx]? = some (.cells #[.pointer (some ⟨g, 0, none⟩)] 29 (0, 0))) (hp : p ≤ s.size) (hs : s.size ≤ 140737488351232)
    (hbg : w.heap[bg]? = some (.cells #[.int .i64 gr] 3 (0, 0))) (hbp : w.heap[bp]? = some (.cells #[.bool pl] 4 (0, 0))) (hgx : bx ≠ g) (hgg : bg ≠ g) (hgp : bp ≠ g) (hgr : gr ≤ 9223372036854775807) :
    Calls Try.prog 40 #[.pointer (some ⟨bx, 0, none⟩), .pointer (some ⟨bg, 0, none⟩), .pointer (some ⟨bp, 0, none⟩)] w fun e w' => Ext (G1 g) w w' ∧ (numR s p gr pl).out intV g s e w' := by
  have hmf : ∀ (fn : Fn) (first cap : Array Value) (w : World), (Instr.makeFunc fn first cap).run Try.prog w = .ok (.func fn first cap) w := fun _ _ _ _ => rfl
  obtain ⟨r0, r1, r2⟩ := hr.cells
  have x0 : w.cell? ⟨bx, 0, none⟩ = some (.pointer (some ⟨g, 0, none⟩)) := blk_cell hbx 0
  obtain ⟨res, hres⟩ : ∃ res, res = numR s p gr pl := ⟨_, rfl⟩
  rw [← hres]
  have HR := Lib.hid hres
  clear hres
  have HS := Lib.hid hs
  have HG := Lib.hid hgr
  clear hs hgr
  go_enter Try.func40, Try.ntmps40
  go_wp2
  refine scope_jumps2 0 (fun a' w' => ∃ (q : Nat) (n : Int), a' = { tmps := #[.pointer (some ⟨bx, 0, none⟩), .pointer (some ⟨bg, 0, none⟩), .pointer (some ⟨bp, 0, none⟩), .int .i64 0, .int .i64 n, .int .i64 (p : Int), .func (.func 41) #[] #[.pointer (some ⟨bx, 0, none⟩)], a'.tmps.getD 7 undef, a'.tmps.getD 8 undef, a'.tmps.getD 9 undef, a'.tmps.getD 10 undef, a'.tmps.getD 11 undef, a'.tmps.getD 12 undef, a'.tmps.getD 13 undef, a'.tmps.getD 14 undef, a'.tmps.getD 15 undef, a'.tmps.getD 16 undef, a'.tmps.getD 17 undef, a'.tmps.getD 18 undef, a'.tmps.getD 19 undef, a'.tmps.getD 20 undef, a'.tmps.getD 21 undef, a'.tmps.getD 22 undef, a'.tmps.getD 23 undef, a'.tmps.getD 24 undef, a'.tmps.getD 25 undef, a'.tmps.getD 26 undef, a'.tmps.getD 27 undef, a'.tmps.getD 28 undef, a'.tmps.getD 29 undef, a'.tmps.getD 30 undef, a'.tmps.getD 31 undef, a'.tmps.getD 32 undef, a'.tmps.getD 33 undef, a'.tmps.getD 34 undef, a'.tmps.getD 35 undef, a'.tmps.getD 36 undef, a'.tmps.getD 37 undef, a'.tmps.getD 38 undef, a'.tmps.getD 39 undef, a'.tmps.getD 40 undef, a'.tmps.getD 41 undef, a'.tmps.getD 42 undef, a'.tmps.getD 43 undef, a'.tmps.getD 44 undef, a'.tmps.getD 45 undef, a'.tmps.getD 46 undef, a'.tmps.getD 47 undef, a'.tmps.getD 48 undef, a'.tmps.getD 49 undef, a'.tmps.getD 50 undef, a'.tmps.getD 51 undef, a'.tmps.getD 52 undef, a'.tmps.getD 53 undef, a'.tmps.getD 54 undef, a'.tmps.getD 55 undef, a'.tmps.getD 56 undef, a'.tmps.getD 57 undef, a'.tmps.getD 58 undef, a'.tmps.getD 59 undef, a'.tmps.getD 60 undef, a'.tmps.getD 61 undef, a'.tmps.getD 62 undef, a'.tmps.getD 63 undef, a'.tmps.getD 64 undef, a'.tmps.getD 65 undef, a'.tmps.getD 66 undef, a'.tmps.getD 67 undef, a'.tmps.getD 68 undef, a'.tmps.getD 69 undef, a'.tmps.getD 70 undef, a'.tmps.getD 71 undef, a'.tmps.getD 72 undef, a'.tmps.getD 73 undef, a'.tmps.getD 74 undef, a'.tmps.getD 75 undef, a'.tmps.getD 76 undef, a'.tmps.getD 77 undef, a'.tmps.getD 78 undef, a'.tmps.getD 79 undef, a'.tmps.getD 80 undef, a'.tmps.getD 81 undef, a'.tmps.getD 82 undef, a'.tmps.getD 83 undef], defers := [] } ∧
      RdAt w' g s q 0 ∧ Ext (G1 g) w w' ∧ p ≤ q ∧ q ≤ s.size ∧ 0 ≤ n ∧ (n = 0 ∨ n ≤ gr) ∧ Hid (numF s p gr pl (s.size + 1 - q) q n = res)) (fun _ w' => s.size + 1 - placeOf g w') rfl ?pass ?first
  case pass =>
    rintro a' w' ⟨q, n, ha, hr2, hx, hpq, hq, hn0, hn1, hN⟩
    have ha' : ∃ f : Nat → Value, a' = { tmps := #[.pointer (some ⟨bx, 0, none⟩), .pointer (some ⟨bg, 0, none⟩), .pointer (some ⟨bp, 0, none⟩), .int .i64 0, .int .i64 n, .int .i64 (p : Int), .func (.func 41) #[] #[.pointer (some ⟨bx, 0, none⟩)], f 7, f 8, f 9, f 10, f 11, f 12, f 13, f 14, f 15, f 16, f 17, f 18, f 19, f 20, f 21, f 22, f 23, f 24, f 25, f 26, f 27, f 28, f 29, f 30, f 31, f 32, f 33, f 34, f 35, f 36, f 37, f 38, f 39, f 40, f 41, f 42, f 43, f 44, f 45, f 46, f 47, f 48, f 49, f 50, f 51, f 52, f 53, f 54, f 55, f 56, f 57, f 58, f 59, f 60, f 61, f 62, f 63, f 64, f 65, f 66, f 67, f 68, f 69, f 70, f 71, f 72, f 73, f 74, f 75, f 76, f 77, f 78, f 79, f 80, f 81, f 82, f 83], defers := [] } := ⟨fun i => a'.tmps.getD i undef, ha⟩
    clear ha
    obtain ⟨f, rfl⟩ := ha'
    have hbx2 := ext_heap hx hbx (G1.ne hgx)
    have hbg2 := ext_heap hx hbg (G1.ne hgg)
    have hbp2 := ext_heap hx hbp (G1.ne hgp)
    clear r0 r1 r2 x0 hr
    go_wp2_with fail
    refine (value_any g q bx s _ hr2 hbx2 hq).mono ?_
    rintro e w2 ⟨rfl, hx2⟩
    have hr3 := hr2.ext hx2 (fun x => x)
    have hx3 := hx.trans (hx2.up (G1 g))
    replace hbx2 := ext_heap hx2 hbx2 (fun x => x)
    replace hbg2 := ext_heap hx2 hbg2 (fun x => x)
    replace hbp2 := ext_heap hx2 hbp2 (fun x => x)
    have hpl := hr2.place
    clear hx2 hx hr2
    obtain ⟨r0, r1, r2⟩ := hr3.cells
    have x0 : w2.cell? ⟨bx, 0, none⟩ = some (.pointer (some ⟨g, 0, none⟩)) := blk_cell hbx2 0
    have y0 : w2.cell? ⟨bg, 0, none⟩ = some (.int .i64 gr) := blk_cell hbg2 0
    have y1 : w2.cell? ⟨bp, 0, none⟩ = some (.bool pl) := blk_cell hbp2 0
    have z := blk_free hr3
    have hl3 := hr3.lt
    have hvl := valN_lt s q
    have hN1 : numF s p gr pl (s.size + 1 - q) q n = if valN s q < 0 then .ok n q else if overN p gr pl q n (valN s q) then .fail q 130 else numF s p gr pl (s.size + 1 - (q + 1)) (q + 1) (10 * n + valN s q) := by
      obtain ⟨d, hd⟩ : ∃ d, s.size + 1 - q = d + 1 := ⟨s.size - q, by omega⟩
      rw [hd, show s.size + 1 - (q + 1) = d by omega]
      rfl
    have hqs : 0 ≤ valN s q → q < s.size := fun h => by
      by_cases h2 : q < s.size
      · exact h2
      · unfold valN at h; rw [if_neg h2] at h; omega
    have hN2 := hN.out
    rw [hN1] at hN2
    clear hN1 hN
    generalize valN s q = v at *
    by_cases hv : v < 0
    · rw [if_pos hv] at hN2
      replace hN2 := Lib.hid hN2
      have t0 : decide (0 ≤ v) = false := by simp; omega
      clear hqs
      go_wp2
      simp only [Exit.jump]
      go_ret
      refine ⟨hx3, ?_⟩
      rw [← hN2.out]
      exact ⟨rfl, hr3⟩
    · rw [if_neg hv] at hN2
      have hqs := hqs (by omega)
      have t0 : decide (0 ≤ v) = true := by simp; omega
      have h10 : (0 : Int) ≤ 10 := by omega
      have s0 := IntWalk.i64_in ((p : Int) + 1) (by have := HS.out; omega)
      by_cases hg : gr < 0
      · rw [if_pos (.inl hg)] at hN2
        replace hN2 := Lib.hid hN2
        have t1 : decide (gr < 0) = true := by simp; omega
        clear hqs hv
        go_wp2_with fail
        refine (wrong_any q _).mono ?_
        rintro e w3 ⟨rfl, rfl⟩
        go_wp2
        refine ⟨rfl, hx3, ?_⟩
        rw [← hN2.out]
        exact ⟨q, rfl, hr3⟩
      have t1 : decide (gr < 0) = false := by simp; omega
      have hg0 : 0 ≤ gr := by omega
      obtain ⟨D, hD⟩ : ∃ D, D = gr / 10 := ⟨_, rfl⟩
      have sd : wrap64 (gr.tdiv 10) = D := by
        have := HG.out
        rw [Int.tdiv_eq_ediv_of_nonneg hg0, ← hD]
        unfold wrap64; omega
      replace hD := Lib.hid hD
      by_cases h2 : pl = true ∧ q = p + 1 ∧ n = 0
      · rw [if_pos (.inr (.inl h2))] at hN2
        obtain ⟨rfl, rfl, rfl⟩ := h2
        replace hN2 := Lib.hid hN2
        have t2 : (((p + 1 : Nat) : Int) == (p : Int) + 1) = true := by simp
        have r1' : w2.cell? ⟨g, 1, none⟩ = some (.int .i64 ((p : Int) + 1)) := r1
        clear hqs hv hg r1
        go_wp2_with fail
        refine (wrong_any (p + 1) _).mono ?_
        rintro e w3 ⟨rfl, rfl⟩
        go_wp2
        refine ⟨rfl, hx3, ?_⟩
        rw [← hN2.out]
        exact ⟨p + 1, rfl, hr3⟩
      have hc2 : pl = false ∨ (pl = true ∧ q ≠ p + 1) ∨ (pl = true ∧ q = p + 1 ∧ n ≠ 0) := by
        cases pl
        · exact .inl rfl
        · by_cases h3 : q = p + 1
          · exact .inr (.inr ⟨rfl, h3, fun h4 => h2 ⟨rfl, h3, h4⟩⟩)
          · exact .inr (.inl ⟨rfl, h3⟩)
      have hc3 : (gr / 10 < n) ∨ (n = gr / 10 ∧ gr % 10 < v) ∨ ((n = gr / 10 ∧ ¬ gr % 10 < v) ∨ n < gr / 10) := by clear sd; omega
      have s4 := IntWalk.i64_in ((q : Int) + 1) (by have := HS.out; omega)
      have hov : ¬ gr / 10 < n → ¬ (n = gr / 10 ∧ gr % 10 < v) → ¬ overN p gr pl q n v := fun a b h => by
        rcases h with h | h | h | h
        · exact hg h
        · exact h2 h
        · exact a h
        · exact b h
      have HOV := Lib.hid hov
      clear hov h2
      have hcc : ∀ Q : Prop, ((pl = true → ((q : Int) == (p : Int) + 1) = false ∨ (((q : Int) == (p : Int) + 1) = true ∧ (n == 0) = false)) → Q) → Q := fun Q h => h (fun hpl => by
        rcases hc2 with h3 | ⟨_, h3⟩ | ⟨_, h3, h4⟩
        · rw [h3] at hpl; cases hpl
        · left; simp; omega
        · right; exact ⟨by simp; omega, by simp [h4]⟩)
      clear hcc
      rcases hc3 with h3 | ⟨h3, h4⟩ | h3
      · rw [if_pos (.inr (.inr (.inl h3)))] at hN2
        replace hN2 := Lib.hid hN2
        have t3 : decide (D < n) = true := by have := hD.out; simp; omega
        rcases hc2 with rfl | ⟨rfl, h5⟩ | ⟨rfl, h5, h6⟩
        · clear hqs hv hg
          go_wp2_with fail
          refine (wrong_any q _).mono ?_
          rintro e w3 ⟨rfl, rfl⟩
          go_wp2
          refine ⟨rfl, hx3, ?_⟩
          rw [← hN2.out]
          exact ⟨q, rfl, hr3⟩
        · have t2 : ((q : Int) == (p : Int) + 1) = false := by simp; omega
          clear hqs hv hg h5
          go_wp2_with fail
          refine (wrong_any q _).mono ?_
          rintro e w3 ⟨rfl, rfl⟩
          go_wp2
          refine ⟨rfl, hx3, ?_⟩
          rw [← hN2.out]
          exact ⟨q, rfl, hr3⟩
        · have t2 : ((q : Int) == (p : Int) + 1) = true := by simp; omega
          have t5 : (n == 0) = false := by simp [h6]
          clear hqs hv hg h5 h6
          go_wp2_with fail
          refine (wrong_any q _).mono ?_
          rintro e w3 ⟨rfl, rfl⟩
          go_wp2
          refine ⟨rfl, hx3, ?_⟩
          rw [← hN2.out]
          exact ⟨q, rfl, hr3⟩
      · rw [if_pos (.inr (.inr (.inr ⟨h3, h4⟩)))] at hN2
        replace hN2 := Lib.hid hN2
        have t3 : decide (D < n) = false := by have := hD.out; simp; omega
        have t4 : (n == D) = true := by have := hD.out; simp; omega
        have t6 : decide (gr % 10 < v) = true := by simp; omega
        rcases hc2 with rfl | ⟨rfl, h5⟩ | ⟨rfl, h5, h6⟩
        · clear hqs hv hg h3 h4
          go_wp2_with fail
          refine (wrong_any q _).mono ?_
          rintro e w3 ⟨rfl, rfl⟩
          go_wp2
          refine ⟨rfl, hx3, ?_⟩
          rw [← hN2.out]
          exact ⟨q, rfl, hr3⟩
        · have t2 : ((q : Int) == (p : Int) + 1) = false := by simp; omega
          clear hqs hv hg h5 h3 h4
          go_wp2_with fail
          refine (wrong_any q _).mono ?_
          rintro e w3 ⟨rfl, rfl⟩
          go_wp2
          refine ⟨rfl, hx3, ?_⟩
          rw [← hN2.out]
          exact ⟨q, rfl, hr3⟩
        · have t2 : ((q : Int) == (p : Int) + 1) = true := by simp; omega
          have t5 : (n == 0) = false := by simp [h6]
          clear hqs hv hg h5 h6 h3 h4
          go_wp2_with fail
          refine (wrong_any q _).mono ?_
          rintro e w3 ⟨rfl, rfl⟩
          go_wp2
          refine ⟨rfl, hx3, ?_⟩
          rw [← hN2.out]
          exact ⟨q, rfl, hr3⟩
      · rw [if_neg (HOV.out (by omega) (by omega))] at hN2
        replace hN2 := Lib.hid hN2
        have t3 : decide (D < n) = false := by have := hD.out; simp; omega
        have hb : 10 * n ≤ gr ∧ 10 * n + v ≤ gr := by omega
        have hgb := HG.out
        have s5 := IntWalk.i64_in (10 * n) (by omega)
        have s6 := IntWalk.i64_in (10 * n + v) (by omega)
        have hnn : 0 ≤ 10 * n + v := by omega
        have hqs2 := Lib.hid hqs
        have hb2 := Lib.hid hb.2
        clear hb hgb
        have h3' : ((n == D) = true ∧ decide (gr % 10 < v) = false) ∨ (n == D) = false := by
          have := hD.out
          rcases h3 with ⟨h3, h4⟩ | h3
          · exact .inl ⟨by simp; omega, by simp; omega⟩
          · right; simp; omega
        clear h3
        rcases h3' with ⟨t4, t6⟩ | t4
        all_goals
          rcases hc2 with rfl | ⟨rfl, h5⟩ | ⟨rfl, h5, h6⟩
          · clear hqs hv hg
            go_wp2
            go_step3
            refine ⟨rfl, ⟨q + 1, 10 * n + v, rfl, hr3.move (q + 1), hx3.setCell (p := ⟨g, 1, none⟩) (.inl rfl) _, by omega, by have := hqs2.out; omega, hnn, .inr hb2.out, hN2⟩, ?_⟩
            rw [show placeOf g (w2.setCell ⟨g, 1, none⟩ (.int .i64 ((q : Int) + 1))) = q + 1 from (hr3.move (q + 1)).place, hpl]
            have := hqs2.out
            omega
          · have t2 : ((q : Int) == (p : Int) + 1) = false := by simp; omega
            clear hqs hv hg h5
            go_wp2
            go_step3
            refine ⟨rfl, ⟨q + 1, 10 * n + v, rfl, hr3.move (q + 1), hx3.setCell (p := ⟨g, 1, none⟩) (.inl rfl) _, by omega, by have := hqs2.out; omega, hnn, .inr hb2.out, hN2⟩, ?_⟩
            rw [show placeOf g (w2.setCell ⟨g, 1, none⟩ (.int .i64 ((q : Int) + 1))) = q + 1 from (hr3.move (q + 1)).place, hpl]
            have := hqs2.out
            omega
          · have t2 : ((q : Int) == (p : Int) + 1) = true := by simp; omega
            have t5 : (n == 0) = false := by simp [h6]
            clear hqs hv hg h5 h6
            go_wp2
            go_step3
            refine ⟨rfl, ⟨q + 1, 10 * n + v, rfl, hr3.move (q + 1), hx3.setCell (p := ⟨g, 1, none⟩) (.inl rfl) _, by omega, by have := hqs2.out; omega, hnn, .inr hb2.out, hN2⟩, ?_⟩
            rw [show placeOf g (w2.setCell ⟨g, 1, none⟩ (.int .i64 ((q : Int) + 1))) = q + 1 from (hr3.move (q + 1)).place, hpl]
            have := hqs2.out
            omega
  case first =>
    intro hpass
    have HP := Lib.hid hpass
    clear hpass
    go_wp2_with fail
    go_region
    go_wp2_with fail
    have hx1 : Ext G0 w w.drew := (Ext.refl _ _).drew
    refine (value_any g p bx s _ (hr.ext hx1 (fun x => x)) (ext_heap hx1 hbx (fun x => x)) hp).mono ?_
    rintro e w2 ⟨rfl, hx2⟩
    replace hx2 := hx1.trans hx2
    have hr3 := hr.ext hx2 (fun x => x)
    clear hx1 r0 r1 r2 x0
    obtain ⟨r0, r1, r2⟩ := hr3.cells
    have x0 : w2.cell? ⟨bx, 0, none⟩ = some (.pointer (some ⟨g, 0, none⟩)) := blk_cell (ext_heap hx2 hbx (fun x => x)) 0
    have hR2 := HR.out
    unfold numR at hR2
    by_cases hv : valN s p < 0
    · rw [if_pos hv] at hR2
      have t0 : decide (valN s p < 0) = true := by simp; omega
      replace hR2 := Lib.hid hR2
      clear hv
      generalize valN s p = v at *
      go_wp2_with fail
      refine (wrong_any p _).mono ?_
      rintro e w3 ⟨rfl, rfl⟩
      go_wp2
      refine ⟨rfl, hx2.up _, ?_⟩
      rw [hR2.out]
      exact ⟨p, rfl, hr3⟩
    · rw [if_neg hv] at hR2
      have t0 : decide (valN s p < 0) = false := by simp; omega
      replace hR2 := Lib.hid hR2.symm
      clear hv
      generalize valN s p = v at *
      go_wp2_with fail
      go_step3
      rename_i hK
      refine hK _ _ (HP.out _ _ ?_)
      exact ⟨p, 0, rfl, hr3, hx2.up _, Nat.le_refl _, hp, Int.le_refl _, .inl rfl, hR2⟩

end Go.Proofs.Ytejialnbelleeaa
