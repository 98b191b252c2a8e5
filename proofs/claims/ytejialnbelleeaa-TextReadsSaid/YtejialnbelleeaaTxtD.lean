/-
  Package text: Of, At, Err, Left, Peek, Next.
-/
import Derived.Test.YtejialnbelleeaaTxtC
namespace Go.Proofs.Ytejialnbelleeaa
open Go Go.RowKit

/-- What a reader's block has not turned, nobody has. -/
theorem cell_keep {w w' : World} (hx : Ext G0 w w') {p : Addr} {v : Value} (h : w.cell? p = some v) : w'.cell? p = some v := by
  rw [ext_cell hx ?_ (fun x => x)]
  · exact h
  · rcases Nat.lt_or_ge p.block w.heap.size with h2 | h2
    · exact h2
    · simp [World.cell?, Array.getElem?_eq_none h2] at h
theorem Ext.same {w w' : World} {g : Nat} {s : ByteArray} {p : Nat} {e : Int} (h : Ext (G1 g) w w') (h1 : RdAt w g s p e) (h2 : RdAt w' g s p e) : Ext G0 w w' :=
  ⟨h.os, h.tape, h.output, h.size, fun k hk _ => by
    by_cases e : k = g
    · subst e; exact h2.trans h1.symm
    · exact h.block k hk e⟩

set_option maxHeartbeats 1000000 in
theorem Of_any (s : ByteArray) (w : World) :
    Calls Try.prog 21 #[.string s] w fun e w' => ∃ g, e = .returned (.pointer (some ⟨g, 0, none⟩)) ∧ RdAt w' g s 0 0 ∧ w.heap.size ≤ g ∧ Ext G0 w w' := by
  go_enter Try.func21, Try.ntmps21
  go_wp2
  go_ret
  exact ⟨_, rfl, heap_new _ _, Nat.le_refl _, (Ext.refl _ _).alloc _⟩

set_option maxHeartbeats 1000000 in
theorem At_any (g p : Nat) (s : ByteArray) (er : Int) (w : World) (hr : RdAt w g s p er) :
    Calls Try.prog 12 #[.pointer (some ⟨g, 0, none⟩)] w fun e w' => e = .returned (.int .i64 (p : Int)) ∧ w = w' := by
  obtain ⟨r0, r1, r2⟩ := hr.cells
  go_enter Try.func12, Try.ntmps12
  go_wp2
  go_ret
  exact ⟨rfl, rfl⟩
theorem At_nil (w : World) :
    Calls Try.prog 12 #[.pointer none] w fun e w' => e = .returned (.int .i64 0) ∧ w = w' := by
  go_enter Try.func12, Try.ntmps12
  go_wp2
  go_ret
  exact ⟨rfl, rfl⟩

theorem Err_nil (w : World) :
    Calls Try.prog 10 #[.pointer none] w fun e w' => e = .returned (.tuple #[.int .i64 0, .int .i64 1]) ∧ Ext G0 w w' := by
  go_enter Try.func10, Try.ntmps10
  go_wp2
  go_ret2
  exact ⟨rfl, Ext.refl _ _⟩
/-- Where, and with what, it failed. -/
def errV (p : Nat) (er : Int) : Value := .tuple #[.int .i64 (if er = 0 then 0 else (p : Int)), .int .i64 er]
set_option maxHeartbeats 1000000 in
theorem Err_any (g p : Nat) (s : ByteArray) (er : Int) (w : World) (hr : RdAt w g s p er) :
    Calls Try.prog 10 #[.pointer (some ⟨g, 0, none⟩)] w fun e w' => e = .returned (errV p er) ∧ Ext G0 w w' := by
  obtain ⟨r0, r1, r2⟩ := hr.cells
  by_cases he : er = 0
  · subst he
    go_enter Try.func10, Try.ntmps10
    go_wp2
    go_ret2
    exact ⟨rfl, Ext.refl _ _⟩
  · have h1 : (er == 0) = false := by simp [he]
    have hv : errV p er = .tuple #[.int .i64 (p : Int), .int .i64 er] := by unfold errV; rw [if_neg he]
    rw [hv]
    go_enter Try.func10, Try.ntmps10
    go_wp2
    go_region
    go_wp2
    go_ret2
    exact ⟨rfl, (Ext.refl _ _).drew⟩

set_option maxHeartbeats 1000000 in
theorem Left1_any (g p bx : Nat) (s : ByteArray) (w : World) (hr : RdAt w g s p 0) (hbx : w.heap[bx]? = some (.cells #[.pointer (some ⟨g, 0, none⟩)] 29 (0, 0))) (hp : p ≤ s.size) (hs : s.size ≤ 140737488351232) :
    Calls Try.prog 32 #[.pointer (some ⟨bx, 0, none⟩)] w fun e w' => e = .returned (.int .i64 ((s.size : Int) - (p : Int))) ∧ Ext G0 w w' := by
  obtain ⟨r0, r1, r2⟩ := hr.cells
  have x0 := blk_cell hbx 0
  have s1 := IntWalk.i64_in ((s.size : Int) - (p : Int)) (by omega)
  go_enter Try.func32, Try.ntmps32
  go_wp2
  go_region
  go_wp2
  go_ret
  exact ⟨rfl, (Ext.refl _ _).drew⟩

/-- How many bytes are left. -/
def leftN (s : ByteArray) (p : Nat) (er : Int) : Int := if er = 0 then (s.size : Int) - (p : Int) else 0
set_option maxHeartbeats 1000000 in
theorem Left_any (g p : Nat) (s : ByteArray) (er : Int) (w : World) (hr : RdAt w g s p er) (hp : p ≤ s.size) (hs : s.size ≤ 140737488351232) :
    Calls Try.prog 13 #[.pointer (some ⟨g, 0, none⟩)] w fun e w' => e = .returned (.int .i64 (leftN s p er)) ∧ Ext G0 w w' := by
  have hmf : ∀ (fn : Fn) (first cap : Array Value) (w : World), (Instr.makeFunc fn first cap).run Try.prog w = .ok (.func fn first cap) w := fun _ _ _ _ => rfl
  by_cases he : er = 0
  · subst he
    go_enter Try.func13, Try.ntmps13
    go_wp2_with fail
    refine (reads_intV _ _ g p s _ (.ok ((s.size : Int) - (p : Int)) p) (fun w => by kernel_rfl) (hr.alloc _) ?_).mono ?_
    · intro w1 hw
      refine (Left1_any g p w.heap.size s w1 ((hr.alloc _).ext hw (fun x => x)) (ext_heap hw (heap_new _ _) (fun x => x)) hp hs).mono ?_
      rintro e w2 ⟨rfl, hx⟩
      exact ⟨hx.up _, rfl, ((hr.alloc _).ext hw (fun x => x)).ext hx (fun x => x)⟩
    · rintro e w2 ⟨hx, rfl, hr2⟩
      go_wp2
      go_ret
      exact ⟨rfl, ((Ext.refl G0 w).alloc _).trans (hx.same (hr.alloc _) hr2)⟩
  · have hv : leftN s p er = 0 := by unfold leftN; rw [if_neg he]
    rw [hv]
    go_enter Try.func13, Try.ntmps13
    go_wp2_with fail
    refine (readsF_intV g p s er _ _ (hr.alloc _) he).mono ?_
    rintro e w2 ⟨rfl, hx⟩
    go_wp2
    go_ret
    exact ⟨rfl, ((Ext.refl G0 w).alloc _).trans (Ext.of_below hx _)⟩
theorem Left_nil (w : World) :
    Calls Try.prog 13 #[.pointer none] w fun e w' => e = .returned (.int .i64 0) ∧ Ext G0 w w' := by
  have hmf : ∀ (fn : Fn) (first cap : Array Value) (w : World), (Instr.makeFunc fn first cap).run Try.prog w = .ok (.func fn first cap) w := fun _ _ _ _ => rfl
  go_enter Try.func13, Try.ntmps13
  go_wp2_with fail
  refine (readsN_intV _ _).mono ?_
  rintro e w2 ⟨rfl, hx⟩
  go_wp2
  go_ret
  exact ⟨rfl, ((Ext.refl G0 w).alloc _).trans (Ext.of_below hx _)⟩

/-- The byte at a place, and whether there is one. -/
def peekN (s : ByteArray) (p : Nat) (er : Int) : Nat × Bool := if h : er = 0 ∧ p < s.size then ((s[p]'h.2).toNat, true) else (0, false)

set_option maxHeartbeats 1000000 in
theorem Peek1_any (g p bx : Nat) (s : ByteArray) (w : World) (hr : RdAt w g s p 0) (hbx : w.heap[bx]? = some (.cells #[.pointer (some ⟨g, 0, none⟩)] 29 (0, 0))) (hp : p ≤ s.size) :
    Calls Try.prog 28 #[.pointer (some ⟨bx, 0, none⟩)] w fun e w' => e = .returned (foundV (peekN s p 0)) ∧ Ext G0 w w' := by
  obtain ⟨r0, r1, r2⟩ := hr.cells
  have x0 := blk_cell hbx 0
  have hlg := hr.lt
  have hlx := lt_of_block hbx
  by_cases hlt : p < s.size
  · have hv : foundV (peekN s p 0) = .agg #[.int .u8 (s[p].toNat : Int), .bool true] := by unfold peekN; rw [dif_pos ⟨rfl, hlt⟩]
    rw [hv]
    have h1 : (p : Int) < (s.size : Int) := by omega
    have h2 : ((p : Int) == (s.size : Int)) = false := by simp; omega
    go_enter Try.func28, Try.ntmps28
    go_wp2
    go_region
    go_wp2
    go_region
    go_wp2
    exact bodyPost_ret (v := .agg #[.int .u8 (s[p].toNat : Int), .bool true]) (by simp [results, Try.results28, go_sem]) rfl ⟨rfl, ((Ext.refl _ _).alloc _).drew.drew⟩
  · obtain rfl : p = s.size := by omega
    have hv : foundV (peekN s s.size 0) = .agg #[.int .u8 0, .bool false] := by unfold peekN; rw [dif_neg (by omega)]; rfl
    rw [hv]
    go_enter Try.func28, Try.ntmps28
    go_wp2
    go_region
    go_wp2
    exact bodyPost_ret (v := .agg #[.int .u8 0, .bool false]) (by simp [results, Try.results28, go_sem]) rfl ⟨rfl, ((Ext.refl _ _).alloc _).drew⟩

def peekV (x : Nat × Bool) : Value := .tuple #[.int .u8 (x.1 : Int), .bool x.2]
set_option maxHeartbeats 1000000 in
theorem Peek_any (g p : Nat) (s : ByteArray) (er : Int) (w : World) (hr : RdAt w g s p er) (hp : p ≤ s.size) :
    Calls Try.prog 8 #[.pointer (some ⟨g, 0, none⟩)] w fun e w' => e = .returned (peekV (peekN s p er)) ∧ Ext G0 w w' := by
  have hmf : ∀ (fn : Fn) (first cap : Array Value) (w : World), (Instr.makeFunc fn first cap).run Try.prog w = .ok (.func fn first cap) w := fun _ _ _ _ => rfl
  by_cases he : er = 0
  · subst he
    go_enter Try.func8, Try.ntmps8
    go_wp2_with fail
    refine (reads_foundV _ _ g p s _ (.ok (peekN s p 0) p) (fun w => by kernel_rfl) (hr.alloc _) ?_).mono ?_
    · intro w1 hw
      refine (Peek1_any g p w.heap.size s w1 ((hr.alloc _).ext hw (fun x => x)) (ext_heap hw (heap_new _ _) (fun x => x)) hp).mono ?_
      rintro e w2 ⟨rfl, hx⟩
      exact ⟨hx.up _, rfl, ((hr.alloc _).ext hw (fun x => x)).ext hx (fun x => x)⟩
    · rintro e w2 ⟨hx, rfl, hr2⟩
      generalize hz : peekN s p 0 = z at *
      have HZ := Lib.hid hz
      clear hz
      go_wp2
      go_region
      go_wp2
      go_ret2
      exact ⟨by rw [HZ.out]; rfl, ((((Ext.refl G0 w).alloc _).trans (hx.same (hr.alloc _) hr2)).alloc _).drew⟩
  · have hv : peekN s p er = (0, false) := by unfold peekN; rw [dif_neg (by omega)]
    rw [hv]
    go_enter Try.func8, Try.ntmps8
    go_wp2_with fail
    refine (readsF_foundV g p s er _ _ (hr.alloc _) he).mono ?_
    rintro e w2 ⟨rfl, hx⟩
    go_wp2
    go_region
    go_wp2
    go_ret2
    exact ⟨rfl, ((((Ext.refl G0 w).alloc _).trans (Ext.of_below hx _)).alloc _).drew⟩
theorem Peek_nil (w : World) :
    Calls Try.prog 8 #[.pointer none] w fun e w' => e = .returned (peekV (0, false)) ∧ Ext G0 w w' := by
  have hmf : ∀ (fn : Fn) (first cap : Array Value) (w : World), (Instr.makeFunc fn first cap).run Try.prog w = .ok (.func fn first cap) w := fun _ _ _ _ => rfl
  go_enter Try.func8, Try.ntmps8
  go_wp2_with fail
  refine (readsN_foundV _ _).mono ?_
  rintro e w2 ⟨rfl, hx⟩
  go_wp2
  go_region
  go_wp2
  go_ret2
  exact ⟨rfl, ((((Ext.refl G0 w).alloc _).trans (Ext.of_below hx _)).alloc _).drew⟩

/-- The place behind the next byte. -/
def nextP (s : ByteArray) (p : Nat) (er : Int) : Nat := if er = 0 ∧ p < s.size then p + 1 else p
set_option maxHeartbeats 1000000 in
theorem Next_any (g p : Nat) (s : ByteArray) (er : Int) (w : World) (hr : RdAt w g s p er) (hp : p ≤ s.size) (hs : s.size ≤ 140737488351232) :
    Calls Try.prog 9 #[.pointer (some ⟨g, 0, none⟩)] w fun e w' => e = .returned (peekV (peekN s p er)) ∧ RdAt w' g s (nextP s p er) er ∧ Ext (G1 g) w w' := by
  have HP := Lib.hid (Peek_any g p s er · · hp)
  have h9 := IntWalk.i64_in ((p : Int) + 1) (by omega)
  by_cases hc : er = 0 ∧ p < s.size
  · have hv : peekN s p er = ((s[p]'hc.2).toNat, true) := by unfold peekN; rw [dif_pos hc]
    have hn : nextP s p er = p + 1 := by unfold nextP; rw [if_pos hc]
    rw [hv] at HP
    rw [hv, hn]
    generalize (s[p]'hc.2).toNat = b at *
    unfold peekV at *
    clear hv hn hc
    go_enter Try.func9, Try.ntmps9
    go_wp2_with fail
    refine (HP.out _ hr).mono ?_
    rintro e w2 ⟨rfl, hx⟩
    have hr2 := hr.ext hx (fun x => x)
    obtain ⟨r0, r1, r2⟩ := hr2.cells
    have z := blk_free hr2
    have hlt := hr2.lt
    go_wp2
    go_ret2
    exact ⟨rfl, hr2.move (p + 1), (hx.up (G1 g)).setCell (p := ⟨g, 1, none⟩) (.inl rfl) _⟩
  · have hv : peekN s p er = (0, false) := by unfold peekN; rw [dif_neg hc]
    have hn : nextP s p er = p := by unfold nextP; rw [if_neg hc]
    rw [hv] at HP
    rw [hv, hn]
    unfold peekV at *
    clear hv hn hc
    go_enter Try.func9, Try.ntmps9
    go_wp2_with fail
    refine (HP.out _ hr).mono ?_
    rintro e w2 ⟨rfl, hx⟩
    go_wp2
    go_ret2
    exact ⟨rfl, hr.ext hx (fun x => x), hx.up _⟩
theorem Next_nil (w : World) :
    Calls Try.prog 9 #[.pointer none] w fun e w' => e = .returned (peekV (0, false)) ∧ Ext G0 w w' := by
  have HP := Lib.hid Peek_nil
  unfold peekV at *
  go_enter Try.func9, Try.ntmps9
  go_wp2_with fail
  refine (HP.out _).mono ?_
  rintro e w2 ⟨rfl, hx⟩
  go_wp2
  go_ret2
  exact ⟨rfl, hx⟩

/-! ### What throws -/

abbrev thrown (p : Nat) (e : Int) : Ending := .panicked [{ v := failV p e, recovered := false }]
theorem wrong_any (p : Nat) (w : World) :
    Calls Try.prog 39 #[.int .i64 (p : Int)] w fun e w' => e = thrown p 130 ∧ w = w' := by
  go_enter Try.func39, Try.ntmps39
  go_wp2
  exact ⟨rfl, rfl, rfl⟩

/-- Has all been read? -/
def endR (s : ByteArray) (p : Nat) : Res Bool := if p < s.size then .fail p 130 else .ok true p
set_option maxHeartbeats 1000000 in
theorem End1_any (g p bx : Nat) (s : ByteArray) (w : World) (hr : RdAt w g s p 0) (hbx : w.heap[bx]? = some (.cells #[.pointer (some ⟨g, 0, none⟩)] 29 (0, 0))) (hp : p ≤ s.size) :
    Calls Try.prog 44 #[.pointer (some ⟨bx, 0, none⟩)] w fun e w' => Ext (G1 g) w w' ∧ (endR s p).out boolV g s e w' := by
  obtain ⟨r0, r1, r2⟩ := hr.cells
  have x0 := blk_cell hbx 0
  by_cases hlt : p < s.size
  · have hv : endR s p = .fail p 130 := by unfold endR; rw [if_pos hlt]
    rw [hv]
    have h1 : decide ((p : Int) < (s.size : Int)) = true := by simp; omega
    go_enter Try.func44, Try.ntmps44
    go_wp2
    go_region
    go_wp2_with fail
    refine (wrong_any p _).mono ?_
    rintro e w2 ⟨rfl, rfl⟩
    go_wp2
    exact ⟨rfl, (Ext.refl _ _).drew, _, rfl, hr⟩
  · have hv : endR s p = .ok true p := by unfold endR; rw [if_neg hlt]
    rw [hv]
    have h1 : decide ((p : Int) < (s.size : Int)) = false := by simp; omega
    go_enter Try.func44, Try.ntmps44
    go_wp2
    go_region
    go_wp2
    go_ret
    exact ⟨(Ext.refl _ _).drew, rfl, hr⟩

/-- What 'Fail' does. -/
def failR (s : ByteArray) (p : Nat) (at_ er : Int) : Res Bool := if er = 0 then .ok true p else .fail (min (max at_ 0) (s.size : Int)).toNat er
set_option maxHeartbeats 1000000 in
theorem Fail1_any (g p b0 b1 bx : Nat) (at_ er : Int) (s : ByteArray) (w : World) (hr : RdAt w g s p 0) (hbx : w.heap[bx]? = some (.cells #[.pointer (some ⟨g, 0, none⟩)] 29 (0, 0)))
    (h0 : w.heap[b0]? = some (.cells #[.int .i64 er] 32 (0, 0))) (h1 : w.heap[b1]? = some (.cells #[.int .i64 at_] 3 (0, 0))) :
    Calls Try.prog 30 #[.pointer (some ⟨b0, 0, none⟩), .pointer (some ⟨b1, 0, none⟩), .pointer (some ⟨bx, 0, none⟩)] w fun e w' => Ext (G1 g) w w' ∧ (failR s p at_ er).out boolV g s e w' := by
  obtain ⟨r0, r1, r2⟩ := hr.cells
  have x0 : w.cell? ⟨bx, 0, none⟩ = some (.pointer (some ⟨g, 0, none⟩)) := blk_cell hbx 0
  have y0 : w.cell? ⟨b0, 0, none⟩ = some (.int .i64 er) := blk_cell h0 0
  have y1 : w.cell? ⟨b1, 0, none⟩ = some (.int .i64 at_) := blk_cell h1 0
  by_cases he : er = 0
  · have hv : failR s p at_ er = .ok true p := by unfold failR; rw [if_pos he]
    rw [hv]
    subst he
    go_enter Try.func30, Try.ntmps30
    go_wp2
    go_ret
    exact ⟨Ext.refl _ _, rfl, hr⟩
  · have hv : failR s p at_ er = .fail (min (max at_ 0) (s.size : Int)).toNat er := by unfold failR; rw [if_neg he]
    rw [hv]
    have h1 : (er != 0) = true := by simp [he]
    have hc : (at_ < 0 ∧ (min (max at_ 0) (s.size : Int)).toNat = 0) ∨ ((0 ≤ at_ ∧ at_ ≤ (s.size : Int)) ∧ (((min (max at_ 0) (s.size : Int)).toNat : Nat) : Int) = at_) ∨ ((0 ≤ at_ ∧ (s.size : Int) < at_) ∧ (min (max at_ 0) (s.size : Int)).toNat = s.size) := by omega
    clear hv
    have h0s : ¬ (s.size : Int) < 0 := by omega
    generalize (min (max at_ 0) (s.size : Int)).toNat = m at *
    rcases hc with ⟨hc, rfl⟩ | ⟨⟨hc, hd⟩, rfl⟩ | ⟨⟨hc, hd⟩, rfl⟩
    all_goals
      go_enter Try.func30, Try.ntmps30
      go_wp2
      apply region_phi (leaves := (Leaf.val _) :: (Leaf.val _) :: (Leaf.val _) :: (Leaf.val _) :: (Leaf.val _) :: (Leaf.val _) :: (Leaf.val _) :: (Leaf.val _) :: (Leaf.val _) :: (Leaf.val _) :: (Leaf.val _) :: (Leaf.val _) :: ([] : List Leaf)) (k := 12) (b := #[0, 1, 0, 4, 12, 28, 60, 124, 255, 0, 1023, 2047, 4095]) (ms := []) (E := Ext G0) mixed (by kernel_rfl) rfl (by kernel_rfl) rfl
      apply owed_walk rfl
      · intro w1 hw hf
        obtain ⟨r0, r1, r2⟩ := (hr.ext hw.ofDrew (fun x => x)).cells
        have x0 := cell_keep hw.ofDrew x0
        have y0 := cell_keep hw.ofDrew y0
        have y1 := cell_keep hw.ofDrew y1
        go_wp2
        exact ⟨rfl, rfl, Ext.refl _ _⟩
      · simp
      · go_simp
        try rfl
      apply owed_walk rfl
      · intro w1 hw hf
        obtain ⟨r0, r1, r2⟩ := (hr.ext hw.ofDrew (fun x => x)).cells
        have x0 := cell_keep hw.ofDrew x0
        have y0 := cell_keep hw.ofDrew y0
        have y1 := cell_keep hw.ofDrew y1
        go_wp2
        exact ⟨rfl, rfl, Ext.refl _ _⟩
      · simp
      · go_simp
        try rfl
      apply owed_walk rfl
      · intro w1 hw hf
        obtain ⟨r0, r1, r2⟩ := (hr.ext hw.ofDrew (fun x => x)).cells
        have x0 := cell_keep hw.ofDrew x0
        have y0 := cell_keep hw.ofDrew y0
        have y1 := cell_keep hw.ofDrew y1
        go_wp2
        exact ⟨rfl, rfl, Ext.refl _ _⟩
      · simp
      · go_simp
        try rfl
      apply owed_walk rfl
      · intro w1 hw hf
        obtain ⟨r0, r1, r2⟩ := (hr.ext hw.ofDrew (fun x => x)).cells
        have x0 := cell_keep hw.ofDrew x0
        have y0 := cell_keep hw.ofDrew y0
        have y1 := cell_keep hw.ofDrew y1
        go_wp2
        exact ⟨rfl, rfl, Ext.refl _ _⟩
      · simp
      · go_simp
        try rfl
      apply owed_walk rfl
      · intro w1 hw hf
        obtain ⟨r0, r1, r2⟩ := (hr.ext hw.ofDrew (fun x => x)).cells
        have x0 := cell_keep hw.ofDrew x0
        have y0 := cell_keep hw.ofDrew y0
        have y1 := cell_keep hw.ofDrew y1
        go_wp2
        exact ⟨rfl, rfl, Ext.refl _ _⟩
      · simp
      · go_simp
        try rfl
      apply owed_walk rfl
      · intro w1 hw hf
        obtain ⟨r0, r1, r2⟩ := (hr.ext hw.ofDrew (fun x => x)).cells
        have x0 := cell_keep hw.ofDrew x0
        have y0 := cell_keep hw.ofDrew y0
        have y1 := cell_keep hw.ofDrew y1
        go_wp2
        exact ⟨rfl, rfl, Ext.refl _ _⟩
      · simp
      · go_simp
        try rfl
      apply owed_walk rfl
      · intro w1 hw hf
        obtain ⟨r0, r1, r2⟩ := (hr.ext hw.ofDrew (fun x => x)).cells
        have x0 := cell_keep hw.ofDrew x0
        have y0 := cell_keep hw.ofDrew y0
        have y1 := cell_keep hw.ofDrew y1
        go_wp2
        exact ⟨rfl, rfl, Ext.refl _ _⟩
      · simp
      · go_simp
        try rfl
      apply owed_walk rfl
      · intro w1 hw hf
        obtain ⟨r0, r1, r2⟩ := (hr.ext hw.ofDrew (fun x => x)).cells
        have x0 := cell_keep hw.ofDrew x0
        have y0 := cell_keep hw.ofDrew y0
        have y1 := cell_keep hw.ofDrew y1
        go_wp2
        exact ⟨rfl, rfl, Ext.refl _ _⟩
      · simp
      · go_simp
        try rfl
      apply owed_walk rfl
      · intro w1 hw hf
        obtain ⟨r0, r1, r2⟩ := (hr.ext hw.ofDrew (fun x => x)).cells
        have x0 := cell_keep hw.ofDrew x0
        have y0 := cell_keep hw.ofDrew y0
        have y1 := cell_keep hw.ofDrew y1
        go_wp2
        exact ⟨rfl, rfl, Ext.refl _ _⟩
      · simp
      · go_simp
        try rfl
      apply owed_walk rfl
      · intro w1 hw hf
        obtain ⟨r0, r1, r2⟩ := (hr.ext hw.ofDrew (fun x => x)).cells
        have x0 := cell_keep hw.ofDrew x0
        have y0 := cell_keep hw.ofDrew y0
        have y1 := cell_keep hw.ofDrew y1
        go_wp2
        exact ⟨rfl, rfl, Ext.refl _ _⟩
      · simp
      · go_simp
        try rfl
      apply owed_walk rfl
      · intro w1 hw hf
        obtain ⟨r0, r1, r2⟩ := (hr.ext hw.ofDrew (fun x => x)).cells
        have x0 := cell_keep hw.ofDrew x0
        have y0 := cell_keep hw.ofDrew y0
        have y1 := cell_keep hw.ofDrew y1
        go_wp2
        exact ⟨rfl, rfl, Ext.refl _ _⟩
      · simp
      · go_simp
        try rfl
      apply owed_walk rfl
      · intro w1 hw hf
        obtain ⟨r0, r1, r2⟩ := (hr.ext hw.ofDrew (fun x => x)).cells
        have x0 := cell_keep hw.ofDrew x0
        have y0 := cell_keep hw.ofDrew y0
        have y1 := cell_keep hw.ofDrew y1
        go_wp2
        exact ⟨rfl, rfl, Ext.refl _ _⟩
      · simp
      · go_simp
        try rfl
      apply owed_end
      intro w1 hw _
      unfold Tail
      go_wp2
      exact ⟨rfl, hw.ofDrew.up _, _, rfl, hr.ext hw.ofDrew (fun x => x)⟩

end Go.Proofs.Ytejialnbelleeaa