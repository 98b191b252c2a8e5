/-
  Package text: While.
-/
import Derived.Test.YtejialnbelleeaaTxtF
import Derived.Deep.LoopGhost
namespace Go.Proofs.Ytejialnbelleeaa
open Go Go.RowKit

/-- Behind the bytes of a set, from q on. -/
def whileF (s : ByteArray) (a : Bs) : Nat → Nat → Nat
  | 0, q => q
  | n + 1, q => if q < s.size ∧ a.getLsbD (byteA s q) = true then whileF s a n (q + 1) else q
def whileP (s : ByteArray) (a : Bs) (p : Nat) : Nat := whileF s a (s.size - p) p
theorem whileP_step {s : ByteArray} {a : Bs} {q : Nat} (h : q < s.size) (ha : a.getLsbD (byteA s q) = true) : whileP s a q = whileP s a (q + 1) := by
  unfold whileP
  obtain ⟨d, hd⟩ : ∃ d, s.size - q = d + 1 := ⟨s.size - q - 1, by omega⟩
  rw [hd, show s.size - (q + 1) = d by omega, whileF, if_pos ⟨h, ha⟩]
theorem whileP_stop {s : ByteArray} {a : Bs} {q : Nat} (h : ¬ (q < s.size ∧ a.getLsbD (byteA s q) = true)) : whileP s a q = q := by
  unfold whileP
  cases s.size - q with
  | zero => rfl
  | succ n => rw [whileF, if_neg h]
def whileR (s : ByteArray) (a : Bs) (p : Nat) : Res ByteArray := .ok (s.extract p (whileP s a p)) (whileP s a p)

set_option maxHeartbeats 4000000 in
theorem While1_any (g p bx bs : Nat) (s : ByteArray) (a : Bs) (w : World) (hr : RdAt w g s p 0) (hbx : w.heap[bx]? = some (.cells #[.pointer (some ⟨g, 0, none⟩)] 29 (0, 0))) (hp : p ≤ s.size) (hs : s.size ≤ 140737488351232)
    (hbs : w.heap[bs]? = some (.cells (setC a) 25 (0, 0))) (hgx : bx ≠ g) (hgs : bs ≠ g) :
    Calls Try.prog 36 #[.pointer (some ⟨bx, 0, none⟩), .pointer (some ⟨bs, 0, none⟩)] w fun e w' => Ext (G1 g) w w' ∧ (whileR s a p).out strV g s e w' := by
  obtain ⟨r0, r1, r2⟩ := hr.cells
  have x0 : w.cell? ⟨bx, 0, none⟩ = some (.pointer (some ⟨g, 0, none⟩)) := blk_cell hbx 0
  obtain ⟨res, hres⟩ : ∃ res, res = whileR s a p := ⟨_, rfl⟩
  rw [← hres]
  have HR := Lib.hid hres
  clear hres
  have HH := Lib.hid (has_any a)
  go_enter Try.func36, Try.ntmps36
  go_wp2
  clear r0 r1 r2 x0
  go_loopg [] (s.size - p) (fun n wr => ∃ q : Nat, n = s.size - q ∧ p ≤ q ∧ q ≤ s.size ∧ whileP s a q = whileP s a p ∧ RdAt wr g s q 0 ∧ Ext (G1 g) w wr)
  case atStart => exact ⟨p, rfl, Nat.le_refl _, hp, rfl, hr, Ext.refl _ _⟩
  case round =>
    obtain ⟨q, rfl, hpq, hq, hW, hr2, hx⟩ := hrel
    have hbx2 := ext_heap hx hbx (G1.ne hgx)
    have hbs2 := ext_heap hx hbs (G1.ne hgs)
    by_cases hlt : q < s.size
    · have t1 : decide ((q : Int) < (s.size : Int)) = true := by simp; omega
      have i1 : (q : Int) < (s.size : Int) := by omega
      have e1 := byteA_eq hlt
      have hbl := byteA_lt s q
      by_cases hb : a.getLsbD (byteA s q) = true
      · have hW1 := Lib.hid (whileP_step hlt hb)
        have hh : ∀ w, Calls Try.prog 37 #[setV a, .int .u8 (byteA s q : Int)] w fun e w' => e = .returned (.bool true) ∧ Below w.heap.size w w' := fun w => by
          have := HH.out (byteA s q) w hbl
          rwa [hb] at this
        have Hh := Lib.hid hh
        have hW0 := Lib.hid hW
        clear hh hb hW
        generalize byteA s q = by_ at *
        go_wp2_with fail
        apply region_phi (leaves := (Leaf.val _) :: (Leaf.val _) :: (Leaf.val _) :: (Leaf.val _) :: (Leaf.val _) :: (Leaf.val _) :: (Leaf.val _) :: (Leaf.val _) :: (Leaf.val _) :: (Leaf.val _) :: (Leaf.val _) :: (Leaf.val _) :: (Leaf.val _) :: (Leaf.val _) :: (Leaf.val _) :: (Leaf.val _) :: (Leaf.val _) :: (Leaf.val _) :: (Leaf.val _) :: (Leaf.val _) :: (Leaf.val _) :: (Leaf.val _) :: (Leaf.val _) :: (Leaf.val _) :: (Leaf.val _) :: (Leaf.val _) :: (Leaf.val _) :: ([] : List Leaf)) (k := 27) (b := #[0, 1, 3, 7, 15, 0, 32, 96, 224, 480, 992, 2047, 4095, 8191, 8191, 24575, 57343, 122879, 253951, 8191, 532479, 1581055, 3678207, 7872511, 16769023, 33554431, 67108863]) (ms := []) (E := Ext G0) mixed (by kernel_rfl) rfl (by kernel_rfl) rfl
        apply owed_walk rfl
        · intro w1 hw hf
          obtain ⟨r0, r1, r2⟩ := (hr2.ext hw.ofDrew (fun x => x)).cells
          have x0 : w1.cell? ⟨bx, 0, none⟩ = some (.pointer (some ⟨g, 0, none⟩)) := blk_cell (ext_heapD hw hbx2 (fun x => x)) 0
          go_wp2
          exact ⟨rfl, rfl, Ext.refl _ _⟩
        · simp
        · go_simp
          try rfl
        apply owed_walk rfl
        · intro w1 hw hf
          obtain ⟨r0, r1, r2⟩ := (hr2.ext hw.ofDrew (fun x => x)).cells
          have x0 : w1.cell? ⟨bx, 0, none⟩ = some (.pointer (some ⟨g, 0, none⟩)) := blk_cell (ext_heapD hw hbx2 (fun x => x)) 0
          go_wp2
          exact ⟨rfl, rfl, Ext.refl _ _⟩
        · simp
        · go_simp
          try rfl
        apply owed_walk rfl
        · intro w1 hw hf
          obtain ⟨r0, r1, r2⟩ := (hr2.ext hw.ofDrew (fun x => x)).cells
          have x0 : w1.cell? ⟨bx, 0, none⟩ = some (.pointer (some ⟨g, 0, none⟩)) := blk_cell (ext_heapD hw hbx2 (fun x => x)) 0
          go_wp2
          exact ⟨rfl, rfl, Ext.refl _ _⟩
        · simp
        · go_simp
          try rfl
        apply owed_walk rfl
        · intro w1 hw hf
          obtain ⟨r0, r1, r2⟩ := (hr2.ext hw.ofDrew (fun x => x)).cells
          have x0 : w1.cell? ⟨bx, 0, none⟩ = some (.pointer (some ⟨g, 0, none⟩)) := blk_cell (ext_heapD hw hbx2 (fun x => x)) 0
          go_wp2
          exact ⟨rfl, rfl, Ext.refl _ _⟩
        · simp
        · go_simp
          try rfl
        apply owed_walk rfl
        · intro w1 hw hf
          obtain ⟨r0, r1, r2⟩ := (hr2.ext hw.ofDrew (fun x => x)).cells
          have x0 : w1.cell? ⟨bx, 0, none⟩ = some (.pointer (some ⟨g, 0, none⟩)) := blk_cell (ext_heapD hw hbx2 (fun x => x)) 0
          go_wp2
          exact ⟨rfl, rfl, Ext.refl _ _⟩
        · simp
        · go_simp
          try rfl
        apply owed_walk rfl
        · intro w1 hw hf
          obtain ⟨r0, r1, r2⟩ := (hr2.ext hw.ofDrew (fun x => x)).cells
          have x0 : w1.cell? ⟨bx, 0, none⟩ = some (.pointer (some ⟨g, 0, none⟩)) := blk_cell (ext_heapD hw hbx2 (fun x => x)) 0
          go_wp2
          exact ⟨rfl, rfl, Ext.refl _ _⟩
        · simp
        · go_simp
          try rfl
        apply owed_walk rfl
        · intro w1 hw hf
          obtain ⟨r0, r1, r2⟩ := (hr2.ext hw.ofDrew (fun x => x)).cells
          have x0 : w1.cell? ⟨bx, 0, none⟩ = some (.pointer (some ⟨g, 0, none⟩)) := blk_cell (ext_heapD hw hbx2 (fun x => x)) 0
          go_wp2
          exact ⟨rfl, rfl, Ext.refl _ _⟩
        · simp
        · go_simp
          try rfl
        apply owed_walk rfl
        · intro w1 hw hf
          obtain ⟨r0, r1, r2⟩ := (hr2.ext hw.ofDrew (fun x => x)).cells
          have x0 : w1.cell? ⟨bx, 0, none⟩ = some (.pointer (some ⟨g, 0, none⟩)) := blk_cell (ext_heapD hw hbx2 (fun x => x)) 0
          go_wp2
          exact ⟨rfl, rfl, Ext.refl _ _⟩
        · simp
        · go_simp
          try rfl
        apply owed_walk rfl
        · intro w1 hw hf
          obtain ⟨r0, r1, r2⟩ := (hr2.ext hw.ofDrew (fun x => x)).cells
          have x0 : w1.cell? ⟨bx, 0, none⟩ = some (.pointer (some ⟨g, 0, none⟩)) := blk_cell (ext_heapD hw hbx2 (fun x => x)) 0
          go_wp2
          exact ⟨rfl, rfl, Ext.refl _ _⟩
        · simp
        · go_simp
          try rfl
        apply owed_walk rfl
        · intro w1 hw hf
          obtain ⟨r0, r1, r2⟩ := (hr2.ext hw.ofDrew (fun x => x)).cells
          have x0 : w1.cell? ⟨bx, 0, none⟩ = some (.pointer (some ⟨g, 0, none⟩)) := blk_cell (ext_heapD hw hbx2 (fun x => x)) 0
          go_wp2
          exact ⟨rfl, rfl, Ext.refl _ _⟩
        · simp
        · go_simp
          try rfl
        apply owed_walk rfl
        · intro w1 hw hf
          obtain ⟨r0, r1, r2⟩ := (hr2.ext hw.ofDrew (fun x => x)).cells
          have x0 : w1.cell? ⟨bx, 0, none⟩ = some (.pointer (some ⟨g, 0, none⟩)) := blk_cell (ext_heapD hw hbx2 (fun x => x)) 0
          go_wp2
          exact ⟨rfl, rfl, Ext.refl _ _⟩
        · simp
        · go_simp
          try rfl
        apply owed_walk rfl
        · intro w1 hw hf
          obtain ⟨r0, r1, r2⟩ := (hr2.ext hw.ofDrew (fun x => x)).cells
          have x0 : w1.cell? ⟨bx, 0, none⟩ = some (.pointer (some ⟨g, 0, none⟩)) := blk_cell (ext_heapD hw hbx2 (fun x => x)) 0
          go_wp2
          exact ⟨rfl, rfl, Ext.refl _ _⟩
        · simp
        · go_simp
          try rfl
        apply owed_walk rfl
        · intro w1 hw hf
          obtain ⟨r0, r1, r2⟩ := (hr2.ext hw.ofDrew (fun x => x)).cells
          have x0 : w1.cell? ⟨bx, 0, none⟩ = some (.pointer (some ⟨g, 0, none⟩)) := blk_cell (ext_heapD hw hbx2 (fun x => x)) 0
          go_wp2
          exact ⟨rfl, rfl, Ext.refl _ _⟩
        · simp
        · go_simp
          try rfl
        apply owed_walk rfl
        · intro w1 hw hf
          obtain ⟨r0, r1, r2⟩ := (hr2.ext hw.ofDrew (fun x => x)).cells
          have x0 : w1.cell? ⟨bx, 0, none⟩ = some (.pointer (some ⟨g, 0, none⟩)) := blk_cell (ext_heapD hw hbx2 (fun x => x)) 0
          obtain ⟨q0, q1, q2, q3⟩ := cells4 (ext_heapD hw hbs2 (fun x => x))
          go_wp2
          exact ⟨rfl, rfl, Ext.refl _ _⟩
        · simp
        · go_simp
          try rfl
        apply owed_walk rfl
        · intro w1 hw hf
          obtain ⟨r0, r1, r2⟩ := (hr2.ext hw.ofDrew (fun x => x)).cells
          have x0 : w1.cell? ⟨bx, 0, none⟩ = some (.pointer (some ⟨g, 0, none⟩)) := blk_cell (ext_heapD hw hbx2 (fun x => x)) 0
          go_wp2
          exact ⟨rfl, rfl, Ext.refl _ _⟩
        · simp
        · go_simp
          try rfl
        apply owed_walk rfl
        · intro w1 hw hf
          obtain ⟨r0, r1, r2⟩ := (hr2.ext hw.ofDrew (fun x => x)).cells
          have x0 : w1.cell? ⟨bx, 0, none⟩ = some (.pointer (some ⟨g, 0, none⟩)) := blk_cell (ext_heapD hw hbx2 (fun x => x)) 0
          go_wp2
          exact ⟨rfl, rfl, Ext.refl _ _⟩
        · simp
        · go_simp
          try rfl
        apply owed_walk rfl
        · intro w1 hw hf
          obtain ⟨r0, r1, r2⟩ := (hr2.ext hw.ofDrew (fun x => x)).cells
          have x0 : w1.cell? ⟨bx, 0, none⟩ = some (.pointer (some ⟨g, 0, none⟩)) := blk_cell (ext_heapD hw hbx2 (fun x => x)) 0
          go_wp2
          exact ⟨rfl, rfl, Ext.refl _ _⟩
        · simp
        · go_simp
          try rfl
        apply owed_walk rfl
        · intro w1 hw hf
          obtain ⟨r0, r1, r2⟩ := (hr2.ext hw.ofDrew (fun x => x)).cells
          have x0 : w1.cell? ⟨bx, 0, none⟩ = some (.pointer (some ⟨g, 0, none⟩)) := blk_cell (ext_heapD hw hbx2 (fun x => x)) 0
          go_wp2
          exact ⟨rfl, rfl, Ext.refl _ _⟩
        · simp
        · go_simp
          try rfl
        apply owed_walk rfl
        · intro w1 hw hf
          obtain ⟨r0, r1, r2⟩ := (hr2.ext hw.ofDrew (fun x => x)).cells
          have x0 : w1.cell? ⟨bx, 0, none⟩ = some (.pointer (some ⟨g, 0, none⟩)) := blk_cell (ext_heapD hw hbx2 (fun x => x)) 0
          go_wp2
          exact ⟨rfl, rfl, Ext.refl _ _⟩
        · simp
        · go_simp
          try rfl
        apply owed_walk rfl
        · intro w1 hw hf
          obtain ⟨r0, r1, r2⟩ := (hr2.ext hw.ofDrew (fun x => x)).cells
          have x0 : w1.cell? ⟨bx, 0, none⟩ = some (.pointer (some ⟨g, 0, none⟩)) := blk_cell (ext_heapD hw hbx2 (fun x => x)) 0
          go_wp2
          exact ⟨rfl, rfl, Ext.refl _ _⟩
        · simp
        · go_simp
          try rfl
        apply owed_walk rfl
        · intro w1 hw hf
          obtain ⟨r0, r1, r2⟩ := (hr2.ext hw.ofDrew (fun x => x)).cells
          have x0 : w1.cell? ⟨bx, 0, none⟩ = some (.pointer (some ⟨g, 0, none⟩)) := blk_cell (ext_heapD hw hbx2 (fun x => x)) 0
          go_wp2
          exact ⟨rfl, rfl, Ext.refl _ _⟩
        · simp
        · go_simp
          try rfl
        apply owed_walk rfl
        · intro w1 hw hf
          obtain ⟨r0, r1, r2⟩ := (hr2.ext hw.ofDrew (fun x => x)).cells
          have x0 : w1.cell? ⟨bx, 0, none⟩ = some (.pointer (some ⟨g, 0, none⟩)) := blk_cell (ext_heapD hw hbx2 (fun x => x)) 0
          go_wp2
          exact ⟨rfl, rfl, Ext.refl _ _⟩
        · simp
        · go_simp
          try rfl
        apply owed_walk rfl
        · intro w1 hw hf
          obtain ⟨r0, r1, r2⟩ := (hr2.ext hw.ofDrew (fun x => x)).cells
          have x0 : w1.cell? ⟨bx, 0, none⟩ = some (.pointer (some ⟨g, 0, none⟩)) := blk_cell (ext_heapD hw hbx2 (fun x => x)) 0
          go_wp2
          exact ⟨rfl, rfl, Ext.refl _ _⟩
        · simp
        · go_simp
          try rfl
        apply owed_walk rfl
        · intro w1 hw hf
          obtain ⟨r0, r1, r2⟩ := (hr2.ext hw.ofDrew (fun x => x)).cells
          have x0 : w1.cell? ⟨bx, 0, none⟩ = some (.pointer (some ⟨g, 0, none⟩)) := blk_cell (ext_heapD hw hbx2 (fun x => x)) 0
          go_wp2
          exact ⟨rfl, rfl, Ext.refl _ _⟩
        · simp
        · go_simp
          try rfl
        apply owed_walk rfl
        · intro w1 hw hf
          obtain ⟨r0, r1, r2⟩ := (hr2.ext hw.ofDrew (fun x => x)).cells
          have x0 : w1.cell? ⟨bx, 0, none⟩ = some (.pointer (some ⟨g, 0, none⟩)) := blk_cell (ext_heapD hw hbx2 (fun x => x)) 0
          go_wp2
          exact ⟨rfl, rfl, Ext.refl _ _⟩
        · simp
        · go_simp
          try rfl
        apply owed_walk rfl
        · intro w1 hw hf
          obtain ⟨r0, r1, r2⟩ := (hr2.ext hw.ofDrew (fun x => x)).cells
          have x0 : w1.cell? ⟨bx, 0, none⟩ = some (.pointer (some ⟨g, 0, none⟩)) := blk_cell (ext_heapD hw hbx2 (fun x => x)) 0
          go_wp2_with (go_at_call 37; refine (Hh.out _).mono ?_; rintro e w2 ⟨rfl, hx2⟩)
          exact ⟨rfl, rfl, Ext.of_below hx2 _⟩
        · simp
        · go_simp
          try rfl
        apply owed_walk rfl
        · intro w1 hw hf
          obtain ⟨r0, r1, r2⟩ := (hr2.ext hw.ofDrew (fun x => x)).cells
          have x0 : w1.cell? ⟨bx, 0, none⟩ = some (.pointer (some ⟨g, 0, none⟩)) := blk_cell (ext_heapD hw hbx2 (fun x => x)) 0
          go_wp2
          exact ⟨rfl, rfl, Ext.refl _ _⟩
        · simp
        · go_simp
          try rfl
        apply owed_end
        intro w1 hw _
        refine Tail.nil rfl ?_
        have hr3 := hr2.ext hw.ofDrew (fun x => x)
        have hx3 := hx.trans (hw.ofDrew.up (G1 g))
        obtain ⟨r0, r1, r2⟩ := hr3.cells
        have x0 : w1.cell? ⟨bx, 0, none⟩ = some (.pointer (some ⟨g, 0, none⟩)) := blk_cell (ext_heapD hw hbx2 (fun x => x)) 0
        have z := blk_free hr3
        have hl3 := hr3.lt
        have s1 := IntWalk.i64_in ((q : Int) + 1) (by omega)
        go_wp2
        go_roundg (s.size - (q + 1))
        case rel => exact ⟨q + 1, rfl, by omega, by omega, by rw [← hW1.out]; exact hW0.out, hr3.move (q + 1), hx3.setCell (p := ⟨g, 1, none⟩) (.inl rfl) _⟩
        case measure => omega
      · have hb' : a.getLsbD (byteA s q) = false := by simpa using hb
        have hW1 := Lib.hid (whileP_stop (a := a) (fun h => hb h.2) : whileP s a q = q)
        have hh : ∀ w, Calls Try.prog 37 #[setV a, .int .u8 (byteA s q : Int)] w fun e w' => e = .returned (.bool false) ∧ Below w.heap.size w w' := fun w => by
          have := HH.out (byteA s q) w hbl
          rwa [hb'] at this
        have Hh := Lib.hid hh
        have hW0 := Lib.hid hW
        have i2 : (p : Int) ≤ (q : Int) := by omega
        have i3 : (q : Int) ≤ (s.size : Int) := by omega
        clear hh hb hb' hW
        generalize byteA s q = by_ at *
        go_wp2_with fail
        apply region_phi (leaves := (Leaf.val _) :: (Leaf.val _) :: (Leaf.val _) :: (Leaf.val _) :: (Leaf.val _) :: (Leaf.val _) :: (Leaf.val _) :: (Leaf.val _) :: (Leaf.val _) :: (Leaf.val _) :: (Leaf.val _) :: (Leaf.val _) :: (Leaf.val _) :: (Leaf.val _) :: (Leaf.val _) :: (Leaf.val _) :: (Leaf.val _) :: (Leaf.val _) :: (Leaf.val _) :: (Leaf.val _) :: (Leaf.val _) :: (Leaf.val _) :: (Leaf.val _) :: (Leaf.val _) :: (Leaf.val _) :: (Leaf.val _) :: (Leaf.val _) :: ([] : List Leaf)) (k := 27) (b := #[0, 1, 3, 7, 15, 0, 32, 96, 224, 480, 992, 2047, 4095, 8191, 8191, 24575, 57343, 122879, 253951, 8191, 532479, 1581055, 3678207, 7872511, 16769023, 33554431, 67108863]) (ms := []) (E := Ext G0) mixed (by kernel_rfl) rfl (by kernel_rfl) rfl
        apply owed_walk rfl
        · intro w1 hw hf
          obtain ⟨r0, r1, r2⟩ := (hr2.ext hw.ofDrew (fun x => x)).cells
          have x0 : w1.cell? ⟨bx, 0, none⟩ = some (.pointer (some ⟨g, 0, none⟩)) := blk_cell (ext_heapD hw hbx2 (fun x => x)) 0
          go_wp2
          exact ⟨rfl, rfl, Ext.refl _ _⟩
        · simp
        · go_simp
          try rfl
        apply owed_walk rfl
        · intro w1 hw hf
          obtain ⟨r0, r1, r2⟩ := (hr2.ext hw.ofDrew (fun x => x)).cells
          have x0 : w1.cell? ⟨bx, 0, none⟩ = some (.pointer (some ⟨g, 0, none⟩)) := blk_cell (ext_heapD hw hbx2 (fun x => x)) 0
          go_wp2
          exact ⟨rfl, rfl, Ext.refl _ _⟩
        · simp
        · go_simp
          try rfl
        apply owed_walk rfl
        · intro w1 hw hf
          obtain ⟨r0, r1, r2⟩ := (hr2.ext hw.ofDrew (fun x => x)).cells
          have x0 : w1.cell? ⟨bx, 0, none⟩ = some (.pointer (some ⟨g, 0, none⟩)) := blk_cell (ext_heapD hw hbx2 (fun x => x)) 0
          go_wp2
          exact ⟨rfl, rfl, Ext.refl _ _⟩
        · simp
        · go_simp
          try rfl
        apply owed_walk rfl
        · intro w1 hw hf
          obtain ⟨r0, r1, r2⟩ := (hr2.ext hw.ofDrew (fun x => x)).cells
          have x0 : w1.cell? ⟨bx, 0, none⟩ = some (.pointer (some ⟨g, 0, none⟩)) := blk_cell (ext_heapD hw hbx2 (fun x => x)) 0
          go_wp2
          exact ⟨rfl, rfl, Ext.refl _ _⟩
        · simp
        · go_simp
          try rfl
        apply owed_walk rfl
        · intro w1 hw hf
          obtain ⟨r0, r1, r2⟩ := (hr2.ext hw.ofDrew (fun x => x)).cells
          have x0 : w1.cell? ⟨bx, 0, none⟩ = some (.pointer (some ⟨g, 0, none⟩)) := blk_cell (ext_heapD hw hbx2 (fun x => x)) 0
          go_wp2
          exact ⟨rfl, rfl, Ext.refl _ _⟩
        · simp
        · go_simp
          try rfl
        apply owed_walk rfl
        · intro w1 hw hf
          obtain ⟨r0, r1, r2⟩ := (hr2.ext hw.ofDrew (fun x => x)).cells
          have x0 : w1.cell? ⟨bx, 0, none⟩ = some (.pointer (some ⟨g, 0, none⟩)) := blk_cell (ext_heapD hw hbx2 (fun x => x)) 0
          go_wp2
          exact ⟨rfl, rfl, Ext.refl _ _⟩
        · simp
        · go_simp
          try rfl
        apply owed_walk rfl
        · intro w1 hw hf
          obtain ⟨r0, r1, r2⟩ := (hr2.ext hw.ofDrew (fun x => x)).cells
          have x0 : w1.cell? ⟨bx, 0, none⟩ = some (.pointer (some ⟨g, 0, none⟩)) := blk_cell (ext_heapD hw hbx2 (fun x => x)) 0
          go_wp2
          exact ⟨rfl, rfl, Ext.refl _ _⟩
        · simp
        · go_simp
          try rfl
        apply owed_walk rfl
        · intro w1 hw hf
          obtain ⟨r0, r1, r2⟩ := (hr2.ext hw.ofDrew (fun x => x)).cells
          have x0 : w1.cell? ⟨bx, 0, none⟩ = some (.pointer (some ⟨g, 0, none⟩)) := blk_cell (ext_heapD hw hbx2 (fun x => x)) 0
          go_wp2
          exact ⟨rfl, rfl, Ext.refl _ _⟩
        · simp
        · go_simp
          try rfl
        apply owed_walk rfl
        · intro w1 hw hf
          obtain ⟨r0, r1, r2⟩ := (hr2.ext hw.ofDrew (fun x => x)).cells
          have x0 : w1.cell? ⟨bx, 0, none⟩ = some (.pointer (some ⟨g, 0, none⟩)) := blk_cell (ext_heapD hw hbx2 (fun x => x)) 0
          go_wp2
          exact ⟨rfl, rfl, Ext.refl _ _⟩
        · simp
        · go_simp
          try rfl
        apply owed_walk rfl
        · intro w1 hw hf
          obtain ⟨r0, r1, r2⟩ := (hr2.ext hw.ofDrew (fun x => x)).cells
          have x0 : w1.cell? ⟨bx, 0, none⟩ = some (.pointer (some ⟨g, 0, none⟩)) := blk_cell (ext_heapD hw hbx2 (fun x => x)) 0
          go_wp2
          exact ⟨rfl, rfl, Ext.refl _ _⟩
        · simp
        · go_simp
          try rfl
        apply owed_walk rfl
        · intro w1 hw hf
          obtain ⟨r0, r1, r2⟩ := (hr2.ext hw.ofDrew (fun x => x)).cells
          have x0 : w1.cell? ⟨bx, 0, none⟩ = some (.pointer (some ⟨g, 0, none⟩)) := blk_cell (ext_heapD hw hbx2 (fun x => x)) 0
          go_wp2
          exact ⟨rfl, rfl, Ext.refl _ _⟩
        · simp
        · go_simp
          try rfl
        apply owed_walk rfl
        · intro w1 hw hf
          obtain ⟨r0, r1, r2⟩ := (hr2.ext hw.ofDrew (fun x => x)).cells
          have x0 : w1.cell? ⟨bx, 0, none⟩ = some (.pointer (some ⟨g, 0, none⟩)) := blk_cell (ext_heapD hw hbx2 (fun x => x)) 0
          go_wp2
          exact ⟨rfl, rfl, Ext.refl _ _⟩
        · simp
        · go_simp
          try rfl
        apply owed_walk rfl
        · intro w1 hw hf
          obtain ⟨r0, r1, r2⟩ := (hr2.ext hw.ofDrew (fun x => x)).cells
          have x0 : w1.cell? ⟨bx, 0, none⟩ = some (.pointer (some ⟨g, 0, none⟩)) := blk_cell (ext_heapD hw hbx2 (fun x => x)) 0
          go_wp2
          exact ⟨rfl, rfl, Ext.refl _ _⟩
        · simp
        · go_simp
          try rfl
        apply owed_walk rfl
        · intro w1 hw hf
          obtain ⟨r0, r1, r2⟩ := (hr2.ext hw.ofDrew (fun x => x)).cells
          have x0 : w1.cell? ⟨bx, 0, none⟩ = some (.pointer (some ⟨g, 0, none⟩)) := blk_cell (ext_heapD hw hbx2 (fun x => x)) 0
          obtain ⟨q0, q1, q2, q3⟩ := cells4 (ext_heapD hw hbs2 (fun x => x))
          go_wp2
          exact ⟨rfl, rfl, Ext.refl _ _⟩
        · simp
        · go_simp
          try rfl
        apply owed_walk rfl
        · intro w1 hw hf
          obtain ⟨r0, r1, r2⟩ := (hr2.ext hw.ofDrew (fun x => x)).cells
          have x0 : w1.cell? ⟨bx, 0, none⟩ = some (.pointer (some ⟨g, 0, none⟩)) := blk_cell (ext_heapD hw hbx2 (fun x => x)) 0
          go_wp2
          exact ⟨rfl, rfl, Ext.refl _ _⟩
        · simp
        · go_simp
          try rfl
        apply owed_walk rfl
        · intro w1 hw hf
          obtain ⟨r0, r1, r2⟩ := (hr2.ext hw.ofDrew (fun x => x)).cells
          have x0 : w1.cell? ⟨bx, 0, none⟩ = some (.pointer (some ⟨g, 0, none⟩)) := blk_cell (ext_heapD hw hbx2 (fun x => x)) 0
          go_wp2
          exact ⟨rfl, rfl, Ext.refl _ _⟩
        · simp
        · go_simp
          try rfl
        apply owed_walk rfl
        · intro w1 hw hf
          obtain ⟨r0, r1, r2⟩ := (hr2.ext hw.ofDrew (fun x => x)).cells
          have x0 : w1.cell? ⟨bx, 0, none⟩ = some (.pointer (some ⟨g, 0, none⟩)) := blk_cell (ext_heapD hw hbx2 (fun x => x)) 0
          go_wp2
          exact ⟨rfl, rfl, Ext.refl _ _⟩
        · simp
        · go_simp
          try rfl
        apply owed_walk rfl
        · intro w1 hw hf
          obtain ⟨r0, r1, r2⟩ := (hr2.ext hw.ofDrew (fun x => x)).cells
          have x0 : w1.cell? ⟨bx, 0, none⟩ = some (.pointer (some ⟨g, 0, none⟩)) := blk_cell (ext_heapD hw hbx2 (fun x => x)) 0
          go_wp2
          exact ⟨rfl, rfl, Ext.refl _ _⟩
        · simp
        · go_simp
          try rfl
        apply owed_walk rfl
        · intro w1 hw hf
          obtain ⟨r0, r1, r2⟩ := (hr2.ext hw.ofDrew (fun x => x)).cells
          have x0 : w1.cell? ⟨bx, 0, none⟩ = some (.pointer (some ⟨g, 0, none⟩)) := blk_cell (ext_heapD hw hbx2 (fun x => x)) 0
          go_wp2
          exact ⟨rfl, rfl, Ext.refl _ _⟩
        · simp
        · go_simp
          try rfl
        apply owed_walk rfl
        · intro w1 hw hf
          obtain ⟨r0, r1, r2⟩ := (hr2.ext hw.ofDrew (fun x => x)).cells
          have x0 : w1.cell? ⟨bx, 0, none⟩ = some (.pointer (some ⟨g, 0, none⟩)) := blk_cell (ext_heapD hw hbx2 (fun x => x)) 0
          go_wp2
          exact ⟨rfl, rfl, Ext.refl _ _⟩
        · simp
        · go_simp
          try rfl
        apply owed_walk rfl
        · intro w1 hw hf
          obtain ⟨r0, r1, r2⟩ := (hr2.ext hw.ofDrew (fun x => x)).cells
          have x0 : w1.cell? ⟨bx, 0, none⟩ = some (.pointer (some ⟨g, 0, none⟩)) := blk_cell (ext_heapD hw hbx2 (fun x => x)) 0
          go_wp2
          exact ⟨rfl, rfl, Ext.refl _ _⟩
        · simp
        · go_simp
          try rfl
        apply owed_walk rfl
        · intro w1 hw hf
          obtain ⟨r0, r1, r2⟩ := (hr2.ext hw.ofDrew (fun x => x)).cells
          have x0 : w1.cell? ⟨bx, 0, none⟩ = some (.pointer (some ⟨g, 0, none⟩)) := blk_cell (ext_heapD hw hbx2 (fun x => x)) 0
          go_wp2
          exact ⟨rfl, rfl, Ext.refl _ _⟩
        · simp
        · go_simp
          try rfl
        apply owed_walk rfl
        · intro w1 hw hf
          obtain ⟨r0, r1, r2⟩ := (hr2.ext hw.ofDrew (fun x => x)).cells
          have x0 : w1.cell? ⟨bx, 0, none⟩ = some (.pointer (some ⟨g, 0, none⟩)) := blk_cell (ext_heapD hw hbx2 (fun x => x)) 0
          go_wp2
          exact ⟨rfl, rfl, Ext.refl _ _⟩
        · simp
        · go_simp
          try rfl
        apply owed_walk rfl
        · intro w1 hw hf
          obtain ⟨r0, r1, r2⟩ := (hr2.ext hw.ofDrew (fun x => x)).cells
          have x0 : w1.cell? ⟨bx, 0, none⟩ = some (.pointer (some ⟨g, 0, none⟩)) := blk_cell (ext_heapD hw hbx2 (fun x => x)) 0
          go_wp2
          exact ⟨rfl, rfl, Ext.refl _ _⟩
        · simp
        · go_simp
          try rfl
        apply owed_walk rfl
        · intro w1 hw hf
          obtain ⟨r0, r1, r2⟩ := (hr2.ext hw.ofDrew (fun x => x)).cells
          have x0 : w1.cell? ⟨bx, 0, none⟩ = some (.pointer (some ⟨g, 0, none⟩)) := blk_cell (ext_heapD hw hbx2 (fun x => x)) 0
          go_wp2
          exact ⟨rfl, rfl, Ext.refl _ _⟩
        · simp
        · go_simp
          try rfl
        apply owed_walk rfl
        · intro w1 hw hf
          obtain ⟨r0, r1, r2⟩ := (hr2.ext hw.ofDrew (fun x => x)).cells
          have x0 : w1.cell? ⟨bx, 0, none⟩ = some (.pointer (some ⟨g, 0, none⟩)) := blk_cell (ext_heapD hw hbx2 (fun x => x)) 0
          go_wp2_with (go_at_call 37; refine (Hh.out _).mono ?_; rintro e w2 ⟨rfl, hx2⟩)
          exact ⟨rfl, rfl, Ext.of_below hx2 _⟩
        · simp
        · go_simp
          try rfl
        apply owed_walk rfl
        · intro w1 hw hf
          obtain ⟨r0, r1, r2⟩ := (hr2.ext hw.ofDrew (fun x => x)).cells
          have x0 : w1.cell? ⟨bx, 0, none⟩ = some (.pointer (some ⟨g, 0, none⟩)) := blk_cell (ext_heapD hw hbx2 (fun x => x)) 0
          go_wp2
          exact ⟨rfl, rfl, Ext.refl _ _⟩
        · simp
        · go_simp
          try rfl
        apply owed_end
        intro w1 hw _
        refine Tail.nil rfl ?_
        have hr3 := hr2.ext hw.ofDrew (fun x => x)
        have hx3 := hx.trans (hw.ofDrew.up (G1 g))
        have hbx3 := ext_heapD hw hbx2 (fun x => x)
        clear hw hr2 hx hbx2 hbs2
        go_wp2_with fail
        apply region_phi (leaves := (Leaf.val _) :: (Leaf.val _) :: (Leaf.val _) :: (Leaf.val _) :: (Leaf.val _) :: (Leaf.val _) :: (Leaf.val _) :: (Leaf.val _) :: (Leaf.val _) :: (Leaf.val _) :: (Leaf.val _) :: (Leaf.val _) :: (Leaf.val _) :: ([] : List Leaf)) (k := 13) (b := #[0, 1, 3, 7, 15, 0, 0, 64, 192, 448, 960, 2047, 4095]) (ms := []) (E := Ext G0) mixed (by kernel_rfl) rfl (by kernel_rfl) rfl
        apply owed_walk rfl
        · intro w1 hw hf
          obtain ⟨r0, r1, r2⟩ := (hr3.ext hw.ofDrew (fun x => x)).cells
          have x0 : w1.cell? ⟨bx, 0, none⟩ = some (.pointer (some ⟨g, 0, none⟩)) := blk_cell (ext_heapD hw hbx3 (fun x => x)) 0
          go_wp2
          exact ⟨rfl, rfl, Ext.refl _ _⟩
        · simp
        · go_simp
          try rfl
        apply owed_walk rfl
        · intro w1 hw hf
          obtain ⟨r0, r1, r2⟩ := (hr3.ext hw.ofDrew (fun x => x)).cells
          have x0 : w1.cell? ⟨bx, 0, none⟩ = some (.pointer (some ⟨g, 0, none⟩)) := blk_cell (ext_heapD hw hbx3 (fun x => x)) 0
          go_wp2
          exact ⟨rfl, rfl, Ext.refl _ _⟩
        · simp
        · go_simp
          try rfl
        apply owed_walk rfl
        · intro w1 hw hf
          obtain ⟨r0, r1, r2⟩ := (hr3.ext hw.ofDrew (fun x => x)).cells
          have x0 : w1.cell? ⟨bx, 0, none⟩ = some (.pointer (some ⟨g, 0, none⟩)) := blk_cell (ext_heapD hw hbx3 (fun x => x)) 0
          go_wp2
          exact ⟨rfl, rfl, Ext.refl _ _⟩
        · simp
        · go_simp
          try rfl
        apply owed_walk rfl
        · intro w1 hw hf
          obtain ⟨r0, r1, r2⟩ := (hr3.ext hw.ofDrew (fun x => x)).cells
          have x0 : w1.cell? ⟨bx, 0, none⟩ = some (.pointer (some ⟨g, 0, none⟩)) := blk_cell (ext_heapD hw hbx3 (fun x => x)) 0
          go_wp2
          exact ⟨rfl, rfl, Ext.refl _ _⟩
        · simp
        · go_simp
          try rfl
        apply owed_walk rfl
        · intro w1 hw hf
          obtain ⟨r0, r1, r2⟩ := (hr3.ext hw.ofDrew (fun x => x)).cells
          have x0 : w1.cell? ⟨bx, 0, none⟩ = some (.pointer (some ⟨g, 0, none⟩)) := blk_cell (ext_heapD hw hbx3 (fun x => x)) 0
          go_wp2
          exact ⟨rfl, rfl, Ext.refl _ _⟩
        · simp
        · go_simp
          try rfl
        apply owed_walk rfl
        · intro w1 hw hf
          obtain ⟨r0, r1, r2⟩ := (hr3.ext hw.ofDrew (fun x => x)).cells
          have x0 : w1.cell? ⟨bx, 0, none⟩ = some (.pointer (some ⟨g, 0, none⟩)) := blk_cell (ext_heapD hw hbx3 (fun x => x)) 0
          go_wp2
          exact ⟨rfl, rfl, Ext.refl _ _⟩
        · simp
        · go_simp
          try rfl
        apply owed_walk rfl
        · intro w1 hw hf
          obtain ⟨r0, r1, r2⟩ := (hr3.ext hw.ofDrew (fun x => x)).cells
          have x0 : w1.cell? ⟨bx, 0, none⟩ = some (.pointer (some ⟨g, 0, none⟩)) := blk_cell (ext_heapD hw hbx3 (fun x => x)) 0
          go_wp2
          exact ⟨rfl, rfl, Ext.refl _ _⟩
        · simp
        · go_simp
          try rfl
        apply owed_walk rfl
        · intro w1 hw hf
          obtain ⟨r0, r1, r2⟩ := (hr3.ext hw.ofDrew (fun x => x)).cells
          have x0 : w1.cell? ⟨bx, 0, none⟩ = some (.pointer (some ⟨g, 0, none⟩)) := blk_cell (ext_heapD hw hbx3 (fun x => x)) 0
          go_wp2
          exact ⟨rfl, rfl, Ext.refl _ _⟩
        · simp
        · go_simp
          try rfl
        apply owed_walk rfl
        · intro w1 hw hf
          obtain ⟨r0, r1, r2⟩ := (hr3.ext hw.ofDrew (fun x => x)).cells
          have x0 : w1.cell? ⟨bx, 0, none⟩ = some (.pointer (some ⟨g, 0, none⟩)) := blk_cell (ext_heapD hw hbx3 (fun x => x)) 0
          go_wp2
          exact ⟨rfl, rfl, Ext.refl _ _⟩
        · simp
        · go_simp
          try rfl
        apply owed_walk rfl
        · intro w1 hw hf
          obtain ⟨r0, r1, r2⟩ := (hr3.ext hw.ofDrew (fun x => x)).cells
          have x0 : w1.cell? ⟨bx, 0, none⟩ = some (.pointer (some ⟨g, 0, none⟩)) := blk_cell (ext_heapD hw hbx3 (fun x => x)) 0
          go_wp2
          exact ⟨rfl, rfl, Ext.refl _ _⟩
        · simp
        · go_simp
          try rfl
        apply owed_walk rfl
        · intro w1 hw hf
          obtain ⟨r0, r1, r2⟩ := (hr3.ext hw.ofDrew (fun x => x)).cells
          have x0 : w1.cell? ⟨bx, 0, none⟩ = some (.pointer (some ⟨g, 0, none⟩)) := blk_cell (ext_heapD hw hbx3 (fun x => x)) 0
          go_wp2
          exact ⟨rfl, rfl, Ext.refl _ _⟩
        · simp
        · go_simp
          try rfl
        apply owed_walk rfl
        · intro w1 hw hf
          obtain ⟨r0, r1, r2⟩ := (hr3.ext hw.ofDrew (fun x => x)).cells
          have x0 : w1.cell? ⟨bx, 0, none⟩ = some (.pointer (some ⟨g, 0, none⟩)) := blk_cell (ext_heapD hw hbx3 (fun x => x)) 0
          go_wp2
          exact ⟨rfl, rfl, Ext.refl _ _⟩
        · simp
        · go_simp
          try rfl
        apply owed_walk rfl
        · intro w1 hw hf
          obtain ⟨r0, r1, r2⟩ := (hr3.ext hw.ofDrew (fun x => x)).cells
          have x0 : w1.cell? ⟨bx, 0, none⟩ = some (.pointer (some ⟨g, 0, none⟩)) := blk_cell (ext_heapD hw hbx3 (fun x => x)) 0
          go_wp2
          exact ⟨rfl, rfl, Ext.refl _ _⟩
        · simp
        · go_simp
          try rfl
        apply owed_end
        intro w2 hw _
        refine Tail.nil rfl ?_
        go_wp2
        go_ret
        refine ⟨hx3.trans (hw.ofDrew.up _), ?_⟩
        rw [HR.out, whileR, ← hW0.out, hW1.out]
        exact ⟨rfl, hr3.ext hw.ofDrew (fun x => x)⟩
    · have t1 : decide ((q : Int) < (s.size : Int)) = false := by simp; omega
      have hW1 := Lib.hid (whileP_stop (a := a) (fun h => hlt h.1) : whileP s a q = q)
      have hW0 := Lib.hid hW
      have i2 : (p : Int) ≤ (q : Int) := by omega
      have i3 : (q : Int) ≤ (s.size : Int) := by omega
      clear hW
      go_wp2_with fail
      apply region_phi (leaves := (Leaf.val _) :: (Leaf.val _) :: (Leaf.val _) :: (Leaf.val _) :: (Leaf.val _) :: (Leaf.val _) :: (Leaf.val _) :: (Leaf.val _) :: (Leaf.val _) :: (Leaf.val _) :: (Leaf.val _) :: (Leaf.val _) :: (Leaf.val _) :: (Leaf.val _) :: (Leaf.val _) :: (Leaf.val _) :: (Leaf.val _) :: (Leaf.val _) :: (Leaf.val _) :: (Leaf.val _) :: (Leaf.val _) :: (Leaf.val _) :: (Leaf.val _) :: (Leaf.val _) :: (Leaf.val _) :: (Leaf.val _) :: (Leaf.val _) :: ([] : List Leaf)) (k := 27) (b := #[0, 1, 3, 7, 15, 0, 32, 96, 224, 480, 992, 2047, 4095, 8191, 8191, 24575, 57343, 122879, 253951, 8191, 532479, 1581055, 3678207, 7872511, 16769023, 33554431, 67108863]) (ms := []) (E := Ext G0) mixed (by kernel_rfl) rfl (by kernel_rfl) rfl
      apply owed_walk rfl
      · intro w1 hw hf
        obtain ⟨r0, r1, r2⟩ := (hr2.ext hw.ofDrew (fun x => x)).cells
        have x0 : w1.cell? ⟨bx, 0, none⟩ = some (.pointer (some ⟨g, 0, none⟩)) := blk_cell (ext_heapD hw hbx2 (fun x => x)) 0
        go_wp2
        exact ⟨rfl, rfl, Ext.refl _ _⟩
      · simp
      · go_simp
        try rfl
      apply owed_walk rfl
      · intro w1 hw hf
        obtain ⟨r0, r1, r2⟩ := (hr2.ext hw.ofDrew (fun x => x)).cells
        have x0 : w1.cell? ⟨bx, 0, none⟩ = some (.pointer (some ⟨g, 0, none⟩)) := blk_cell (ext_heapD hw hbx2 (fun x => x)) 0
        go_wp2
        exact ⟨rfl, rfl, Ext.refl _ _⟩
      · simp
      · go_simp
        try rfl
      apply owed_walk rfl
      · intro w1 hw hf
        obtain ⟨r0, r1, r2⟩ := (hr2.ext hw.ofDrew (fun x => x)).cells
        have x0 : w1.cell? ⟨bx, 0, none⟩ = some (.pointer (some ⟨g, 0, none⟩)) := blk_cell (ext_heapD hw hbx2 (fun x => x)) 0
        go_wp2
        exact ⟨rfl, rfl, Ext.refl _ _⟩
      · simp
      · go_simp
        try rfl
      apply owed_walk rfl
      · intro w1 hw hf
        obtain ⟨r0, r1, r2⟩ := (hr2.ext hw.ofDrew (fun x => x)).cells
        have x0 : w1.cell? ⟨bx, 0, none⟩ = some (.pointer (some ⟨g, 0, none⟩)) := blk_cell (ext_heapD hw hbx2 (fun x => x)) 0
        go_wp2
        exact ⟨rfl, rfl, Ext.refl _ _⟩
      · simp
      · go_simp
        try rfl
      apply owed_walk rfl
      · intro w1 hw hf
        obtain ⟨r0, r1, r2⟩ := (hr2.ext hw.ofDrew (fun x => x)).cells
        have x0 : w1.cell? ⟨bx, 0, none⟩ = some (.pointer (some ⟨g, 0, none⟩)) := blk_cell (ext_heapD hw hbx2 (fun x => x)) 0
        go_wp2
        exact ⟨rfl, rfl, Ext.refl _ _⟩
      · simp
      · go_simp
        try rfl
      apply owed_walk rfl
      · intro w1 hw hf
        obtain ⟨r0, r1, r2⟩ := (hr2.ext hw.ofDrew (fun x => x)).cells
        have x0 : w1.cell? ⟨bx, 0, none⟩ = some (.pointer (some ⟨g, 0, none⟩)) := blk_cell (ext_heapD hw hbx2 (fun x => x)) 0
        go_wp2
        exact ⟨rfl, rfl, Ext.refl _ _⟩
      · simp
      · go_simp
        try rfl
      apply owed_walk rfl
      · intro w1 hw hf
        obtain ⟨r0, r1, r2⟩ := (hr2.ext hw.ofDrew (fun x => x)).cells
        have x0 : w1.cell? ⟨bx, 0, none⟩ = some (.pointer (some ⟨g, 0, none⟩)) := blk_cell (ext_heapD hw hbx2 (fun x => x)) 0
        go_wp2
        exact ⟨rfl, rfl, Ext.refl _ _⟩
      · simp
      · go_simp
        try rfl
      apply owed_walk rfl
      · intro w1 hw hf
        obtain ⟨r0, r1, r2⟩ := (hr2.ext hw.ofDrew (fun x => x)).cells
        have x0 : w1.cell? ⟨bx, 0, none⟩ = some (.pointer (some ⟨g, 0, none⟩)) := blk_cell (ext_heapD hw hbx2 (fun x => x)) 0
        go_wp2
        exact ⟨rfl, rfl, Ext.refl _ _⟩
      · simp
      · go_simp
        try rfl
      apply owed_walk rfl
      · intro w1 hw hf
        obtain ⟨r0, r1, r2⟩ := (hr2.ext hw.ofDrew (fun x => x)).cells
        have x0 : w1.cell? ⟨bx, 0, none⟩ = some (.pointer (some ⟨g, 0, none⟩)) := blk_cell (ext_heapD hw hbx2 (fun x => x)) 0
        go_wp2
        exact ⟨rfl, rfl, Ext.refl _ _⟩
      · simp
      · go_simp
        try rfl
      apply owed_walk rfl
      · intro w1 hw hf
        obtain ⟨r0, r1, r2⟩ := (hr2.ext hw.ofDrew (fun x => x)).cells
        have x0 : w1.cell? ⟨bx, 0, none⟩ = some (.pointer (some ⟨g, 0, none⟩)) := blk_cell (ext_heapD hw hbx2 (fun x => x)) 0
        go_wp2
        exact ⟨rfl, rfl, Ext.refl _ _⟩
      · simp
      · go_simp
        try rfl
      apply owed_walk rfl
      · intro w1 hw hf
        obtain ⟨r0, r1, r2⟩ := (hr2.ext hw.ofDrew (fun x => x)).cells
        have x0 : w1.cell? ⟨bx, 0, none⟩ = some (.pointer (some ⟨g, 0, none⟩)) := blk_cell (ext_heapD hw hbx2 (fun x => x)) 0
        go_wp2
        exact ⟨rfl, rfl, Ext.refl _ _⟩
      · simp
      · go_simp
        try rfl
      apply owed_walk rfl
      · intro w1 hw hf
        obtain ⟨r0, r1, r2⟩ := (hr2.ext hw.ofDrew (fun x => x)).cells
        have x0 : w1.cell? ⟨bx, 0, none⟩ = some (.pointer (some ⟨g, 0, none⟩)) := blk_cell (ext_heapD hw hbx2 (fun x => x)) 0
        go_wp2
        exact ⟨rfl, rfl, Ext.refl _ _⟩
      · simp
      · go_simp
        try rfl
      apply owed_walk rfl
      · intro w1 hw hf
        obtain ⟨r0, r1, r2⟩ := (hr2.ext hw.ofDrew (fun x => x)).cells
        have x0 : w1.cell? ⟨bx, 0, none⟩ = some (.pointer (some ⟨g, 0, none⟩)) := blk_cell (ext_heapD hw hbx2 (fun x => x)) 0
        go_wp2
        exact ⟨rfl, rfl, Ext.refl _ _⟩
      · simp
      · go_simp
        try rfl
      apply owed_walk rfl
      · intro w1 hw hf
        obtain ⟨r0, r1, r2⟩ := (hr2.ext hw.ofDrew (fun x => x)).cells
        have x0 : w1.cell? ⟨bx, 0, none⟩ = some (.pointer (some ⟨g, 0, none⟩)) := blk_cell (ext_heapD hw hbx2 (fun x => x)) 0
        obtain ⟨q0, q1, q2, q3⟩ := cells4 (ext_heapD hw hbs2 (fun x => x))
        go_wp2
        exact ⟨rfl, rfl, Ext.refl _ _⟩
      · simp
      · go_simp
        try rfl
      apply owed_walk rfl
      · intro w1 hw hf
        obtain ⟨r0, r1, r2⟩ := (hr2.ext hw.ofDrew (fun x => x)).cells
        have x0 : w1.cell? ⟨bx, 0, none⟩ = some (.pointer (some ⟨g, 0, none⟩)) := blk_cell (ext_heapD hw hbx2 (fun x => x)) 0
        go_wp2
        exact ⟨rfl, rfl, Ext.refl _ _⟩
      · simp
      · go_simp
        try rfl
      apply owed_walk rfl
      · intro w1 hw hf
        obtain ⟨r0, r1, r2⟩ := (hr2.ext hw.ofDrew (fun x => x)).cells
        have x0 : w1.cell? ⟨bx, 0, none⟩ = some (.pointer (some ⟨g, 0, none⟩)) := blk_cell (ext_heapD hw hbx2 (fun x => x)) 0
        go_wp2
        exact ⟨rfl, rfl, Ext.refl _ _⟩
      · simp
      · go_simp
        try rfl
      apply owed_walk rfl
      · intro w1 hw hf
        obtain ⟨r0, r1, r2⟩ := (hr2.ext hw.ofDrew (fun x => x)).cells
        have x0 : w1.cell? ⟨bx, 0, none⟩ = some (.pointer (some ⟨g, 0, none⟩)) := blk_cell (ext_heapD hw hbx2 (fun x => x)) 0
        go_wp2
        exact ⟨rfl, rfl, Ext.refl _ _⟩
      · simp
      · go_simp
        try rfl
      apply owed_walk rfl
      · intro w1 hw hf
        obtain ⟨r0, r1, r2⟩ := (hr2.ext hw.ofDrew (fun x => x)).cells
        have x0 : w1.cell? ⟨bx, 0, none⟩ = some (.pointer (some ⟨g, 0, none⟩)) := blk_cell (ext_heapD hw hbx2 (fun x => x)) 0
        go_wp2
        exact ⟨rfl, rfl, Ext.refl _ _⟩
      · simp
      · go_simp
        try rfl
      apply owed_walk rfl
      · intro w1 hw hf
        obtain ⟨r0, r1, r2⟩ := (hr2.ext hw.ofDrew (fun x => x)).cells
        have x0 : w1.cell? ⟨bx, 0, none⟩ = some (.pointer (some ⟨g, 0, none⟩)) := blk_cell (ext_heapD hw hbx2 (fun x => x)) 0
        go_wp2
        exact ⟨rfl, rfl, Ext.refl _ _⟩
      · simp
      · go_simp
        try rfl
      apply owed_walk rfl
      · intro w1 hw hf
        obtain ⟨r0, r1, r2⟩ := (hr2.ext hw.ofDrew (fun x => x)).cells
        have x0 : w1.cell? ⟨bx, 0, none⟩ = some (.pointer (some ⟨g, 0, none⟩)) := blk_cell (ext_heapD hw hbx2 (fun x => x)) 0
        go_wp2
        exact ⟨rfl, rfl, Ext.refl _ _⟩
      · simp
      · go_simp
        try rfl
      apply owed_walk rfl
      · intro w1 hw hf
        obtain ⟨r0, r1, r2⟩ := (hr2.ext hw.ofDrew (fun x => x)).cells
        have x0 : w1.cell? ⟨bx, 0, none⟩ = some (.pointer (some ⟨g, 0, none⟩)) := blk_cell (ext_heapD hw hbx2 (fun x => x)) 0
        go_wp2
        exact ⟨rfl, rfl, Ext.refl _ _⟩
      · simp
      · go_simp
        try rfl
      apply owed_walk rfl
      · intro w1 hw hf
        obtain ⟨r0, r1, r2⟩ := (hr2.ext hw.ofDrew (fun x => x)).cells
        have x0 : w1.cell? ⟨bx, 0, none⟩ = some (.pointer (some ⟨g, 0, none⟩)) := blk_cell (ext_heapD hw hbx2 (fun x => x)) 0
        go_wp2
        exact ⟨rfl, rfl, Ext.refl _ _⟩
      · simp
      · go_simp
        try rfl
      apply owed_walk rfl
      · intro w1 hw hf
        obtain ⟨r0, r1, r2⟩ := (hr2.ext hw.ofDrew (fun x => x)).cells
        have x0 : w1.cell? ⟨bx, 0, none⟩ = some (.pointer (some ⟨g, 0, none⟩)) := blk_cell (ext_heapD hw hbx2 (fun x => x)) 0
        go_wp2
        exact ⟨rfl, rfl, Ext.refl _ _⟩
      · simp
      · go_simp
        try rfl
      apply owed_walk rfl
      · intro w1 hw hf
        obtain ⟨r0, r1, r2⟩ := (hr2.ext hw.ofDrew (fun x => x)).cells
        have x0 : w1.cell? ⟨bx, 0, none⟩ = some (.pointer (some ⟨g, 0, none⟩)) := blk_cell (ext_heapD hw hbx2 (fun x => x)) 0
        go_wp2
        exact ⟨rfl, rfl, Ext.refl _ _⟩
      · simp
      · go_simp
        try rfl
      apply owed_walk rfl
      · intro w1 hw hf
        obtain ⟨r0, r1, r2⟩ := (hr2.ext hw.ofDrew (fun x => x)).cells
        have x0 : w1.cell? ⟨bx, 0, none⟩ = some (.pointer (some ⟨g, 0, none⟩)) := blk_cell (ext_heapD hw hbx2 (fun x => x)) 0
        go_wp2
        exact ⟨rfl, rfl, Ext.refl _ _⟩
      · simp
      · go_simp
        try rfl
      apply owed_walk rfl
      · intro w1 hw hf
        obtain ⟨r0, r1, r2⟩ := (hr2.ext hw.ofDrew (fun x => x)).cells
        have x0 : w1.cell? ⟨bx, 0, none⟩ = some (.pointer (some ⟨g, 0, none⟩)) := blk_cell (ext_heapD hw hbx2 (fun x => x)) 0
        go_wp2
        exact ⟨rfl, rfl, Ext.refl _ _⟩
      · simp
      · go_simp
        try rfl
      apply owed_walk rfl
      · intro w1 hw hf
        obtain ⟨r0, r1, r2⟩ := (hr2.ext hw.ofDrew (fun x => x)).cells
        have x0 : w1.cell? ⟨bx, 0, none⟩ = some (.pointer (some ⟨g, 0, none⟩)) := blk_cell (ext_heapD hw hbx2 (fun x => x)) 0
        go_wp2
        exact ⟨rfl, rfl, Ext.refl _ _⟩
      · simp
      · go_simp
        try rfl
      apply owed_end
      intro w1 hw _
      refine Tail.nil rfl ?_
      have hr3 := hr2.ext hw.ofDrew (fun x => x)
      have hx3 := hx.trans (hw.ofDrew.up (G1 g))
      have hbx3 := ext_heapD hw hbx2 (fun x => x)
      clear hw hr2 hx hbx2 hbs2
      go_wp2_with fail
      apply region_phi (leaves := (Leaf.val _) :: (Leaf.val _) :: (Leaf.val _) :: (Leaf.val _) :: (Leaf.val _) :: (Leaf.val _) :: (Leaf.val _) :: (Leaf.val _) :: (Leaf.val _) :: (Leaf.val _) :: (Leaf.val _) :: (Leaf.val _) :: (Leaf.val _) :: ([] : List Leaf)) (k := 13) (b := #[0, 1, 3, 7, 15, 0, 0, 64, 192, 448, 960, 2047, 4095]) (ms := []) (E := Ext G0) mixed (by kernel_rfl) rfl (by kernel_rfl) rfl
      apply owed_walk rfl
      · intro w1 hw hf
        obtain ⟨r0, r1, r2⟩ := (hr3.ext hw.ofDrew (fun x => x)).cells
        have x0 : w1.cell? ⟨bx, 0, none⟩ = some (.pointer (some ⟨g, 0, none⟩)) := blk_cell (ext_heapD hw hbx3 (fun x => x)) 0
        go_wp2
        exact ⟨rfl, rfl, Ext.refl _ _⟩
      · simp
      · go_simp
        try rfl
      apply owed_walk rfl
      · intro w1 hw hf
        obtain ⟨r0, r1, r2⟩ := (hr3.ext hw.ofDrew (fun x => x)).cells
        have x0 : w1.cell? ⟨bx, 0, none⟩ = some (.pointer (some ⟨g, 0, none⟩)) := blk_cell (ext_heapD hw hbx3 (fun x => x)) 0
        go_wp2
        exact ⟨rfl, rfl, Ext.refl _ _⟩
      · simp
      · go_simp
        try rfl
      apply owed_walk rfl
      · intro w1 hw hf
        obtain ⟨r0, r1, r2⟩ := (hr3.ext hw.ofDrew (fun x => x)).cells
        have x0 : w1.cell? ⟨bx, 0, none⟩ = some (.pointer (some ⟨g, 0, none⟩)) := blk_cell (ext_heapD hw hbx3 (fun x => x)) 0
        go_wp2
        exact ⟨rfl, rfl, Ext.refl _ _⟩
      · simp
      · go_simp
        try rfl
      apply owed_walk rfl
      · intro w1 hw hf
        obtain ⟨r0, r1, r2⟩ := (hr3.ext hw.ofDrew (fun x => x)).cells
        have x0 : w1.cell? ⟨bx, 0, none⟩ = some (.pointer (some ⟨g, 0, none⟩)) := blk_cell (ext_heapD hw hbx3 (fun x => x)) 0
        go_wp2
        exact ⟨rfl, rfl, Ext.refl _ _⟩
      · simp
      · go_simp
        try rfl
      apply owed_walk rfl
      · intro w1 hw hf
        obtain ⟨r0, r1, r2⟩ := (hr3.ext hw.ofDrew (fun x => x)).cells
        have x0 : w1.cell? ⟨bx, 0, none⟩ = some (.pointer (some ⟨g, 0, none⟩)) := blk_cell (ext_heapD hw hbx3 (fun x => x)) 0
        go_wp2
        exact ⟨rfl, rfl, Ext.refl _ _⟩
      · simp
      · go_simp
        try rfl
      apply owed_walk rfl
      · intro w1 hw hf
        obtain ⟨r0, r1, r2⟩ := (hr3.ext hw.ofDrew (fun x => x)).cells
        have x0 : w1.cell? ⟨bx, 0, none⟩ = some (.pointer (some ⟨g, 0, none⟩)) := blk_cell (ext_heapD hw hbx3 (fun x => x)) 0
        go_wp2
        exact ⟨rfl, rfl, Ext.refl _ _⟩
      · simp
      · go_simp
        try rfl
      apply owed_walk rfl
      · intro w1 hw hf
        obtain ⟨r0, r1, r2⟩ := (hr3.ext hw.ofDrew (fun x => x)).cells
        have x0 : w1.cell? ⟨bx, 0, none⟩ = some (.pointer (some ⟨g, 0, none⟩)) := blk_cell (ext_heapD hw hbx3 (fun x => x)) 0
        go_wp2
        exact ⟨rfl, rfl, Ext.refl _ _⟩
      · simp
      · go_simp
        try rfl
      apply owed_walk rfl
      · intro w1 hw hf
        obtain ⟨r0, r1, r2⟩ := (hr3.ext hw.ofDrew (fun x => x)).cells
        have x0 : w1.cell? ⟨bx, 0, none⟩ = some (.pointer (some ⟨g, 0, none⟩)) := blk_cell (ext_heapD hw hbx3 (fun x => x)) 0
        go_wp2
        exact ⟨rfl, rfl, Ext.refl _ _⟩
      · simp
      · go_simp
        try rfl
      apply owed_walk rfl
      · intro w1 hw hf
        obtain ⟨r0, r1, r2⟩ := (hr3.ext hw.ofDrew (fun x => x)).cells
        have x0 : w1.cell? ⟨bx, 0, none⟩ = some (.pointer (some ⟨g, 0, none⟩)) := blk_cell (ext_heapD hw hbx3 (fun x => x)) 0
        go_wp2
        exact ⟨rfl, rfl, Ext.refl _ _⟩
      · simp
      · go_simp
        try rfl
      apply owed_walk rfl
      · intro w1 hw hf
        obtain ⟨r0, r1, r2⟩ := (hr3.ext hw.ofDrew (fun x => x)).cells
        have x0 : w1.cell? ⟨bx, 0, none⟩ = some (.pointer (some ⟨g, 0, none⟩)) := blk_cell (ext_heapD hw hbx3 (fun x => x)) 0
        go_wp2
        exact ⟨rfl, rfl, Ext.refl _ _⟩
      · simp
      · go_simp
        try rfl
      apply owed_walk rfl
      · intro w1 hw hf
        obtain ⟨r0, r1, r2⟩ := (hr3.ext hw.ofDrew (fun x => x)).cells
        have x0 : w1.cell? ⟨bx, 0, none⟩ = some (.pointer (some ⟨g, 0, none⟩)) := blk_cell (ext_heapD hw hbx3 (fun x => x)) 0
        go_wp2
        exact ⟨rfl, rfl, Ext.refl _ _⟩
      · simp
      · go_simp
        try rfl
      apply owed_walk rfl
      · intro w1 hw hf
        obtain ⟨r0, r1, r2⟩ := (hr3.ext hw.ofDrew (fun x => x)).cells
        have x0 : w1.cell? ⟨bx, 0, none⟩ = some (.pointer (some ⟨g, 0, none⟩)) := blk_cell (ext_heapD hw hbx3 (fun x => x)) 0
        go_wp2
        exact ⟨rfl, rfl, Ext.refl _ _⟩
      · simp
      · go_simp
        try rfl
      apply owed_walk rfl
      · intro w1 hw hf
        obtain ⟨r0, r1, r2⟩ := (hr3.ext hw.ofDrew (fun x => x)).cells
        have x0 : w1.cell? ⟨bx, 0, none⟩ = some (.pointer (some ⟨g, 0, none⟩)) := blk_cell (ext_heapD hw hbx3 (fun x => x)) 0
        go_wp2
        exact ⟨rfl, rfl, Ext.refl _ _⟩
      · simp
      · go_simp
        try rfl
      apply owed_end
      intro w2 hw _
      refine Tail.nil rfl ?_
      go_wp2
      go_ret
      refine ⟨hx3.trans (hw.ofDrew.up _), ?_⟩
      rw [HR.out, whileR, ← hW0.out, hW1.out]
      exact ⟨rfl, hr3.ext hw.ofDrew (fun x => x)⟩

end Go.Proofs.Ytejialnbelleeaa
