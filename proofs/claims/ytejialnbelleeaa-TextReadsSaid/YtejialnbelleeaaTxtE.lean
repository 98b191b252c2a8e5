/-
  Package text: Want.
-/
import Derived.Test.YtejialnbelleeaaTxtD
namespace Go.Proofs.Ytejialnbelleeaa
open Go Go.RowKit

/-- The byte at a place (0 behind the end). -/
def byteA (s : ByteArray) (i : Nat) : Nat := if h : i < s.size then (s[i]'h).toNat else 0
theorem byteA_eq {s : ByteArray} {i : Nat} (h : i < s.size) : ((s[i]'h).toNat : Int) = (byteA s i : Int) := by unfold byteA; rw [dif_pos h]
theorem byteA_lt (s : ByteArray) (i : Nat) : byteA s i < 256 := by
  unfold byteA; split
  · exact (s[i]).toNat_lt
  · decide

/-- Where a word, from its byte k on, does not stand any more. -/
def wantF (s word : ByteArray) (p : Nat) : Nat → Nat → Option Nat
  | 0, _ => none
  | n + 1, k => if p + k = s.size ∨ byteA s (p + k) ≠ byteA word k then some k else wantF s word p n (k + 1)
def wantR (s word : ByteArray) (p : Nat) : Res Bool := match wantF s word p word.size 0 with
  | some k => .fail (p + k) 130
  | none => .ok true (p + word.size)

set_option maxHeartbeats 4000000 in
theorem Want1_any (g p bx bw : Nat) (s word : ByteArray) (w : World) (hr : RdAt w g s p 0) (hbx : w.heap[bx]? = some (.cells #[.pointer (some ⟨g, 0, none⟩)] 29 (0, 0))) (hp : p ≤ s.size) (hs : s.size ≤ 140737488351232)
    (hbw : w.heap[bw]? = some (.cells #[.string word] 9 (0, 0))) (hw0 : word.size ≤ 140737488351232) :
    Calls Try.prog 38 #[.pointer (some ⟨bx, 0, none⟩), .pointer (some ⟨bw, 0, none⟩)] w fun e w' => Ext (G1 g) w w' ∧ (wantR s word p).out boolV g s e w' := by
  obtain ⟨r0, r1, r2⟩ := hr.cells
  have x0 : w.cell? ⟨bx, 0, none⟩ = some (.pointer (some ⟨g, 0, none⟩)) := blk_cell hbx 0
  have y0 : w.cell? ⟨bw, 0, none⟩ = some (.string word) := blk_cell hbw 0
  obtain ⟨res, hres⟩ : ∃ res, res = wantR s word p := ⟨_, rfl⟩
  have HRES := Lib.hid hres
  rw [← hres]
  clear hres
  go_enter Try.func38, Try.ntmps38
  go_wp2
  clear r0 r1 r2 x0 y0
  go_loopw [12] (fun i wr => ∃ k : Nat, k ≤ word.size ∧ i = .int .i64 (k : Int) ∧ p + k ≤ s.size ∧ wantF s word p (word.size - k) k = wantF s word p word.size 0 ∧ Ext G0 w wr) (fun i _ => word.size - (intOf i).toNat)
  case atStart => exact ⟨0, Nat.zero_le _, rfl, hp, rfl, Ext.refl _ _⟩
  case round =>
    obtain ⟨k, hk, rfl, hpk, hF, hx⟩ := hrel
    have hr2 := hr.ext hx (fun x => x)
    have hbx2 := ext_heap hx hbx (fun x => x)
    have hbw2 := ext_heap hx hbw (fun x => x)
    obtain ⟨q, hq⟩ : ∃ q : Nat, q = p + k := ⟨_, rfl⟩
    rw [← hq] at hpk
    have hqi : (p : Int) + (k : Int) = (q : Int) := by omega
    have s1 := IntWalk.i64_in (q : Int) (by omega)
    by_cases hlt : k < word.size
    · have hF1 : wantF s word p (word.size - k) k = if p + k = s.size ∨ byteA s (p + k) ≠ byteA word k then some k else wantF s word p (word.size - (k + 1)) (k + 1) := by
        obtain ⟨d, hd⟩ : ∃ d, word.size - k = d + 1 := ⟨word.size - k - 1, by omega⟩
        rw [hd, show word.size - (k + 1) = d by omega]
        rfl
      rw [hF1, ← hq] at hF
      have HF := Lib.hid hF
      have HQ := Lib.hid hq
      clear hF hF1 hq
      by_cases he : q = s.size
      · have h1 : ((q : Int) == (s.size : Int)) = true := by simp [he]
        have he' := Lib.hid he
        clear he
        go_wp2_with fail
        apply region_phi (leaves := (Leaf.val _) :: (Leaf.val _) :: (Leaf.val _) :: (Leaf.val _) :: (Leaf.val _) :: (Leaf.val _) :: (Leaf.val _) :: (Leaf.val _) :: (Leaf.val _) :: (Leaf.val _) :: (Leaf.val _) :: (Leaf.val _) :: (Leaf.val _) :: (Leaf.val _) :: (Leaf.val _) :: (Leaf.val _) :: (Leaf.val _) :: (Leaf.val _) :: (Leaf.val _) :: (Leaf.val _) :: (Leaf.val _) :: (Leaf.val _) :: (Leaf.val _) :: (Leaf.val _) :: (Leaf.val _) :: ([] : List Leaf)) (k := 25) (b := #[0, 0, 3, 0, 8, 24, 56, 120, 248, 511, 1023, 2047, 4095, 8191, 16383, 32767, 2047, 2047, 198655, 524287, 2047, 2047, 3147775, 8388607, 16777215]) (ms := []) (E := Ext G0) mixed (by kernel_rfl) rfl (by kernel_rfl) rfl
        apply owed_walk rfl
        · intro w1 hw hf
          obtain ⟨r0, r1, r2⟩ := (hr2.ext hw.ofDrew (fun x => x)).cells
          have x0 : w1.cell? ⟨bx, 0, none⟩ = some (.pointer (some ⟨g, 0, none⟩)) := blk_cell (ext_heapD hw hbx2 (fun x => x)) 0
          have y0 : w1.cell? ⟨bw, 0, none⟩ = some (.string word) := blk_cell (ext_heapD hw hbw2 (fun x => x)) 0
          go_wp2
          exact ⟨rfl, rfl, Ext.refl _ _⟩
        · simp
        · go_simp
          try rfl
        apply owed_walk rfl
        · intro w1 hw hf
          obtain ⟨r0, r1, r2⟩ := (hr2.ext hw.ofDrew (fun x => x)).cells
          have x0 : w1.cell? ⟨bx, 0, none⟩ = some (.pointer (some ⟨g, 0, none⟩)) := blk_cell (ext_heapD hw hbx2 (fun x => x)) 0
          have y0 : w1.cell? ⟨bw, 0, none⟩ = some (.string word) := blk_cell (ext_heapD hw hbw2 (fun x => x)) 0
          go_wp2
          exact ⟨rfl, rfl, Ext.refl _ _⟩
        · simp
        · go_simp
          try rfl
        apply owed_walk rfl
        · intro w1 hw hf
          obtain ⟨r0, r1, r2⟩ := (hr2.ext hw.ofDrew (fun x => x)).cells
          have x0 : w1.cell? ⟨bx, 0, none⟩ = some (.pointer (some ⟨g, 0, none⟩)) := blk_cell (ext_heapD hw hbx2 (fun x => x)) 0
          have y0 : w1.cell? ⟨bw, 0, none⟩ = some (.string word) := blk_cell (ext_heapD hw hbw2 (fun x => x)) 0
          go_wp2
          exact ⟨rfl, rfl, Ext.refl _ _⟩
        · simp
        · go_simp
          try rfl
        apply owed_walk rfl
        · intro w1 hw hf
          obtain ⟨r0, r1, r2⟩ := (hr2.ext hw.ofDrew (fun x => x)).cells
          have x0 : w1.cell? ⟨bx, 0, none⟩ = some (.pointer (some ⟨g, 0, none⟩)) := blk_cell (ext_heapD hw hbx2 (fun x => x)) 0
          have y0 : w1.cell? ⟨bw, 0, none⟩ = some (.string word) := blk_cell (ext_heapD hw hbw2 (fun x => x)) 0
          go_wp2
          exact ⟨rfl, rfl, Ext.refl _ _⟩
        · simp
        · go_simp
          try rfl
        apply owed_walk rfl
        · intro w1 hw hf
          obtain ⟨r0, r1, r2⟩ := (hr2.ext hw.ofDrew (fun x => x)).cells
          have x0 : w1.cell? ⟨bx, 0, none⟩ = some (.pointer (some ⟨g, 0, none⟩)) := blk_cell (ext_heapD hw hbx2 (fun x => x)) 0
          have y0 : w1.cell? ⟨bw, 0, none⟩ = some (.string word) := blk_cell (ext_heapD hw hbw2 (fun x => x)) 0
          go_wp2
          exact ⟨rfl, rfl, Ext.refl _ _⟩
        · simp
        · go_simp
          try rfl
        apply owed_walk rfl
        · intro w1 hw hf
          obtain ⟨r0, r1, r2⟩ := (hr2.ext hw.ofDrew (fun x => x)).cells
          have x0 : w1.cell? ⟨bx, 0, none⟩ = some (.pointer (some ⟨g, 0, none⟩)) := blk_cell (ext_heapD hw hbx2 (fun x => x)) 0
          have y0 : w1.cell? ⟨bw, 0, none⟩ = some (.string word) := blk_cell (ext_heapD hw hbw2 (fun x => x)) 0
          go_wp2
          exact ⟨rfl, rfl, Ext.refl _ _⟩
        · simp
        · go_simp
          try rfl
        apply owed_walk rfl
        · intro w1 hw hf
          obtain ⟨r0, r1, r2⟩ := (hr2.ext hw.ofDrew (fun x => x)).cells
          have x0 : w1.cell? ⟨bx, 0, none⟩ = some (.pointer (some ⟨g, 0, none⟩)) := blk_cell (ext_heapD hw hbx2 (fun x => x)) 0
          have y0 : w1.cell? ⟨bw, 0, none⟩ = some (.string word) := blk_cell (ext_heapD hw hbw2 (fun x => x)) 0
          go_wp2
          exact ⟨rfl, rfl, Ext.refl _ _⟩
        · simp
        · go_simp
          try rfl
        apply owed_walk rfl
        · intro w1 hw hf
          obtain ⟨r0, r1, r2⟩ := (hr2.ext hw.ofDrew (fun x => x)).cells
          have x0 : w1.cell? ⟨bx, 0, none⟩ = some (.pointer (some ⟨g, 0, none⟩)) := blk_cell (ext_heapD hw hbx2 (fun x => x)) 0
          have y0 : w1.cell? ⟨bw, 0, none⟩ = some (.string word) := blk_cell (ext_heapD hw hbw2 (fun x => x)) 0
          go_wp2
          exact ⟨rfl, rfl, Ext.refl _ _⟩
        · simp
        · go_simp
          try rfl
        apply owed_walk rfl
        · intro w1 hw hf
          obtain ⟨r0, r1, r2⟩ := (hr2.ext hw.ofDrew (fun x => x)).cells
          have x0 : w1.cell? ⟨bx, 0, none⟩ = some (.pointer (some ⟨g, 0, none⟩)) := blk_cell (ext_heapD hw hbx2 (fun x => x)) 0
          have y0 : w1.cell? ⟨bw, 0, none⟩ = some (.string word) := blk_cell (ext_heapD hw hbw2 (fun x => x)) 0
          go_wp2
          exact ⟨rfl, rfl, Ext.refl _ _⟩
        · simp
        · go_simp
          try rfl
        apply owed_walk rfl
        · intro w1 hw hf
          obtain ⟨r0, r1, r2⟩ := (hr2.ext hw.ofDrew (fun x => x)).cells
          have x0 : w1.cell? ⟨bx, 0, none⟩ = some (.pointer (some ⟨g, 0, none⟩)) := blk_cell (ext_heapD hw hbx2 (fun x => x)) 0
          have y0 : w1.cell? ⟨bw, 0, none⟩ = some (.string word) := blk_cell (ext_heapD hw hbw2 (fun x => x)) 0
          go_wp2
          exact ⟨rfl, rfl, Ext.refl _ _⟩
        · simp
        · go_simp
          try rfl
        apply owed_walk rfl
        · intro w1 hw hf
          obtain ⟨r0, r1, r2⟩ := (hr2.ext hw.ofDrew (fun x => x)).cells
          have x0 : w1.cell? ⟨bx, 0, none⟩ = some (.pointer (some ⟨g, 0, none⟩)) := blk_cell (ext_heapD hw hbx2 (fun x => x)) 0
          have y0 : w1.cell? ⟨bw, 0, none⟩ = some (.string word) := blk_cell (ext_heapD hw hbw2 (fun x => x)) 0
          go_wp2
          exact ⟨rfl, rfl, Ext.refl _ _⟩
        · simp
        · go_simp
          try rfl
        apply owed_walk rfl
        · intro w1 hw hf
          obtain ⟨r0, r1, r2⟩ := (hr2.ext hw.ofDrew (fun x => x)).cells
          have x0 : w1.cell? ⟨bx, 0, none⟩ = some (.pointer (some ⟨g, 0, none⟩)) := blk_cell (ext_heapD hw hbx2 (fun x => x)) 0
          have y0 : w1.cell? ⟨bw, 0, none⟩ = some (.string word) := blk_cell (ext_heapD hw hbw2 (fun x => x)) 0
          go_wp2
          exact ⟨rfl, rfl, Ext.refl _ _⟩
        · simp
        · go_simp
          try rfl
        apply owed_walk rfl
        · intro w1 hw hf
          obtain ⟨r0, r1, r2⟩ := (hr2.ext hw.ofDrew (fun x => x)).cells
          have x0 : w1.cell? ⟨bx, 0, none⟩ = some (.pointer (some ⟨g, 0, none⟩)) := blk_cell (ext_heapD hw hbx2 (fun x => x)) 0
          have y0 : w1.cell? ⟨bw, 0, none⟩ = some (.string word) := blk_cell (ext_heapD hw hbw2 (fun x => x)) 0
          go_wp2
          exact ⟨rfl, rfl, Ext.refl _ _⟩
        · simp
        · go_simp
          try rfl
        apply owed_walk rfl
        · intro w1 hw hf
          obtain ⟨r0, r1, r2⟩ := (hr2.ext hw.ofDrew (fun x => x)).cells
          have x0 : w1.cell? ⟨bx, 0, none⟩ = some (.pointer (some ⟨g, 0, none⟩)) := blk_cell (ext_heapD hw hbx2 (fun x => x)) 0
          have y0 : w1.cell? ⟨bw, 0, none⟩ = some (.string word) := blk_cell (ext_heapD hw hbw2 (fun x => x)) 0
          go_wp2
          exact ⟨rfl, rfl, Ext.refl _ _⟩
        · simp
        · go_simp
          try rfl
        apply owed_walk rfl
        · intro w1 hw hf
          obtain ⟨r0, r1, r2⟩ := (hr2.ext hw.ofDrew (fun x => x)).cells
          have x0 : w1.cell? ⟨bx, 0, none⟩ = some (.pointer (some ⟨g, 0, none⟩)) := blk_cell (ext_heapD hw hbx2 (fun x => x)) 0
          have y0 : w1.cell? ⟨bw, 0, none⟩ = some (.string word) := blk_cell (ext_heapD hw hbw2 (fun x => x)) 0
          go_wp2
          exact ⟨rfl, rfl, Ext.refl _ _⟩
        · simp
        · go_simp
          try rfl
        apply owed_walk rfl
        · intro w1 hw hf
          obtain ⟨r0, r1, r2⟩ := (hr2.ext hw.ofDrew (fun x => x)).cells
          have x0 : w1.cell? ⟨bx, 0, none⟩ = some (.pointer (some ⟨g, 0, none⟩)) := blk_cell (ext_heapD hw hbx2 (fun x => x)) 0
          have y0 : w1.cell? ⟨bw, 0, none⟩ = some (.string word) := blk_cell (ext_heapD hw hbw2 (fun x => x)) 0
          go_wp2
          exact ⟨rfl, rfl, Ext.refl _ _⟩
        · simp
        · go_simp
          try rfl
        apply owed_walk rfl
        · intro w1 hw hf
          obtain ⟨r0, r1, r2⟩ := (hr2.ext hw.ofDrew (fun x => x)).cells
          have x0 : w1.cell? ⟨bx, 0, none⟩ = some (.pointer (some ⟨g, 0, none⟩)) := blk_cell (ext_heapD hw hbx2 (fun x => x)) 0
          have y0 : w1.cell? ⟨bw, 0, none⟩ = some (.string word) := blk_cell (ext_heapD hw hbw2 (fun x => x)) 0
          go_wp2
          exact ⟨rfl, rfl, Ext.refl _ _⟩
        · simp
        · go_simp
          try rfl
        apply owed_walk rfl
        · intro w1 hw hf
          obtain ⟨r0, r1, r2⟩ := (hr2.ext hw.ofDrew (fun x => x)).cells
          have x0 : w1.cell? ⟨bx, 0, none⟩ = some (.pointer (some ⟨g, 0, none⟩)) := blk_cell (ext_heapD hw hbx2 (fun x => x)) 0
          have y0 : w1.cell? ⟨bw, 0, none⟩ = some (.string word) := blk_cell (ext_heapD hw hbw2 (fun x => x)) 0
          go_wp2
          exact ⟨rfl, rfl, Ext.refl _ _⟩
        · simp
        · go_simp
          try rfl
        apply owed_walk rfl
        · intro w1 hw hf
          obtain ⟨r0, r1, r2⟩ := (hr2.ext hw.ofDrew (fun x => x)).cells
          have x0 : w1.cell? ⟨bx, 0, none⟩ = some (.pointer (some ⟨g, 0, none⟩)) := blk_cell (ext_heapD hw hbx2 (fun x => x)) 0
          have y0 : w1.cell? ⟨bw, 0, none⟩ = some (.string word) := blk_cell (ext_heapD hw hbw2 (fun x => x)) 0
          go_wp2
          exact ⟨rfl, rfl, Ext.refl _ _⟩
        · simp
        · go_simp
          try rfl
        apply owed_walk rfl
        · intro w1 hw hf
          obtain ⟨r0, r1, r2⟩ := (hr2.ext hw.ofDrew (fun x => x)).cells
          have x0 : w1.cell? ⟨bx, 0, none⟩ = some (.pointer (some ⟨g, 0, none⟩)) := blk_cell (ext_heapD hw hbx2 (fun x => x)) 0
          have y0 : w1.cell? ⟨bw, 0, none⟩ = some (.string word) := blk_cell (ext_heapD hw hbw2 (fun x => x)) 0
          go_wp2
          exact ⟨rfl, rfl, Ext.refl _ _⟩
        · simp
        · go_simp
          try rfl
        apply owed_walk rfl
        · intro w1 hw hf
          obtain ⟨r0, r1, r2⟩ := (hr2.ext hw.ofDrew (fun x => x)).cells
          have x0 : w1.cell? ⟨bx, 0, none⟩ = some (.pointer (some ⟨g, 0, none⟩)) := blk_cell (ext_heapD hw hbx2 (fun x => x)) 0
          have y0 : w1.cell? ⟨bw, 0, none⟩ = some (.string word) := blk_cell (ext_heapD hw hbw2 (fun x => x)) 0
          go_wp2
          exact ⟨rfl, rfl, Ext.refl _ _⟩
        · simp
        · go_simp
          try rfl
        apply owed_walk rfl
        · intro w1 hw hf
          obtain ⟨r0, r1, r2⟩ := (hr2.ext hw.ofDrew (fun x => x)).cells
          have x0 : w1.cell? ⟨bx, 0, none⟩ = some (.pointer (some ⟨g, 0, none⟩)) := blk_cell (ext_heapD hw hbx2 (fun x => x)) 0
          have y0 : w1.cell? ⟨bw, 0, none⟩ = some (.string word) := blk_cell (ext_heapD hw hbw2 (fun x => x)) 0
          go_wp2
          exact ⟨rfl, rfl, Ext.refl _ _⟩
        · simp
        · go_simp
          try rfl
        apply owed_walk rfl
        · intro w1 hw hf
          obtain ⟨r0, r1, r2⟩ := (hr2.ext hw.ofDrew (fun x => x)).cells
          have x0 : w1.cell? ⟨bx, 0, none⟩ = some (.pointer (some ⟨g, 0, none⟩)) := blk_cell (ext_heapD hw hbx2 (fun x => x)) 0
          have y0 : w1.cell? ⟨bw, 0, none⟩ = some (.string word) := blk_cell (ext_heapD hw hbw2 (fun x => x)) 0
          go_wp2
          exact ⟨rfl, rfl, Ext.refl _ _⟩
        · simp
        · go_simp
          try rfl
        apply owed_walk rfl
        · intro w1 hw hf
          obtain ⟨r0, r1, r2⟩ := (hr2.ext hw.ofDrew (fun x => x)).cells
          have x0 : w1.cell? ⟨bx, 0, none⟩ = some (.pointer (some ⟨g, 0, none⟩)) := blk_cell (ext_heapD hw hbx2 (fun x => x)) 0
          have y0 : w1.cell? ⟨bw, 0, none⟩ = some (.string word) := blk_cell (ext_heapD hw hbw2 (fun x => x)) 0
          go_wp2
          exact ⟨rfl, rfl, Ext.refl _ _⟩
        · simp
        · go_simp
          try rfl
        apply owed_walk rfl
        · intro w1 hw hf
          obtain ⟨r0, r1, r2⟩ := (hr2.ext hw.ofDrew (fun x => x)).cells
          have x0 : w1.cell? ⟨bx, 0, none⟩ = some (.pointer (some ⟨g, 0, none⟩)) := blk_cell (ext_heapD hw hbx2 (fun x => x)) 0
          have y0 : w1.cell? ⟨bw, 0, none⟩ = some (.string word) := blk_cell (ext_heapD hw hbw2 (fun x => x)) 0
          go_wp2
          exact ⟨rfl, rfl, Ext.refl _ _⟩
        · simp
        · go_simp
          try rfl
        apply owed_end
        intro w1 hw _
        refine Tail.nil rfl ?_
        go_wp2_with fail
        refine (wrong_any q _).mono ?_
        rintro e w2 ⟨rfl, rfl⟩
        go_wp2
        refine ⟨rfl, (hx.trans hw.ofDrew).up _, ?_⟩
        rw [HRES.out, wantR, ← HF.out, if_pos (.inl he'.out)]
        exact ⟨p, by rw [HQ.out], hr2.ext hw.ofDrew (fun x => x)⟩
      · have hql : q < s.size := by omega
        have h1 : ((q : Int) == (s.size : Int)) = false := by simp; omega
        have i1 : (q : Int) < (s.size : Int) := by omega
        have i2 : (k : Int) < (word.size : Int) := by omega
        have e1 := byteA_eq hql
        have e2 := byteA_eq hlt
        have hE := Lib.hid he
        clear he
        by_cases hb : byteA s q = byteA word k
        · have h2 : ((byteA s q : Int) != (byteA word k : Int)) = false := by simp [hb]
          have HB := Lib.hid hb
          clear hb
          go_wp2_with fail
          apply region_phi (leaves := (Leaf.val _) :: (Leaf.val _) :: (Leaf.val _) :: (Leaf.val _) :: (Leaf.val _) :: (Leaf.val _) :: (Leaf.val _) :: (Leaf.val _) :: (Leaf.val _) :: (Leaf.val _) :: (Leaf.val _) :: (Leaf.val _) :: (Leaf.val _) :: (Leaf.val _) :: (Leaf.val _) :: (Leaf.val _) :: (Leaf.val _) :: (Leaf.val _) :: (Leaf.val _) :: (Leaf.val _) :: (Leaf.val _) :: (Leaf.val _) :: (Leaf.val _) :: (Leaf.val _) :: (Leaf.val _) :: ([] : List Leaf)) (k := 25) (b := #[0, 0, 3, 0, 8, 24, 56, 120, 248, 511, 1023, 2047, 4095, 8191, 16383, 32767, 2047, 2047, 198655, 524287, 2047, 2047, 3147775, 8388607, 16777215]) (ms := []) (E := Ext G0) mixed (by kernel_rfl) rfl (by kernel_rfl) rfl
          apply owed_walk rfl
          · intro w1 hw hf
            obtain ⟨r0, r1, r2⟩ := (hr2.ext hw.ofDrew (fun x => x)).cells
            have x0 : w1.cell? ⟨bx, 0, none⟩ = some (.pointer (some ⟨g, 0, none⟩)) := blk_cell (ext_heapD hw hbx2 (fun x => x)) 0
            have y0 : w1.cell? ⟨bw, 0, none⟩ = some (.string word) := blk_cell (ext_heapD hw hbw2 (fun x => x)) 0
            go_wp2
            exact ⟨rfl, rfl, Ext.refl _ _⟩
          · simp
          · go_simp
            try rfl
          apply owed_walk rfl
          · intro w1 hw hf
            obtain ⟨r0, r1, r2⟩ := (hr2.ext hw.ofDrew (fun x => x)).cells
            have x0 : w1.cell? ⟨bx, 0, none⟩ = some (.pointer (some ⟨g, 0, none⟩)) := blk_cell (ext_heapD hw hbx2 (fun x => x)) 0
            have y0 : w1.cell? ⟨bw, 0, none⟩ = some (.string word) := blk_cell (ext_heapD hw hbw2 (fun x => x)) 0
            go_wp2
            exact ⟨rfl, rfl, Ext.refl _ _⟩
          · simp
          · go_simp
            try rfl
          apply owed_walk rfl
          · intro w1 hw hf
            obtain ⟨r0, r1, r2⟩ := (hr2.ext hw.ofDrew (fun x => x)).cells
            have x0 : w1.cell? ⟨bx, 0, none⟩ = some (.pointer (some ⟨g, 0, none⟩)) := blk_cell (ext_heapD hw hbx2 (fun x => x)) 0
            have y0 : w1.cell? ⟨bw, 0, none⟩ = some (.string word) := blk_cell (ext_heapD hw hbw2 (fun x => x)) 0
            go_wp2
            exact ⟨rfl, rfl, Ext.refl _ _⟩
          · simp
          · go_simp
            try rfl
          apply owed_walk rfl
          · intro w1 hw hf
            obtain ⟨r0, r1, r2⟩ := (hr2.ext hw.ofDrew (fun x => x)).cells
            have x0 : w1.cell? ⟨bx, 0, none⟩ = some (.pointer (some ⟨g, 0, none⟩)) := blk_cell (ext_heapD hw hbx2 (fun x => x)) 0
            have y0 : w1.cell? ⟨bw, 0, none⟩ = some (.string word) := blk_cell (ext_heapD hw hbw2 (fun x => x)) 0
            go_wp2
            exact ⟨rfl, rfl, Ext.refl _ _⟩
          · simp
          · go_simp
            try rfl
          apply owed_walk rfl
          · intro w1 hw hf
            obtain ⟨r0, r1, r2⟩ := (hr2.ext hw.ofDrew (fun x => x)).cells
            have x0 : w1.cell? ⟨bx, 0, none⟩ = some (.pointer (some ⟨g, 0, none⟩)) := blk_cell (ext_heapD hw hbx2 (fun x => x)) 0
            have y0 : w1.cell? ⟨bw, 0, none⟩ = some (.string word) := blk_cell (ext_heapD hw hbw2 (fun x => x)) 0
            go_wp2
            exact ⟨rfl, rfl, Ext.refl _ _⟩
          · simp
          · go_simp
            try rfl
          apply owed_walk rfl
          · intro w1 hw hf
            obtain ⟨r0, r1, r2⟩ := (hr2.ext hw.ofDrew (fun x => x)).cells
            have x0 : w1.cell? ⟨bx, 0, none⟩ = some (.pointer (some ⟨g, 0, none⟩)) := blk_cell (ext_heapD hw hbx2 (fun x => x)) 0
            have y0 : w1.cell? ⟨bw, 0, none⟩ = some (.string word) := blk_cell (ext_heapD hw hbw2 (fun x => x)) 0
            go_wp2
            exact ⟨rfl, rfl, Ext.refl _ _⟩
          · simp
          · go_simp
            try rfl
          apply owed_walk rfl
          · intro w1 hw hf
            obtain ⟨r0, r1, r2⟩ := (hr2.ext hw.ofDrew (fun x => x)).cells
            have x0 : w1.cell? ⟨bx, 0, none⟩ = some (.pointer (some ⟨g, 0, none⟩)) := blk_cell (ext_heapD hw hbx2 (fun x => x)) 0
            have y0 : w1.cell? ⟨bw, 0, none⟩ = some (.string word) := blk_cell (ext_heapD hw hbw2 (fun x => x)) 0
            go_wp2
            exact ⟨rfl, rfl, Ext.refl _ _⟩
          · simp
          · go_simp
            try rfl
          apply owed_walk rfl
          · intro w1 hw hf
            obtain ⟨r0, r1, r2⟩ := (hr2.ext hw.ofDrew (fun x => x)).cells
            have x0 : w1.cell? ⟨bx, 0, none⟩ = some (.pointer (some ⟨g, 0, none⟩)) := blk_cell (ext_heapD hw hbx2 (fun x => x)) 0
            have y0 : w1.cell? ⟨bw, 0, none⟩ = some (.string word) := blk_cell (ext_heapD hw hbw2 (fun x => x)) 0
            go_wp2
            exact ⟨rfl, rfl, Ext.refl _ _⟩
          · simp
          · go_simp
            try rfl
          apply owed_walk rfl
          · intro w1 hw hf
            obtain ⟨r0, r1, r2⟩ := (hr2.ext hw.ofDrew (fun x => x)).cells
            have x0 : w1.cell? ⟨bx, 0, none⟩ = some (.pointer (some ⟨g, 0, none⟩)) := blk_cell (ext_heapD hw hbx2 (fun x => x)) 0
            have y0 : w1.cell? ⟨bw, 0, none⟩ = some (.string word) := blk_cell (ext_heapD hw hbw2 (fun x => x)) 0
            go_wp2
            exact ⟨rfl, rfl, Ext.refl _ _⟩
          · simp
          · go_simp
            try rfl
          apply owed_walk rfl
          · intro w1 hw hf
            obtain ⟨r0, r1, r2⟩ := (hr2.ext hw.ofDrew (fun x => x)).cells
            have x0 : w1.cell? ⟨bx, 0, none⟩ = some (.pointer (some ⟨g, 0, none⟩)) := blk_cell (ext_heapD hw hbx2 (fun x => x)) 0
            have y0 : w1.cell? ⟨bw, 0, none⟩ = some (.string word) := blk_cell (ext_heapD hw hbw2 (fun x => x)) 0
            go_wp2
            exact ⟨rfl, rfl, Ext.refl _ _⟩
          · simp
          · go_simp
            try rfl
          apply owed_walk rfl
          · intro w1 hw hf
            obtain ⟨r0, r1, r2⟩ := (hr2.ext hw.ofDrew (fun x => x)).cells
            have x0 : w1.cell? ⟨bx, 0, none⟩ = some (.pointer (some ⟨g, 0, none⟩)) := blk_cell (ext_heapD hw hbx2 (fun x => x)) 0
            have y0 : w1.cell? ⟨bw, 0, none⟩ = some (.string word) := blk_cell (ext_heapD hw hbw2 (fun x => x)) 0
            go_wp2
            exact ⟨rfl, rfl, Ext.refl _ _⟩
          · simp
          · go_simp
            try rfl
          apply owed_walk rfl
          · intro w1 hw hf
            obtain ⟨r0, r1, r2⟩ := (hr2.ext hw.ofDrew (fun x => x)).cells
            have x0 : w1.cell? ⟨bx, 0, none⟩ = some (.pointer (some ⟨g, 0, none⟩)) := blk_cell (ext_heapD hw hbx2 (fun x => x)) 0
            have y0 : w1.cell? ⟨bw, 0, none⟩ = some (.string word) := blk_cell (ext_heapD hw hbw2 (fun x => x)) 0
            go_wp2
            exact ⟨rfl, rfl, Ext.refl _ _⟩
          · simp
          · go_simp
            try rfl
          apply owed_walk rfl
          · intro w1 hw hf
            obtain ⟨r0, r1, r2⟩ := (hr2.ext hw.ofDrew (fun x => x)).cells
            have x0 : w1.cell? ⟨bx, 0, none⟩ = some (.pointer (some ⟨g, 0, none⟩)) := blk_cell (ext_heapD hw hbx2 (fun x => x)) 0
            have y0 : w1.cell? ⟨bw, 0, none⟩ = some (.string word) := blk_cell (ext_heapD hw hbw2 (fun x => x)) 0
            go_wp2
            exact ⟨rfl, rfl, Ext.refl _ _⟩
          · simp
          · go_simp
            try rfl
          apply owed_walk rfl
          · intro w1 hw hf
            obtain ⟨r0, r1, r2⟩ := (hr2.ext hw.ofDrew (fun x => x)).cells
            have x0 : w1.cell? ⟨bx, 0, none⟩ = some (.pointer (some ⟨g, 0, none⟩)) := blk_cell (ext_heapD hw hbx2 (fun x => x)) 0
            have y0 : w1.cell? ⟨bw, 0, none⟩ = some (.string word) := blk_cell (ext_heapD hw hbw2 (fun x => x)) 0
            go_wp2
            exact ⟨rfl, rfl, Ext.refl _ _⟩
          · simp
          · go_simp
            try rfl
          apply owed_walk rfl
          · intro w1 hw hf
            obtain ⟨r0, r1, r2⟩ := (hr2.ext hw.ofDrew (fun x => x)).cells
            have x0 : w1.cell? ⟨bx, 0, none⟩ = some (.pointer (some ⟨g, 0, none⟩)) := blk_cell (ext_heapD hw hbx2 (fun x => x)) 0
            have y0 : w1.cell? ⟨bw, 0, none⟩ = some (.string word) := blk_cell (ext_heapD hw hbw2 (fun x => x)) 0
            go_wp2
            exact ⟨rfl, rfl, Ext.refl _ _⟩
          · simp
          · go_simp
            try rfl
          apply owed_walk rfl
          · intro w1 hw hf
            obtain ⟨r0, r1, r2⟩ := (hr2.ext hw.ofDrew (fun x => x)).cells
            have x0 : w1.cell? ⟨bx, 0, none⟩ = some (.pointer (some ⟨g, 0, none⟩)) := blk_cell (ext_heapD hw hbx2 (fun x => x)) 0
            have y0 : w1.cell? ⟨bw, 0, none⟩ = some (.string word) := blk_cell (ext_heapD hw hbw2 (fun x => x)) 0
            go_wp2
            exact ⟨rfl, rfl, Ext.refl _ _⟩
          · simp
          · go_simp
            try rfl
          apply owed_walk rfl
          · intro w1 hw hf
            obtain ⟨r0, r1, r2⟩ := (hr2.ext hw.ofDrew (fun x => x)).cells
            have x0 : w1.cell? ⟨bx, 0, none⟩ = some (.pointer (some ⟨g, 0, none⟩)) := blk_cell (ext_heapD hw hbx2 (fun x => x)) 0
            have y0 : w1.cell? ⟨bw, 0, none⟩ = some (.string word) := blk_cell (ext_heapD hw hbw2 (fun x => x)) 0
            go_wp2
            exact ⟨rfl, rfl, Ext.refl _ _⟩
          · simp
          · go_simp
            try rfl
          apply owed_walk rfl
          · intro w1 hw hf
            obtain ⟨r0, r1, r2⟩ := (hr2.ext hw.ofDrew (fun x => x)).cells
            have x0 : w1.cell? ⟨bx, 0, none⟩ = some (.pointer (some ⟨g, 0, none⟩)) := blk_cell (ext_heapD hw hbx2 (fun x => x)) 0
            have y0 : w1.cell? ⟨bw, 0, none⟩ = some (.string word) := blk_cell (ext_heapD hw hbw2 (fun x => x)) 0
            go_wp2
            exact ⟨rfl, rfl, Ext.refl _ _⟩
          · simp
          · go_simp
            try rfl
          apply owed_walk rfl
          · intro w1 hw hf
            obtain ⟨r0, r1, r2⟩ := (hr2.ext hw.ofDrew (fun x => x)).cells
            have x0 : w1.cell? ⟨bx, 0, none⟩ = some (.pointer (some ⟨g, 0, none⟩)) := blk_cell (ext_heapD hw hbx2 (fun x => x)) 0
            have y0 : w1.cell? ⟨bw, 0, none⟩ = some (.string word) := blk_cell (ext_heapD hw hbw2 (fun x => x)) 0
            go_wp2
            exact ⟨rfl, rfl, Ext.refl _ _⟩
          · simp
          · go_simp
            try rfl
          apply owed_walk rfl
          · intro w1 hw hf
            obtain ⟨r0, r1, r2⟩ := (hr2.ext hw.ofDrew (fun x => x)).cells
            have x0 : w1.cell? ⟨bx, 0, none⟩ = some (.pointer (some ⟨g, 0, none⟩)) := blk_cell (ext_heapD hw hbx2 (fun x => x)) 0
            have y0 : w1.cell? ⟨bw, 0, none⟩ = some (.string word) := blk_cell (ext_heapD hw hbw2 (fun x => x)) 0
            go_wp2
            exact ⟨rfl, rfl, Ext.refl _ _⟩
          · simp
          · go_simp
            try rfl
          apply owed_walk rfl
          · intro w1 hw hf
            obtain ⟨r0, r1, r2⟩ := (hr2.ext hw.ofDrew (fun x => x)).cells
            have x0 : w1.cell? ⟨bx, 0, none⟩ = some (.pointer (some ⟨g, 0, none⟩)) := blk_cell (ext_heapD hw hbx2 (fun x => x)) 0
            have y0 : w1.cell? ⟨bw, 0, none⟩ = some (.string word) := blk_cell (ext_heapD hw hbw2 (fun x => x)) 0
            go_wp2
            exact ⟨rfl, rfl, Ext.refl _ _⟩
          · simp
          · go_simp
            try rfl
          apply owed_walk rfl
          · intro w1 hw hf
            obtain ⟨r0, r1, r2⟩ := (hr2.ext hw.ofDrew (fun x => x)).cells
            have x0 : w1.cell? ⟨bx, 0, none⟩ = some (.pointer (some ⟨g, 0, none⟩)) := blk_cell (ext_heapD hw hbx2 (fun x => x)) 0
            have y0 : w1.cell? ⟨bw, 0, none⟩ = some (.string word) := blk_cell (ext_heapD hw hbw2 (fun x => x)) 0
            go_wp2
            exact ⟨rfl, rfl, Ext.refl _ _⟩
          · simp
          · go_simp
            try rfl
          apply owed_walk rfl
          · intro w1 hw hf
            obtain ⟨r0, r1, r2⟩ := (hr2.ext hw.ofDrew (fun x => x)).cells
            have x0 : w1.cell? ⟨bx, 0, none⟩ = some (.pointer (some ⟨g, 0, none⟩)) := blk_cell (ext_heapD hw hbx2 (fun x => x)) 0
            have y0 : w1.cell? ⟨bw, 0, none⟩ = some (.string word) := blk_cell (ext_heapD hw hbw2 (fun x => x)) 0
            go_wp2
            exact ⟨rfl, rfl, Ext.refl _ _⟩
          · simp
          · go_simp
            try rfl
          apply owed_walk rfl
          · intro w1 hw hf
            obtain ⟨r0, r1, r2⟩ := (hr2.ext hw.ofDrew (fun x => x)).cells
            have x0 : w1.cell? ⟨bx, 0, none⟩ = some (.pointer (some ⟨g, 0, none⟩)) := blk_cell (ext_heapD hw hbx2 (fun x => x)) 0
            have y0 : w1.cell? ⟨bw, 0, none⟩ = some (.string word) := blk_cell (ext_heapD hw hbw2 (fun x => x)) 0
            go_wp2
            exact ⟨rfl, rfl, Ext.refl _ _⟩
          · simp
          · go_simp
            try rfl
          apply owed_walk rfl
          · intro w1 hw hf
            obtain ⟨r0, r1, r2⟩ := (hr2.ext hw.ofDrew (fun x => x)).cells
            have x0 : w1.cell? ⟨bx, 0, none⟩ = some (.pointer (some ⟨g, 0, none⟩)) := blk_cell (ext_heapD hw hbx2 (fun x => x)) 0
            have y0 : w1.cell? ⟨bw, 0, none⟩ = some (.string word) := blk_cell (ext_heapD hw hbw2 (fun x => x)) 0
            go_wp2
            exact ⟨rfl, rfl, Ext.refl _ _⟩
          · simp
          · go_simp
            try rfl
          apply owed_end
          intro w1 hw _
          refine Tail.nil rfl ?_
          go_wp2
          go_roundw
          case rel =>
            refine ⟨k + 1, by omega, by go_num, by have := HQ.out; omega, ?_, hx.trans hw.ofDrew⟩
            have := HF.out
            rw [if_neg (by rintro (h | h); exact hE.out h; exact h HB.out)] at this
            exact this
          case measure => simp [intOf]; omega
        · have h2 : ((byteA s q : Int) != (byteA word k : Int)) = true := by simp; omega
          have HB := Lib.hid hb
          clear hb
          go_wp2_with fail
          apply region_phi (leaves := (Leaf.val _) :: (Leaf.val _) :: (Leaf.val _) :: (Leaf.val _) :: (Leaf.val _) :: (Leaf.val _) :: (Leaf.val _) :: (Leaf.val _) :: (Leaf.val _) :: (Leaf.val _) :: (Leaf.val _) :: (Leaf.val _) :: (Leaf.val _) :: (Leaf.val _) :: (Leaf.val _) :: (Leaf.val _) :: (Leaf.val _) :: (Leaf.val _) :: (Leaf.val _) :: (Leaf.val _) :: (Leaf.val _) :: (Leaf.val _) :: (Leaf.val _) :: (Leaf.val _) :: (Leaf.val _) :: ([] : List Leaf)) (k := 25) (b := #[0, 0, 3, 0, 8, 24, 56, 120, 248, 511, 1023, 2047, 4095, 8191, 16383, 32767, 2047, 2047, 198655, 524287, 2047, 2047, 3147775, 8388607, 16777215]) (ms := []) (E := Ext G0) mixed (by kernel_rfl) rfl (by kernel_rfl) rfl
          apply owed_walk rfl
          · intro w1 hw hf
            obtain ⟨r0, r1, r2⟩ := (hr2.ext hw.ofDrew (fun x => x)).cells
            have x0 : w1.cell? ⟨bx, 0, none⟩ = some (.pointer (some ⟨g, 0, none⟩)) := blk_cell (ext_heapD hw hbx2 (fun x => x)) 0
            have y0 : w1.cell? ⟨bw, 0, none⟩ = some (.string word) := blk_cell (ext_heapD hw hbw2 (fun x => x)) 0
            go_wp2
            exact ⟨rfl, rfl, Ext.refl _ _⟩
          · simp
          · go_simp
            try rfl
          apply owed_walk rfl
          · intro w1 hw hf
            obtain ⟨r0, r1, r2⟩ := (hr2.ext hw.ofDrew (fun x => x)).cells
            have x0 : w1.cell? ⟨bx, 0, none⟩ = some (.pointer (some ⟨g, 0, none⟩)) := blk_cell (ext_heapD hw hbx2 (fun x => x)) 0
            have y0 : w1.cell? ⟨bw, 0, none⟩ = some (.string word) := blk_cell (ext_heapD hw hbw2 (fun x => x)) 0
            go_wp2
            exact ⟨rfl, rfl, Ext.refl _ _⟩
          · simp
          · go_simp
            try rfl
          apply owed_walk rfl
          · intro w1 hw hf
            obtain ⟨r0, r1, r2⟩ := (hr2.ext hw.ofDrew (fun x => x)).cells
            have x0 : w1.cell? ⟨bx, 0, none⟩ = some (.pointer (some ⟨g, 0, none⟩)) := blk_cell (ext_heapD hw hbx2 (fun x => x)) 0
            have y0 : w1.cell? ⟨bw, 0, none⟩ = some (.string word) := blk_cell (ext_heapD hw hbw2 (fun x => x)) 0
            go_wp2
            exact ⟨rfl, rfl, Ext.refl _ _⟩
          · simp
          · go_simp
            try rfl
          apply owed_walk rfl
          · intro w1 hw hf
            obtain ⟨r0, r1, r2⟩ := (hr2.ext hw.ofDrew (fun x => x)).cells
            have x0 : w1.cell? ⟨bx, 0, none⟩ = some (.pointer (some ⟨g, 0, none⟩)) := blk_cell (ext_heapD hw hbx2 (fun x => x)) 0
            have y0 : w1.cell? ⟨bw, 0, none⟩ = some (.string word) := blk_cell (ext_heapD hw hbw2 (fun x => x)) 0
            go_wp2
            exact ⟨rfl, rfl, Ext.refl _ _⟩
          · simp
          · go_simp
            try rfl
          apply owed_walk rfl
          · intro w1 hw hf
            obtain ⟨r0, r1, r2⟩ := (hr2.ext hw.ofDrew (fun x => x)).cells
            have x0 : w1.cell? ⟨bx, 0, none⟩ = some (.pointer (some ⟨g, 0, none⟩)) := blk_cell (ext_heapD hw hbx2 (fun x => x)) 0
            have y0 : w1.cell? ⟨bw, 0, none⟩ = some (.string word) := blk_cell (ext_heapD hw hbw2 (fun x => x)) 0
            go_wp2
            exact ⟨rfl, rfl, Ext.refl _ _⟩
          · simp
          · go_simp
            try rfl
          apply owed_walk rfl
          · intro w1 hw hf
            obtain ⟨r0, r1, r2⟩ := (hr2.ext hw.ofDrew (fun x => x)).cells
            have x0 : w1.cell? ⟨bx, 0, none⟩ = some (.pointer (some ⟨g, 0, none⟩)) := blk_cell (ext_heapD hw hbx2 (fun x => x)) 0
            have y0 : w1.cell? ⟨bw, 0, none⟩ = some (.string word) := blk_cell (ext_heapD hw hbw2 (fun x => x)) 0
            go_wp2
            exact ⟨rfl, rfl, Ext.refl _ _⟩
          · simp
          · go_simp
            try rfl
          apply owed_walk rfl
          · intro w1 hw hf
            obtain ⟨r0, r1, r2⟩ := (hr2.ext hw.ofDrew (fun x => x)).cells
            have x0 : w1.cell? ⟨bx, 0, none⟩ = some (.pointer (some ⟨g, 0, none⟩)) := blk_cell (ext_heapD hw hbx2 (fun x => x)) 0
            have y0 : w1.cell? ⟨bw, 0, none⟩ = some (.string word) := blk_cell (ext_heapD hw hbw2 (fun x => x)) 0
            go_wp2
            exact ⟨rfl, rfl, Ext.refl _ _⟩
          · simp
          · go_simp
            try rfl
          apply owed_walk rfl
          · intro w1 hw hf
            obtain ⟨r0, r1, r2⟩ := (hr2.ext hw.ofDrew (fun x => x)).cells
            have x0 : w1.cell? ⟨bx, 0, none⟩ = some (.pointer (some ⟨g, 0, none⟩)) := blk_cell (ext_heapD hw hbx2 (fun x => x)) 0
            have y0 : w1.cell? ⟨bw, 0, none⟩ = some (.string word) := blk_cell (ext_heapD hw hbw2 (fun x => x)) 0
            go_wp2
            exact ⟨rfl, rfl, Ext.refl _ _⟩
          · simp
          · go_simp
            try rfl
          apply owed_walk rfl
          · intro w1 hw hf
            obtain ⟨r0, r1, r2⟩ := (hr2.ext hw.ofDrew (fun x => x)).cells
            have x0 : w1.cell? ⟨bx, 0, none⟩ = some (.pointer (some ⟨g, 0, none⟩)) := blk_cell (ext_heapD hw hbx2 (fun x => x)) 0
            have y0 : w1.cell? ⟨bw, 0, none⟩ = some (.string word) := blk_cell (ext_heapD hw hbw2 (fun x => x)) 0
            go_wp2
            exact ⟨rfl, rfl, Ext.refl _ _⟩
          · simp
          · go_simp
            try rfl
          apply owed_walk rfl
          · intro w1 hw hf
            obtain ⟨r0, r1, r2⟩ := (hr2.ext hw.ofDrew (fun x => x)).cells
            have x0 : w1.cell? ⟨bx, 0, none⟩ = some (.pointer (some ⟨g, 0, none⟩)) := blk_cell (ext_heapD hw hbx2 (fun x => x)) 0
            have y0 : w1.cell? ⟨bw, 0, none⟩ = some (.string word) := blk_cell (ext_heapD hw hbw2 (fun x => x)) 0
            go_wp2
            exact ⟨rfl, rfl, Ext.refl _ _⟩
          · simp
          · go_simp
            try rfl
          apply owed_walk rfl
          · intro w1 hw hf
            obtain ⟨r0, r1, r2⟩ := (hr2.ext hw.ofDrew (fun x => x)).cells
            have x0 : w1.cell? ⟨bx, 0, none⟩ = some (.pointer (some ⟨g, 0, none⟩)) := blk_cell (ext_heapD hw hbx2 (fun x => x)) 0
            have y0 : w1.cell? ⟨bw, 0, none⟩ = some (.string word) := blk_cell (ext_heapD hw hbw2 (fun x => x)) 0
            go_wp2
            exact ⟨rfl, rfl, Ext.refl _ _⟩
          · simp
          · go_simp
            try rfl
          apply owed_walk rfl
          · intro w1 hw hf
            obtain ⟨r0, r1, r2⟩ := (hr2.ext hw.ofDrew (fun x => x)).cells
            have x0 : w1.cell? ⟨bx, 0, none⟩ = some (.pointer (some ⟨g, 0, none⟩)) := blk_cell (ext_heapD hw hbx2 (fun x => x)) 0
            have y0 : w1.cell? ⟨bw, 0, none⟩ = some (.string word) := blk_cell (ext_heapD hw hbw2 (fun x => x)) 0
            go_wp2
            exact ⟨rfl, rfl, Ext.refl _ _⟩
          · simp
          · go_simp
            try rfl
          apply owed_walk rfl
          · intro w1 hw hf
            obtain ⟨r0, r1, r2⟩ := (hr2.ext hw.ofDrew (fun x => x)).cells
            have x0 : w1.cell? ⟨bx, 0, none⟩ = some (.pointer (some ⟨g, 0, none⟩)) := blk_cell (ext_heapD hw hbx2 (fun x => x)) 0
            have y0 : w1.cell? ⟨bw, 0, none⟩ = some (.string word) := blk_cell (ext_heapD hw hbw2 (fun x => x)) 0
            go_wp2
            exact ⟨rfl, rfl, Ext.refl _ _⟩
          · simp
          · go_simp
            try rfl
          apply owed_walk rfl
          · intro w1 hw hf
            obtain ⟨r0, r1, r2⟩ := (hr2.ext hw.ofDrew (fun x => x)).cells
            have x0 : w1.cell? ⟨bx, 0, none⟩ = some (.pointer (some ⟨g, 0, none⟩)) := blk_cell (ext_heapD hw hbx2 (fun x => x)) 0
            have y0 : w1.cell? ⟨bw, 0, none⟩ = some (.string word) := blk_cell (ext_heapD hw hbw2 (fun x => x)) 0
            go_wp2
            exact ⟨rfl, rfl, Ext.refl _ _⟩
          · simp
          · go_simp
            try rfl
          apply owed_walk rfl
          · intro w1 hw hf
            obtain ⟨r0, r1, r2⟩ := (hr2.ext hw.ofDrew (fun x => x)).cells
            have x0 : w1.cell? ⟨bx, 0, none⟩ = some (.pointer (some ⟨g, 0, none⟩)) := blk_cell (ext_heapD hw hbx2 (fun x => x)) 0
            have y0 : w1.cell? ⟨bw, 0, none⟩ = some (.string word) := blk_cell (ext_heapD hw hbw2 (fun x => x)) 0
            go_wp2
            exact ⟨rfl, rfl, Ext.refl _ _⟩
          · simp
          · go_simp
            try rfl
          apply owed_walk rfl
          · intro w1 hw hf
            obtain ⟨r0, r1, r2⟩ := (hr2.ext hw.ofDrew (fun x => x)).cells
            have x0 : w1.cell? ⟨bx, 0, none⟩ = some (.pointer (some ⟨g, 0, none⟩)) := blk_cell (ext_heapD hw hbx2 (fun x => x)) 0
            have y0 : w1.cell? ⟨bw, 0, none⟩ = some (.string word) := blk_cell (ext_heapD hw hbw2 (fun x => x)) 0
            go_wp2
            exact ⟨rfl, rfl, Ext.refl _ _⟩
          · simp
          · go_simp
            try rfl
          apply owed_walk rfl
          · intro w1 hw hf
            obtain ⟨r0, r1, r2⟩ := (hr2.ext hw.ofDrew (fun x => x)).cells
            have x0 : w1.cell? ⟨bx, 0, none⟩ = some (.pointer (some ⟨g, 0, none⟩)) := blk_cell (ext_heapD hw hbx2 (fun x => x)) 0
            have y0 : w1.cell? ⟨bw, 0, none⟩ = some (.string word) := blk_cell (ext_heapD hw hbw2 (fun x => x)) 0
            go_wp2
            exact ⟨rfl, rfl, Ext.refl _ _⟩
          · simp
          · go_simp
            try rfl
          apply owed_walk rfl
          · intro w1 hw hf
            obtain ⟨r0, r1, r2⟩ := (hr2.ext hw.ofDrew (fun x => x)).cells
            have x0 : w1.cell? ⟨bx, 0, none⟩ = some (.pointer (some ⟨g, 0, none⟩)) := blk_cell (ext_heapD hw hbx2 (fun x => x)) 0
            have y0 : w1.cell? ⟨bw, 0, none⟩ = some (.string word) := blk_cell (ext_heapD hw hbw2 (fun x => x)) 0
            go_wp2
            exact ⟨rfl, rfl, Ext.refl _ _⟩
          · simp
          · go_simp
            try rfl
          apply owed_walk rfl
          · intro w1 hw hf
            obtain ⟨r0, r1, r2⟩ := (hr2.ext hw.ofDrew (fun x => x)).cells
            have x0 : w1.cell? ⟨bx, 0, none⟩ = some (.pointer (some ⟨g, 0, none⟩)) := blk_cell (ext_heapD hw hbx2 (fun x => x)) 0
            have y0 : w1.cell? ⟨bw, 0, none⟩ = some (.string word) := blk_cell (ext_heapD hw hbw2 (fun x => x)) 0
            go_wp2
            exact ⟨rfl, rfl, Ext.refl _ _⟩
          · simp
          · go_simp
            try rfl
          apply owed_walk rfl
          · intro w1 hw hf
            obtain ⟨r0, r1, r2⟩ := (hr2.ext hw.ofDrew (fun x => x)).cells
            have x0 : w1.cell? ⟨bx, 0, none⟩ = some (.pointer (some ⟨g, 0, none⟩)) := blk_cell (ext_heapD hw hbx2 (fun x => x)) 0
            have y0 : w1.cell? ⟨bw, 0, none⟩ = some (.string word) := blk_cell (ext_heapD hw hbw2 (fun x => x)) 0
            go_wp2
            exact ⟨rfl, rfl, Ext.refl _ _⟩
          · simp
          · go_simp
            try rfl
          apply owed_walk rfl
          · intro w1 hw hf
            obtain ⟨r0, r1, r2⟩ := (hr2.ext hw.ofDrew (fun x => x)).cells
            have x0 : w1.cell? ⟨bx, 0, none⟩ = some (.pointer (some ⟨g, 0, none⟩)) := blk_cell (ext_heapD hw hbx2 (fun x => x)) 0
            have y0 : w1.cell? ⟨bw, 0, none⟩ = some (.string word) := blk_cell (ext_heapD hw hbw2 (fun x => x)) 0
            go_wp2
            exact ⟨rfl, rfl, Ext.refl _ _⟩
          · simp
          · go_simp
            try rfl
          apply owed_walk rfl
          · intro w1 hw hf
            obtain ⟨r0, r1, r2⟩ := (hr2.ext hw.ofDrew (fun x => x)).cells
            have x0 : w1.cell? ⟨bx, 0, none⟩ = some (.pointer (some ⟨g, 0, none⟩)) := blk_cell (ext_heapD hw hbx2 (fun x => x)) 0
            have y0 : w1.cell? ⟨bw, 0, none⟩ = some (.string word) := blk_cell (ext_heapD hw hbw2 (fun x => x)) 0
            go_wp2
            exact ⟨rfl, rfl, Ext.refl _ _⟩
          · simp
          · go_simp
            try rfl
          apply owed_walk rfl
          · intro w1 hw hf
            obtain ⟨r0, r1, r2⟩ := (hr2.ext hw.ofDrew (fun x => x)).cells
            have x0 : w1.cell? ⟨bx, 0, none⟩ = some (.pointer (some ⟨g, 0, none⟩)) := blk_cell (ext_heapD hw hbx2 (fun x => x)) 0
            have y0 : w1.cell? ⟨bw, 0, none⟩ = some (.string word) := blk_cell (ext_heapD hw hbw2 (fun x => x)) 0
            go_wp2
            exact ⟨rfl, rfl, Ext.refl _ _⟩
          · simp
          · go_simp
            try rfl
          apply owed_walk rfl
          · intro w1 hw hf
            obtain ⟨r0, r1, r2⟩ := (hr2.ext hw.ofDrew (fun x => x)).cells
            have x0 : w1.cell? ⟨bx, 0, none⟩ = some (.pointer (some ⟨g, 0, none⟩)) := blk_cell (ext_heapD hw hbx2 (fun x => x)) 0
            have y0 : w1.cell? ⟨bw, 0, none⟩ = some (.string word) := blk_cell (ext_heapD hw hbw2 (fun x => x)) 0
            go_wp2
            exact ⟨rfl, rfl, Ext.refl _ _⟩
          · simp
          · go_simp
            try rfl
          apply owed_walk rfl
          · intro w1 hw hf
            obtain ⟨r0, r1, r2⟩ := (hr2.ext hw.ofDrew (fun x => x)).cells
            have x0 : w1.cell? ⟨bx, 0, none⟩ = some (.pointer (some ⟨g, 0, none⟩)) := blk_cell (ext_heapD hw hbx2 (fun x => x)) 0
            have y0 : w1.cell? ⟨bw, 0, none⟩ = some (.string word) := blk_cell (ext_heapD hw hbw2 (fun x => x)) 0
            go_wp2
            exact ⟨rfl, rfl, Ext.refl _ _⟩
          · simp
          · go_simp
            try rfl
          apply owed_end
          intro w1 hw _
          refine Tail.nil rfl ?_
          go_wp2_with fail
          refine (wrong_any q _).mono ?_
          rintro e w2 ⟨rfl, rfl⟩
          go_wp2
          refine ⟨rfl, (hx.trans hw.ofDrew).up _, ?_⟩
          rw [HRES.out, wantR, ← HF.out, if_pos (.inr HB.out)]
          exact ⟨p, by rw [HQ.out], hr2.ext hw.ofDrew (fun x => x)⟩
    · obtain rfl : k = word.size := by omega
      rw [Nat.sub_self, wantF] at hF
      have HF := Lib.hid hF
      have HQ := Lib.hid hq
      clear hF hq
      go_wp2_with fail
      apply region_phi (leaves := (Leaf.val _) :: (Leaf.val _) :: (Leaf.val _) :: (Leaf.val _) :: (Leaf.val _) :: (Leaf.val _) :: (Leaf.val _) :: (Leaf.val _) :: (Leaf.val _) :: (Leaf.val _) :: (Leaf.val _) :: ([] : List Leaf)) (k := 11) (b := #[0, 1, 3, 7, 15, 0, 32, 127, 255, 511, 1023, 2047]) (ms := []) (E := Ext G0) mixed (by kernel_rfl) rfl (by kernel_rfl) rfl
      apply owed_walk rfl
      · intro w1 hw hf
        obtain ⟨r0, r1, r2⟩ := (hr2.ext hw.ofDrew (fun x => x)).cells
        have x0 : w1.cell? ⟨bx, 0, none⟩ = some (.pointer (some ⟨g, 0, none⟩)) := blk_cell (ext_heapD hw hbx2 (fun x => x)) 0
        have y0 : w1.cell? ⟨bw, 0, none⟩ = some (.string word) := blk_cell (ext_heapD hw hbw2 (fun x => x)) 0
        go_wp2
        exact ⟨rfl, rfl, Ext.refl _ _⟩
      · simp
      · go_simp
        try rfl
      apply owed_walk rfl
      · intro w1 hw hf
        obtain ⟨r0, r1, r2⟩ := (hr2.ext hw.ofDrew (fun x => x)).cells
        have x0 : w1.cell? ⟨bx, 0, none⟩ = some (.pointer (some ⟨g, 0, none⟩)) := blk_cell (ext_heapD hw hbx2 (fun x => x)) 0
        have y0 : w1.cell? ⟨bw, 0, none⟩ = some (.string word) := blk_cell (ext_heapD hw hbw2 (fun x => x)) 0
        go_wp2
        exact ⟨rfl, rfl, Ext.refl _ _⟩
      · simp
      · go_simp
        try rfl
      apply owed_walk rfl
      · intro w1 hw hf
        obtain ⟨r0, r1, r2⟩ := (hr2.ext hw.ofDrew (fun x => x)).cells
        have x0 : w1.cell? ⟨bx, 0, none⟩ = some (.pointer (some ⟨g, 0, none⟩)) := blk_cell (ext_heapD hw hbx2 (fun x => x)) 0
        have y0 : w1.cell? ⟨bw, 0, none⟩ = some (.string word) := blk_cell (ext_heapD hw hbw2 (fun x => x)) 0
        go_wp2
        exact ⟨rfl, rfl, Ext.refl _ _⟩
      · simp
      · go_simp
        try rfl
      apply owed_walk rfl
      · intro w1 hw hf
        obtain ⟨r0, r1, r2⟩ := (hr2.ext hw.ofDrew (fun x => x)).cells
        have x0 : w1.cell? ⟨bx, 0, none⟩ = some (.pointer (some ⟨g, 0, none⟩)) := blk_cell (ext_heapD hw hbx2 (fun x => x)) 0
        have y0 : w1.cell? ⟨bw, 0, none⟩ = some (.string word) := blk_cell (ext_heapD hw hbw2 (fun x => x)) 0
        go_wp2
        exact ⟨rfl, rfl, Ext.refl _ _⟩
      · simp
      · go_simp
        try rfl
      apply owed_walk rfl
      · intro w1 hw hf
        obtain ⟨r0, r1, r2⟩ := (hr2.ext hw.ofDrew (fun x => x)).cells
        have x0 : w1.cell? ⟨bx, 0, none⟩ = some (.pointer (some ⟨g, 0, none⟩)) := blk_cell (ext_heapD hw hbx2 (fun x => x)) 0
        have y0 : w1.cell? ⟨bw, 0, none⟩ = some (.string word) := blk_cell (ext_heapD hw hbw2 (fun x => x)) 0
        go_wp2
        exact ⟨rfl, rfl, Ext.refl _ _⟩
      · simp
      · go_simp
        try rfl
      apply owed_walk rfl
      · intro w1 hw hf
        obtain ⟨r0, r1, r2⟩ := (hr2.ext hw.ofDrew (fun x => x)).cells
        have x0 : w1.cell? ⟨bx, 0, none⟩ = some (.pointer (some ⟨g, 0, none⟩)) := blk_cell (ext_heapD hw hbx2 (fun x => x)) 0
        have y0 : w1.cell? ⟨bw, 0, none⟩ = some (.string word) := blk_cell (ext_heapD hw hbw2 (fun x => x)) 0
        go_wp2
        exact ⟨rfl, rfl, Ext.refl _ _⟩
      · simp
      · go_simp
        try rfl
      apply owed_walk rfl
      · intro w1 hw hf
        obtain ⟨r0, r1, r2⟩ := (hr2.ext hw.ofDrew (fun x => x)).cells
        have x0 : w1.cell? ⟨bx, 0, none⟩ = some (.pointer (some ⟨g, 0, none⟩)) := blk_cell (ext_heapD hw hbx2 (fun x => x)) 0
        have y0 : w1.cell? ⟨bw, 0, none⟩ = some (.string word) := blk_cell (ext_heapD hw hbw2 (fun x => x)) 0
        go_wp2
        exact ⟨rfl, rfl, Ext.refl _ _⟩
      · simp
      · go_simp
        try rfl
      apply owed_walk rfl
      · intro w1 hw hf
        obtain ⟨r0, r1, r2⟩ := (hr2.ext hw.ofDrew (fun x => x)).cells
        have x0 : w1.cell? ⟨bx, 0, none⟩ = some (.pointer (some ⟨g, 0, none⟩)) := blk_cell (ext_heapD hw hbx2 (fun x => x)) 0
        have y0 : w1.cell? ⟨bw, 0, none⟩ = some (.string word) := blk_cell (ext_heapD hw hbw2 (fun x => x)) 0
        go_wp2
        exact ⟨rfl, rfl, Ext.refl _ _⟩
      · simp
      · go_simp
        try rfl
      apply owed_walk rfl
      · intro w1 hw hf
        obtain ⟨r0, r1, r2⟩ := (hr2.ext hw.ofDrew (fun x => x)).cells
        have x0 : w1.cell? ⟨bx, 0, none⟩ = some (.pointer (some ⟨g, 0, none⟩)) := blk_cell (ext_heapD hw hbx2 (fun x => x)) 0
        have y0 : w1.cell? ⟨bw, 0, none⟩ = some (.string word) := blk_cell (ext_heapD hw hbw2 (fun x => x)) 0
        go_wp2
        exact ⟨rfl, rfl, Ext.refl _ _⟩
      · simp
      · go_simp
        try rfl
      apply owed_walk rfl
      · intro w1 hw hf
        obtain ⟨r0, r1, r2⟩ := (hr2.ext hw.ofDrew (fun x => x)).cells
        have x0 : w1.cell? ⟨bx, 0, none⟩ = some (.pointer (some ⟨g, 0, none⟩)) := blk_cell (ext_heapD hw hbx2 (fun x => x)) 0
        have y0 : w1.cell? ⟨bw, 0, none⟩ = some (.string word) := blk_cell (ext_heapD hw hbw2 (fun x => x)) 0
        go_wp2
        exact ⟨rfl, rfl, Ext.refl _ _⟩
      · simp
      · go_simp
        try rfl
      apply owed_walk rfl
      · intro w1 hw hf
        obtain ⟨r0, r1, r2⟩ := (hr2.ext hw.ofDrew (fun x => x)).cells
        have x0 : w1.cell? ⟨bx, 0, none⟩ = some (.pointer (some ⟨g, 0, none⟩)) := blk_cell (ext_heapD hw hbx2 (fun x => x)) 0
        have y0 : w1.cell? ⟨bw, 0, none⟩ = some (.string word) := blk_cell (ext_heapD hw hbw2 (fun x => x)) 0
        go_wp2
        exact ⟨rfl, rfl, Ext.refl _ _⟩
      · simp
      · go_simp
        try rfl
      apply owed_end
      intro w1 hw _
      unfold Tail
      have hr3 := hr2.ext hw.ofDrew (fun x => x)
      obtain ⟨r0, r1, r2⟩ := hr3.cells
      have z := blk_free hr3
      have hlt2 := hr3.lt
      go_wp2
      go_ret
      refine ⟨((hx.trans hw.ofDrew).up (G1 g)).setCell (p := ⟨g, 1, none⟩) (.inl rfl) _, ?_⟩
      rw [HRES.out, wantR, ← HF.out]
      refine ⟨rfl, ?_⟩
      rw [← HQ.out]
      exact hr3.move q

end Go.Proofs.Ytejialnbelleeaa
