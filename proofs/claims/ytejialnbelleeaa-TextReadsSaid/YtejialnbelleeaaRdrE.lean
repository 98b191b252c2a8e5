/-
  The reference's reader: Begins, Is.
-/
import Derived.Test.YtejialnbelleeaaRdrA
import Derived.Test.YtejialnbelleeaaTxtQ0
import Derived.Lib.SliceRun
namespace Go.Proofs.Ytejialnbelleeaa
open Go Go.RowKit

theorem ba_ext {a b : ByteArray} (h : a.size = b.size) (h2 : ∀ j, j < b.size → byteA a j = byteA b j) : a = b := by
  apply ByteArray.ext_getElem h
  intro i hi hi'
  have := h2 i hi'
  unfold byteA at this
  rw [dif_pos hi, dif_pos hi'] at this
  exact UInt8.toNat_inj.1 this
theorem ba_toList_inj {a b : ByteArray} (h : a.toList = b.toList) : a = b := by
  rw [ByteArray.toList_eq, ByteArray.toList_eq] at h
  exact ByteArray.ext (Array.toList_inj.1 h)
theorem byteA_extract {s : ByteArray} {a b j : Nat} (h : a + j < b) (hb : b ≤ s.size) : byteA (s.extract a b) j = byteA s (a + j) := by
  have h1 : j < (s.extract a b).size := by rw [ByteArray.size_extract]; omega
  have h2 : a + j < s.size := by omega
  unfold byteA
  rw [dif_pos h1, dif_pos h2, ByteArray.getElem_extract]
/-- A text goes on with a word. -/
theorem begB_iff (s word : ByteArray) (p : Nat) (hp : p ≤ s.size) : begB (s.extract p s.size) word = true ↔ p + word.size ≤ s.size ∧ ∀ j, j < word.size → byteA s (p + j) = byteA word j := by
  have hsz : (s.extract p s.size).size = s.size - p := by rw [ByteArray.size_extract]; omega
  unfold begB
  rw [Bool.and_eq_true, decide_eq_true_eq, hsz, beq_iff_eq]
  constructor
  · rintro ⟨h1, h2⟩
    refine ⟨by omega, fun j hj => ?_⟩
    have h3 := ba_toList_inj h2
    have h4 : byteA ((s.extract p s.size).extract 0 word.size) j = byteA word j := by rw [h3]
    rw [byteA_extract (by omega) (by omega), byteA_extract (by omega) (by omega)] at h4
    rw [Nat.zero_add] at h4
    exact h4
  · rintro ⟨h1, h2⟩
    refine ⟨by omega, ?_⟩
    congr 1
    apply ba_ext
    · rw [ByteArray.size_extract]; omega
    · intro j hj
      rw [byteA_extract (by omega) (by omega), byteA_extract (by omega) (by omega), Nat.zero_add]
      exact h2 j hj

def BegRel (s word : ByteArray) (p n k : Nat) (w wr : World) : Prop := k ≤ word.size ∧ (∀ j, j < k → byteA s (p + j) = byteA word j) ∧ wr.heap[n]? = some (.cells (rdC s p 0) 52 (0, 0)) ∧ Ext G0 w wr

set_option maxRecDepth 100000 in
set_option maxHeartbeats 1500000 in
theorem rBegins_any (s word : ByteArray) (p : Nat) (w : World) (hp : p ≤ s.size) (hs : s.size ≤ 140737488351232) (hw0 : word.size ≤ 140737488351232) :
    Calls Try.prog 60 #[rdV s p 0, .string word] w fun e w' => e = .returned (.bool (begB (s.extract p s.size) word)) ∧ Ext G0 w w' := by
  have HL := Lib.hid (fun w => rLeft_any s p 0 w hp hs)
  rw [show leftN s p 0 = (s.size : Int) - (p : Int) from if_pos rfl] at HL
  have HB := Lib.hid (begB_iff s word p hp)
  obtain ⟨r, hr⟩ : ∃ r, r = begB (s.extract p s.size) word := ⟨_, rfl⟩
  rw [← hr] at HB ⊢
  clear hr
  by_cases hlen : p + word.size ≤ s.size
  · have t1 : decide ((s.size : Int) - (p : Int) < (word.size : Int)) = false := by simp; omega
    go_enter Try.func60, Try.ntmps60
    go_wp2_with fail
    generalize hwz : World.alloc w _ = wz
    have fR : wz.heap[w.heap.size]? = some (.cells (rdC s p 0) 52 (0, 0)) := by rw [← hwz]; exact heap_new w _
    have y0 : Ext G0 w wz := by rw [← hwz]; exact (Ext.refl _ _).alloc _
    clear hwz
    have g0 := blk_cell fR 0
    have g1 := blk_cell fR 1
    have g2 := blk_cell fR 2
    go_wp2_with (go_at_call 26; ((with_reducible refine (HL.out _).mono ?_); rintro e w2 ⟨rfl, hx2⟩))
    clear g0 g1 g2
    go_loopg [13] (word.size) (fun n v wr => ∃ k : Nat, n = word.size - k ∧ v = .int .i64 (k : Int) ∧ BegRel s word p w.heap.size k w wr)
    case atStart => exact ⟨0, rfl, rfl, Nat.zero_le _, fun j hj => by omega, ext_heap hx2 fR (fun x => x), y0.trans hx2⟩
    case round =>
      obtain ⟨k, rfl, rfl, hk, hF, gR, hx⟩ := hrel
      clear fR y0 hx2
      by_cases hlt : k < word.size
      · obtain ⟨q, hq⟩ : ∃ q : Nat, q = p + k := ⟨_, rfl⟩
        have hqi : (p : Int) + (k : Int) = (q : Int) := by omega
        have hql : q < s.size := by omega
        have s1 := IntWalk.i64_in (q : Int) (by omega)
        have i1 : (q : Int) < (s.size : Int) := by omega
        have i2 : (k : Int) < (word.size : Int) := by omega
        have i3 : k < word.size := hlt
        have e1 := byteA_eq hql
        have e2 := byteA_eq hlt
        have FH := Lib.hid hF
        have HQ := Lib.hid hq
        clear hF hq
        by_cases hb : byteA s q = byteA word k
        · have h2 : ((byteA s q : Int) != (byteA word k : Int)) = false := by simp [hb]
          have HBB := Lib.hid hb
          clear hb
          go_wp2_with fail
          apply region_phi (leaves := (Leaf.val _) :: (Leaf.val _) :: (Leaf.val _) :: (Leaf.val _) :: (Leaf.val _) :: (Leaf.val _) :: (Leaf.val _) :: (Leaf.val _) :: (Leaf.val _) :: (Leaf.val _) :: (Leaf.val _) :: ([] : List Leaf)) (k := 11) (b := #[0, 1, 0, 4, 0, 28, 63, 0, 0, 384, 1023]) (ms := []) (E := Ext G0) mixed (by kernel_rfl) rfl (by kernel_rfl) rfl
          apply owed_walk rfl
          · intro w1 hw hf
            go_wp2
            exact ⟨rfl, rfl, Ext.refl _ _⟩
          · simp
          · go_simp
            try rfl
          apply owed_walk rfl
          · intro w1 hw hf
            have gR_0 := blk_cell (ext_heapD hw gR (fun x => x)) 0
            have gR_1 := blk_cell (ext_heapD hw gR (fun x => x)) 1
            have gR_2 := blk_cell (ext_heapD hw gR (fun x => x)) 2
            go_wp2
            exact ⟨rfl, rfl, Ext.refl _ _⟩
          · simp
          · go_simp
            try rfl
          apply owed_walk rfl
          · intro w1 hw hf
            go_wp2
            exact ⟨rfl, rfl, Ext.refl _ _⟩
          · simp
          · go_simp
            try rfl
          apply owed_walk rfl
          · intro w1 hw hf
            have gR_0 := blk_cell (ext_heapD hw gR (fun x => x)) 0
            have gR_1 := blk_cell (ext_heapD hw gR (fun x => x)) 1
            have gR_2 := blk_cell (ext_heapD hw gR (fun x => x)) 2
            go_wp2
            exact ⟨rfl, rfl, Ext.refl _ _⟩
          · simp
          · go_simp
            try rfl
          apply owed_walk rfl
          · intro w1 hw hf
            go_wp2
            exact ⟨rfl, rfl, Ext.refl _ _⟩
          · simp
          · go_simp
            try rfl
          apply owed_walk rfl
          · intro w1 hw hf
            go_wp2
            exact ⟨rfl, rfl, Ext.refl _ _⟩
          · simp
          · go_simp
            try rfl
          apply owed_walk rfl
          · intro w1 hw hf
            go_wp2
            exact ⟨rfl, rfl, Ext.refl _ _⟩
          · simp
          · go_simp
            try rfl
          apply owed_walk rfl
          · intro w1 hw hf
            go_wp2
            exact ⟨rfl, rfl, Ext.refl _ _⟩
          · simp
          · go_simp
            try rfl
          apply owed_walk rfl
          · intro w1 hw hf
            go_wp2
            exact ⟨rfl, rfl, Ext.refl _ _⟩
          · simp
          · go_simp
            try rfl
          apply owed_walk rfl
          · intro w1 hw hf
            go_wp2
            exact ⟨rfl, rfl, Ext.refl _ _⟩
          · simp
          · go_simp
            try rfl
          apply owed_walk rfl
          · intro w1 hw hf
            go_wp2
            exact ⟨rfl, rfl, Ext.refl _ _⟩
          · simp
          · go_simp
            try rfl
          apply owed_end
          intro w5 hw _
          refine Tail.nil rfl ?_
          replace gR := ext_heapD hw gR (fun x => x)
          replace hx := hx.trans hw.ofDrew
          clear hw
          go_wp2
          go_roundg (word.size - (k + 1))
          case rel => exact ⟨k + 1, rfl, by go_num, by omega, fun j hj => by
            rcases Nat.lt_succ_iff_lt_or_eq.1 hj with h | rfl
            · exact FH.out j h
            · rw [← HQ.out]; exact HBB.out, gR, hx⟩
          case measure => omega
        · have h2 : ((byteA s q : Int) != (byteA word k : Int)) = true := by simp; omega
          have hr : r = false := by
            cases hr : r with
            | false => rfl
            | true => exact absurd ((HB.out.1 hr).2 k hlt) (by rw [← HQ.out]; exact hb)
          subst hr
          clear hb
          go_wp2_with fail
          apply region_phi (leaves := (Leaf.val _) :: (Leaf.val _) :: (Leaf.val _) :: (Leaf.val _) :: (Leaf.val _) :: (Leaf.val _) :: (Leaf.val _) :: (Leaf.val _) :: (Leaf.val _) :: (Leaf.val _) :: (Leaf.val _) :: ([] : List Leaf)) (k := 11) (b := #[0, 1, 0, 4, 0, 28, 63, 0, 0, 384, 1023]) (ms := []) (E := Ext G0) mixed (by kernel_rfl) rfl (by kernel_rfl) rfl
          apply owed_walk rfl
          · intro w1 hw hf
            go_wp2
            exact ⟨rfl, rfl, Ext.refl _ _⟩
          · simp
          · go_simp
            try rfl
          apply owed_walk rfl
          · intro w1 hw hf
            have gR_0 := blk_cell (ext_heapD hw gR (fun x => x)) 0
            have gR_1 := blk_cell (ext_heapD hw gR (fun x => x)) 1
            have gR_2 := blk_cell (ext_heapD hw gR (fun x => x)) 2
            go_wp2
            exact ⟨rfl, rfl, Ext.refl _ _⟩
          · simp
          · go_simp
            try rfl
          apply owed_walk rfl
          · intro w1 hw hf
            go_wp2
            exact ⟨rfl, rfl, Ext.refl _ _⟩
          · simp
          · go_simp
            try rfl
          apply owed_walk rfl
          · intro w1 hw hf
            have gR_0 := blk_cell (ext_heapD hw gR (fun x => x)) 0
            have gR_1 := blk_cell (ext_heapD hw gR (fun x => x)) 1
            have gR_2 := blk_cell (ext_heapD hw gR (fun x => x)) 2
            go_wp2
            exact ⟨rfl, rfl, Ext.refl _ _⟩
          · simp
          · go_simp
            try rfl
          apply owed_walk rfl
          · intro w1 hw hf
            go_wp2
            exact ⟨rfl, rfl, Ext.refl _ _⟩
          · simp
          · go_simp
            try rfl
          apply owed_walk rfl
          · intro w1 hw hf
            go_wp2
            exact ⟨rfl, rfl, Ext.refl _ _⟩
          · simp
          · go_simp
            try rfl
          apply owed_walk rfl
          · intro w1 hw hf
            go_wp2
            exact ⟨rfl, rfl, Ext.refl _ _⟩
          · simp
          · go_simp
            try rfl
          apply owed_walk rfl
          · intro w1 hw hf
            go_wp2
            exact ⟨rfl, rfl, Ext.refl _ _⟩
          · simp
          · go_simp
            try rfl
          apply owed_walk rfl
          · intro w1 hw hf
            go_wp2
            exact ⟨rfl, rfl, Ext.refl _ _⟩
          · simp
          · go_simp
            try rfl
          apply owed_walk rfl
          · intro w1 hw hf
            go_wp2
            exact ⟨rfl, rfl, Ext.refl _ _⟩
          · simp
          · go_simp
            try rfl
          apply owed_walk rfl
          · intro w1 hw hf
            go_wp2
            exact ⟨rfl, rfl, Ext.refl _ _⟩
          · simp
          · go_simp
            try rfl
          apply owed_end
          intro w5 hw _
          refine Tail.nil rfl ?_
          replace gR := ext_heapD hw gR (fun x => x)
          replace hx := hx.trans hw.ofDrew
          clear hw
          go_wp2
          go_ret
          exact ⟨rfl, hx⟩
      · have hr : r = true := HB.out.2 ⟨hlen, fun j hj => hF j (by omega)⟩
        subst hr
        have i3 : ¬ k < word.size := hlt
        go_wp2
        go_ret
        exact ⟨rfl, hx⟩
  · have t1 : decide ((s.size : Int) - (p : Int) < (word.size : Int)) = true := by simp; omega
    have hr : r = false := by
      cases hr : r with
      | false => rfl
      | true => exact absurd (HB.out.1 hr).1 hlen
    subst hr
    go_enter Try.func60, Try.ntmps60
    go_wp2_with (go_at_call 26; ((with_reducible refine (HL.out _).mono ?_); rintro e w2 ⟨rfl, hx2⟩))
    go_ret
    exact ⟨rfl, ((Ext.refl _ _).alloc _).trans hx2⟩

theorem rBegins_err (s word : ByteArray) (p : Nat) (er : Int) (w : World) (he : er ≠ 0) (hp : p ≤ s.size) (hs : s.size ≤ 140737488351232) (hw0 : word.size ≤ 140737488351232) (hw1 : 0 < word.size) :
    Calls Try.prog 60 #[rdV s p er, .string word] w fun e w' => e = .returned (.bool false) ∧ Ext G0 w w' := by
  have HL := Lib.hid (fun w => rLeft_any s p er w hp hs)
  rw [show leftN s p er = 0 from if_neg he] at HL
  have t1 : decide ((0 : Int) < (word.size : Int)) = true := by simp; omega
  have t2 : decide (0 < word.size) = true := by simp; omega
  have i1 : (0 : Int) < (word.size : Int) := by omega
  go_enter Try.func60, Try.ntmps60
  go_wp2_with (go_at_call 26; ((with_reducible refine (HL.out _).mono ?_); rintro e w2 ⟨rfl, hx2⟩))
  go_ret
  exact ⟨rfl, ((Ext.refl _ _).alloc _).trans hx2⟩

end Go.Proofs.Ytejialnbelleeaa
