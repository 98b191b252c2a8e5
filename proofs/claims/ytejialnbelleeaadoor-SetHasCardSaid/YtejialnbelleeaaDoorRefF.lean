/-
  slices.Clone at the rows that the laws copy.
-/
import Derived.Test.YtejialnbelleeaaDoorSetN
import Derived.Lib.SliceRun
import Derived.Lib.Walk
namespace Go.Proofs.YtejialnbelleeaaDoor
open Go Go.RowKit

theorem SlAt.src {α : Type} {sz : Nat} {enc : α → List Value} {w : World} {a : Addr} {n c : Nat} {l : List α} (hsz : ∀ x ∈ l, (enc x).length = sz) (h : SlAt sz enc w (.slice (some a) n c) l) :
    ∀ j u, (l.flatMap enc)[j]? = some u → w.cell? (a.add j) = some u := by
  intro j u hj
  obtain ⟨A, c', he, _, h0⟩ := h
  injection he with e1 e2 e3
  subst e1
  rcases h0 with rfl | ⟨b, off, hb, hcell⟩
  · simp at hj
  · injection hb with hb
    subst hb
    obtain ⟨i, x, h1, h2, h3, h4⟩ := flat_some sz enc l hsz j u hj
    have := hcell i x h1 _ _ h2
    rw [show (⟨b, off, none⟩ : Addr).add j = ⟨b, off + i * sz + (j - i * sz), none⟩ by simp [Addr.add]; split <;> simp_all <;> omega]
    exact this
theorem flat_len {α : Type} (sz : Nat) (enc : α → List Value) : ∀ (l : List α), (∀ x ∈ l, (enc x).length = sz) → (l.flatMap enc).length = l.length * sz
  | [], _ => by simp
  | x :: l, h => by
    rw [List.flatMap_cons, List.length_append, h x (by simp), flat_len sz enc l (fun y hy => h y (by simp [hy])), List.length_cons, Nat.add_mul]; omega
abbrev intL (n : Int) : List Value := [.int .i64 n]
abbrev strL (s : ByteArray) : List Value := [.string s]

theorem info_ofSet : (Tryd.prog.info? 24).map (fun i => (i.zero, i.size, i.bytes)) = some (some (.agg #[.int .u64 0, .int .u64 0, .int .u64 0, .int .u64 0]), 4, 32) := by kernel_rfl
set_option maxRecDepth 100000 in
set_option maxHeartbeats 2000000 in
theorem cloneSet_any (l : List Bs) (v : Value) (w : World) (hv : SlAt 4 setL w v l) (hbig : l.length * 32 ≤ 140737488355328) :
    Calls Tryd.prog 30 #[v] w fun e w' => ∃ v', e = .returned v' ∧ w'.ownsRow w.heap.size 24 4 v' l.length (l.flatMap setL) ∧ Below w.heap.size w w' := by
  obtain ⟨i0, hi, hz0, hz1, hz2⟩ := info_parts info_ofSet
  have hq : ∀ (w : World) (a : Option Addr) (n c n' c' : Nat), (binOp .eql 46 (.slice a n c) (.slice none n' c')).run Tryd.prog w = .ok (.bool a.isNone) w := fun w a n c n' c' => Lib.run_eql_slice_nil w _ _ a n c n' c' Tryd.underlying46
  have hlen := flat_len 4 setL l (fun _ _ => rfl)
  have hone : ∀ u ∈ l.flatMap setL, u.oneCell' = true := by
    intro u hu
    obtain ⟨x, _, hx⟩ := List.mem_flatMap.1 hu
    simp only [List.mem_cons, List.not_mem_nil, or_false] at hx
    first | (subst hx; rfl) | (rcases hx with rfl | rfl <;> rfl) | (rcases hx with rfl | rfl | rfl | rfl <;> rfl)
  have hv0 := hv
  obtain ⟨A, c, rfl, ⟨hc, hm⟩, h0⟩ := hv0
  cases A with
  | none =>
    have hl : l = [] := by
      rcases h0 with h | ⟨b, off, h, _⟩
      · exact h
      · cases h
    subst hl
    clear h0 hv hm hc hbig hone hlen
    go_enter Tryd.func30, Tryd.ntmps30
    go_wp2
    go_ret
    exact ⟨_, rfl, World.ownsRow_nil _ _ _ _, Below.refl _ _⟩
  | some a =>
    have hsrc := Lib.hid (SlAt.src (sz := 4) (enc := setL) (fun _ _ => rfl) hv)
    have HO := Lib.hid hone
    have HL := Lib.hid hlen
    clear h0 hv hone hlen
    go_enter Tryd.func30, Tryd.ntmps30
    go_wp2_with (at_builtin; refine wpList_append_own _ rfl _ _ 46 rfl w.heap.size 24 i0 _ 4 32 Tryd.underlying46 hi hz0 hz1 hz2 rfl (by decide) _ _ _ rfl (World.ownsRow_made w #[] 0 (Nat.le_refl _) (Nat.zero_le _) rfl) a l.length c (l.flatMap setL) rfl HL.out (fun j u hj => cell_ext ((Ext.refl _ _).alloc _) (hsrc.out j u hj)) HO.out (by simp only [maxLen]; omega) (by omega) (by simp) ?_; intro v' w1 hown hgrow _)
    go_ret
    refine ⟨v', rfl, by simpa using hown, ?_⟩
    exact ((Below.refl _ w).alloc (Nat.le_refl _) _).grown hgrow (by simp) (fun k hk => Nat.le_of_eq (Option.some.inj (show some w.heap.size = some k from hk)))
theorem info_ofRun : (Tryd.prog.info? 32).map (fun i => (i.zero, i.size, i.bytes)) = some (some (.agg #[.int .u8 0, .int .u8 0]), 2, 2) := by kernel_rfl
set_option maxRecDepth 100000 in
set_option maxHeartbeats 2000000 in
theorem cloneRun_any (l : List RunN) (v : Value) (w : World) (hv : SlAt 2 runL w v l) (hbig : l.length * 2 ≤ 140737488355328) :
    Calls Tryd.prog 25 #[v] w fun e w' => ∃ v', e = .returned v' ∧ w'.ownsRow w.heap.size 32 2 v' l.length (l.flatMap runL) ∧ Below w.heap.size w w' := by
  obtain ⟨i0, hi, hz0, hz1, hz2⟩ := info_parts info_ofRun
  have hq : ∀ (w : World) (a : Option Addr) (n c n' c' : Nat), (binOp .eql 25 (.slice a n c) (.slice none n' c')).run Tryd.prog w = .ok (.bool a.isNone) w := fun w a n c n' c' => Lib.run_eql_slice_nil w _ _ a n c n' c' Tryd.underlying25
  have hlen := flat_len 2 runL l (fun _ _ => rfl)
  have hone : ∀ u ∈ l.flatMap runL, u.oneCell' = true := by
    intro u hu
    obtain ⟨x, _, hx⟩ := List.mem_flatMap.1 hu
    simp only [List.mem_cons, List.not_mem_nil, or_false] at hx
    first | (subst hx; rfl) | (rcases hx with rfl | rfl <;> rfl) | (rcases hx with rfl | rfl | rfl | rfl <;> rfl)
  have hv0 := hv
  obtain ⟨A, c, rfl, ⟨hc, hm⟩, h0⟩ := hv0
  cases A with
  | none =>
    have hl : l = [] := by
      rcases h0 with h | ⟨b, off, h, _⟩
      · exact h
      · cases h
    subst hl
    clear h0 hv hm hc hbig hone hlen
    go_enter Tryd.func25, Tryd.ntmps25
    go_wp2
    go_ret
    exact ⟨_, rfl, World.ownsRow_nil _ _ _ _, Below.refl _ _⟩
  | some a =>
    have hsrc := Lib.hid (SlAt.src (sz := 2) (enc := runL) (fun _ _ => rfl) hv)
    have HO := Lib.hid hone
    have HL := Lib.hid hlen
    clear h0 hv hone hlen
    go_enter Tryd.func25, Tryd.ntmps25
    go_wp2_with (at_builtin; refine wpList_append_own _ rfl _ _ 25 rfl w.heap.size 32 i0 _ 2 2 Tryd.underlying25 hi hz0 hz1 hz2 rfl (by decide) _ _ _ rfl (World.ownsRow_made w #[] 0 (Nat.le_refl _) (Nat.zero_le _) rfl) a l.length c (l.flatMap runL) rfl HL.out (fun j u hj => cell_ext ((Ext.refl _ _).alloc _) (hsrc.out j u hj)) HO.out (by simp only [maxLen]; omega) (by omega) (by simp) ?_; intro v' w1 hown hgrow _)
    go_ret
    refine ⟨v', rfl, by simpa using hown, ?_⟩
    exact ((Below.refl _ w).alloc (Nat.le_refl _) _).grown hgrow (by simp) (fun k hk => Nat.le_of_eq (Option.some.inj (show some w.heap.size = some k from hk)))
theorem info_ofByte : (Tryd.prog.info? 5).map (fun i => (i.zero, i.size, i.bytes)) = some (some (.int .u8 0), 1, 1) := by kernel_rfl
set_option maxRecDepth 100000 in
set_option maxHeartbeats 2000000 in
theorem cloneByte_any (l : List Nat) (v : Value) (w : World) (hv : SlAt 1 byteL w v l) (hbig : l.length * 1 ≤ 140737488355328) :
    Calls Tryd.prog 37 #[v] w fun e w' => ∃ v', e = .returned v' ∧ w'.ownsRow w.heap.size 5 1 v' l.length (l.flatMap byteL) ∧ Below w.heap.size w w' := by
  obtain ⟨i0, hi, hz0, hz1, hz2⟩ := info_parts info_ofByte
  have hq : ∀ (w : World) (a : Option Addr) (n c n' c' : Nat), (binOp .eql 34 (.slice a n c) (.slice none n' c')).run Tryd.prog w = .ok (.bool a.isNone) w := fun w a n c n' c' => Lib.run_eql_slice_nil w _ _ a n c n' c' Tryd.underlying34
  have hlen := flat_len 1 byteL l (fun _ _ => rfl)
  have hone : ∀ u ∈ l.flatMap byteL, u.oneCell' = true := by
    intro u hu
    obtain ⟨x, _, hx⟩ := List.mem_flatMap.1 hu
    simp only [List.mem_cons, List.not_mem_nil, or_false] at hx
    first | (subst hx; rfl) | (rcases hx with rfl | rfl <;> rfl) | (rcases hx with rfl | rfl | rfl | rfl <;> rfl)
  have hv0 := hv
  obtain ⟨A, c, rfl, ⟨hc, hm⟩, h0⟩ := hv0
  cases A with
  | none =>
    have hl : l = [] := by
      rcases h0 with h | ⟨b, off, h, _⟩
      · exact h
      · cases h
    subst hl
    clear h0 hv hm hc hbig hone hlen
    go_enter Tryd.func37, Tryd.ntmps37
    go_wp2
    go_ret
    exact ⟨_, rfl, World.ownsRow_nil _ _ _ _, Below.refl _ _⟩
  | some a =>
    have hsrc := Lib.hid (SlAt.src (sz := 1) (enc := byteL) (fun _ _ => rfl) hv)
    have HO := Lib.hid hone
    have HL := Lib.hid hlen
    clear h0 hv hone hlen
    go_enter Tryd.func37, Tryd.ntmps37
    go_wp2_with (at_builtin; refine wpList_append_own _ rfl _ _ 34 rfl w.heap.size 5 i0 _ 1 1 Tryd.underlying34 hi hz0 hz1 hz2 rfl (by decide) _ _ _ rfl (World.ownsRow_made w #[] 0 (Nat.le_refl _) (Nat.zero_le _) rfl) a l.length c (l.flatMap byteL) rfl HL.out (fun j u hj => cell_ext ((Ext.refl _ _).alloc _) (hsrc.out j u hj)) HO.out (by simp only [maxLen]; omega) (by omega) (by simp) ?_; intro v' w1 hown hgrow _)
    go_ret
    refine ⟨v', rfl, by simpa using hown, ?_⟩
    exact ((Below.refl _ w).alloc (Nat.le_refl _) _).grown hgrow (by simp) (fun k hk => Nat.le_of_eq (Option.some.inj (show some w.heap.size = some k from hk)))
theorem info_ofInt : (Tryd.prog.info? 3).map (fun i => (i.zero, i.size, i.bytes)) = some (some (.int .i64 0), 1, 8) := by kernel_rfl
set_option maxRecDepth 100000 in
set_option maxHeartbeats 2000000 in
theorem cloneInt_any (l : List Int) (v : Value) (w : World) (hv : SlAt 1 intL w v l) (hbig : l.length * 8 ≤ 140737488355328) :
    Calls Tryd.prog 43 #[v] w fun e w' => ∃ v', e = .returned v' ∧ w'.ownsRow w.heap.size 3 1 v' l.length (l.flatMap intL) ∧ Below w.heap.size w w' := by
  obtain ⟨i0, hi, hz0, hz1, hz2⟩ := info_parts info_ofInt
  have hq : ∀ (w : World) (a : Option Addr) (n c n' c' : Nat), (binOp .eql 58 (.slice a n c) (.slice none n' c')).run Tryd.prog w = .ok (.bool a.isNone) w := fun w a n c n' c' => Lib.run_eql_slice_nil w _ _ a n c n' c' Tryd.underlying58
  have hlen := flat_len 1 intL l (fun _ _ => rfl)
  have hone : ∀ u ∈ l.flatMap intL, u.oneCell' = true := by
    intro u hu
    obtain ⟨x, _, hx⟩ := List.mem_flatMap.1 hu
    simp only [List.mem_cons, List.not_mem_nil, or_false] at hx
    first | (subst hx; rfl) | (rcases hx with rfl | rfl <;> rfl) | (rcases hx with rfl | rfl | rfl | rfl <;> rfl)
  have hv0 := hv
  obtain ⟨A, c, rfl, ⟨hc, hm⟩, h0⟩ := hv0
  cases A with
  | none =>
    have hl : l = [] := by
      rcases h0 with h | ⟨b, off, h, _⟩
      · exact h
      · cases h
    subst hl
    clear h0 hv hm hc hbig hone hlen
    go_enter Tryd.func43, Tryd.ntmps43
    go_wp2
    go_ret
    exact ⟨_, rfl, World.ownsRow_nil _ _ _ _, Below.refl _ _⟩
  | some a =>
    have hsrc := Lib.hid (SlAt.src (sz := 1) (enc := intL) (fun _ _ => rfl) hv)
    have HO := Lib.hid hone
    have HL := Lib.hid hlen
    clear h0 hv hone hlen
    go_enter Tryd.func43, Tryd.ntmps43
    go_wp2_with (at_builtin; refine wpList_append_own _ rfl _ _ 58 rfl w.heap.size 3 i0 _ 1 8 Tryd.underlying58 hi hz0 hz1 hz2 rfl (by decide) _ _ _ rfl (World.ownsRow_made w #[] 0 (Nat.le_refl _) (Nat.zero_le _) rfl) a l.length c (l.flatMap intL) rfl HL.out (fun j u hj => cell_ext ((Ext.refl _ _).alloc _) (hsrc.out j u hj)) HO.out (by simp only [maxLen]; omega) (by omega) (by simp) ?_; intro v' w1 hown hgrow _)
    go_ret
    refine ⟨v', rfl, by simpa using hown, ?_⟩
    exact ((Below.refl _ w).alloc (Nat.le_refl _) _).grown hgrow (by simp) (fun k hk => Nat.le_of_eq (Option.some.inj (show some w.heap.size = some k from hk)))
theorem info_ofStr : (Tryd.prog.info? 9).map (fun i => (i.zero, i.size, i.bytes)) = some (some (.string ByteArray.empty), 1, 16) := by kernel_rfl
set_option maxRecDepth 100000 in
set_option maxHeartbeats 2000000 in
theorem cloneStr_any (l : List ByteArray) (v : Value) (w : World) (hv : SlAt 1 strL w v l) (hbig : l.length * 16 ≤ 140737488355328) :
    Calls Tryd.prog 27 #[v] w fun e w' => ∃ v', e = .returned v' ∧ w'.ownsRow w.heap.size 9 1 v' l.length (l.flatMap strL) ∧ Below w.heap.size w w' := by
  obtain ⟨i0, hi, hz0, hz1, hz2⟩ := info_parts info_ofStr
  have hq : ∀ (w : World) (a : Option Addr) (n c n' c' : Nat), (binOp .eql 51 (.slice a n c) (.slice none n' c')).run Tryd.prog w = .ok (.bool a.isNone) w := fun w a n c n' c' => Lib.run_eql_slice_nil w _ _ a n c n' c' Tryd.underlying51
  have hlen := flat_len 1 strL l (fun _ _ => rfl)
  have hone : ∀ u ∈ l.flatMap strL, u.oneCell' = true := by
    intro u hu
    obtain ⟨x, _, hx⟩ := List.mem_flatMap.1 hu
    simp only [List.mem_cons, List.not_mem_nil, or_false] at hx
    first | (subst hx; rfl) | (rcases hx with rfl | rfl <;> rfl) | (rcases hx with rfl | rfl | rfl | rfl <;> rfl)
  have hv0 := hv
  obtain ⟨A, c, rfl, ⟨hc, hm⟩, h0⟩ := hv0
  cases A with
  | none =>
    have hl : l = [] := by
      rcases h0 with h | ⟨b, off, h, _⟩
      · exact h
      · cases h
    subst hl
    clear h0 hv hm hc hbig hone hlen
    go_enter Tryd.func27, Tryd.ntmps27
    go_wp2
    go_ret
    exact ⟨_, rfl, World.ownsRow_nil _ _ _ _, Below.refl _ _⟩
  | some a =>
    have hsrc := Lib.hid (SlAt.src (sz := 1) (enc := strL) (fun _ _ => rfl) hv)
    have HO := Lib.hid hone
    have HL := Lib.hid hlen
    clear h0 hv hone hlen
    go_enter Tryd.func27, Tryd.ntmps27
    go_wp2_with (at_builtin; refine wpList_append_own _ rfl _ _ 51 rfl w.heap.size 9 i0 _ 1 16 Tryd.underlying51 hi hz0 hz1 hz2 rfl (by decide) _ _ _ rfl (World.ownsRow_made w #[] 0 (Nat.le_refl _) (Nat.zero_le _) rfl) a l.length c (l.flatMap strL) rfl HL.out (fun j u hj => cell_ext ((Ext.refl _ _).alloc _) (hsrc.out j u hj)) HO.out (by simp only [maxLen]; omega) (by omega) (by simp) ?_; intro v' w1 hown hgrow _)
    go_ret
    refine ⟨v', rfl, by simpa using hown, ?_⟩
    exact ((Below.refl _ w).alloc (Nat.le_refl _) _).grown hgrow (by simp) (fun k hk => Nat.le_of_eq (Option.some.inj (show some w.heap.size = some k from hk)))

end Go.Proofs.YtejialnbelleeaaDoor
