/-
  Package set: Compare, Of.
-/
import Derived.Test.YtejialnbelleeaaDoorSetC
namespace Go.Proofs.YtejialnbelleeaaDoor
open Go Go.RowKit

/-- Which of two sets stands ahead. -/
def cmpS (a b : Bs) : Int := if a = b then 0 else match nextS ((a &&& ~~~b) ||| (b &&& ~~~a)) 0 with
  | some i => if a.getLsbD i then -1 else 1
  | none => 1

theorem equalIn_u64 (d : Nat) (x y : Int) (w : World) : (Op.equalIn (d + 1) 22 (.int .u64 x) (.int .u64 y)).run Tryd.prog w = .ok (x == y) w :=
  run_equalIn_int w d 22 .u64 .u64 x y Tryd.underlying22

theorem equalIn_set' (d : Nat) (a b : Bs) (w : World) : (Op.equalIn (d + 1 + 1) 24 (setV a) (setV b)).run Tryd.prog w = .ok (decide (a = b)) w := by
  rw [Op.equalIn]
  simp only [run_underlying Tryd.underlying24, Sem.run_bind, Result.andThen_ok]
  have hs : (sizeOf 22).run Tryd.prog w = .ok 1 w := by kernel_rfl
  have p0 : ∀ (s : Bs), (part 22 (setC s) 0).run Tryd.prog w = .ok (wordV (word s 0)) w := fun s => by kernel_rfl
  have p1 : ∀ (s : Bs), (part 22 (setC s) 1).run Tryd.prog w = .ok (wordV (word s 1)) w := fun s => by kernel_rfl
  have p2 : ∀ (s : Bs), (part 22 (setC s) 2).run Tryd.prog w = .ok (wordV (word s 2)) w := fun s => by kernel_rfl
  have p3 : ∀ (s : Bs), (part 22 (setC s) 3).run Tryd.prog w = .ok (wordV (word s 3)) w := fun s => by kernel_rfl
  simp only [hs, Result.andThen_ok]
  simp only [Std.Legacy.Range.forIn_eq_forIn_range', Std.Legacy.Range.size]
  rw [show List.range' 0 ((4 - 0 + 1 - 1) / 1) = [0, 1, 2, 3] from rfl]
  simp only [List.forIn_cons, Nat.mul_one, Sem.run_bind, p0, Result.andThen_ok, equalIn_u64]
  by_cases h0 : word a 0 = word b 0
  · by_cases h1 : word a 1 = word b 1
    · by_cases h2 : word a 2 = word b 2
      · by_cases h3 : word a 3 = word b 3
        · have := set_ext h0 h1 h2 h3
          subst this
          simp [p1, p2, p3, equalIn_u64]
        · have hne : ¬ a = b := fun e => h3 (by rw [e])
          have e : (((word a 3).toNat : Int) == ((word b 3).toNat : Int)) = false := beq_eq_false_iff_ne.2 fun e => h3 (BitVec.eq_of_toNat_eq (Int.ofNat_inj.1 e))
          simp [h0, h1, h2, e, hne, p1, p2, p3, equalIn_u64]
      · have hne : ¬ a = b := fun e => h2 (by rw [e])
        have e : (((word a 2).toNat : Int) == ((word b 2).toNat : Int)) = false := beq_eq_false_iff_ne.2 fun e => h2 (BitVec.eq_of_toNat_eq (Int.ofNat_inj.1 e))
        simp [h0, h1, e, hne, p1, p2, equalIn_u64]
    · have hne : ¬ a = b := fun e => h1 (by rw [e])
      have e : (((word a 1).toNat : Int) == ((word b 1).toNat : Int)) = false := beq_eq_false_iff_ne.2 fun e => h1 (BitVec.eq_of_toNat_eq (Int.ofNat_inj.1 e))
      simp [h0, e, hne, p1, equalIn_u64]
  · have hne : ¬ a = b := fun e => h0 (by rw [e])
    have e : (((word a 0).toNat : Int) == ((word b 0).toNat : Int)) = false := beq_eq_false_iff_ne.2 fun e => h0 (BitVec.eq_of_toNat_eq (Int.ofNat_inj.1 e))
    simp [e, hne]
theorem equalIn_set (a b : Bs) (w : World) : (Op.equalIn 10000 24 (setV a) (setV b)).run Tryd.prog w = .ok (decide (a = b)) w := equalIn_set' 9998 a b w

theorem nextS_none {s : Bs} (h : nextS s 0 = none) : s = 0#256 := by
  apply bs_ext
  intro i hi
  rw [firstP_none _ _ h i (Nat.zero_le _) (by omega)]
  simp

theorem diff_zero {a b : Bs} (h : (a &&& ~~~b) ||| (b &&& ~~~a) = 0#256) : a = b := by
  apply bs_ext
  intro i hi
  have := congrArg (fun s : Bs => s.getLsbD i) h
  simp only [BitVec.getLsbD_or, BitVec.getLsbD_and, BitVec.getLsbD_not, BitVec.getLsbD_zero, hi, decide_true, Bool.true_and] at this
  generalize a.getLsbD i = x at *
  generalize b.getLsbD i = y at *
  revert this
  cases x <;> cases y <;> simp

set_option maxHeartbeats 1000000 in
theorem compare_any (a b : Bs) (w : World) (htab : TabOk w) :
    Calls Tryd.prog 19 #[setV a, setV b] w fun e w' => e = .returned (.int .i64 (cmpS a b)) ∧ Below w.heap.size w w' := by
  have he := equalIn_set a b
  by_cases hab : a = b
  · have hc : cmpS a b = 0 := by unfold cmpS; rw [if_pos hab]
    rw [hc]
    rw [decide_eq_true hab] at he
    clear hab hc
    go_enter Tryd.func19, Tryd.ntmps19
    go_wp2
    go_ret
    exact ⟨rfl, ((Below.refl _ _).alloc (Nat.le_refl _) _).alloc (by simp) _⟩
  · rw [decide_eq_false hab] at he
    have hnn : nextS ((a &&& ~~~b) ||| (b &&& ~~~a)) 0 ≠ none := fun e => hab (diff_zero (nextS_none e))
    obtain ⟨n, hn⟩ : ∃ n, nextS ((a &&& ~~~b) ||| (b &&& ~~~a)) 0 = some n := by
      cases e : nextS ((a &&& ~~~b) ||| (b &&& ~~~a)) 0 with
      | none => exact absurd e hnn
      | some n => exact ⟨n, rfl⟩
    have hlt := (firstP_some _ _ hn).2.1
    have hc : cmpS a b = if a.getLsbD n then -1 else 1 := by unfold cmpS; rw [if_neg hab, hn]
    rw [hc]
    generalize hxx : a.getLsbD n = x at *
    have hnx : ∀ w2, TabOk w2 → Calls Tryd.prog 46 #[setV ([b &&& ~~~a].foldl (fun a b => a ||| b) (a &&& ~~~b)), .int .i64 0] w2 fun e w' => e = .returned (.tuple #[.int .u8 (n : Int), .bool true]) ∧ Below w2.heap.size w2 w' := fun w2 ht => by
      refine (next_any _ 0 w2 ht (by decide) (by decide)).mono ?_
      rintro e w' ⟨rfl, hb⟩
      exact ⟨congrArg (fun z => Ending.returned (nextV z)) hn, hb⟩
    have HN := Lib.hid hnx
    have hh : ∀ w2, Calls Tryd.prog 23 #[setV a, .int .u8 (n : Int)] w2 fun e w' => e = .returned (.bool (a.getLsbD n)) ∧ Below w2.heap.size w2 w' := fun w2 => has_any a n w2 (by omega)
    rw [hxx] at hh
    have HH := Lib.hid hh
    clear hh
    have h0n : (0 : Int) ≤ n := by omega
    have h1n : (n : Int) < 256 := by omega
    clear hn hnn hab hc hnx hlt hxx
    go_enter Tryd.func19, Tryd.ntmps19
    go_wp2
    generalize hwz : World.alloc (World.alloc w _) _ = wz
    have hA : wz.heap[w.heap.size]? = some (.cells (setC a) 24 (0, 0)) := by rw [← hwz]; exact heap_two' w _ _
    have hB : wz.heap[w.heap.size + 1]? = some (.cells (setC b) 24 (0, 0)) := by rw [← hwz]; exact heap_two w _ _
    have hx : Ext G0 w wz := by rw [← hwz]; exact ((Ext.refl _ _).alloc _).alloc _
    clear hwz he
    apply region_phi (leaves := (Leaf.val _) :: (Leaf.val _) :: (Leaf.val _) :: (Leaf.val _) :: (Leaf.val _) :: (Leaf.val _) :: (Leaf.ref false false (fun v w => SetsAt w v [b &&& ~~~a])) :: (Leaf.val _) :: (Leaf.val _) :: (Leaf.val _) :: (Leaf.val _) :: (Leaf.val _) :: (Leaf.val _) :: (Leaf.val _) :: ([] : List Leaf)) (k := 14) (b := #[0, 0, 3, 0, 0, 31, 63, 127, 255, 511, 1023, 1023, 2047, 8191]) (ms := []) (E := Ext G0) mixed (by kernel_rfl) rfl (by kernel_rfl) rfl
    iterate 2
      apply owed_walk rfl
      · intro w1 hw hf
        obtain ⟨a0, a1, a2, a3⟩ := cells4 (ext_heapD hw hA (fun x => x))
        obtain ⟨b0, b1, b2, b3⟩ := cells4 (ext_heapD hw hB (fun x => x))
        go_wp2
        exact ⟨rfl, rfl, Ext.refl _ _⟩
      · simp
      · go_simp
        try rfl
    apply owed_walk rfl
    · intro w1 hw hf
      go_wp2_with (go_at_call 22; refine (less_any a b _).mono ?_; rintro e w2 ⟨rfl, hx2⟩)
      exact ⟨rfl, rfl, Ext.of_below hx2 _⟩
    · simp
    · go_simp
      try rfl
    iterate 2
      apply owed_walk rfl
      · intro w1 hw hf
        obtain ⟨a0, a1, a2, a3⟩ := cells4 (ext_heapD hw hA (fun x => x))
        obtain ⟨b0, b1, b2, b3⟩ := cells4 (ext_heapD hw hB (fun x => x))
        go_wp2
        exact ⟨rfl, rfl, Ext.refl _ _⟩
      · simp
      · go_simp
        try rfl
    apply owed_walk rfl
    · intro w1 hw hf
      go_wp2_with (go_at_call 22; refine (less_any b a _).mono ?_; rintro e w2 ⟨rfl, hx2⟩)
      exact ⟨rfl, rfl, Ext.of_below hx2 _⟩
    · simp
    · go_simp
      try rfl
    apply owed_walk_ref rfl
    · exact fun v w w' h hx => SlAt.ext h hx
    · intro w1 hw hf
      go_wp2
      exact ⟨rfl, sets_new _ [b &&& ~~~a] _ _ rfl (by simp), (Ext.refl _ _).alloc _⟩
    · simp
    · intro v
      go_simp
      try rfl
    intro v2
    apply owed_walk rfl
    · intro w1 hw hf
      simp only [List.mem_singleton, forall_eq] at hf
      have hv := hf (by decide)
      go_wp2_with (go_at_call 21; refine (mor_any (a &&& ~~~b) _ _ _ hv).mono ?_; rintro e w2 ⟨rfl, hx2⟩)
      exact ⟨rfl, rfl, Ext.of_below hx2 _⟩
    · simp
    · go_simp
      try rfl
    apply owed_walk rfl
    · intro w1 hw hf
      have ht1 := (htab.ext hx).ext hw.ofDrew
      go_wp2_with (go_at_call 46; refine (HN.out _ ht1).mono ?_; rintro e w2 ⟨rfl, hx2⟩)
      exact ⟨rfl, rfl, Ext.of_below hx2 _⟩
    · simp
    · go_simp
      try rfl
    iterate 5
      apply owed_walk rfl
      · intro w1 hw hf
        go_wp2
        exact ⟨rfl, rfl, Ext.refl _ _⟩
      · simp
      · go_simp
        try rfl
    apply owed_end
    intro w1 hw _
    refine Tail.nil rfl ?_
    have hA1 := ext_heapD hw hA (fun x => x)
    have hx1 := hx.trans hw.ofDrew
    obtain ⟨a0, a1, a2, a3⟩ := cells4 hA1
    cases x
    all_goals
      go_wp2_with fail
      refine (HH.out _).mono ?_
      rintro e w2 ⟨rfl, hx2⟩
      clear HN HH
      go_simp
      iterate 30 (try (first | go_values | go_skip | go_guarded | go_step | go_upon))
      go_ret
      exact ⟨rfl, hx1.below.trans (hx2.mono hx1.size)⟩

abbrev byteL (b : Nat) : List Value := [.int .u8 (b : Int)]
abbrev BytesAt := SlAt 1 byteL

theorem bytes_cell {w wr : World} {l : List Nat} {b off k : Nat} (h : ∀ i x, l[i]? = some x → ∀ j y, (byteL x)[j]? = some y → w.cell? ⟨b, off + i * 1 + j, none⟩ = some y) (hx : Ext G0 w wr) (hk : k < l.length) :
    wr.cell? ⟨b, off + k, none⟩ = some (.int .u8 (l[k] : Int)) := by
  have h := h k l[k] (by simp [hk]) 0 _ rfl
  rw [Nat.mul_one] at h
  exact cell_ext hx h

set_option maxHeartbeats 1000000 in
theorem of_any (l : List Nat) (v : Value) (w : World) (hv : BytesAt w v l) (hl : ∀ b ∈ l, b < 256) :
    Calls Tryd.prog 13 #[v] w fun e w' => e = .returned (setV (listS l)) ∧ Below w.heap.size w w' := by
  have hmf : ∀ (fn : Fn) (first cap : Array Value) (w : World), (Instr.makeFunc fn first cap).run Tryd.prog w = .ok (.func fn first cap) w := fun _ _ _ _ => rfl
  obtain ⟨A, c, rfl, ⟨_, hmax⟩, hv⟩ := hv
  go_enter Tryd.func13, Tryd.ntmps13
  go_wp2
  go_loopw [13] (fun i wr => ∃ k : Nat, k ≤ l.length ∧ i = .int .i64 (k : Int) ∧ wr.heap[w.heap.size + 1]? = some (.cells (setC (listS (l.take k))) 76 (0, 0)) ∧
      wr.heap[w.heap.size]? = some (.cells (setC 0#256) 24 (0, 0)) ∧ Ext G0 w wr) (fun i _ => l.length - (intOf i).toNat)
  case atStart =>
    refine ⟨0, by omega, rfl, ?_, ?_, ?_⟩
    · have : listS (l.take 0) = 0#256 := by unfold listS; simp [ofP_false]
      rw [this]
      exact heap_two w _ _
    · exact heap_two' w _ _
    · exact ((Ext.refl _ _).alloc _).alloc _
  case round =>
    obtain ⟨k, hk, rfl, hg, hr, hx⟩ := hrel
    by_cases hlt : k < l.length
    · rcases hv with rfl | ⟨b, off, rfl, hcell⟩
      · simp at hlt
      have e0 := bytes_cell hcell hx hlt
      have hb := hl l[k] (List.getElem_mem hlt)
      have hs : listS (l.take k) ||| one l[k] = listS (l.take (k + 1)) := by
        unfold listS
        rw [ofP_or_one _ _ hb]
        refine ofP_congr fun i _ => ?_
        rw [List.take_succ_eq_append_getElem hlt, Bool.eq_iff_iff]
        simp only [List.mem_append, List.mem_singleton, Bool.or_eq_true, decide_eq_true_eq]
      have HS := Lib.hid hs
      have HB := Lib.hid hb
      clear hs hb hcell hl
      generalize listS (l.take k) = cur at *
      generalize l[k] = y at *
      go_wp2_with fail
      refine (put_any (w.heap.size + 1) _ y _ HB.out hg).mono ?_
      rintro e w1 ⟨rfl, hg1, hx1⟩
      clear e0
      go_wp2
      go_roundw
      case rel => exact ⟨k + 1, by omega, by go_num, by rw [← HS.out]; exact hg1, ext_heap hx1 hr (fun x => by unfold G1 at x; omega), hx.own hx1 (by omega)⟩
      case measure => simp [intOf]; omega
    · obtain rfl : k = l.length := by omega
      rw [List.take_length] at hg
      obtain ⟨c0, c1, c2, c3⟩ := cells4 hg
      obtain ⟨r0, r1, r2, r3⟩ := cells4 hr
      have z := blk_free hr
      go_wp2
      refine bodyPost_ret (v := setV (listS l)) (by simp [results, Tryd.results13, go_sem, r0, r1, r2, r3]) rfl ⟨rfl, ?_⟩
      exact ((((hx.set (Nat.le_refl _) _).set (Nat.le_refl _) _).set (Nat.le_refl _) _).set (Nat.le_refl _) _).below

end Go.Proofs.YtejialnbelleeaaDoor
