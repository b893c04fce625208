/- What the functions of credit compute, part 2 -/
import Derived.Test.YtbanncpkgbiklaaT1
namespace Go.Proofs.Ytbanncpkgbiklaa
open Go.Gb
set_option linter.unusedVariables false
set_option linter.unusedSimpArgs false
section
open Go.Proofs Go.RowKit Go.Lib
set_option linter.unusedVariables false
set_option linter.unusedSimpArgs false
set_option maxHeartbeats 4000000 in
set_option maxRecDepth 100000 in
theorem ins_shift (b off n c i vb voff m vc : Nat) (e' : TypeId) (cur : Array Value) (cs vs : List Value) (w : World) (hz : (Try.prog.info? 35).map (·.size) = some 3)
    (hi : i < n) (hm : 0 < m) (hroom : n + m ≤ c) (hc63 : c ≤ 9223372036854775807) (hvb : vb ≠ b)
    (hg : w.heap[b]? = some (.cells cur e' (0, 0))) (hfit : off + c * 3 ≤ cur.size) (hcl : cs.length = (n - i) * 3) (hvl : vs.length = m * 3)
    (hcs : ∀ j v, cs[j]? = some v → w.cell? ⟨b, off + i * 3 + j, none⟩ = some v)
    (hvs : ∀ j v, vs[j]? = some v → w.cell? ⟨vb, voff + j, none⟩ = some v) (h1c : ∀ v ∈ cs, v.oneCell' = true) (h1v : ∀ v ∈ vs, v.oneCell' = true)
    (hov : ∀ lb cb, (callFunc 37 #[.slice (some ⟨vb, voff, none⟩) m vc, .slice (some ⟨b, off + (i + m) * 3, none⟩) lb cb]).run Try.prog w = .ok (.value (.bool false)) w) :
    Calls Try.prog 36 #[.slice (some ⟨b, off, none⟩) n c, .int .i64 i, .slice (some ⟨vb, voff, none⟩) m vc] w fun e w' =>
      e = .returned (.slice (some ⟨b, off, none⟩) (n + m) c) ∧ ∃ cur', w' = (w.drew.setRow b (cur.toList.take (off + (i + m) * 3) ++ cs ++ cur.toList.drop (off + (i + m) * 3 + cs.length)).toArray).setRow b cur' ∧
        cur'.toList = (cur.toList.take (off + (i + m) * 3) ++ cs ++ cur.toList.drop (off + (i + m) * 3 + cs.length)).take (off + i * 3) ++ vs ++ (cur.toList.take (off + (i + m) * 3) ++ cs ++ cur.toList.drop (off + (i + m) * 3 + cs.length)).drop (off + i * 3 + vs.length) := by
  have mixed : Try.prog.follows .mixedOrders = true := by kernel_rfl
  have hz1 : ¬ ((m : Int) = 0) := by omega
  have hz2 : ¬ ((i : Int) = (n : Int)) := by omega
  have hw1 : IntKind.i64.wrap ((i : Int) + (m : Int)) = (i : Int) + (m : Int) := by rw [IntKind.wrap_i64]; omega
  have hb1 : (0 : Int) ≤ (i : Int) + (m : Int) := by omega
  have hin : i ≤ n := by omega
  have htn : ((i : Int) + (m : Int)).toNat = i + m := by omega
  have hb2 : ¬ (c = i + m) := by omega
  have hb3 : (i : Int) ≤ (n : Int) + (m : Int) := by omega
  have hb4 : ¬ (c = i) := by omega
  have hgd : w.drew.heap[b]? = some (.cells cur e' (0, 0)) := hg
  have hadd : ∀ (x y j : Nat), (⟨x, y, none⟩ : Addr).add j = ⟨x, y + j, none⟩ := fun x y j => by unfold Addr.add; split <;> simp_all
  have hcp1 : ∀ ty dc sc, (Builtin.copy_ #[22, 22] ty #[.slice (some ⟨b, off + (i + m) * 3, none⟩) (n + m - (i + m)) dc, .slice (some ⟨b, off + i * 3, none⟩) (n + m - i) sc]).run Try.prog w.drew = _ := fun ty dc sc =>
    run_copy_raw (e := 35) (z := 3) Try.underlying22 hz hgd (cs := cs) (by rw [hcl, show Nat.min (n + m - i) (n + m - (i + m)) = n - i from by simp only [Nat.min_def]; split <;> omega]) (fun j v hj => by rw [hadd]; exact hcs j v hj) (by omega) h1c
  obtain ⟨W1, hW1⟩ : ∃ W1, W1 = w.drew.setRow b (cur.toList.take (off + (i + m) * 3) ++ cs ++ cur.toList.drop (off + (i + m) * 3 + cs.length)).toArray := ⟨_, rfl⟩
  have hg1 : W1.heap[b]? = some (.cells (cur.toList.take (off + (i + m) * 3) ++ cs ++ cur.toList.drop (off + (i + m) * 3 + cs.length)).toArray e' (0, 0)) := by
    rw [hW1]; exact setRow_heap w.drew b cur _ e' _ hgd
  have hcp2 : ∀ ty dc, (Builtin.copy_ #[22, 22] ty #[.slice (some ⟨b, off + i * 3, none⟩) (n + m - i) dc, .slice (some ⟨vb, voff, none⟩) m vc]).run Try.prog W1 = _ := fun ty dc =>
    run_copy_raw (e := 35) (z := 3) Try.underlying22 hz hg1 (cs := vs) (by rw [hvl, show Nat.min m (n + m - i) = m from by simp only [Nat.min_def]; split <;> omega]) (fun j v hj => by
      rw [hadd, hW1]
      have := hvs j v hj
      unfold World.cell? at this ⊢
      rw [setRow_other w.drew b vb _ hvb]
      exact this) (by simp only [List.size_toArray, List.length_append, List.length_take, List.length_drop, Array.length_toList]; omega) h1v
  rw [← hW1] at hcp1
  rw [← hW1]
  clear hW1
  go_enter Try.func36, Try.ntmps36
  go_wp2_with (simp only [hov])
  go_region_law_o (refine step_copy_runI rfl _ _ 22 22 rfl _ _ (by simp [Act.eval, Act.put]) (by simp [Act.eval, Act.put]) (hcp1 _ _ _) ?_)
  go_wp2_with (at_builtin; refine wpList_copy_runI _ rfl _ _ 22 22 rfl _ _ rfl rfl (hcp2 _ _) ?_)
  go_ret
  exact ⟨rfl, _, rfl, by simp [hcl, hvl]⟩
set_option maxHeartbeats 4000000 in
set_option maxRecDepth 100000 in
theorem ins_grow (b off n c i vb voff m vc : Nat) (cs vs : List Value) (w : World) (i0 : TypeInfo) (zv : Value) (hi0 : Try.prog.info? 35 = some i0) (hz0 : i0.zero = some zv) (hzs : i0.size = 3) (hzc : zv.cells.size = 3) (hby : i0.bytes ≤ 65536)
    (hi : i < n) (hm : 0 < m) (hnc : n ≤ c) (hroom : c < n + m) (hbig : n + m ≤ 1073741824) (hbw : b < w.heap.size) (hvw : vb < w.heap.size)
    (hcl : cs.length = n * 3) (hvl : vs.length = m * 3)
    (hcs : ∀ j v, cs[j]? = some v → w.cell? ⟨b, off + j, none⟩ = some v)
    (hvs : ∀ j v, vs[j]? = some v → w.cell? ⟨vb, voff + j, none⟩ = some v) (h1c : ∀ v ∈ cs, v.oneCell' = true) (h1v : ∀ v ∈ vs, v.oneCell' = true) :
    Calls Try.prog 36 #[.slice (some ⟨b, off, none⟩) n c, .int .i64 i, .slice (some ⟨vb, voff, none⟩) m vc] w fun e w' =>
      ∃ G ROW X2 X3, n + m ≤ G ∧ G ≤ maxLen ∧ e = .returned (.slice (some ⟨w.heap.size, 0, none⟩) (n + m) G) ∧ ROW.toList.take (i * 3) = cs.take (i * 3) ∧ ROW.size = G * 3 ∧
        w' = ((w.drew.alloc (.cells ROW 35)).setRow w.heap.size X2).drew.setRow w.heap.size X3 ∧
        X2.toList = ROW.toList.take (i * 3) ++ vs ++ ROW.toList.drop (i * 3 + m * 3) ∧ X3.toList = X2.toList.take ((i + m) * 3) ++ cs.drop (i * 3) ++ X2.toList.drop ((i + m) * 3 + (n - i) * 3) := by
  have mixed : Try.prog.follows .mixedOrders = true := by kernel_rfl
  have hz : (Try.prog.info? 35).map (·.size) = some 3 := by rw [hi0]; simp [hzs]
  have hz1 : ¬ ((m : Int) = 0) := by omega
  have hz2 : ¬ ((i : Int) = (n : Int)) := by omega
  have hz3 : (c : Int) < (n : Int) + (m : Int) := by omega
  have hadd : ∀ (x y j : Nat), (⟨x, y, none⟩ : Addr).add j = ⟨x, y + j, none⟩ := fun x y j => by unfold Addr.add; split <;> simp_all
  have hkk : (n : Int) + (m : Int) - (i : Int) = ((n + m - i : Nat) : Int) := by omega
  have hik : i + (n + m - i) = n + m := by omega
  have hold : (Builtin.firstCells i0.size i (.slice (some ⟨b, off, none⟩) i c)).run Try.prog w.drew = .ok (cs.take (i * 3)).toArray w.drew := by
    rw [hzs]
    exact run_firstCells_some w.drew 3 i ⟨b, off, none⟩ i c (cs.take (i * 3)) (by rw [List.length_take]; omega) (fun j v hj => by
      rw [hadd]
      rw [List.getElem?_take] at hj
      split at hj
      · exact hcs j v hj
      · cases hj)
  have hrz : ∀ ty, (Builtin.append_ #[22, 3] ty #[.slice (some ⟨b, off, none⟩) i c, .int .i64 ((n : Int) + (m : Int) - (i : Int))]).run Try.prog w =
      .ok (.slice (some ⟨w.heap.size, 0, none⟩) (n + m) (grownCap w (n + m) c 35)) (w.drew.alloc (.cells ((cs.take (i * 3)).toArray ++ Builtin.zeroCells zv.cells (n + m - i) ++ Builtin.zeroCells zv.cells (grownCap w (n + m) c 35 - (n + m))) 35)) := fun ty => by
    have h := Lib.run_append_grow_zeros w 22 3 ty 35 i0 zv .i64 .i64 Try.underlying22 Try.underlying3 hi0 hz0 (some ⟨b, off, none⟩) i c (cs.take (i * 3)) hold (n + m - i) (by omega) (by omega) (by omega) (by omega)
      (by have : (n + m - i) * i0.bytes ≤ 1073741824 * 65536 := Nat.mul_le_mul (by omega) hby
          omega) (by rw [hik]; exact growslice_fits hroom (by
          have : (n + m) * i0.bytes ≤ 1073741824 * 65536 := Nat.mul_le_mul hbig hby
          omega))
    rw [hik] at h
    rw [hkk]
    exact h
  have hGn : n + m ≤ grownCap w (n + m) c 35 := grownCap_ge w _ _ _
  have hGm : grownCap w (n + m) c 35 ≤ maxLen := grownCap_le_maxLen w (n + m) c 35 (by unfold maxLen; omega)
  obtain ⟨G, hG⟩ : ∃ G, G = grownCap w (n + m) c 35 := ⟨_, rfl⟩
  rw [← hG] at hrz hGn hGm
  obtain ⟨ROW, hROW⟩ : ∃ ROW : Array Value, ROW = (cs.take (i * 3)).toArray ++ Builtin.zeroCells zv.cells (n + m - i) ++ Builtin.zeroCells zv.cells (G - (n + m)) := ⟨_, rfl⟩
  rw [← hROW] at hrz
  have hRs : ROW.size = G * 3 := by
    rw [hROW]
    simp only [Array.size_append, List.size_toArray, size_zeroCells, hzc, List.length_take, hcl]
    omega
  have hRt : ROW.toList.take (i * 3) = cs.take (i * 3) := by
    rw [hROW]
    simp only [Array.toList_append, List.append_assoc]
    rw [List.take_append_of_le_length (by simp; omega), List.take_of_length_le (by simp; omega)]
  obtain ⟨W1, hW1⟩ : ∃ W1, W1 = w.drew.alloc (.cells ROW 35) := ⟨_, rfl⟩
  rw [← hW1] at hrz
  have hg1 : W1.heap[w.heap.size]? = some (.cells ROW 35 (0, 0)) := by rw [hW1]; exact heap_alloc_new w.drew _
  have hold1 : ∀ x, x < w.heap.size → W1.heap[x]? = w.heap[x]? := fun x hx => by rw [hW1]; exact (World.grownBy_alloc w.drew _ none).block x hx (by simp)
  have hcpA : ∀ ty dc, (Builtin.copy_ #[22, 22] ty #[.slice (some ⟨w.heap.size, i * 3, none⟩) (n + m - i) dc, .slice (some ⟨vb, voff, none⟩) m vc]).run Try.prog W1 = _ := fun ty dc =>
    run_copy_raw (e := 35) (z := 3) Try.underlying22 hz hg1 (cs := vs) (by rw [hvl, show Nat.min m (n + m - i) = m from by simp only [Nat.min_def]; split <;> omega]) (fun j v hj => by
      rw [hadd]
      have := hvs j v hj
      unfold World.cell? at this ⊢
      simp only [hold1 vb hvw]
      exact this) (by omega) h1v
  obtain ⟨X2, hX2⟩ : ∃ X2, X2 = (ROW.toList.take (i * 3) ++ vs ++ ROW.toList.drop (i * 3 + vs.length)).toArray := ⟨_, rfl⟩
  rw [← hX2] at hcpA
  have hX2s : X2.size = G * 3 := by rw [hX2]; simp [hRs, hvl]; omega
  obtain ⟨W2, hW2⟩ : ∃ W2, W2 = W1.setRow w.heap.size X2 := ⟨_, rfl⟩
  rw [← hW2] at hcpA
  have hg2 : W2.drew.heap[w.heap.size]? = some (.cells X2 35 (0, 0)) := by rw [hW2]; exact setRow_heap W1 w.heap.size ROW _ 35 _ hg1
  have hcpB : ∀ ty dc sc, (Builtin.copy_ #[22, 22] ty #[.slice (some ⟨w.heap.size, (i + m) * 3, none⟩) (n + m - (i + m)) dc, .slice (some ⟨b, off + i * 3, none⟩) (n - i) sc]).run Try.prog W2.drew = _ := fun ty dc sc =>
    run_copy_raw (e := 35) (z := 3) Try.underlying22 hz hg2 (cs := cs.drop (i * 3)) (by rw [List.length_drop, hcl, show Nat.min (n - i) (n + m - (i + m)) = n - i from by simp only [Nat.min_def]; split <;> omega, Nat.sub_mul]) (fun j v hj => by
      rw [hadd]
      rw [List.getElem?_drop] at hj
      have := hcs _ v hj
      rw [← Nat.add_assoc] at this
      unfold World.cell? at this ⊢
      have hne : b ≠ w.heap.size := by omega
      have h2 : W2.drew.heap[b]? = w.heap[b]? := by rw [hW2]; exact (setRow_other W1 w.heap.size b _ hne).trans (hold1 b hbw)
      simp only [h2]
      exact this) (by rw [List.length_drop, hcl, hX2s]; have : (n + m) * 3 ≤ G * 3 := Nat.mul_le_mul_right 3 hGn
                      omega) (fun v hv => h1c v (List.mem_of_mem_drop hv))
  obtain ⟨X3, hX3⟩ : ∃ X3, X3 = (X2.toList.take ((i + m) * 3) ++ cs.drop (i * 3) ++ X2.toList.drop ((i + m) * 3 + (cs.drop (i * 3)).length)).toArray := ⟨_, rfl⟩
  rw [← hX3] at hcpB
  have hfin : ∃ (Y2 Y3 : Array Value), Y2 = X2 ∧ Y3 = X3 ∧ W2.drew.setRow w.heap.size X3 = ((w.drew.alloc (.cells ROW 35)).setRow w.heap.size Y2).drew.setRow w.heap.size Y3 ∧
      Y2.toList = ROW.toList.take (i * 3) ++ vs ++ ROW.toList.drop (i * 3 + m * 3) ∧ Y3.toList = Y2.toList.take ((i + m) * 3) ++ cs.drop (i * 3) ++ Y2.toList.drop ((i + m) * 3 + (n - i) * 3) :=
    ⟨X2, X3, rfl, rfl, by rw [hW2, hW1], by rw [hX2, hvl], by rw [hX3]; simp only [List.length_drop, hcl, Nat.sub_mul]⟩
  clear hX3 hX2 hW2 hW1 hROW hG hkk hik hold
  have hG63 : G ≤ 9223372036854775807 := by unfold maxLen at hGm; omega
  have hGi : ¬ (G = i) := by omega
  have hGim : ¬ (G = i + m) := by omega
  have hb1 : (0 : Int) ≤ (i : Int) + (m : Int) := by omega
  have htn : ((i : Int) + (m : Int)).toNat = i + m := by omega
  have hin : i ≤ n := by omega
  have hb3 : (i : Int) ≤ (n : Int) := by omega
  have hb4 : ¬ (c = i) := by omega
  have hw0 : IntKind.i64.wrap ((n : Int) + (m : Int)) = (n : Int) + (m : Int) := by rw [IntKind.wrap_i64]; omega
  have hw1 : IntKind.i64.wrap ((i : Int) + (m : Int)) = (i : Int) + (m : Int) := by rw [IntKind.wrap_i64]; omega
  have hw2 : IntKind.i64.wrap ((n : Int) + (m : Int) - (i : Int)) = (n : Int) + (m : Int) - (i : Int) := by rw [IntKind.wrap_i64]; omega
  go_enter Try.func36, Try.ntmps36
  go_wp2_with (first
    | (at_builtin; refine Lib.wpList_append_run _ rfl _ _ _ _ rfl _ _ rfl rfl _ _ (hrz _) ?_)
    | (at_builtin; refine wpList_copy_runI _ rfl _ _ 22 22 rfl _ _ rfl rfl (hcpA _ _) ?_))
  go_region_law_o (refine step_copy_runI rfl _ _ 22 22 rfl _ _ (by simp [Act.eval, Act.put]) (by simp [Act.eval, Act.put]) (hcpB _ _ _) ?_)
  go_wp2
  go_ret
  obtain ⟨Y2, Y3, rfl, rfl, e1, e2, e3⟩ := hfin
  exact ⟨G, ROW, Y2, Y3, hGn, hGm, rfl, hRt, hRs, e1, e2, e3⟩
set_option maxHeartbeats 4000000 in
set_option maxRecDepth 100000 in
theorem ins_end (base : Option Addr) (n c : Nat) (base2 : Option Addr) (m vc : Nat) (w w' : World) (v' : Value) (hm : 0 < m) (hnc : n ≤ c) (hb : base = none → c = 0)
    (hrun : (Builtin.append_ #[22, 22] 22 #[.slice base n c, .slice base2 m vc]).run Try.prog w = .ok v' w') :
    Calls Try.prog 36 #[.slice base n c, .int .i64 n, .slice base2 m vc] w fun e w2 => e = .returned v' ∧ w2 = w' := by
  have hz1 : ¬ ((m : Int) = 0) := by omega
  have hzn : n ≤ n := Nat.le_refl n
  go_enter Try.func36, Try.ntmps36
  cases base with
  | none =>
    have hc0 := hb rfl
    subst hc0
    have hn0 : n = 0 := by omega
    subst hn0
    go_wp2_with (at_builtin; refine Lib.wpList_append_run _ rfl _ _ _ _ rfl _ _ rfl rfl _ _ hrun ?_)
    go_ret
    exact ⟨rfl, rfl⟩
  | some a =>
    obtain ⟨ab, ao, asp⟩ := a
    go_wp2_with (at_builtin; refine Lib.wpList_append_run _ rfl _ _ _ _ rfl _ _ rfl rfl _ _ hrun ?_)
    all_goals (go_ret; exact ⟨rfl, rfl⟩)
def insertA (xs : List Account) (i : Int) (ys : List Account) : Option (List Account) :=
  if 0 ≤ i ∧ i ≤ xs.length ∧ 0 < ys.length ∧ xs.length + ys.length ≤ 1073741824 then some (xs.take i.toNat ++ ys ++ xs.drop i.toNat) else none
theorem sz35 : Enc.sz Account = 3 := rfl
theorem insertA_ok {k0 : K} {v0 v1 v2 : Value} {xs ys : List Account} {i : Int} {r : List Account} (i0 : IsOwn 0 35 xs v0 k0) (i1 : IsV i v1 k0) (i2 : IsOwn 0 35 ys v2 k0) (d02 : Apart (obF v0) (obF v2)) (hr : insertA xs i ys = some r) :
    Calls Try.prog 36 #[v0, v1, v2] k0.w (RetC (obF v0) k0 (fun v k => IsOwn 0 35 r v k ∧ Wr (obF v0) k0 (obF v))) := by
  obtain ⟨⟨h0, hin, hm, hbig⟩, rfl⟩ := of_ite hr
  rw [isV_int.1 i1]
  obtain ⟨I, rfl⟩ : ∃ I : Nat, i = (I : Int) := ⟨i.toNat, by omega⟩
  have hI : I ≤ xs.length := by omega
  rw [Int.toNat_natCast]
  obtain ⟨i0i, zv, hi0, hz0, hsz0, hzc, hpos, hby⟩ := eo35
  have hz : (Try.prog.info? 35).map (·.size) = some 3 := by rw [hi0]; simp [hsz0, sz35]
  have hrd := IsOwn.rd i2
  rcases i2 with ⟨_, rfl⟩ | ⟨_, _, rfl⟩ | ⟨vb, voff, vc, cur2, vs, rfl, _, hvo, hvh, hvc, hv0, hvm, hvs, hvcells, hvr⟩
  · simp at hm
  · simp at hm
  rcases Nat.lt_or_ge I xs.length with hlt | hge
  · rcases i0 with ⟨_, rfl⟩ | ⟨_, _, rfl⟩ | ⟨b, off, cap, cur, cs, rfl, _, ho, hh, hc, hc0, hcm, hcs, hcells, hrep⟩
    · simp at hlt
    · simp at hlt
    have hcl := hrep.len
    have hvl := hvr.len
    have hvbb : vb ≠ b := fun e => d02 b (by simp [obF, ob, Nat.ne_of_gt hc0]) (by simp [obF, ob, Nat.ne_of_gt hv0, e])
    have hbw : b < k0.w.heap.size := (Array.getElem?_eq_some_iff.1 hh).1
    have hvw : vb < k0.w.heap.size := (Array.getElem?_eq_some_iff.1 hvh).1
    have hcat : CellsAt k0.w ⟨b, off, none⟩ cs := by
      have := cellsAt_row (n := xs.length * Enc.sz Account) (off := off) hh (by have := Nat.mul_le_mul_right (Enc.sz Account) hc; omega)
      rwa [hcells] at this
    have hvat : CellsAt k0.w ⟨vb, voff, none⟩ vs := by
      have := cellsAt_row (n := ys.length * Enc.sz Account) (off := voff) hvh (by have := Nat.mul_le_mul_right (Enc.sz Account) hvc; omega)
      rwa [hvcells] at this
    have hadd : ∀ (x y j : Nat), (⟨x, y, none⟩ : Addr).add j = ⟨x, y + j, none⟩ := fun x y j => by unfold Addr.add; split <;> simp_all
    have hcc : ∀ j v, cs[j]? = some v → k0.w.cell? ⟨b, off + j, none⟩ = some v := fun j v hj => by rw [← hadd]; exact hcat.cell j v hj
    have hvv : ∀ j v, vs[j]? = some v → k0.w.cell? ⟨vb, voff + j, none⟩ = some v := fun j v hj => by rw [← hadd]; exact hvat.cell j v hj
    rw [sz35] at hcl hvl hcs hvs hcells hvcells
    have hnew : RepL k0 (cs.take (I * 3) ++ vs ++ cs.drop (I * 3)) (xs.take I ++ ys ++ xs.drop I) := ((RepL.take I hrep).append hvr).append (RepL.drop I hrep)
    have hlen : (xs.take I ++ ys ++ xs.drop I).length = xs.length + ys.length := by simp; omega
    by_cases hroom : xs.length + ys.length ≤ cap
    · have hov : ∀ lb cb, (callFunc 37 #[.slice (some ⟨vb, voff, none⟩) ys.length vc, .slice (some ⟨b, off + (I + ys.length) * 3, none⟩) lb cb]).run Try.prog k0.w = .ok (.value (.bool false)) k0.w := fun lb cb => by
        rw [run_callFunc_extern (P := Try.prog) (f := 37) rfl (by kernel_rfl) (by kernel_rfl) (by kernel_rfl) (e := Extern.SlicesOverlaps.overlaps #[22, 22] #[4]) (by kernel_rfl),
          Lib.run_overlaps_apart k0.w 22 4 35 Try.underlying22 3 (fun w => Go.Gb.run_sizeOf hz) ⟨vb, voff, none⟩ ⟨b, off + (I + ys.length) * 3, none⟩ ys.length vc lb cb hvbb 35 35 cur2.size cur.size
            (by simp [World.shape?, hvh]) (by simp [World.shape?, hh]) (by omega) (by simp [World.frozen?, hvh]) (by simp [World.frozen?, hvh])]
        rfl
      refine Calls.mono (ins_shift b off xs.length cap I vb voff ys.length vc 35 cur (cs.drop (I * 3)) vs k0.w hz hlt hm hroom (by unfold maxLen at hcm; omega) hvbb hh hcs (by rw [List.length_drop, hcl, Nat.sub_mul]) hvl
        (fun j v hj => by rw [List.getElem?_drop] at hj; rw [Nat.add_assoc]; exact hcc _ v hj) hvv (fun u hu => hrep.one u (List.mem_of_mem_drop hu)) hvr.one hov) fun e w' he => ?_
      obtain ⟨rfl, X3, hw', hX3⟩ := he
      have hblk : ∀ x, x ≠ b → w'.heap[x]? = k0.w.heap[x]? := fun x hx => by
        rw [hw']
        exact (setRow_other _ _ _ _ hx).trans (setRow_other k0.w.drew _ _ _ hx)
      have hsz : w'.heap.size = k0.w.heap.size := by rw [hw']; simp
      have hrow : w'.heap[b]? = some (.cells X3 35 (0, 0)) := by
        rw [hw']
        exact setRow_heap _ _ _ X3 35 _ (setRow_heap k0.w.drew _ cur _ 35 _ hh)
      have hcul : cur.toList.length = cur.size := by simp
      have hX3t : (X3.toList.drop off).take ((xs.length + ys.length) * 3) = cs.take (I * 3) ++ vs ++ cs.drop (I * 3) := by
        have hA : (cur.toList.take (off + (I + ys.length) * 3) ++ cs.drop (I * 3) ++ cur.toList.drop (off + (I + ys.length) * 3 + (cs.drop (I * 3)).length)).take (off + I * 3) = cur.toList.take (off + I * 3) := by
          rw [List.append_assoc, List.take_append_of_le_length (by simp only [List.length_take, hcul]; omega), List.take_take, Nat.min_eq_left (by omega)]
        have hB : (cur.toList.take (off + (I + ys.length) * 3) ++ cs.drop (I * 3) ++ cur.toList.drop (off + (I + ys.length) * 3 + (cs.drop (I * 3)).length)).drop (off + I * 3 + vs.length) =
            cs.drop (I * 3) ++ cur.toList.drop (off + (I + ys.length) * 3 + (cs.drop (I * 3)).length) := by
          rw [List.append_assoc]
          exact List.drop_left' (by simp only [List.length_take, hcul, hvl]; omega)
        rw [hX3, hA, hB, List.append_assoc, List.drop_append_of_le_length (by simp only [List.length_take, hcul]; omega), List.drop_take, Nat.add_sub_cancel_left]
        have hC : (cur.toList.drop off).take (I * 3) = cs.take (I * 3) := by
          rw [← hcells, List.take_take, Nat.min_eq_left (by omega)]
        rw [hC, ← List.append_assoc, ← List.append_assoc]
        exact List.take_left' (by simp only [List.length_append, List.length_take, List.length_drop, hcl, hvl]; omega)
      have hX3l : X3.size = cur.size := by
        have : X3.toList.length = cur.size := by rw [hX3]; simp only [List.length_append, List.length_take, List.length_drop, hcul, hcl, hvl]; omega
        simpa using this
      let k' : K := ⟨w', k0.sh, fun x hx => by have := k0.lt x hx; omega⟩
      have hle : Le k0 k' := ⟨fun x hx => hblk x (fun e => ho (e ▸ hx)), fun x hx => hx⟩
      refine ⟨k', rfl, ⟨by rw [show k'.w = w' from rfl, hw']; rfl, by rw [show k'.w = w' from rfl, hw']; rfl, by rw [show k'.w = w' from rfl, hw']; rfl, by show _ ≤ w'.heap.size; omega, fun x hx hF => hblk x (fun e => hF (by simp [obF, ob, Nat.ne_of_gt hc0, e])), fun _ h => h, fun _ _ h => .inl h, ?_⟩, .inr (.inr ⟨b, off, cap, X3, _, by rw [hlen], Nat.zero_le _, ho, hrow, by rw [hlen]; exact hroom, hc0, hcm, ?_, rfl, ?_⟩), ?_⟩
      · show k0.w.drawn ≤ w'.drawn
        rw [hw']
        exact Nat.le_succ _
      · rw [sz35, hX3l]; exact hcs
      · rw [hlen, sz35, hX3t]
        exact hnew.mono hle
      · intro x hx
        refine .inl ?_
        simp only [obF, ob] at hx ⊢
        exact hx
    · refine Calls.mono (ins_grow b off xs.length cap I vb voff ys.length vc cs vs k0.w i0i zv hi0 hz0 (by rw [hsz0]; rfl) (by rw [hzc]; rfl) hby hlt hm hc (by omega) hbig hbw hvw hcl hvl hcc hvv hrep.one hvr.one) fun e w' he => ?_
      obtain ⟨G, ROW, X2, X3, hG, hGm, rfl, hRt, hRs, hw', hX2, hX3⟩ := he
      have hsz : w'.heap.size = k0.w.heap.size + 1 := by rw [hw']; simp
      have hblk : ∀ x, x < k0.w.heap.size → w'.heap[x]? = k0.w.heap[x]? := fun x hx => by
        rw [hw']
        exact ((setRow_other _ _ _ _ (by omega)).trans (setRow_other (k0.w.drew.alloc (.cells ROW 35)) _ _ _ (by omega))).trans ((World.grownBy_alloc k0.w.drew _ none).block x hx (by simp))
      have hrow : w'.heap[k0.w.heap.size]? = some (.cells X3 35 (0, 0)) := by
        rw [hw']
        exact setRow_heap _ _ X2 _ 35 _ (setRow_heap (k0.w.drew.alloc (.cells ROW 35)) _ ROW X2 35 _ (heap_alloc_new k0.w.drew _))
      have hRl : ROW.toList.length = G * 3 := by simpa using hRs
      have hX2l : X2.toList.length = G * 3 := by rw [hX2]; simp only [List.length_append, List.length_take, List.length_drop, hRl, hvl]; omega
      have hX2t : X2.toList.take ((I + ys.length) * 3) = cs.take (I * 3) ++ vs := by
        rw [hX2, hRt]
        exact List.take_left' (by simp only [List.length_append, List.length_take, hcl, hvl]; omega)
      have hX3t : X3.toList.take ((xs.length + ys.length) * 3) = cs.take (I * 3) ++ vs ++ cs.drop (I * 3) := by
        rw [hX3, hX2t]
        exact List.take_left' (by simp only [List.length_append, List.length_take, List.length_drop, hcl, hvl]; omega)
      have hX3l : X3.size = G * 3 := by
        have : X3.toList.length = G * 3 := by rw [hX3]; simp only [List.length_append, List.length_take, List.length_drop, hX2l, hcl]; omega
        simpa using this
      let k' : K := ⟨w', k0.sh, fun x hx => by have := k0.lt x hx; omega⟩
      have hle : Le k0 k' := ⟨fun x hx => hblk x (k0.lt x hx), fun x hx => hx⟩
      refine ⟨k', rfl, ⟨by rw [show k'.w = w' from rfl, hw']; rfl, by rw [show k'.w = w' from rfl, hw']; rfl, by rw [show k'.w = w' from rfl, hw']; rfl, by show _ ≤ w'.heap.size; omega, fun x hx _ => hblk x hx, fun _ h => h, fun _ _ h => .inl h, ?_⟩, .inr (.inr ⟨k0.w.heap.size, 0, G, X3, _, by rw [hlen], Nat.zero_le _, fun hs => Nat.lt_irrefl _ (k0.lt _ hs), hrow, by rw [hlen]; exact hG, by omega, hGm, ?_, rfl, ?_⟩), ?_⟩
      · show k0.w.drawn ≤ w'.drawn
        rw [hw']
        exact Nat.le_trans (Nat.le_succ _) (Nat.le_succ _)
      · rw [sz35, hX3l]; omega
      · rw [hlen, sz35, List.drop_zero, hX3t]
        exact hnew.mono hle
      · intro x hx
        refine .inr ?_
        simp only [obF, ob] at hx
        split at hx
        · simp at hx
        · simp at hx; omega
  · have hIe : I = xs.length := by omega
    subst hIe
    obtain ⟨v', k', hrun, hg, hown, hob⟩ := run_append (P := Try.prog) (t := 22) (ty := 22) (e := 35) (B := 0) Try.underlying22 ⟨i0i, zv, hi0, hz0, hsz0, hzc, hpos, hby⟩ (Nat.zero_le _) i0 hrd (show appI xs ys = some (xs ++ ys) from if_pos hbig)
    have hv0s : ∃ base c, v0 = .slice base xs.length c ∧ xs.length ≤ c ∧ (base = none → c = 0) := by
      rcases i0 with ⟨rfl, rfl⟩ | ⟨ad, rfl, rfl⟩ | ⟨b, off, cap, cur, cs, rfl, _, _, _, hc, _⟩
      · exact ⟨none, 0, rfl, Nat.le_refl _, fun _ => rfl⟩
      · exact ⟨some ad, 0, rfl, Nat.le_refl _, fun _ => rfl⟩
      · exact ⟨_, cap, rfl, hc, fun h => by simp at h⟩
    obtain ⟨base, c, rfl, hnc, hb0⟩ := hv0s
    refine Calls.mono (ins_end base xs.length c _ ys.length vc k0.w k'.w v' hm hnc hb0 hrun) fun e w' he => ?_
    obtain ⟨rfl, rfl⟩ := he
    refine ⟨k', rfl, hg.chg, ?_, fun x hx => ?_⟩
    · simpa using hown
    · exact (hob x hx).imp id id
end

abbrev PM := GMap Int (List (Int × Int))
def PM.at (m : PM) (n : Int) : List (Int × Int) := (getK m.l n).getD []
abbrev kI : Int → Value := KeyV.kv
theorem zero29 : ∀ w, (zeroValue 29).run Try.prog w = .ok nilS w := fun w => Try.zeroValue29 w

def cPut (m : PM) (lot origin n : Int) : Option PM :=
  if (n == 0) then some m else
  (if (decide (0 < ((m.at lot).length : Int))) then
    (subI ((m.at lot).length : Int) 1).bind fun x1 =>
    (getI (m.at lot) x1).bind fun x2 =>
    some (x2.1 == origin)
  else some false).bind fun x3 =>
  if x3 then
    (subI ((m.at lot).length : Int) 1).bind fun x4 =>
    (getI (m.at lot) x4).bind fun x5 =>
    (addI x5.2 n).bind fun x6 =>
    (getI (m.at lot) x4).bind fun x7 =>
    some ⟨backK m.l lot ((m.at lot).set x4.toNat (x7.1, x6))⟩
  else
    (appI (m.at lot) [(origin, n)]).bind fun x8 =>
    some ⟨setK m.l lot x8⟩

theorem retT {R : FP → Pred} {F G : FP} {k0 k : K} {u : Value} {fn : Func} {a : Act} (hr : fn.results = #[]) (hd : a.defers = []) (hg : Chg F k0 k) (h : R G u k) (hG : ∀ c, G c → F c ∨ k0.w.heap.size ≤ c) :
    bodyPost Try.prog fn (RetC F k0 (fun _ => Turned R u k0 F)) .ret a k.w :=
  ⟨hd, .tuple #[], by simp [results, hr], k, rfl, hg, G, h, hG⟩

theorem cPut_ok {k0 : K} {F0 : FP} {v0 v1 v2 v3 : Value} {m : PM} {lot origin n_ : Int} {r : PM} (i0 : SlR kI 37 m.l F0 v0 k0) (i1 : (IsV lot) v1 k0) (i2 : (IsV origin) v2 k0) (i3 : (IsV n_) v3 k0) (hr : cPut m lot origin n_ = some r) :
    Calls Try.prog 26 #[v0, v1, v2, v3] k0.w (RetC F0 k0 (fun _ => Turned (SlR kI 37 r.l) v0 k0 F0)) := by
  unfold cPut at hr
  refine enterK Try.func26 rfl Try.ntmps26 (show 4 ≤ 49 by decide) fun a k hk0 hs hd ha => ?_
  obtain ⟨e0, e1, e2, e3, _⟩ := ha
  replace i0 : SlR kI 37 m.l F0 v0 k := by rw [hk0]; exact i0
  replace i1 : (IsV lot) (a.get 1) k := by rw [e1, hk0]; exact i1
  replace i2 : (IsV origin) (a.get 2) k := by rw [e2, hk0]; exact i2
  replace i3 : (IsV n_) (a.get 3) k := by rw [e3, hk0]; exact i3
  have hQ : Gb.LetsOut (bodyPost Try.prog Try.f26 (RetC F0 k0 (fun _ => Turned (SlR kI 37 r.l) v0 k0 F0))) := letsOutC
  have hg : Chg F0 k0 k := by rw [hk0]; exact Chg.refl _ k0
  obtain ⟨bm, u8, G8, hv, hH, i8, hA, hF⟩ := i0.focus lot
  have hGs : Wr F0 k0 G8 := fun c hc => .inl (hF c (.inl hc))
  have n8 : Wr F0 k0 (obF u8) := fun c hc => .inl (hF c (.inr hc))
  have e8 := e0
  rw [hv] at e0
  replace i8 : IsOwn 0 37 (m.at lot) u8 k := i8
  generalize hl : m.at lot = l_ at hr i8
  refine wp_seq ?_
  refine cut (fun a' k' => Chg F0 k0 k' ∧ a'.tmps.size = 49 ∧ a'.defers = [] ∧ a'.get 0 = .map (some bm) ∧ SlR kI 37 m.l F0 v0 k' ∧ HoleR kI 37 m.l lot bm u8 G8 v0 k' ∧ (IsV lot) (a'.get 1) k' ∧ (IsV origin) (a'.get 2) k' ∧ (IsV n_) (a'.get 3) k' ∧ a'.get 8 = u8 ∧ IsOwn 0 37 l_ u8 k' ∧ True) ?_ hQ ?_
  · intro Q1 hQ1 hp
    refine regionS (a0 := a) (k0 := k) (n := 49) (m := 4) (⟨some (Is (.map (some bm))), [(0, none)]⟩ :: ⟨some (IsV lot), [(1, none)]⟩ :: ⟨some (Is u8), [(9, some 0), (10, some 1)]⟩ :: ⟨some (Is u8), [(11, some 2)]⟩ :: []) hs (by kernel_rfl)
      ⟨⟨inferInstance, .inl ⟨fun b q hk hn => ok_move rfl (show b.get 0 = _ from hn.1.trans e0), rfl⟩⟩, ⟨inferInstance, .inl ⟨fun b q hk hn => ok_move rfl (up i1 hk hn.1), rfl⟩⟩,
       ⟨inferInstance, .inl ⟨fun b q hk hn => ok_lookupH rfl key3 Try.underlying49 zero29 hn.1 (isV_int.1 hn.2.1) (Rsc.grow hH hk), rfl⟩⟩, ⟨inferInstance, .inl ⟨fun b q hk hn => ok_assign rfl hn.1, rfl⟩⟩, trivial⟩ hQ1 fun b q p => ?_
    exact tail_done (k := q) (hp _ _ ⟨hg.then p.grow, p.size.trans hs, p.defers.trans hd, (p.old 0 rfl).trans e0, Rsc.grow i0 p.grow, Rsc.grow hH p.grow, keep p 1 rfl i1, keep p 2 rfl i2, keep p 3 rfl i3, out p 3 8 _ rfl rfl rfl, Mono.mono p.grow i8, trivial⟩)
  · clear i0 hH i1 i2 i3 i8 hg hs hd e0 e1 e2 e3 e8
    rintro a k ⟨hg, hs, hd, e0, i0, hH, i1, i2, i3, e8, i8, _⟩
    replace i8 : IsOwn 0 37 l_ (a.get 8) k := by rw [e8]; exact i8
    refine wp_block ?_
    refine wp_seq ?_
    refine cut (fun a' k' => Chg F0 k0 k' ∧ a'.tmps.size = 49 ∧ a'.defers = [] ∧ a'.get 0 = .map (some bm) ∧ SlR kI 37 m.l F0 v0 k' ∧ HoleR kI 37 m.l lot bm u8 G8 v0 k' ∧ (IsV lot) (a'.get 1) k' ∧ (IsV origin) (a'.get 2) k' ∧ (IsV n_) (a'.get 3) k' ∧ a'.get 8 = u8 ∧ IsOwn 0 37 l_ (a'.get 8) k' ∧ (IsV (n_ == 0)) (a'.get 20) k' ∧ True) ?_ hQ ?_
    · intro Q22 hQQ22 hp
      refine regionS (a0 := a) (k0 := k) (n := 49) (m := 3) (⟨some (IsV n_), [(3, none)]⟩ :: ⟨some (IsV (n_ == 0)), [(21, some 0)]⟩ :: ⟨some (IsV (n_ == 0)), [(22, some 1)]⟩ :: []) hs (by kernel_rfl) ⟨⟨inferInstance, .inl ⟨fun b q hk hn => ok_move rfl (up i3 hk hn.1), rfl⟩⟩, ⟨inferInstance, .inl ⟨fun b q hk hn => ok_eqI rfl hn.1 (isV_int.2 rfl), rfl⟩⟩, ⟨inferInstance, .inl ⟨fun b q hk hn => ok_assign rfl hn.1, rfl⟩⟩, trivial⟩ hQQ22 fun b q p => ?_
      exact tail_done (k := q) (hp _ _ ⟨hg.then p.grow, p.size.trans hs, p.defers.trans hd, (p.old 0 rfl).trans e0, Rsc.grow i0 p.grow, Rsc.grow hH p.grow, keep p 1 rfl i1, keep p 2 rfl i2, keep p 3 rfl i3, (p.old 8 rfl).trans e8, keep p 8 rfl i8, out p 2 20 _ rfl rfl rfl, trivial⟩)
    · clear i0 hH i1 i2 i3 i8 hg hs hd e0 e8
      rintro a k ⟨hg, hs, hd, e0, i0, hH, i1, i2, i3, e8, i8, i20, _⟩
      refine wp_cond_split (isBool i20) (fun hc20 => ?_) (fun hc20 => ?_)
      · rw [if_pos hc20] at hr
        refine wp_skip ?_
        obtain rfl := Option.some.inj hr
        exact retT (R := SlR kI 37 m.l) rfl hd hg i0 (fun c hc => .inl hc)
      · rw [if_neg (by rw [hc20]; decide)] at hr
        clear i0
        refine wp_seq ?_
        obtain ⟨x3, hx3, hr⟩ := bind_some hr
        refine cut (fun a' k' => Chg F0 k0 k' ∧ a'.tmps.size = 49 ∧ a'.defers = [] ∧ a'.get 0 = .map (some bm) ∧ HoleR kI 37 m.l lot bm u8 G8 v0 k' ∧ (IsV lot) (a'.get 1) k' ∧ (IsV origin) (a'.get 2) k' ∧ (IsV n_) (a'.get 3) k' ∧ a'.get 8 = u8 ∧ IsOwn 0 37 l_ (a'.get 8) k' ∧ (IsV x3) (a'.get 23) k' ∧ True) ?_ hQ ?_
        · intro Q15 hQQ15 hp
          rcases Bool.eq_false_or_eq_true (decide (0 < (l_.length : Int))) with hm17 | hm17
          · have ht18 := hx3
            rw [if_pos hm17] at ht18
            obtain ⟨x4_7, hx4_7, ht18⟩ := bind_some ht18
            obtain ⟨x4_8, hx4_8, ht18⟩ := bind_some ht18
            refine regionS (a0 := a) (k0 := k) (n := 49) (m := 15) (⟨some (OwnAt (a.get 8) 0 37 l_), [(8, none)]⟩ :: ⟨some (IsV (α := Int) (l_.length : Int)), [(24, some 0)]⟩ :: ⟨some (IsV (decide (0 < (l_.length : Int)))), [(25, some 1)]⟩ :: ⟨some (IsV (decide (0 < (l_.length : Int)))), [(26, some 2)]⟩ :: ⟨some (OwnAt (a.get 8) 0 37 l_), [(8, none)]⟩ :: ⟨some (OwnAt (a.get 8) 0 37 l_), [(8, none)]⟩ :: ⟨some (IsV (α := Int) (l_.length : Int)), [(29, some 5)]⟩ :: ⟨some (IsV x4_7), [(30, some 6)]⟩ :: ⟨some (IsPtr x4_8), [(28, some 4), (31, some 7)]⟩ :: ⟨some (IsPtr x4_8.1), [(32, some 8)]⟩ :: ⟨some (IsV x4_8.1), [(33, some 9)]⟩ :: ⟨some (IsV origin), [(2, none)]⟩ :: ⟨some (IsV (x4_8.1 == origin)), [(34, some 10), (35, some 11)]⟩ :: ⟨some (IsV x3), [(27, some 3), (36, some 12)]⟩ :: ⟨some (IsV x3), [(37, some 13)]⟩ :: []) hs (by kernel_rfl) ⟨⟨inferInstance, .inl ⟨fun b q hk hn => ok_moveOA (.inl rfl) ⟨hn.1, up i8 hk hn.1⟩, rfl⟩⟩, ⟨inferInstance, .inl ⟨fun b q hk hn => ok_len rfl rfl Try.underlying29 (IsOwn.rd (hn.1).2), rfl⟩⟩, ⟨inferInstance, .inl ⟨fun b q hk hn => ok_gtr rfl hn.1 (isV_int.2 rfl), rfl⟩⟩, ⟨inferInstance, .inl ⟨fun b q hk hn => ok_move rfl hn.1, rfl⟩⟩, ⟨inferInstance, .inl ⟨fun b q hk hn => ok_moveOA (.inl rfl) ⟨hn.1, up i8 hk hn.1⟩, guardT hm17⟩⟩, ⟨inferInstance, .inl ⟨fun b q hk hn => ok_moveOA (.inl rfl) ⟨hn.1, up i8 hk hn.1⟩, guardT hm17⟩⟩, ⟨inferInstance, .inl ⟨fun b q hk hn => ok_len rfl rfl Try.underlying29 (IsOwn.rd (hn.1).2), guardT hm17⟩⟩, ⟨inferInstance, .inl ⟨fun b q hk hn => ok_sub rfl hn.1 (isV_int.2 rfl) hx4_7, guardT hm17⟩⟩, ⟨inferInstance, .inl ⟨fun b q hk hn => ok_indexAddr rfl Try.underlying29 ty37 (IsOwn.rd (hn.1).2) hn.2.1 hx4_8, guardT hm17⟩⟩, ⟨inferInstance, .inl ⟨fun b q hk hn => ok_arrAddr (i := 0) rfl ao37 (by decide) (aat37_0 _) hn.1 (isV_int.2 rfl), guardT hm17⟩⟩, ⟨inferInstance, .inl ⟨fun b q hk hn => ok_load rfl ty3 hn.1, guardT hm17⟩⟩, ⟨inferInstance, .inl ⟨fun b q hk hn => ok_move rfl (up i2 hk hn.1), guardT hm17⟩⟩, ⟨inferInstance, .inl ⟨fun b q hk hn => ok_eqI rfl hn.1 hn.2.1, guardT hm17⟩⟩, ⟨inferInstance, .inl ⟨fun b q hk hn => ok_cast (Option.some.inj ht18) (ok_pick_t rfl hn.1 hm17 hn.2.1), rfl⟩⟩, ⟨inferInstance, .inl ⟨fun b q hk hn => ok_assign rfl hn.1, rfl⟩⟩, trivial⟩ hQQ15 fun b q p => ?_
            exact tail_done (k := q) (hp _ _ ⟨hg.then p.grow, p.size.trans hs, p.defers.trans hd, (p.old 0 rfl).trans e0, Rsc.grow hH p.grow, keep p 1 rfl i1, keep p 2 rfl i2, keep p 3 rfl i3, (p.old 8 rfl).trans e8, keep p 8 rfl i8, out p 14 23 _ rfl rfl rfl, trivial⟩)
          · have ht18 := hx3
            rw [if_neg (by rw [hm17]; decide)] at ht18
            refine regionS (a0 := a) (k0 := k) (n := 49) (m := 15) (⟨some (OwnAt (a.get 8) 0 37 l_), [(8, none)]⟩ :: ⟨some (IsV (α := Int) (l_.length : Int)), [(24, some 0)]⟩ :: ⟨some (IsV (decide (0 < (l_.length : Int)))), [(25, some 1)]⟩ :: ⟨some (IsV (decide (0 < (l_.length : Int)))), [(26, some 2)]⟩ :: ⟨none, []⟩ :: ⟨none, []⟩ :: ⟨none, []⟩ :: ⟨none, []⟩ :: ⟨none, []⟩ :: ⟨none, []⟩ :: ⟨none, []⟩ :: ⟨none, []⟩ :: ⟨none, []⟩ :: ⟨some (IsV x3), [(27, some 3), (36, some 12)]⟩ :: ⟨some (IsV x3), [(37, some 13)]⟩ :: []) hs (by kernel_rfl) ⟨⟨inferInstance, .inl ⟨fun b q hk hn => ok_moveOA (.inl rfl) ⟨hn.1, up i8 hk hn.1⟩, rfl⟩⟩, ⟨inferInstance, .inl ⟨fun b q hk hn => ok_len rfl rfl Try.underlying29 (IsOwn.rd (hn.1).2), rfl⟩⟩, ⟨inferInstance, .inl ⟨fun b q hk hn => ok_gtr rfl hn.1 (isV_int.2 rfl), rfl⟩⟩, ⟨inferInstance, .inl ⟨fun b q hk hn => ok_move rfl hn.1, rfl⟩⟩, guardF hm17, guardF hm17, guardF hm17, guardF hm17, guardF hm17, guardF hm17, guardF hm17, guardF hm17, guardF hm17, ⟨inferInstance, .inl ⟨fun b q hk hn => ok_cast (Option.some.inj ht18) (ok_pick_f rfl hn.1 hm17 (isV_bool.2 rfl)), rfl⟩⟩, ⟨inferInstance, .inl ⟨fun b q hk hn => ok_assign rfl hn.1, rfl⟩⟩, trivial⟩ hQQ15 fun b q p => ?_
            exact tail_done (k := q) (hp _ _ ⟨hg.then p.grow, p.size.trans hs, p.defers.trans hd, (p.old 0 rfl).trans e0, Rsc.grow hH p.grow, keep p 1 rfl i1, keep p 2 rfl i2, keep p 3 rfl i3, (p.old 8 rfl).trans e8, keep p 8 rfl i8, out p 14 23 _ rfl rfl rfl, trivial⟩)
        · clear hH i1 i2 i3 i8 hg hs hd e0 e8 i20
          rintro a k ⟨hg, hs, hd, e0, hH, i1, i2, i3, e8, i8, i23, _⟩
          have n8' : Wr F0 k0 (obF (a.get 8)) := by rw [e8]; exact n8
          refine wp_cond_split (isBool i23) (fun hc13 => ?_) (fun hc13 => ?_)
          · rw [if_pos hc13] at hr
            obtain ⟨x7_3, hx7_3, hr⟩ := bind_some hr
            obtain ⟨x7_4, hx7_4, hr⟩ := bind_some hr
            obtain ⟨x7_8, hx7_8, hr⟩ := bind_some hr
            obtain ⟨x7_9, hx7_9, hr⟩ := bind_some hr
            obtain rfl := Option.some.inj hr
            refine region (a0 := a) (k0 := k) (n := 49) (m := 11) (⟨some (OwnAt (a.get 8) 0 37 l_), [(8, none)]⟩ :: ⟨some (OwnAt (a.get 8) 0 37 l_), [(8, none)]⟩ :: ⟨some (IsV (α := Int) (l_.length : Int)), [(39, some 1)]⟩ :: ⟨some (IsV x7_3), [(40, some 2)]⟩ :: ⟨some (IsPtr x7_4), [(38, some 0), (41, some 3)]⟩ :: ⟨some (IsPtr x7_4.2), [(42, some 4)]⟩ :: ⟨some (IsV x7_4.2), [(43, some 5)]⟩ :: ⟨some (IsV n_), [(3, none)]⟩ :: ⟨some (IsV x7_8), [(44, some 6), (45, some 7)]⟩ :: ⟨some (IsAdrO (a.get 8) ((x7_3).toNat * Enc.sz (Int × Int))), [(38, some 0), (41, some 3)]⟩ :: ⟨some (IsAdrO (a.get 8) ((x7_3).toNat * Enc.sz (Int × Int) + 1 * Enc.sz Int)), [(47, some 9)]⟩ :: []) hmix hs (by kernel_rfl) ⟨⟨inferInstance, .inl ⟨fun b q hk hn => ok_moveOA (.inl rfl) ⟨hn.1, up i8 hk hn.1⟩, rfl⟩⟩, ⟨inferInstance, .inl ⟨fun b q hk hn => ok_moveOA (.inl rfl) ⟨hn.1, up i8 hk hn.1⟩, rfl⟩⟩, ⟨inferInstance, .inl ⟨fun b q hk hn => ok_len rfl rfl Try.underlying29 (IsOwn.rd (hn.1).2), rfl⟩⟩, ⟨inferInstance, .inl ⟨fun b q hk hn => ok_sub rfl hn.1 (isV_int.2 rfl) hx7_3, rfl⟩⟩, ⟨inferInstance, .inl ⟨fun b q hk hn => ok_indexAddr rfl Try.underlying29 ty37 (IsOwn.rd (hn.1).2) hn.2.1 hx7_4, rfl⟩⟩, ⟨inferInstance, .inl ⟨fun b q hk hn => ok_arrAddr (i := 1) rfl ao37 (by decide) (aat37_1 _) hn.1 (isV_int.2 rfl), rfl⟩⟩, ⟨inferInstance, .inl ⟨fun b q hk hn => ok_load rfl ty3 hn.1, rfl⟩⟩, ⟨inferInstance, .inl ⟨fun b q hk hn => ok_move rfl (up i3 hk hn.1), rfl⟩⟩, ⟨inferInstance, .inl ⟨fun b q hk hn => ok_add rfl hn.1 hn.2.1 hx7_8, rfl⟩⟩, ⟨inferInstance, .inl ⟨fun b q hk hn => ok_indexO rfl Try.underlying29 ty37 hn.1 hn.2.1 hx7_9, rfl⟩⟩, ⟨inferInstance, .inl ⟨fun b q hk hn => ok_arrAdrO (i := 1) rfl ao37 (by decide) hn.1 (isV_int.2 rfl), rfl⟩⟩, trivial⟩ hQ fun b q p => ?_
            have hgq := hg.then p.grow
            have hdb := p.defers.trans hd
            have j8 := keep p 8 rfl i8
            have y8 : Wr F0 k0 (obF (b.get 8)) := by rw [p.old 8 rfl]; exact n8'
            have j46 : (IsV x7_8) (b.get 46) q := out p 8 46 _ rfl rfl rfl
            have j48 : IsAdrO (a.get 8) ((x7_3).toNat * Enc.sz (Int × Int) + 1 * Enc.sz Int) (b.get 48) q := out p 10 48 _ rfl rfl rfl
            have eo : b.get 8 = a.get 8 := p.old 8 rfl
            have hns := j8.nshF
            have hHq := Rsc.grow hH p.grow
            refine tail_storeS (i := 11) (u := b.get 8) (m := (x7_3).toNat) (off := 0 + 1 * Enc.sz Int) rfl rfl rfl rfl szf3 upd_I37_1 (by rw [eo]; exact j48) j8 (getI_spec hx7_9).2.1 j46 fun q2 hch hz => ?_
            have e8b : b.get 8 = u8 := eo.trans e8
            rw [e8b] at hz hch hns y8
            have hH2 := Rsc.keep hHq hch hA hns
            obtain ⟨G, hS, hG⟩ := hH2.close hz hA
            exact tail_done (k := q2) (retT (R := SlR kI 37 _) rfl hdb (hgq.step hch y8) hS (fun c hc => .inl (hF c (hG c hc))))
          · rw [if_neg (by rw [hc13]; decide)] at hr
            obtain ⟨x10_7, hx10_7, hr⟩ := bind_some hr
            obtain rfl := Option.some.inj hr
            refine regionS (a0 := a) (k0 := k) (n := 49) (m := 7) (⟨some (Is (.map (some bm))), [(0, none)]⟩ :: ⟨some (IsV lot), [(1, none)]⟩ :: ⟨some (OwnAt (a.get 8) 0 37 l_), [(8, none)]⟩ :: ⟨some (IsV origin), [(2, none)]⟩ :: ⟨some (IsV n_), [(3, none)]⟩ :: ⟨some (IsV ((origin, n_) : (Int × Int))), [(15, some 3), (16, some 4)]⟩ :: ⟨some (IsV ([((origin, n_) : (Int × Int))])), [(17, some 5)]⟩ :: []) hs (by kernel_rfl) ⟨⟨inferInstance, .inl ⟨fun b q hk hn => ok_move rfl (show b.get 0 = _ from hn.1.trans e0), rfl⟩⟩, ⟨inferInstance, .inl ⟨fun b q hk hn => ok_move rfl (up i1 hk hn.1), rfl⟩⟩, ⟨inferInstance, .inl ⟨fun b q hk hn => ok_moveOA (.inl rfl) ⟨hn.1, up i8 hk hn.1⟩, rfl⟩⟩, ⟨inferInstance, .inl ⟨fun b q hk hn => ok_move rfl (up i2 hk hn.1), rfl⟩⟩, ⟨inferInstance, .inl ⟨fun b q hk hn => ok_move rfl (up i3 hk hn.1), rfl⟩⟩, ⟨inferInstance, .inl ⟨fun b q hk hn => ok_build rfl (bld37_0_1 hn.1 hn.2.1), rfl⟩⟩, ⟨inferInstance, .inl ⟨fun b q hk hn => ok_buildSlice rfl Try.underlying29 eo37 rfl (by decide) (by decide) ⟨rfl, hn.1, trivial⟩, rfl⟩⟩, trivial⟩ hQ fun b q p => ?_
            have hgq := hg.then p.grow
            have hsb := p.size.trans hs
            have hdb := p.defers.trans hd
            have e14 : b.get 14 = a.get 8 := (out p 2 14 _ rfl rfl rfl).1
            have j14 : IsOwn 0 37 l_ (b.get 14) q := (out p 2 14 _ rfl rfl rfl).2
            have y14 : Wr F0 k0 (obF (b.get 14)) := by rw [e14]; exact n8'
            have j12 : b.get 12 = .map (some bm) := out p 0 12 _ rfl rfl rfl
            have j13 : (IsV lot) (b.get 13) q := out p 1 13 _ rfl rfl rfl
            have j18 : (IsV ([((origin, n_) : (Int × Int))])) (b.get 18) q := out p 6 18 _ rfl rfl rfl
            have hns := j14.nshF
            have hHq := Rsc.grow hH p.grow
            have hA14 : Apart G8 (obF (b.get 14)) := by rw [e14, e8]; exact hA
            have hsub14 : ∀ c, obF (b.get 14) c → F0 c := fun c hc => by rw [e14, e8] at hc; exact hF c (.inr hc)
            refine tail_appendS (i := 7) (d := 19) rfl rfl rfl rfl (by rw [hsb]; decide) (e := 37) Try.underlying29 eo37 j14 (IsV.rd j18) hx10_7 fun b2 q2 hsz hdf hoth hch hown hob => ?_
            have hH2 := Rsc.keep hHq hch hA14 hns
            have hA2 : Apart G8 (obF (b2.get 19)) := Apart.app hA14 (Rsc.lt hHq) hob
            have hgq2 := hgq.step hch y14
            refine tail_putK (i := 8) (w := b2.get 19) rfl rfl rfl rfl key3 Try.underlying49 ((hoth 12 (by decide)).trans j12) (by rw [show b2.eval (.tmp 13) = b2.get 13 from rfl, hoth 13 (by decide)]; exact isV_int.1 j13) rfl hH2 hown hA2 fun q3 hch3 hS => ?_
            refine tail_done (k := q3) (retT (R := SlR kI 37 _) rfl (hdf.trans hdb) (hgq2.step hch3 hGs) hS ?_)
            intro c hc
            rcases hc with hc | hc
            · exact .inl (hF c (.inl hc))
            · rcases hob c hc with h | h
              · exact .inl (hsub14 c h)
              · exact .inr (Nat.le_trans hgq.size h)

def cTake_L (frm to : Int) (s : Int × PM) : Option (Flow (Int × PM) Unit) :=
  if (decide (0 < s.1)) then
    (getI (s.2.at frm) 0).bind fun x1 =>
    (if (min s.1 x1.2 == x1.2) then
      (sliceI (s.2.at frm) 1 ((s.2.at frm).length : Int)).bind fun x2 =>
      some ⟨setK s.2.l frm x2⟩
    else
      (getI (s.2.at frm) 0).bind fun x3 =>
      (subI x3.2 (min s.1 x1.2)).bind fun x4 =>
      some ⟨backK s.2.l frm ((s.2.at frm).set (0 : Int).toNat (x3.1, x4))⟩).bind fun (m1 : PM) =>
    (cPut m1 to x1.1 (min s.1 x1.2)).bind fun m2 =>
    (subI s.1 (min s.1 x1.2)).bind fun x5 =>
    some (.go (x5, m2))
  else some (.ex 0 s)
def cTake (m : PM) (frm to n : Int) : Option PM :=
  (iterL (cTake_L frm to) ((m.at frm).length + 2) (n, m)).bind fun f => match f with
  | .go _ => none
  | .ex _ s => some s.2
  | .ret _ => none

theorem cTake_ok {k0 : K} {F0 : FP} {v0 v1 v2 v3 : Value} {m : PM} {frm to n_ : Int} {r : PM} (i0 : SlR kI 37 m.l F0 v0 k0) (i1 : (IsV frm) v1 k0) (i2 : (IsV to) v2 k0) (i3 : (IsV n_) v3 k0) (hr : cTake m frm to n_ = some r) :
    Calls Try.prog 27 #[v0, v1, v2, v3] k0.w (RetC F0 k0 (fun _ => Turned (SlR kI 37 r.l) v0 k0 F0)) := by
  unfold cTake at hr
  refine enterK Try.func27 rfl Try.ntmps27 (show 4 ≤ 50 by decide) fun a k hk0 hs hd ha => ?_
  obtain ⟨e0, e1, e2, e3, _⟩ := ha
  have hX : Turned (SlR kI 37 m.l) v0 k0 F0 k := ⟨F0, by rw [hk0]; exact i0, fun c hc => .inl hc⟩
  replace i1 : (IsV frm) (a.get 1) k := by rw [e1, hk0]; exact i1
  replace i2 : (IsV to) (a.get 2) k := by rw [e2, hk0]; exact i2
  replace i3 : (IsV n_) (a.get 3) k := by rw [e3, hk0]; exact i3
  have hQ : Gb.LetsOut (bodyPost Try.prog Try.f27 (RetC F0 k0 (fun _ => Turned (SlR kI 37 r.l) v0 k0 F0))) := letsOutC
  have hg : Chg F0 k0 k := by rw [hk0]; exact Chg.refl _ k0
  obtain ⟨bm, u8, G8, hv, hH, i8, hA, hF⟩ := i0.focus frm
  rw [hv] at e0
  clear i0 u8 G8 hH i8 hA hF
  refine wp_block ?_
  obtain ⟨f1, hf1, hr⟩ := bind_some hr
  refine cutF f1 (fun s' a' k' => Chg F0 k0 k' ∧ a'.tmps.size = 50 ∧ a'.defers = [] ∧ a'.get 0 = .map (some bm) ∧ Turned (SlR kI 37 s'.2.l) v0 k0 F0 k' ∧ (IsV frm) (a'.get 1) k' ∧ (IsV to) (a'.get 2) k' ∧ (IsV s'.1) (a'.get 3) k') (fun i' s' a' k' => (i' = 0 ∧ Chg F0 k0 k' ∧ a'.defers = [] ∧ Turned (SlR kI 37 s'.2.l) v0 k0 F0 k')) (fun r' a' k' => False) ?_ hQ ?_ ?_ ?_
  · intro Q5 hQQ5 hgo hex hret
    refine sim_loop ?_ _ _ _ _ _ hf1 ⟨hg, hs, hd, e0, hX, i1, i2, i3⟩ Q5 hQQ5 hgo hex hret
    clear hr hf1 hgo hex hret hQQ5 hQ hd hg hs hX e0 i1 i2 i3 e1 e2 e3
    intro s fl_ a k hr hS Q hQ hgo hex hret
    obtain ⟨hg, hs, hd, e0, hX, i1, i2, i3⟩ := hS
    obtain ⟨n, m⟩ := s
    unfold cTake_L at hr
    simp only at hr i3 hX
    refine wp_seq ?_
    refine wp_seq ?_
    refine cut (fun a' k' => Chg F0 k0 k' ∧ a'.tmps.size = 50 ∧ a'.defers = [] ∧ a'.get 0 = .map (some bm) ∧ Turned (SlR kI 37 m.l) v0 k0 F0 k' ∧ (IsV frm) (a'.get 1) k' ∧ (IsV to) (a'.get 2) k' ∧ (IsV n) (a'.get 3) k' ∧ (IsV (decide (0 < n))) (a'.get 11) k') ?_ hQ ?_
    · intro Q1 hQ1 hp
      obtain ⟨G, hS, hG⟩ := hX
      refine regionS (a0 := a) (k0 := k) (n := 50) (m := 2) (⟨some (IsV n), [(3, none)]⟩ :: ⟨some (IsV (decide (0 < n))), [(10, some 0)]⟩ :: []) hs (by kernel_rfl)
        ⟨⟨inferInstance, .inl ⟨fun b q hk hn => ok_move rfl (up i3 hk hn.1), rfl⟩⟩, ⟨inferInstance, .inl ⟨fun b q hk hn => ok_gtr rfl hn.1 (isV_int.2 rfl), rfl⟩⟩, trivial⟩ hQ1 fun b q p => ?_
      exact tail_done (k := q) (hp _ _ ⟨hg.then p.grow, p.size.trans hs, p.defers.trans hd, (p.old 0 rfl).trans e0, ⟨G, Rsc.grow hS p.grow, hG⟩, keep p 1 rfl i1, keep p 2 rfl i2, keep p 3 rfl i3, out p 1 11 _ rfl rfl rfl⟩)
    · clear hg hs hd e0 hX i1 i2 i3
      rintro a k ⟨hg, hs, hd, e0, hX, i1, i2, i3, i11⟩
      refine wp_cond_split (isBool i11) (fun hc => ?_) (fun hc => ?_)
      · rw [if_pos hc] at hr
        refine wp_skip ?_
        refine wp_block ?_
        obtain ⟨x1, hx1, hr⟩ := bind_some hr
        refine wp_seq ?_
        refine cut (fun a' k' => Chg F0 k0 k' ∧ a'.tmps.size = 50 ∧ a'.defers = [] ∧ a'.get 0 = .map (some bm) ∧ Turned (SlR kI 37 m.l) v0 k0 F0 k' ∧ (IsV frm) (a'.get 1) k' ∧ (IsV to) (a'.get 2) k' ∧ (IsV n) (a'.get 3) k' ∧ IsRef x1 (a'.get 8) k') ?_ hQ ?_
        · intro Q1 hQ1 hp
          obtain ⟨G, hS, hG⟩ := hX
          obtain ⟨bm', u8, G8, hv', hH, i8, hA, hF⟩ := hS.focus frm
          obtain rfl : bm = bm' := by rw [hv] at hv'; simpa using hv'
          replace i8 : IsOwn 0 37 (m.at frm) u8 k := i8
          refine regionS (a0 := a) (k0 := k) (n := 50) (m := 6) (⟨some (Is (.map (some bm))), [(0, none)]⟩ :: ⟨some (IsV frm), [(1, none)]⟩ :: ⟨some (Is u8), [(12, some 0), (13, some 1)]⟩ :: ⟨some (IsPtr x1), [(14, some 2)]⟩ :: ⟨some (IsV x1), [(15, some 3)]⟩ :: ⟨some (IsBox k.w.heap.size ((0, 0) : Int × Int)), []⟩ :: []) hs (by kernel_rfl)
            ⟨⟨inferInstance, .inl ⟨fun b q hk hn => ok_move rfl (show b.get 0 = _ from hn.1.trans e0), rfl⟩⟩, ⟨inferInstance, .inl ⟨fun b q hk hn => ok_move rfl (up i1 hk hn.1), rfl⟩⟩,
             ⟨inferInstance, .inl ⟨fun b q hk hn => ok_lookupH rfl key3 Try.underlying49 zero29 hn.1 (isV_int.1 hn.2.1) (Rsc.grow hH hk), rfl⟩⟩,
             ⟨inferInstance, .inl ⟨fun b q hk hn => ok_indexAddr rfl Try.underlying29 ty37 (by rw [show b.eval (.tmp 14) = u8 from hn.1]; exact (Mono.mono hk i8 : IsOwn 0 37 _ u8 q).rd) (isV_int.2 rfl) hx1, rfl⟩⟩,
             ⟨inferInstance, .inl ⟨fun b q hk hn => ok_load rfl ty37 hn.1, rfl⟩⟩, ⟨inferInstance, .inl ⟨fun b q hk hn => ok_alloc _ hk.size rfl z37, rfl⟩⟩, trivial⟩ hQ1 fun b q p => ?_
          obtain ⟨b8, j8, x8, z8⟩ : IsBox k.w.heap.size ((0, 0) : Int × Int) (b.get 8) q := out p 5 8 _ rfl rfl rfl
          have j16 : IsV x1 (b.get 16) q := out p 4 16 _ rfl rfl rfl
          have hgq := hg.then p.grow
          have hdb := p.defers.trans hd
          have j0 := (p.old 0 rfl).trans e0
          have j1 := keep p 1 rfl i1
          have j2 := keep p 2 rfl i2
          have j3 := keep p 3 rfl i3
          have hSq := Rsc.grow hS p.grow
          have hns := z8.nshF
          have hlo : Lo k (Eq b8) := Lo.eq x8
          have hap : Apart G (Eq b8) := Apart.new (Rsc.lt hS) hlo
          refine tail_storeB (i := 6) rfl rfl rfl rfl szf37 (Upd.self (α := Int × Int)) j8 z8 j16 fun q2 hch hz => ?_
          have hSq2 := Rsc.keep hSq hch hap hns
          obtain ⟨q3, hsh, jn⟩ := hz.give
          have hgq2 := (hgq.step hch (hlo.chg hg).wr).hand hsh (hlo.chg hg).wr
          have hle := hch.le hns
          rw [← hsh.w]
          exact tail_done (k := q3) (hp _ _ ⟨hgq2, p.size.trans hs, hdb, j0, ⟨G, Rsc.handed hSq2 hsh hap, hG⟩, Pers.pers hsh.le (Pers.pers hle j1), Pers.pers hsh.le (Pers.pers hle j2), Pers.pers hsh.le (Pers.pers hle j3), by rw [j8]; exact jn⟩)
        · clear hg hs hd e0 hX i1 i2 i3 i11
          rintro a k ⟨hg, hs, hd, e0, hX, i1, i2, i3, i8⟩
          refine wp_seq ?_
          refine cut (fun a' k' => Chg F0 k0 k' ∧ a'.tmps.size = 50 ∧ a'.defers = [] ∧ a'.get 0 = .map (some bm) ∧ Turned (SlR kI 37 m.l) v0 k0 F0 k' ∧ (IsV frm) (a'.get 1) k' ∧ (IsV to) (a'.get 2) k' ∧ (IsV n) (a'.get 3) k' ∧ IsRef x1 (a'.get 8) k' ∧ IsV (min n x1.2) (a'.get 9) k') ?_ hQ ?_
          · intro Q1 hQ1 hp
            obtain ⟨G, hS, hG⟩ := hX
            refine regionS (a0 := a) (k0 := k) (n := 50) (m := 5) (⟨some (IsV n), [(3, none)]⟩ :: ⟨some (IsPtr x1.2), [(8, none)]⟩ :: ⟨some (IsV x1.2), [(18, some 1)]⟩ :: ⟨some (IsV (min n x1.2)), [(17, some 0), (19, some 2)]⟩ :: ⟨some (IsV (min n x1.2)), [(20, some 3)]⟩ :: []) hs (by kernel_rfl)
              ⟨⟨inferInstance, .inl ⟨fun b q hk hn => ok_move rfl (up i3 hk hn.1), rfl⟩⟩, ⟨inferInstance, .inl ⟨fun b q hk hn => ok_arrAddr (i := 1) rfl ao37 (by decide) (aat37_1 _) (up i8 hk hn.1).ptr (isV_int.2 rfl), rfl⟩⟩,
               ⟨inferInstance, .inl ⟨fun b q hk hn => ok_load rfl ty3 hn.1, rfl⟩⟩, ⟨inferInstance, .inl ⟨fun b q hk hn => ok_min2 rfl hn.1 hn.2.1, rfl⟩⟩, ⟨inferInstance, .inl ⟨fun b q hk hn => ok_assign rfl hn.1, rfl⟩⟩, trivial⟩ hQ1 fun b q p => ?_
            exact tail_done (k := q) (hp _ _ ⟨hg.then p.grow, p.size.trans hs, p.defers.trans hd, (p.old 0 rfl).trans e0, ⟨G, Rsc.grow hS p.grow, hG⟩, keep p 1 rfl i1, keep p 2 rfl i2, keep p 3 rfl i3, keep p 8 rfl i8, out p 4 9 _ rfl rfl rfl⟩)
          · clear hg hs hd e0 hX i1 i2 i3 i8
            rintro a k ⟨hg, hs, hd, e0, hX, i1, i2, i3, i8, i9⟩
            generalize min n x1.2 = kk at hr i9
            refine wp_seq ?_
            refine wp_seq ?_
            refine cut (fun a' k' => Chg F0 k0 k' ∧ a'.tmps.size = 50 ∧ a'.defers = [] ∧ a'.get 0 = .map (some bm) ∧ Turned (SlR kI 37 m.l) v0 k0 F0 k' ∧ (IsV frm) (a'.get 1) k' ∧ (IsV to) (a'.get 2) k' ∧ (IsV n) (a'.get 3) k' ∧ IsRef x1 (a'.get 8) k' ∧ IsV kk (a'.get 9) k' ∧ IsV (kk == x1.2) (a'.get 24) k') ?_ hQ ?_
            · intro Q1 hQ1 hp
              obtain ⟨G, hS, hG⟩ := hX
              refine regionS (a0 := a) (k0 := k) (n := 50) (m := 4) (⟨some (IsV kk), [(9, none)]⟩ :: ⟨some (IsPtr x1.2), [(8, none)]⟩ :: ⟨some (IsV x1.2), [(22, some 1)]⟩ :: ⟨some (IsV (kk == x1.2)), [(21, some 0), (23, some 2)]⟩ :: []) hs (by kernel_rfl)
                ⟨⟨inferInstance, .inl ⟨fun b q hk hn => ok_move rfl (up i9 hk hn.1), rfl⟩⟩, ⟨inferInstance, .inl ⟨fun b q hk hn => ok_arrAddr (i := 1) rfl ao37 (by decide) (aat37_1 _) (up i8 hk hn.1).ptr (isV_int.2 rfl), rfl⟩⟩,
                 ⟨inferInstance, .inl ⟨fun b q hk hn => ok_load rfl ty3 hn.1, rfl⟩⟩, ⟨inferInstance, .inl ⟨fun b q hk hn => ok_eqI rfl hn.1 hn.2.1, rfl⟩⟩, trivial⟩ hQ1 fun b q p => ?_
              exact tail_done (k := q) (hp _ _ ⟨hg.then p.grow, p.size.trans hs, p.defers.trans hd, (p.old 0 rfl).trans e0, ⟨G, Rsc.grow hS p.grow, hG⟩, keep p 1 rfl i1, keep p 2 rfl i2, keep p 3 rfl i3, keep p 8 rfl i8, keep p 9 rfl i9, out p 3 24 _ rfl rfl rfl⟩)
            · clear hg hs hd e0 hX i1 i2 i3 i8 i9
              rintro a k ⟨hg, hs, hd, e0, hX, i1, i2, i3, i8, i9, i24⟩
              obtain ⟨m1, hm1, hr⟩ := bind_some hr
              refine cut (fun a' k' => Chg F0 k0 k' ∧ a'.tmps.size = 50 ∧ a'.defers = [] ∧ a'.get 0 = .map (some bm) ∧ Turned (SlR kI 37 m1.l) v0 k0 F0 k' ∧ (IsV frm) (a'.get 1) k' ∧ (IsV to) (a'.get 2) k' ∧ (IsV n) (a'.get 3) k' ∧ IsRef x1 (a'.get 8) k' ∧ IsV kk (a'.get 9) k') ?_ hQ ?_
              · intro Q1 hQ1 hp
                obtain ⟨G, hS, hG⟩ := hX
                obtain ⟨bm', u8, G8, hv', hH, j8, hA, hF⟩ := hS.focus frm
                obtain rfl : bm = bm' := by rw [hv] at hv'; simpa using hv'
                replace j8 : IsOwn 0 37 (m.at frm) u8 k := j8
                have hGs : Wr F0 k0 G8 := fun c hc => hG c (hF c (.inl hc))
                have n8 : Wr F0 k0 (obF u8) := fun c hc => hG c (hF c (.inr hc))
                refine wp_cond_split (isBool i24) (fun hc2 => ?_) (fun hc2 => ?_)
                · rw [if_pos hc2] at hm1
                  obtain ⟨x2, hx2, hm1⟩ := bind_some hm1
                  obtain rfl := Option.some.inj hm1
                  refine regionS (a0 := a) (k0 := k) (n := 50) (m := 6) (⟨some (Is (.map (some bm))), [(0, none)]⟩ :: ⟨some (IsV frm), [(1, none)]⟩ :: ⟨some (Is (.map (some bm))), [(0, none)]⟩ :: ⟨some (IsV frm), [(1, none)]⟩ :: ⟨some (OwnAt u8 0 37 (m.at frm)), [(27, some 2), (28, some 3)]⟩ :: ⟨some (OwnSub u8 0 37 x2), [(29, some 4)]⟩ :: []) hs (by kernel_rfl)
                    ⟨⟨inferInstance, .inl ⟨fun b q hk hn => ok_move rfl (show b.get 0 = _ from hn.1.trans e0), rfl⟩⟩, ⟨inferInstance, .inl ⟨fun b q hk hn => ok_move rfl (up i1 hk hn.1), rfl⟩⟩,
                     ⟨inferInstance, .inl ⟨fun b q hk hn => ok_move rfl (show b.get 0 = _ from hn.1.trans e0), rfl⟩⟩, ⟨inferInstance, .inl ⟨fun b q hk hn => ok_move rfl (up i1 hk hn.1), rfl⟩⟩,
                     ⟨inferInstance, .inl ⟨fun b q hk hn => does_imp (ok_lookupH rfl key3 Try.underlying49 zero29 hn.1 (isV_int.1 hn.2.1) (Rsc.grow hH hk)) (fun v k2 hg2 hv2 => ⟨hv2, by rw [show v = u8 from hv2]; exact Mono.mono (hk.trans hg2) j8⟩), rfl⟩⟩,
                     ⟨inferInstance, .inl ⟨fun b q hk hn => ok_sliceO_lo rfl Try.underlying29 szf37 hn.1 (isV_int.2 rfl) hx2, rfl⟩⟩, trivial⟩ hQ1 fun b q p => ?_
                  obtain ⟨j30, s30⟩ : OwnSub u8 0 37 x2 (b.get 30) q := out p 5 30 _ rfl rfl rfl
                  have j25 : b.get 25 = .map (some bm) := out p 0 25 _ rfl rfl rfl
                  have j26 : IsV frm (b.get 26) q := out p 1 26 _ rfl rfl rfl
                  have hgq := hg.then p.grow
                  have hHq := Rsc.grow hH p.grow
                  have l1 := keep p 1 rfl i1
                  have l2 := keep p 2 rfl i2
                  have l3 := keep p 3 rfl i3
                  have l8 := keep p 8 rfl i8
                  have l9 := keep p 9 rfl i9
                  refine tail_putK (i := 6) (w := b.get 30) rfl rfl rfl rfl key3 Try.underlying49 j25 (isV_int.1 j26) rfl hHq j30 (fun c hc h => hA c hc (s30 c h)) fun q3 hch3 hS3 => ?_
                  have hle := hch3.le (Rsc.nsh hHq)
                  exact tail_done (k := q3) (hp _ _ ⟨hgq.step hch3 hGs, p.size.trans hs, p.defers.trans hd, (p.old 0 rfl).trans e0, ⟨_, hS3, fun c hc => hc.elim (fun h => hGs c h) (fun h => n8 c (s30 c h))⟩, Pers.pers hle l1, Pers.pers hle l2, Pers.pers hle l3, Pers.pers hle l8, Pers.pers hle l9⟩)
                · rw [if_neg (by rw [hc2]; decide)] at hm1
                  obtain ⟨x3, hx3, hm1⟩ := bind_some hm1
                  obtain ⟨x4, hx4, hm1⟩ := bind_some hm1
                  obtain rfl := Option.some.inj hm1
                  refine region (a0 := a) (k0 := k) (n := 50) (m := 10) (⟨some (Is (.map (some bm))), [(0, none)]⟩ :: ⟨some (IsV frm), [(1, none)]⟩ :: ⟨some (OwnAt u8 0 37 (m.at frm)), [(31, some 0), (32, some 1)]⟩ :: ⟨some (IsPtr x3), [(33, some 2)]⟩ :: ⟨some (IsPtr x3.2), [(34, some 3)]⟩ :: ⟨some (IsV x3.2), [(35, some 4)]⟩ :: ⟨some (IsV kk), [(9, none)]⟩ :: ⟨some (IsV x4), [(36, some 5), (37, some 6)]⟩ ::
                      ⟨some (IsAdrO u8 ((0 : Int).toNat * Enc.sz (Int × Int))), [(33, some 2)]⟩ :: ⟨some (IsAdrO u8 ((0 : Int).toNat * Enc.sz (Int × Int) + 1 * Enc.sz Int)), [(39, some 8)]⟩ :: []) hmix hs (by kernel_rfl)
                    ⟨⟨inferInstance, .inl ⟨fun b q hk hn => ok_move rfl (show b.get 0 = _ from hn.1.trans e0), rfl⟩⟩, ⟨inferInstance, .inl ⟨fun b q hk hn => ok_move rfl (up i1 hk hn.1), rfl⟩⟩,
                     ⟨inferInstance, .inl ⟨fun b q hk hn => does_imp (ok_lookupH rfl key3 Try.underlying49 zero29 hn.1 (isV_int.1 hn.2.1) (Rsc.grow hH hk)) (fun v k2 hg2 hv2 => ⟨hv2, by rw [show v = u8 from hv2]; exact Mono.mono (hk.trans hg2) j8⟩), rfl⟩⟩,
                     ⟨inferInstance, .inl ⟨fun b q hk hn => ok_indexAddr rfl Try.underlying29 ty37 (IsOwn.rd (hn.1).2) (isV_int.2 rfl) hx3, rfl⟩⟩,
                     ⟨inferInstance, .inl ⟨fun b q hk hn => ok_arrAddr (i := 1) rfl ao37 (by decide) (aat37_1 _) hn.1 (isV_int.2 rfl), rfl⟩⟩,
                     ⟨inferInstance, .inl ⟨fun b q hk hn => ok_load rfl ty3 hn.1, rfl⟩⟩, ⟨inferInstance, .inl ⟨fun b q hk hn => ok_move rfl (up i9 hk hn.1), rfl⟩⟩, ⟨inferInstance, .inl ⟨fun b q hk hn => ok_sub rfl hn.1 hn.2.1 hx4, rfl⟩⟩,
                     ⟨inferInstance, .inl ⟨fun b q hk hn => ok_indexO rfl Try.underlying29 ty37 hn.1 (isV_int.2 rfl) hx3, rfl⟩⟩, ⟨inferInstance, .inl ⟨fun b q hk hn => ok_arrAdrO (i := 1) rfl ao37 (by decide) hn.1 (isV_int.2 rfl), rfl⟩⟩, trivial⟩ hQ1 fun b q p => ?_
                  have j38 : (IsV x4) (b.get 38) q := out p 7 38 _ rfl rfl rfl
                  have j40 : IsAdrO u8 ((0 : Int).toNat * Enc.sz (Int × Int) + 1 * Enc.sz Int) (b.get 40) q := out p 9 40 _ rfl rfl rfl
                  have hgq := hg.then p.grow
                  have hHq := Rsc.grow hH p.grow
                  have l1 := keep p 1 rfl i1
                  have l2 := keep p 2 rfl i2
                  have l3 := keep p 3 rfl i3
                  have l8 := keep p 8 rfl i8
                  have l9 := keep p 9 rfl i9
                  have j8q : IsOwn 0 37 (m.at frm) u8 q := Mono.mono p.grow j8
                  have hns := j8q.nshF
                  refine tail_storeS (i := 10) (u := u8) (m := (0 : Int).toNat) (off := 0 + 1 * Enc.sz Int) rfl rfl rfl rfl szf3 upd_I37_1 j40 j8q (getI_spec hx3).2.1 j38 fun q2 hch hz => ?_
                  have hle := hch.le hns
                  have hH2 := Rsc.keep hHq hch hA hns
                  obtain ⟨G', hS', hG'⟩ := hH2.close hz hA
                  exact tail_done (k := q2) (hp _ _ ⟨hgq.step hch n8, p.size.trans hs, p.defers.trans hd, (p.old 0 rfl).trans e0, ⟨G', hS', fun c hc => hG c (hF c (hG' c hc))⟩, Pers.pers hle l1, Pers.pers hle l2, Pers.pers hle l3, Pers.pers hle l8, Pers.pers hle l9⟩)
              · clear hg hs hd e0 hX i1 i2 i3 i8 i9 i24
                rintro a k ⟨hg, hs, hd, e0, hX, i1, i2, i3, i8, i9⟩
                obtain ⟨m2, hm2, hr⟩ := bind_some hr
                refine wp_seq ?_
                refine cut (fun a' k' => Chg F0 k0 k' ∧ a'.tmps.size = 50 ∧ a'.defers = [] ∧ a'.get 0 = .map (some bm) ∧ Turned (SlR kI 37 m2.l) v0 k0 F0 k' ∧ (IsV frm) (a'.get 1) k' ∧ (IsV to) (a'.get 2) k' ∧ (IsV n) (a'.get 3) k' ∧ IsV kk (a'.get 9) k') ?_ hQ ?_
                · intro Q1 hQ1 hp
                  obtain ⟨G, hS, hG⟩ := hX
                  refine regionS (a0 := a) (k0 := k) (n := 50) (m := 5) (⟨some (Is (.map (some bm))), [(0, none)]⟩ :: ⟨some (IsV to), [(2, none)]⟩ :: ⟨some (IsPtr x1.1), [(8, none)]⟩ :: ⟨some (IsV x1.1), [(43, some 2)]⟩ :: ⟨some (IsV kk), [(9, none)]⟩ :: []) hs (by kernel_rfl)
                    ⟨⟨inferInstance, .inl ⟨fun b q hk hn => ok_move rfl (show b.get 0 = _ from hn.1.trans e0), rfl⟩⟩, ⟨inferInstance, .inl ⟨fun b q hk hn => ok_move rfl (up i2 hk hn.1), rfl⟩⟩,
                     ⟨inferInstance, .inl ⟨fun b q hk hn => ok_arrAddr (i := 0) rfl ao37 (by decide) (aat37_0 _) (up i8 hk hn.1).ptr (isV_int.2 rfl), rfl⟩⟩, ⟨inferInstance, .inl ⟨fun b q hk hn => ok_load rfl ty3 hn.1, rfl⟩⟩,
                     ⟨inferInstance, .inl ⟨fun b q hk hn => ok_move rfl (up i9 hk hn.1), rfl⟩⟩, trivial⟩ hQ1 fun b q p => ?_
                  have j41 : b.get 41 = .map (some bm) := out p 0 41 _ rfl rfl rfl
                  have j42 : IsV to (b.get 42) q := out p 1 42 _ rfl rfl rfl
                  have j44 : IsV x1.1 (b.get 44) q := out p 3 44 _ rfl rfl rfl
                  have j45 : IsV kk (b.get 45) q := out p 4 45 _ rfl rfl rfl
                  have hgq := hg.then p.grow
                  have hsb := p.size.trans hs
                  have hSq := Rsc.grow hS p.grow
                  have hns := Rsc.nsh hSq
                  have l1 := keep p 1 rfl i1
                  have l2 := keep p 2 rfl i2
                  have l3 := keep p 3 rfl i3
                  have l9 := keep p 9 rfl i9
                  have e41 : b.get 41 = v0 := j41.trans hv.symm
                  refine tail_call (F := G) (i := 5) (d := 46) (R := fun _ => Turned (SlR kI 37 m2.l) v0 q G) rfl rfl rfl rfl (by rw [hsb]; decide) Try.call26 hQ1 ?_ fun b2 q2 hsz hdf hoth hch hres => ?_
                  · have := cPut_ok (k0 := q) hSq j42 j44 j45 hm2
                    rw [← e41] at this ⊢
                    exact this
                  · have hle := hch.le hns
                    obtain ⟨G2, hS2, hG2⟩ := hres
                    refine tail_done (k := q2) (hp _ _ ⟨hgq.step hch hG, hsz.trans hsb, hdf.trans (p.defers.trans hd), (hoth 0 (by decide)).trans ((p.old 0 rfl).trans e0), ⟨G2, hS2, fun c hc => (hG2 c hc).elim (hG c) (fun h => .inr (Nat.le_trans hgq.size h))⟩, ?_, ?_, ?_, ?_⟩)
                    · rw [hoth 1 (by decide)]; exact Pers.pers hle l1
                    · rw [hoth 2 (by decide)]; exact Pers.pers hle l2
                    · rw [hoth 3 (by decide)]; exact Pers.pers hle l3
                    · rw [hoth 9 (by decide)]; exact Pers.pers hle l9
                · clear hg hs hd e0 hX i1 i2 i3 i8 i9
                  rintro a k ⟨hg, hs, hd, e0, hX, i1, i2, i3, i9⟩
                  obtain ⟨x5, hx5, hr⟩ := bind_some hr
                  obtain ⟨G, hS, hG⟩ := hX
                  refine regionS (a0 := a) (k0 := k) (n := 50) (m := 4) (⟨some (IsV n), [(3, none)]⟩ :: ⟨some (IsV kk), [(9, none)]⟩ :: ⟨some (IsV x5), [(47, some 0), (48, some 1)]⟩ :: ⟨some (IsV x5), [(49, some 2)]⟩ :: []) hs (by kernel_rfl)
                    ⟨⟨inferInstance, .inl ⟨fun b q hk hn => ok_move rfl (up i3 hk hn.1), rfl⟩⟩, ⟨inferInstance, .inl ⟨fun b q hk hn => ok_move rfl (up i9 hk hn.1), rfl⟩⟩, ⟨inferInstance, .inl ⟨fun b q hk hn => ok_sub rfl hn.1 hn.2.1 hx5, rfl⟩⟩, ⟨inferInstance, .inl ⟨fun b q hk hn => ok_assign rfl hn.1, rfl⟩⟩, trivial⟩ hQ fun b q p => ?_
                  exact tail_done (k := q) (hgo _ _ _ (Option.some.inj hr).symm ⟨hg.then p.grow, p.size.trans hs, p.defers.trans hd, (p.old 0 rfl).trans e0, ⟨G, Rsc.grow hS p.grow, hG⟩, keep p 1 rfl i1, keep p 2 rfl i2, out p 3 3 _ rfl rfl rfl⟩)
      · rw [if_neg (by rw [hc]; decide)] at hr
        refine wp_exit ?_
        exact hex _ _ _ _ (Option.some.inj hr).symm ⟨rfl, hg, hd, hX⟩
  · rintro _ _ _ rfl _
    simp at hr
  · clear hf1
    rintro _ s a k rfl ⟨rfl, hg, hd, hX⟩
    dsimp only at hr
    obtain rfl := Option.some.inj hr
    obtain ⟨G, hS, hG⟩ := hX
    exact inBlock_exit (retT (R := SlR kI 37 s.2.l) rfl hd hg hS hG)
  · rintro _ _ _ _ h
    exact h.elim

def within (n_ : Int) (lo : Int) (hi_ : Int) : Option (Bool) :=
  some ((decide (lo ≤ n_)) && (decide (n_ ≤ hi_)))
theorem within_ok {k0 : K} {v0 v1 v2 : Value} {n_ : Int} {lo : Int} {hi_ : Int} {r : Bool} (i0 : (IsV n_) v0 k0) (i1 : (IsV lo) v1 k0) (i2 : (IsV hi_) v2 k0) (hr : within n_ lo hi_ = some r) :
    Calls Try.prog 31 #[v0, v1, v2] k0.w (Ret k0 (IsV r)) := by
  unfold within at hr
  refine Ret.ofC ?_
  refine enterK Try.func31 rfl Try.ntmps31 (show 3 ≤ 15 by decide) fun a k hk0 hs hd ha => ?_
  obtain ⟨e0, e1, e2, _⟩ := ha
  replace i0 : (IsV n_) (a.get 0) k := by rw [e0, hk0]; exact i0
  replace i1 : (IsV lo) (a.get 1) k := by rw [e1, hk0]; exact i1
  replace i2 : (IsV hi_) (a.get 2) k := by rw [e2, hk0]; exact i2
  have hQ : Gb.LetsOut (bodyPost Try.prog Try.f31 (RetC noF k0 (IsV r))) := letsOutC
  have hg : Chg noF k0 k := by rw [hk0]; exact Chg.refl _ k0
  refine wp_seq ?_
  refine cut (fun a' k' => Bs noF k0 15 a' k' ∧ (IsV n_) (a'.get 0) k' ∧ (IsV lo) (a'.get 1) k' ∧ (IsV hi_) (a'.get 2) k' ∧ True) ?_ hQ ?_
  · intro Q5 hQQ5 hp6
    refine regionS (a0 := a) (k0 := k) (n := 15) (m := 1) (⟨some (IsV false), []⟩ :: []) hs (by kernel_rfl) ⟨ob1 rfl fun b q hk hn => ok_assign rfl (isV_bool.2 rfl), trivial⟩ hQQ5 fun b q p => ?_
    exact tail_done (k := q) (hp6 _ _ ⟨Bs.post ⟨hg, hs, hd⟩ p, keep p 0 rfl i0, keep p 1 rfl i1, keep p 2 rfl i2, trivial⟩)
  rintro a k ⟨⟨hg, hs, hd⟩, i0, i1, i2, _⟩
  refine wp_seq ?_
  refine cut (fun a' k' => Bs noF k0 15 a' k' ∧ (IsV ((decide (lo ≤ n_)) && (decide (n_ ≤ hi_)))) (a'.get 6) k' ∧ True) ?_ hQ ?_
  · intro Q3 hQQ3 hp4
    refine regionS (a0 := a) (k0 := k) (n := 15) (m := 9) (⟨some (IsV lo), [(1, none)]⟩ :: ⟨some (IsV n_), [(0, none)]⟩ :: ⟨some (IsV (decide (lo ≤ n_))), [(7, some 0), (8, some 1)]⟩ :: ⟨some (IsV (decide (lo ≤ n_))), [(9, some 2)]⟩ :: ⟨some (Gd ((decide (lo ≤ n_)) = true) (IsV n_)), [(0, none)]⟩ :: ⟨some (Gd ((decide (lo ≤ n_)) = true) (IsV hi_)), [(2, none)]⟩ :: ⟨some (Gd ((decide (lo ≤ n_)) = true) (IsV (decide (n_ ≤ hi_)))), [(11, some 4), (12, some 5)]⟩ :: ⟨some (IsV ((decide (lo ≤ n_)) && (decide (n_ ≤ hi_)))), [(10, some 3), (13, some 6)]⟩ :: ⟨some (IsV ((decide (lo ≤ n_)) && (decide (n_ ≤ hi_)))), [(14, some 7)]⟩ :: []) hs (by kernel_rfl) ⟨ob1 rfl fun b q hk hn => ok_move rfl (up i1 hk hn.1), ob1 rfl fun b q hk hn => ok_move rfl (up i0 hk hn.1), ob1 rfl fun b q hk hn => ok_leq rfl hn.1 hn.2.1, ob1 rfl fun b q hk hn => ok_move rfl hn.1, gdT rfl rfl fun hp b q hk hn => ok_move rfl (up i0 hk hn.1), gdT rfl rfl fun hp b q hk hn => ok_move rfl (up i2 hk hn.1), gdT rfl rfl fun hp b q hk hn => ok_leq rfl (Gd.get hn.1 hp) (Gd.get hn.2.1 hp), ob1 rfl fun b q hk hn => ok_pickAnd rfl hn.1 (fun hm => (Gd.get hn.2.1 hm)) (fun _ => (isV_bool.2 rfl)), ob1 rfl fun b q hk hn => ok_assign rfl hn.1, trivial⟩ hQQ3 fun b q p => ?_
    exact tail_done (k := q) (hp4 _ _ ⟨Bs.post ⟨hg, hs, hd⟩ p, out p 8 6 _ rfl rfl rfl, trivial⟩)
  rintro a k ⟨⟨hg, hs, hd⟩, i6, _⟩
  refine wp_ret ?_
  obtain rfl := Option.some.inj hr
  exact retC1 rfl hd hg i6
def cRight_L0 (l_ : (List Account)) (s9 : Int) : Option (Flow (Int) (Bool)) :=
  if (decide (s9 < (l_.length : Int))) then
    (getI l_ s9).bind fun x14_1 =>
    (within x14_1.Lot 1 1073741824).bind fun x15_2 =>
    (if (!x15_2) then
      some true
    else
      (within x14_1.Units 0 1073741824).bind fun x15_7 =>
      some (!x15_7)).bind fun x15_9 =>
    (if x15_9 then
      some true
    else
      (if (decide (0 < s9)) then
        (subI s9 1).bind fun x15_16 =>
        (getI l_ x15_16).bind fun x15_17 =>
        some (decide (x14_1.Lot ≤ x15_17.Lot))
      else
        some false).bind fun x15_23 =>
      some x15_23).bind fun x15_24 =>
    if x15_24 then
      some (.ret false)
    else
      (addI s9 1).bind fun x19_0 =>
      some (.go x19_0)
  else
    some (.ex 0 s9)
def cRight (l_ : (List Account)) : Option (Bool) :=
  (iterL (cRight_L0 l_) (l_.length + 1) 0).bind fun f30 => match f30 with
    | .go _ => none
    | .ex _ _ =>
      some (decide ((l_.length : Int) ≤ 20000))
    | .ret r35 => some r35
theorem cRight_ok {k0 : K} {v0 : Value} {l_ : (List Account)} {r : Bool} (i0 : (IsV l_) v0 k0) (hr : cRight l_ = some r) :
    Calls Try.prog 17 #[v0] k0.w (Ret k0 (IsV r)) := by
  unfold cRight at hr
  refine Ret.ofC ?_
  refine enterK Try.func17 rfl Try.ntmps17 (show 1 ≤ 41 by decide) fun a k hk0 hs hd ha => ?_
  obtain ⟨e0, _⟩ := ha
  replace i0 : (IsV l_) (a.get 0) k := by rw [e0, hk0]; exact i0
  have hQ : Gb.LetsOut (bodyPost Try.prog Try.f17 (RetC noF k0 (IsV r))) := letsOutC
  have hg : Chg noF k0 k := by rw [hk0]; exact Chg.refl _ k0
  refine wp_seq ?_
  refine cut (fun a' k' => Bs noF k0 41 a' k' ∧ (IsV l_) (a'.get 0) k' ∧ True) ?_ hQ ?_
  · intro Q39 hQQ39 hp40
    refine regionS (a0 := a) (k0 := k) (n := 41) (m := 1) (⟨some (IsV false), []⟩ :: []) hs (by kernel_rfl) ⟨ob1 rfl fun b q hk hn => ok_assign rfl (isV_bool.2 rfl), trivial⟩ hQQ39 fun b q p => ?_
    exact tail_done (k := q) (hp40 _ _ ⟨Bs.post ⟨hg, hs, hd⟩ p, keep p 0 rfl i0, trivial⟩)
  rintro a k ⟨⟨hg, hs, hd⟩, i0, _⟩
  refine wp_seq ?_
  refine wp_seq ?_
  refine cut (fun a' k' => Bs noF k0 41 a' k' ∧ (IsV l_) (a'.get 0) k' ∧ (IsV l_) (a'.get 5) k' ∧ (IsV (α := Int) (l_.length : Int)) (a'.get 6) k' ∧ (IsV (α := Int) 0) (a'.get 7) k' ∧ True) ?_ hQ ?_
  · intro Q37 hQQ37 hp38
    refine regionS (a0 := a) (k0 := k) (n := 41) (m := 3) (⟨some (IsV l_), [(0, none)]⟩ :: ⟨some (IsV (α := Int) (l_.length : Int)), [(5, some 0)]⟩ :: ⟨some (IsV (α := Int) 0), []⟩ :: []) hs (by kernel_rfl) ⟨ob1 rfl fun b q hk hn => ok_move rfl (up i0 hk hn.1), ob1 rfl fun b q hk hn => ok_len rfl rfl Try.underlying22 (IsV.rd hn.1), ob1 rfl fun b q hk hn => ok_move rfl (isV_int.2 rfl), trivial⟩ hQQ37 fun b q p => ?_
    exact tail_done (k := q) (hp38 _ _ ⟨Bs.post ⟨hg, hs, hd⟩ p, keep p 0 rfl i0, out p 0 5 _ rfl rfl rfl, out p 1 6 _ rfl rfl rfl, out p 2 7 _ rfl rfl rfl, trivial⟩)
  rintro a k ⟨⟨hg, hs, hd⟩, i0, i5, i6, i7, _⟩
  refine wp_block ?_
  obtain ⟨f30, hf30, hr⟩ := bind_some hr
  refine cutFe f30 (fun s' a' k' => Bs noF k0 41 a' k' ∧ (IsV l_) (a'.get 0) k' ∧ (IsV l_) (a'.get 5) k' ∧ (IsV (α := Int) (l_.length : Int)) (a'.get 6) k' ∧ (IsV s') (a'.get 7) k' ∧ True) (fun i' s' a' k' => (i' = 0 ∧ Bs noF k0 41 a' k' ∧ (IsV l_) (a'.get 0) k' ∧ True)) (fun r' a' k' => bodyPost Try.prog Try.f17 (RetC noF k0 (IsV r')) .ret a' k'.w) ?_ hQ ?_ ?_ ?_
  · intro Q36 hQQ36 hgo hex hret
    refine sim_loop ?_ _ _ _ _ _ hf30 ⟨⟨hg, hs, hd⟩, i0, i5, i6, i7, trivial⟩ Q36 hQQ36 hgo hex hret
    clear hr hf30 hgo hex hret hQQ36 hQ hg hs hd i0 i5 i6 i7
    intro s9 fl_ a k hr hS Q hQ hgo10 hex11 hret12
    obtain ⟨⟨hg, hs, hd⟩, i0, i5, i6, i7, _⟩ := hS
    unfold cRight_L0 at hr
    refine wp_seq ?_
    refine cut (fun a' k' => Bs noF k0 41 a' k' ∧ (IsV l_) (a'.get 0) k' ∧ (IsV l_) (a'.get 5) k' ∧ (IsV (α := Int) (l_.length : Int)) (a'.get 6) k' ∧ (IsV s9) (a'.get 7) k' ∧ (IsV (decide (s9 < (l_.length : Int)))) (a'.get 8) k' ∧ True) ?_ hQ ?_
    · intro Q28 hQQ28 hp29
      refine regionS (a0 := a) (k0 := k) (n := 41) (m := 1) (⟨some (IsV (decide (s9 < (l_.length : Int)))), [(7, none), (6, none)]⟩ :: []) hs (by kernel_rfl) ⟨ob1 rfl fun b q hk hn => ok_lss rfl (up i7 hk hn.1) (up i6 hk hn.2.1), trivial⟩ hQQ28 fun b q p => ?_
      exact tail_done (k := q) (hp29 _ _ ⟨Bs.post ⟨hg, hs, hd⟩ p, keep p 0 rfl i0, keep p 5 rfl i5, keep p 6 rfl i6, keep p 7 rfl i7, out p 0 8 _ rfl rfl rfl, trivial⟩)
    rintro a k ⟨⟨hg, hs, hd⟩, i0, i5, i6, i7, i8, _⟩
    refine wp_seq ?_
    refine wp_cond_split (isBool i8) (fun hc27 => ?_) (fun hc27 => ?_)
    · rw [if_pos hc27] at hr
      refine wp_skip ?_
      refine wp_seq ?_
      refine wp_block ?_
      refine wp_seq ?_
      obtain ⟨x14_1, hx14_1, hr⟩ := bind_some hr
      refine cut (fun a' k' => Bs noF k0 41 a' k' ∧ (IsV l_) (a'.get 0) k' ∧ (IsV s9) (a'.get 3) k' ∧ (IsRef x14_1) (a'.get 4) k' ∧ (IsV l_) (a'.get 5) k' ∧ (IsV (α := Int) (l_.length : Int)) (a'.get 6) k' ∧ (IsV s9) (a'.get 7) k' ∧ True) ?_ hQ ?_
      · intro Q25 hQQ25 hp26
        refine regionS (a0 := a) (k0 := k) (n := 41) (m := 5) (⟨some (IsV s9), [(7, none)]⟩ :: ⟨some (IsPtr x14_1), [(5, none), (7, none)]⟩ :: ⟨some (IsV x14_1), [(10, some 1)]⟩ :: ⟨some (IsBox k.w.heap.size (⟨0, 0, false⟩ : Account)), []⟩ :: ⟨some (IsV s9), [(9, some 0)]⟩ :: []) hs (by kernel_rfl) ⟨ob1 rfl fun b q hk hn => ok_move rfl (up i7 hk hn.1), ob1 rfl fun b q hk hn => ok_indexAddr rfl Try.underlying22 ty35 (IsV.rd (up i5 hk hn.1)) (up i7 hk hn.2.1) hx14_1, ob1 rfl fun b q hk hn => ok_load rfl ty35 hn.1, ob1 rfl fun b q hk hn => ok_alloc _ hk.size rfl z35, ob1 rfl fun b q hk hn => ok_assign rfl hn.1, trivial⟩ hQQ25 fun b q p => ?_
        have hgq := hg.then p.grow
        have hsb := p.size.trans hs
        have hdb := p.defers.trans hd
        have j0 := keep p 0 rfl i0
        have j3 : (IsV s9) (b.get 3) q := out p 4 3 _ rfl rfl rfl
        obtain ⟨b4, j4, x4, z4⟩ : (IsBox k.w.heap.size (⟨0, 0, false⟩ : Account)) (b.get 4) q := out p 3 4 _ rfl rfl rfl
        replace x4 : Lo k (Eq b4) := Lo.eq x4
        have y4 : Lo k0 (Eq b4) := x4.chg hg
        have j5 := keep p 5 rfl i5
        have j6 := keep p 6 rfl i6
        have j7 := keep p 7 rfl i7
        have j11 : (IsV x14_1) (b.get 11) q := out p 2 11 _ rfl rfl rfl
        have hns := z4.nshF
        refine tail_storeB (i := 5) rfl rfl rfl rfl szf35 (Upd.self (α := Account)) j4 z4 j11 fun q2 hch hz => ?_
        replace hgq := hgq.step hch y4.wr
        have hle := hch.le hns
        replace j0 := Pers.pers hle j0
        replace j3 := Pers.pers hle j3
        replace j5 := Pers.pers hle j5
        replace j6 := Pers.pers hle j6
        replace j7 := Pers.pers hle j7
        replace j11 := Pers.pers hle j11
        replace z4 := hz
        clear hns hle hch
        obtain ⟨q, hqq⟩ : ∃ q, q = q2 := ⟨q2, rfl⟩
        subst hqq
        obtain ⟨q2, hsh, jn⟩ := z4.give
        replace j0 := Pers.pers hsh.le j0
        replace j3 := Pers.pers hsh.le j3
        replace j5 := Pers.pers hsh.le j5
        replace j6 := Pers.pers hsh.le j6
        replace j7 := Pers.pers hsh.le j7
        rw [← j4] at jn
        replace j4 := jn
        replace hgq := hgq.hand hsh y4.wr
        rw [← hsh.w]
        clear hsh
        obtain ⟨q, hqq⟩ : ∃ q, q = q2 := ⟨q2, rfl⟩
        subst hqq
        exact tail_done (k := q) (hp26 _ _ ⟨⟨hgq, hsb, hdb⟩, j0, j3, j4, j5, j6, j7, trivial⟩)
      rintro a k ⟨⟨hg, hs, hd⟩, i0, i3, i4, i5, i6, i7, _⟩
      refine wp_seq ?_
      obtain ⟨x15_2, hx15_2, hr⟩ := bind_some hr
      obtain ⟨x15_9, hx15_9, hr⟩ := bind_some hr
      obtain ⟨x15_7, hx15_7, hx15_9⟩ := ite_bindF hx15_9
      obtain ⟨x15_24, hx15_24, hr⟩ := bind_some hr
      obtain ⟨x15_23, hx15_23, hx15_24⟩ := ite_bindF hx15_24
      obtain ⟨x15_16, hx15_16, hx15_23⟩ := ite_bindP hx15_23
      obtain ⟨x15_17, hx15_17, hx15_23⟩ := ite_bindP hx15_23
      refine cut (fun a' k' => Bs noF k0 41 a' k' ∧ (IsV l_) (a'.get 0) k' ∧ (IsV l_) (a'.get 5) k' ∧ (IsV (α := Int) (l_.length : Int)) (a'.get 6) k' ∧ (IsV s9) (a'.get 7) k' ∧ (IsV x15_24) (a'.get 36) k' ∧ True) ?_ hQ ?_
      · intro Q23 hQQ23 hp24
        refine region (a0 := a) (k0 := k) (n := 41) (m := 25) (⟨some (IsPtr x14_1.Lot), [(4, none)]⟩ :: ⟨some (IsV x14_1.Lot), [(12, some 0)]⟩ :: ⟨some (IsV x15_2), [(13, some 1)]⟩ :: ⟨some (IsV (!x15_2)), [(14, some 2)]⟩ :: ⟨some (IsV (!x15_2)), [(15, some 3)]⟩ :: ⟨some (Gd ((!x15_2) = false) (IsPtr x14_1.Units)), [(4, none)]⟩ :: ⟨some (Gd ((!x15_2) = false) (IsV x14_1.Units)), [(17, some 5)]⟩ :: ⟨some (Gd ((!x15_2) = false) (IsV x15_7)), [(18, some 6)]⟩ :: ⟨some (Gd ((!x15_2) = false) (IsV (!x15_7))), [(19, some 7)]⟩ :: ⟨some (IsV x15_9), [(16, some 4), (20, some 8)]⟩ :: ⟨some (IsV x15_9), [(21, some 9)]⟩ :: ⟨some (Gd (x15_9 = false) (IsV s9)), [(3, none)]⟩ :: ⟨some (Gd (x15_9 = false) (IsV (decide (0 < s9)))), [(23, some 11)]⟩ :: ⟨some (Gd (x15_9 = false) (IsV (decide (0 < s9)))), [(24, some 12)]⟩ :: ⟨some (Gd ((x15_9 = false) ∧ (decide (0 < s9)) = true) (IsV l_)), [(0, none)]⟩ :: ⟨some (Gd ((x15_9 = false) ∧ (decide (0 < s9)) = true) (IsV s9)), [(3, none)]⟩ :: ⟨some (Gd ((x15_9 = false) ∧ (decide (0 < s9)) = true) (IsV x15_16)), [(27, some 15)]⟩ :: ⟨some (Gd ((x15_9 = false) ∧ (decide (0 < s9)) = true) (IsPtr x15_17)), [(26, some 14), (28, some 16)]⟩ :: ⟨some (Gd ((x15_9 = false) ∧ (decide (0 < s9)) = true) (IsPtr x15_17.Lot)), [(29, some 17)]⟩ :: ⟨some (Gd ((x15_9 = false) ∧ (decide (0 < s9)) = true) (IsV x15_17.Lot)), [(30, some 18)]⟩ :: ⟨some (Gd ((x15_9 = false) ∧ (decide (0 < s9)) = true) (IsPtr x14_1.Lot)), [(4, none)]⟩ :: ⟨some (Gd ((x15_9 = false) ∧ (decide (0 < s9)) = true) (IsV x14_1.Lot)), [(32, some 20)]⟩ :: ⟨some (Gd ((x15_9 = false) ∧ (decide (0 < s9)) = true) (IsV (decide (x14_1.Lot ≤ x15_17.Lot)))), [(31, some 19), (33, some 21)]⟩ :: ⟨some (Gd (x15_9 = false) (IsV x15_23)), [(25, some 13), (34, some 22)]⟩ :: ⟨some (IsV x15_24), [(22, some 10), (35, some 23)]⟩ :: []) hmix hs (by kernel_rfl) ⟨ob1 rfl fun b q hk hn => ok_fieldAddr rfl fo35_0 (at_Account_0 _) ((up i4 hk hn.1)).ptr, ob1 rfl fun b q hk hn => ok_load rfl ty3 hn.1, ob1 rfl fun b q hk hn => ok_call rfl Try.call31 (within_ok hn.1 (isV_int.2 rfl) (isV_int.2 rfl) hx15_2), ob1 rfl fun b q hk hn => ok_not rfl hn.1, ob1 rfl fun b q hk hn => ok_move rfl hn.1, gdF rfl rfl fun hp b q hk hn => ok_fieldAddr rfl fo35_1 (at_Account_1 _) ((up i4 hk hn.1)).ptr, gdF rfl rfl fun hp b q hk hn => ok_load rfl ty3 (Gd.get hn.1 hp), gdF rfl rfl fun hp b q hk hn => ok_call rfl Try.call31 (within_ok (Gd.get hn.1 hp) (isV_int.2 rfl) (isV_int.2 rfl) (hx15_7 hp)), gdF rfl rfl fun hp b q hk hn => ok_not rfl (Gd.get hn.1 hp), ob1 rfl fun b q hk hn => ok_pickM rfl hn.1 hx15_9 (fun _ => (isV_bool.2 rfl)) (fun hm => (Gd.get hn.2.1 hm)), ob1 rfl fun b q hk hn => ok_move rfl hn.1, gdF rfl rfl fun hp b q hk hn => ok_move rfl (up i3 hk hn.1), gdF rfl rfl fun hp b q hk hn => ok_gtr rfl (Gd.get hn.1 hp) (isV_int.2 rfl), gdF rfl rfl fun hp b q hk hn => ok_move rfl (Gd.get hn.1 hp), gdTT rfl rfl fun hp b q hk hn => ok_move rfl (up i0 hk hn.1), gdTT rfl rfl fun hp b q hk hn => ok_move rfl (up i3 hk hn.1), gdTT rfl rfl fun hp b q hk hn => ok_sub rfl (Gd.get hn.1 hp) (isV_int.2 rfl) (hx15_16 hp), gdTT rfl rfl fun hp b q hk hn => ok_indexAddr rfl Try.underlying22 ty35 (IsV.rd (Gd.get hn.1 hp)) (Gd.get hn.2.1 hp) (hx15_17 hp), gdTT rfl rfl fun hp b q hk hn => ok_fieldAddr rfl fo35_0 (at_Account_0 _) (Gd.get hn.1 hp), gdTT rfl rfl fun hp b q hk hn => ok_load rfl ty3 (Gd.get hn.1 hp), gdTT rfl rfl fun hp b q hk hn => ok_fieldAddr rfl fo35_0 (at_Account_0 _) ((up i4 hk hn.1)).ptr, gdTT rfl rfl fun hp b q hk hn => ok_load rfl ty3 (Gd.get hn.1 hp), gdTT rfl rfl fun hp b q hk hn => ok_geq rfl (Gd.get hn.1 hp) (Gd.get hn.2.1 hp), gdF rfl rfl fun hp b q hk hn => ok_pickM rfl (Gd.get hn.1 hp) (hx15_23 hp) (fun hm => (Gd.get hn.2.1 ⟨hp, hm⟩)) (fun _ => (isV_bool.2 rfl)), ob1 rfl fun b q hk hn => ok_pickM rfl hn.1 hx15_24 (fun _ => (isV_bool.2 rfl)) (fun hm => (Gd.get hn.2.1 hm)), trivial⟩ hQQ23 fun b q p => ?_
        exact tail_done (k := q) (hp24 _ _ ⟨Bs.post ⟨hg, hs, hd⟩ p, keep p 0 rfl i0, keep p 5 rfl i5, keep p 6 rfl i6, keep p 7 rfl i7, out p 24 36 _ rfl rfl rfl, trivial⟩)
      rintro a k ⟨⟨hg, hs, hd⟩, i0, i5, i6, i7, i36, _⟩
      refine wp_cond_split (isBool i36) (fun hc22 => ?_) (fun hc22 => ?_)
      · rw [if_pos hc22] at hr
        refine wp_seq ?_
        refine cut (fun a' k' => Bs noF k0 41 a' k' ∧ (IsV false) (a'.get 2) k' ∧ True) ?_ hQ ?_
        · intro Q17 hQQ17 hp18
          refine regionS (a0 := a) (k0 := k) (n := 41) (m := 1) (⟨some (IsV false), []⟩ :: []) hs (by kernel_rfl) ⟨ob1 rfl fun b q hk hn => ok_assign rfl (isV_bool.2 rfl), trivial⟩ hQQ17 fun b q p => ?_
          exact tail_done (k := q) (hp18 _ _ ⟨Bs.post ⟨hg, hs, hd⟩ p, out p 0 2 _ rfl rfl rfl, trivial⟩)
        rintro a k ⟨⟨hg, hs, hd⟩, i2, _⟩
        refine wp_ret ?_
        exact hret12 _ _ _ (Option.some.inj hr).symm (retC1 rfl hd hg i2)
      rw [if_neg (by rw [hc22]; decide)] at hr
      refine wp_skip ?_
      obtain ⟨x19_0, hx19_0, hr⟩ := bind_some hr
      refine cut (fun a' k' => Bs noF k0 41 a' k' ∧ (IsV l_) (a'.get 0) k' ∧ (IsV l_) (a'.get 5) k' ∧ (IsV (α := Int) (l_.length : Int)) (a'.get 6) k' ∧ (IsV x19_0) (a'.get 7) k' ∧ True) ?_ hQ ?_
      · intro Q20 hQQ20 hp21
        refine regionS (a0 := a) (k0 := k) (n := 41) (m := 2) (⟨some (IsV x19_0), [(7, none)]⟩ :: ⟨some (IsV x19_0), [(37, some 0)]⟩ :: []) hs (by kernel_rfl) ⟨ob1 rfl fun b q hk hn => ok_add rfl (up i7 hk hn.1) (isV_int.2 rfl) hx19_0, ob1 rfl fun b q hk hn => ok_move rfl hn.1, trivial⟩ hQQ20 fun b q p => ?_
        exact tail_done (k := q) (hp21 _ _ ⟨Bs.post ⟨hg, hs, hd⟩ p, keep p 0 rfl i0, keep p 5 rfl i5, keep p 6 rfl i6, out p 1 7 _ rfl rfl rfl, trivial⟩)
      rintro a k ⟨⟨hg, hs, hd⟩, i0, i5, i6, i7, _⟩
      exact hgo10 _ _ _ (Option.some.inj hr).symm ⟨⟨hg, hs, hd⟩, i0, i5, i6, i7, trivial⟩
    rw [if_neg (by rw [hc27]; decide)] at hr
    refine wp_exit ?_
    exact hex11 _ _ _ _ (Option.some.inj hr).symm ⟨rfl, ⟨hg, hs, hd⟩, i0, trivial⟩
  · rintro r35 a k rfl hR
    dsimp only at hr
    obtain rfl := Option.some.inj hr
    exact hR
  · rintro _ _ _ rfl _
    simp at hr
  clear hf30
  rintro _ s31 a k rfl ⟨rfl, ⟨hg, hs, hd⟩, i0, _⟩
  dsimp only at hr
  refine wp_seq ?_
  refine cut (fun a' k' => Bs noF k0 41 a' k' ∧ (IsV (decide ((l_.length : Int) ≤ 20000))) (a'.get 2) k' ∧ True) ?_ hQ ?_
  · intro Q33 hQQ33 hp34
    refine regionS (a0 := a) (k0 := k) (n := 41) (m := 4) (⟨some (IsV l_), [(0, none)]⟩ :: ⟨some (IsV (α := Int) (l_.length : Int)), [(38, some 0)]⟩ :: ⟨some (IsV (decide ((l_.length : Int) ≤ 20000))), [(39, some 1)]⟩ :: ⟨some (IsV (decide ((l_.length : Int) ≤ 20000))), [(40, some 2)]⟩ :: []) hs (by kernel_rfl) ⟨ob1 rfl fun b q hk hn => ok_move rfl (up i0 hk hn.1), ob1 rfl fun b q hk hn => ok_len rfl rfl Try.underlying22 (IsV.rd hn.1), ob1 rfl fun b q hk hn => ok_leq rfl hn.1 (isV_int.2 rfl), ob1 rfl fun b q hk hn => ok_assign rfl hn.1, trivial⟩ hQQ33 fun b q p => ?_
    exact tail_done (k := q) (hp34 _ _ ⟨Bs.post ⟨hg, hs, hd⟩ p, out p 3 2 _ rfl rfl rfl, trivial⟩)
  rintro a k ⟨⟨hg, hs, hd⟩, i2, _⟩
  refine wp_ret ?_
  obtain rfl := Option.some.inj hr
  exact retC1 rfl hd hg i2
def rRight_L0 (l_ : (List Account)) (s43 : Int) : Option (Flow (Int) (Bool)) :=
  if (decide (s43 < (l_.length : Int))) then
    (getI l_ s43).bind fun x48_2 =>
    (if (decide (x48_2.Lot < 1)) then
      some true
    else
      (getI l_ s43).bind fun x48_9 =>
      some (decide (1073741824 < x48_9.Lot))).bind fun x48_13 =>
    (if x48_13 then
      some true
    else
      (getI l_ s43).bind fun x48_17 =>
      some (decide (x48_17.Units < 0))).bind fun x48_21 =>
    (if x48_21 then
      some true
    else
      (getI l_ s43).bind fun x48_25 =>
      some (decide (1073741824 < x48_25.Units))).bind fun x48_29 =>
    (if x48_29 then
      some true
    else
      (if (decide (0 < s43)) then
        (subI s43 1).bind fun x48_36 =>
        (getI l_ x48_36).bind fun x48_37 =>
        (getI l_ s43).bind fun x48_42 =>
        some (decide (x48_42.Lot ≤ x48_37.Lot))
      else
        some false).bind fun x48_46 =>
      some x48_46).bind fun x48_47 =>
    if x48_47 then
      some (.ret false)
    else
      (addI s43 1).bind fun x52_1 =>
      some (.go x52_1)
  else
    some (.ex 0 s43)
def rRight (l_ : (List Account)) : Option (Bool) :=
  (iterL (rRight_L0 l_) (l_.length + 1) 0).bind fun f61 => match f61 with
    | .go _ => none
    | .ex _ _ =>
      some (decide ((l_.length : Int) ≤ 20000))
    | .ret r66 => some r66
theorem rRight_ok {k0 : K} {v0 : Value} {l_ : (List Account)} {r : Bool} (i0 : (IsV l_) v0 k0) (hr : rRight l_ = some r) :
    Calls Try.prog 18 #[v0] k0.w (Ret k0 (IsV r)) := by
  unfold rRight at hr
  refine Ret.ofC ?_
  refine enterK Try.func18 rfl Try.ntmps18 (show 1 ≤ 61 by decide) fun a k hk0 hs hd ha => ?_
  obtain ⟨e0, _⟩ := ha
  replace i0 : (IsV l_) (a.get 0) k := by rw [e0, hk0]; exact i0
  have hQ : Gb.LetsOut (bodyPost Try.prog Try.f18 (RetC noF k0 (IsV r))) := letsOutC
  have hg : Chg noF k0 k := by rw [hk0]; exact Chg.refl _ k0
  refine wp_seq ?_
  refine cut (fun a' k' => Bs noF k0 61 a' k' ∧ (IsV l_) (a'.get 0) k' ∧ True) ?_ hQ ?_
  · intro Q70 hQQ70 hp71
    refine regionS (a0 := a) (k0 := k) (n := 61) (m := 1) (⟨some (IsV false), []⟩ :: []) hs (by kernel_rfl) ⟨ob1 rfl fun b q hk hn => ok_assign rfl (isV_bool.2 rfl), trivial⟩ hQQ70 fun b q p => ?_
    exact tail_done (k := q) (hp71 _ _ ⟨Bs.post ⟨hg, hs, hd⟩ p, keep p 0 rfl i0, trivial⟩)
  rintro a k ⟨⟨hg, hs, hd⟩, i0, _⟩
  refine wp_seq ?_
  refine wp_seq ?_
  refine cut (fun a' k' => Bs noF k0 61 a' k' ∧ (IsV l_) (a'.get 0) k' ∧ (IsV (α := Int) 0) (a'.get 3) k' ∧ True) ?_ hQ ?_
  · intro Q68 hQQ68 hp69
    refine regionS (a0 := a) (k0 := k) (n := 61) (m := 1) (⟨some (IsV (α := Int) 0), []⟩ :: []) hs (by kernel_rfl) ⟨ob1 rfl fun b q hk hn => ok_assign rfl (isV_int.2 rfl), trivial⟩ hQQ68 fun b q p => ?_
    exact tail_done (k := q) (hp69 _ _ ⟨Bs.post ⟨hg, hs, hd⟩ p, keep p 0 rfl i0, out p 0 3 _ rfl rfl rfl, trivial⟩)
  rintro a k ⟨⟨hg, hs, hd⟩, i0, i3, _⟩
  refine wp_block ?_
  obtain ⟨f61, hf61, hr⟩ := bind_some hr
  refine cutFe f61 (fun s' a' k' => Bs noF k0 61 a' k' ∧ (IsV l_) (a'.get 0) k' ∧ (IsV s') (a'.get 3) k' ∧ True) (fun i' s' a' k' => (i' = 0 ∧ Bs noF k0 61 a' k' ∧ (IsV l_) (a'.get 0) k' ∧ True)) (fun r' a' k' => bodyPost Try.prog Try.f18 (RetC noF k0 (IsV r')) .ret a' k'.w) ?_ hQ ?_ ?_ ?_
  · intro Q67 hQQ67 hgo hex hret
    refine sim_loop ?_ _ _ _ _ _ hf61 ⟨⟨hg, hs, hd⟩, i0, i3, trivial⟩ Q67 hQQ67 hgo hex hret
    clear hr hf61 hgo hex hret hQQ67 hQ hg hs hd i0 i3
    intro s43 fl_ a k hr hS Q hQ hgo44 hex45 hret46
    obtain ⟨⟨hg, hs, hd⟩, i0, i3, _⟩ := hS
    unfold rRight_L0 at hr
    refine wp_seq ?_
    refine wp_seq ?_
    refine cut (fun a' k' => Bs noF k0 61 a' k' ∧ (IsV l_) (a'.get 0) k' ∧ (IsV s43) (a'.get 3) k' ∧ (IsV (decide (s43 < (l_.length : Int)))) (a'.get 7) k' ∧ True) ?_ hQ ?_
    · intro Q59 hQQ59 hp60
      refine regionS (a0 := a) (k0 := k) (n := 61) (m := 4) (⟨some (IsV s43), [(3, none)]⟩ :: ⟨some (IsV l_), [(0, none)]⟩ :: ⟨some (IsV (α := Int) (l_.length : Int)), [(5, some 1)]⟩ :: ⟨some (IsV (decide (s43 < (l_.length : Int)))), [(4, some 0), (6, some 2)]⟩ :: []) hs (by kernel_rfl) ⟨ob1 rfl fun b q hk hn => ok_move rfl (up i3 hk hn.1), ob1 rfl fun b q hk hn => ok_move rfl (up i0 hk hn.1), ob1 rfl fun b q hk hn => ok_len rfl rfl Try.underlying22 (IsV.rd hn.1), ob1 rfl fun b q hk hn => ok_lss rfl hn.1 hn.2.1, trivial⟩ hQQ59 fun b q p => ?_
      exact tail_done (k := q) (hp60 _ _ ⟨Bs.post ⟨hg, hs, hd⟩ p, keep p 0 rfl i0, keep p 3 rfl i3, out p 3 7 _ rfl rfl rfl, trivial⟩)
    rintro a k ⟨⟨hg, hs, hd⟩, i0, i3, i7, _⟩
    refine wp_cond_split (isBool i7) (fun hc58 => ?_) (fun hc58 => ?_)
    · rw [if_pos hc58] at hr
      refine wp_skip ?_
      refine wp_seq ?_
      refine wp_block ?_
      refine wp_seq ?_
      obtain ⟨x48_2, hx48_2, hr⟩ := bind_some hr
      obtain ⟨x48_13, hx48_13, hr⟩ := bind_some hr
      obtain ⟨x48_9, hx48_9, hx48_13⟩ := ite_bindF hx48_13
      obtain ⟨x48_21, hx48_21, hr⟩ := bind_some hr
      obtain ⟨x48_17, hx48_17, hx48_21⟩ := ite_bindF hx48_21
      obtain ⟨x48_29, hx48_29, hr⟩ := bind_some hr
      obtain ⟨x48_25, hx48_25, hx48_29⟩ := ite_bindF hx48_29
      obtain ⟨x48_47, hx48_47, hr⟩ := bind_some hr
      obtain ⟨x48_46, hx48_46, hx48_47⟩ := ite_bindF hx48_47
      obtain ⟨x48_36, hx48_36, hx48_46⟩ := ite_bindP hx48_46
      obtain ⟨x48_37, hx48_37, hx48_46⟩ := ite_bindP hx48_46
      obtain ⟨x48_42, hx48_42, hx48_46⟩ := ite_bindP hx48_46
      refine cut (fun a' k' => Bs noF k0 61 a' k' ∧ (IsV l_) (a'.get 0) k' ∧ (IsV s43) (a'.get 3) k' ∧ (IsV x48_47) (a'.get 57) k' ∧ True) ?_ hQ ?_
      · intro Q56 hQQ56 hp57
        refine region (a0 := a) (k0 := k) (n := 61) (m := 48) (⟨some (IsV l_), [(0, none)]⟩ :: ⟨some (IsV s43), [(3, none)]⟩ :: ⟨some (IsPtr x48_2), [(10, some 0), (11, some 1)]⟩ :: ⟨some (IsPtr x48_2.Lot), [(12, some 2)]⟩ :: ⟨some (IsV x48_2.Lot), [(13, some 3)]⟩ :: ⟨some (IsV (decide (x48_2.Lot < 1))), [(14, some 4)]⟩ :: ⟨some (IsV (decide (x48_2.Lot < 1))), [(15, some 5)]⟩ :: ⟨some (Gd ((decide (x48_2.Lot < 1)) = false) (IsV l_)), [(0, none)]⟩ :: ⟨some (Gd ((decide (x48_2.Lot < 1)) = false) (IsV s43)), [(3, none)]⟩ :: ⟨some (Gd ((decide (x48_2.Lot < 1)) = false) (IsPtr x48_9)), [(17, some 7), (18, some 8)]⟩ :: ⟨some (Gd ((decide (x48_2.Lot < 1)) = false) (IsPtr x48_9.Lot)), [(19, some 9)]⟩ :: ⟨some (Gd ((decide (x48_2.Lot < 1)) = false) (IsV x48_9.Lot)), [(20, some 10)]⟩ :: ⟨some (Gd ((decide (x48_2.Lot < 1)) = false) (IsV (decide (1073741824 < x48_9.Lot)))), [(21, some 11)]⟩ :: ⟨some (IsV x48_13), [(16, some 6), (22, some 12)]⟩ :: ⟨some (IsV x48_13), [(23, some 13)]⟩ :: ⟨some (Gd (x48_13 = false) (IsV l_)), [(0, none)]⟩ :: ⟨some (Gd (x48_13 = false) (IsV s43)), [(3, none)]⟩ :: ⟨some (Gd (x48_13 = false) (IsPtr x48_17)), [(25, some 15), (26, some 16)]⟩ :: ⟨some (Gd (x48_13 = false) (IsPtr x48_17.Units)), [(27, some 17)]⟩ :: ⟨some (Gd (x48_13 = false) (IsV x48_17.Units)), [(28, some 18)]⟩ :: ⟨some (Gd (x48_13 = false) (IsV (decide (x48_17.Units < 0)))), [(29, some 19)]⟩ :: ⟨some (IsV x48_21), [(24, some 14), (30, some 20)]⟩ :: ⟨some (IsV x48_21), [(31, some 21)]⟩ :: ⟨some (Gd (x48_21 = false) (IsV l_)), [(0, none)]⟩ :: ⟨some (Gd (x48_21 = false) (IsV s43)), [(3, none)]⟩ :: ⟨some (Gd (x48_21 = false) (IsPtr x48_25)), [(33, some 23), (34, some 24)]⟩ :: ⟨some (Gd (x48_21 = false) (IsPtr x48_25.Units)), [(35, some 25)]⟩ :: ⟨some (Gd (x48_21 = false) (IsV x48_25.Units)), [(36, some 26)]⟩ :: ⟨some (Gd (x48_21 = false) (IsV (decide (1073741824 < x48_25.Units)))), [(37, some 27)]⟩ :: ⟨some (IsV x48_29), [(32, some 22), (38, some 28)]⟩ :: ⟨some (IsV x48_29), [(39, some 29)]⟩ :: ⟨some (Gd (x48_29 = false) (IsV s43)), [(3, none)]⟩ :: ⟨some (Gd (x48_29 = false) (IsV (decide (0 < s43)))), [(41, some 31)]⟩ :: ⟨some (Gd (x48_29 = false) (IsV (decide (0 < s43)))), [(42, some 32)]⟩ :: ⟨some (Gd ((x48_29 = false) ∧ (decide (0 < s43)) = true) (IsV l_)), [(0, none)]⟩ :: ⟨some (Gd ((x48_29 = false) ∧ (decide (0 < s43)) = true) (IsV s43)), [(3, none)]⟩ :: ⟨some (Gd ((x48_29 = false) ∧ (decide (0 < s43)) = true) (IsV x48_36)), [(45, some 35)]⟩ :: ⟨some (Gd ((x48_29 = false) ∧ (decide (0 < s43)) = true) (IsPtr x48_37)), [(44, some 34), (46, some 36)]⟩ :: ⟨some (Gd ((x48_29 = false) ∧ (decide (0 < s43)) = true) (IsPtr x48_37.Lot)), [(47, some 37)]⟩ :: ⟨some (Gd ((x48_29 = false) ∧ (decide (0 < s43)) = true) (IsV x48_37.Lot)), [(48, some 38)]⟩ :: ⟨some (Gd ((x48_29 = false) ∧ (decide (0 < s43)) = true) (IsV l_)), [(0, none)]⟩ :: ⟨some (Gd ((x48_29 = false) ∧ (decide (0 < s43)) = true) (IsV s43)), [(3, none)]⟩ :: ⟨some (Gd ((x48_29 = false) ∧ (decide (0 < s43)) = true) (IsPtr x48_42)), [(50, some 40), (51, some 41)]⟩ :: ⟨some (Gd ((x48_29 = false) ∧ (decide (0 < s43)) = true) (IsPtr x48_42.Lot)), [(52, some 42)]⟩ :: ⟨some (Gd ((x48_29 = false) ∧ (decide (0 < s43)) = true) (IsV x48_42.Lot)), [(53, some 43)]⟩ :: ⟨some (Gd ((x48_29 = false) ∧ (decide (0 < s43)) = true) (IsV (decide (x48_42.Lot ≤ x48_37.Lot)))), [(49, some 39), (54, some 44)]⟩ :: ⟨some (Gd (x48_29 = false) (IsV x48_46)), [(43, some 33), (55, some 45)]⟩ :: ⟨some (IsV x48_47), [(40, some 30), (56, some 46)]⟩ :: []) hmix hs (by kernel_rfl) ⟨ob1 rfl fun b q hk hn => ok_move rfl (up i0 hk hn.1), ob1 rfl fun b q hk hn => ok_move rfl (up i3 hk hn.1), ob1 rfl fun b q hk hn => ok_indexAddr rfl Try.underlying22 ty35 (IsV.rd hn.1) hn.2.1 hx48_2, ob1 rfl fun b q hk hn => ok_fieldAddr rfl fo35_0 (at_Account_0 _) hn.1, ob1 rfl fun b q hk hn => ok_load rfl ty3 hn.1, ob1 rfl fun b q hk hn => ok_lss rfl hn.1 (isV_int.2 rfl), ob1 rfl fun b q hk hn => ok_move rfl hn.1, gdF rfl rfl fun hp b q hk hn => ok_move rfl (up i0 hk hn.1), gdF rfl rfl fun hp b q hk hn => ok_move rfl (up i3 hk hn.1), gdF rfl rfl fun hp b q hk hn => ok_indexAddr rfl Try.underlying22 ty35 (IsV.rd (Gd.get hn.1 hp)) (Gd.get hn.2.1 hp) (hx48_9 hp), gdF rfl rfl fun hp b q hk hn => ok_fieldAddr rfl fo35_0 (at_Account_0 _) (Gd.get hn.1 hp), gdF rfl rfl fun hp b q hk hn => ok_load rfl ty3 (Gd.get hn.1 hp), gdF rfl rfl fun hp b q hk hn => ok_gtr rfl (Gd.get hn.1 hp) (isV_int.2 rfl), ob1 rfl fun b q hk hn => ok_pickM rfl hn.1 hx48_13 (fun _ => (isV_bool.2 rfl)) (fun hm => (Gd.get hn.2.1 hm)), ob1 rfl fun b q hk hn => ok_move rfl hn.1, gdF rfl rfl fun hp b q hk hn => ok_move rfl (up i0 hk hn.1), gdF rfl rfl fun hp b q hk hn => ok_move rfl (up i3 hk hn.1), gdF rfl rfl fun hp b q hk hn => ok_indexAddr rfl Try.underlying22 ty35 (IsV.rd (Gd.get hn.1 hp)) (Gd.get hn.2.1 hp) (hx48_17 hp), gdF rfl rfl fun hp b q hk hn => ok_fieldAddr rfl fo35_1 (at_Account_1 _) (Gd.get hn.1 hp), gdF rfl rfl fun hp b q hk hn => ok_load rfl ty3 (Gd.get hn.1 hp), gdF rfl rfl fun hp b q hk hn => ok_lss rfl (Gd.get hn.1 hp) (isV_int.2 rfl), ob1 rfl fun b q hk hn => ok_pickM rfl hn.1 hx48_21 (fun _ => (isV_bool.2 rfl)) (fun hm => (Gd.get hn.2.1 hm)), ob1 rfl fun b q hk hn => ok_move rfl hn.1, gdF rfl rfl fun hp b q hk hn => ok_move rfl (up i0 hk hn.1), gdF rfl rfl fun hp b q hk hn => ok_move rfl (up i3 hk hn.1), gdF rfl rfl fun hp b q hk hn => ok_indexAddr rfl Try.underlying22 ty35 (IsV.rd (Gd.get hn.1 hp)) (Gd.get hn.2.1 hp) (hx48_25 hp), gdF rfl rfl fun hp b q hk hn => ok_fieldAddr rfl fo35_1 (at_Account_1 _) (Gd.get hn.1 hp), gdF rfl rfl fun hp b q hk hn => ok_load rfl ty3 (Gd.get hn.1 hp), gdF rfl rfl fun hp b q hk hn => ok_gtr rfl (Gd.get hn.1 hp) (isV_int.2 rfl), ob1 rfl fun b q hk hn => ok_pickM rfl hn.1 hx48_29 (fun _ => (isV_bool.2 rfl)) (fun hm => (Gd.get hn.2.1 hm)), ob1 rfl fun b q hk hn => ok_move rfl hn.1, gdF rfl rfl fun hp b q hk hn => ok_move rfl (up i3 hk hn.1), gdF rfl rfl fun hp b q hk hn => ok_gtr rfl (Gd.get hn.1 hp) (isV_int.2 rfl), gdF rfl rfl fun hp b q hk hn => ok_move rfl (Gd.get hn.1 hp), gdTT rfl rfl fun hp b q hk hn => ok_move rfl (up i0 hk hn.1), gdTT rfl rfl fun hp b q hk hn => ok_move rfl (up i3 hk hn.1), gdTT rfl rfl fun hp b q hk hn => ok_sub rfl (Gd.get hn.1 hp) (isV_int.2 rfl) (hx48_36 hp), gdTT rfl rfl fun hp b q hk hn => ok_indexAddr rfl Try.underlying22 ty35 (IsV.rd (Gd.get hn.1 hp)) (Gd.get hn.2.1 hp) (hx48_37 hp), gdTT rfl rfl fun hp b q hk hn => ok_fieldAddr rfl fo35_0 (at_Account_0 _) (Gd.get hn.1 hp), gdTT rfl rfl fun hp b q hk hn => ok_load rfl ty3 (Gd.get hn.1 hp), gdTT rfl rfl fun hp b q hk hn => ok_move rfl (up i0 hk hn.1), gdTT rfl rfl fun hp b q hk hn => ok_move rfl (up i3 hk hn.1), gdTT rfl rfl fun hp b q hk hn => ok_indexAddr rfl Try.underlying22 ty35 (IsV.rd (Gd.get hn.1 hp)) (Gd.get hn.2.1 hp) (hx48_42 hp), gdTT rfl rfl fun hp b q hk hn => ok_fieldAddr rfl fo35_0 (at_Account_0 _) (Gd.get hn.1 hp), gdTT rfl rfl fun hp b q hk hn => ok_load rfl ty3 (Gd.get hn.1 hp), gdTT rfl rfl fun hp b q hk hn => ok_geq rfl (Gd.get hn.1 hp) (Gd.get hn.2.1 hp), gdF rfl rfl fun hp b q hk hn => ok_pickM rfl (Gd.get hn.1 hp) (hx48_46 hp) (fun hm => (Gd.get hn.2.1 ⟨hp, hm⟩)) (fun _ => (isV_bool.2 rfl)), ob1 rfl fun b q hk hn => ok_pickM rfl hn.1 hx48_47 (fun _ => (isV_bool.2 rfl)) (fun hm => (Gd.get hn.2.1 hm)), trivial⟩ hQQ56 fun b q p => ?_
        exact tail_done (k := q) (hp57 _ _ ⟨Bs.post ⟨hg, hs, hd⟩ p, keep p 0 rfl i0, keep p 3 rfl i3, out p 47 57 _ rfl rfl rfl, trivial⟩)
      rintro a k ⟨⟨hg, hs, hd⟩, i0, i3, i57, _⟩
      refine wp_cond_split (isBool i57) (fun hc55 => ?_) (fun hc55 => ?_)
      · rw [if_pos hc55] at hr
        refine wp_seq ?_
        refine cut (fun a' k' => Bs noF k0 61 a' k' ∧ (IsV false) (a'.get 2) k' ∧ True) ?_ hQ ?_
        · intro Q50 hQQ50 hp51
          refine regionS (a0 := a) (k0 := k) (n := 61) (m := 1) (⟨some (IsV false), []⟩ :: []) hs (by kernel_rfl) ⟨ob1 rfl fun b q hk hn => ok_assign rfl (isV_bool.2 rfl), trivial⟩ hQQ50 fun b q p => ?_
          exact tail_done (k := q) (hp51 _ _ ⟨Bs.post ⟨hg, hs, hd⟩ p, out p 0 2 _ rfl rfl rfl, trivial⟩)
        rintro a k ⟨⟨hg, hs, hd⟩, i2, _⟩
        refine wp_ret ?_
        exact hret46 _ _ _ (Option.some.inj hr).symm (retC1 rfl hd hg i2)
      rw [if_neg (by rw [hc55]; decide)] at hr
      refine wp_skip ?_
      obtain ⟨x52_1, hx52_1, hr⟩ := bind_some hr
      refine cut (fun a' k' => Bs noF k0 61 a' k' ∧ (IsV l_) (a'.get 0) k' ∧ (IsV x52_1) (a'.get 3) k' ∧ True) ?_ hQ ?_
      · intro Q53 hQQ53 hp54
        refine regionS (a0 := a) (k0 := k) (n := 61) (m := 3) (⟨some (IsV s43), [(3, none)]⟩ :: ⟨some (IsV x52_1), [(8, some 0)]⟩ :: ⟨some (IsV x52_1), [(9, some 1)]⟩ :: []) hs (by kernel_rfl) ⟨ob1 rfl fun b q hk hn => ok_move rfl (up i3 hk hn.1), ob1 rfl fun b q hk hn => ok_add rfl hn.1 (isV_int.2 rfl) hx52_1, ob1 rfl fun b q hk hn => ok_assign rfl hn.1, trivial⟩ hQQ53 fun b q p => ?_
        exact tail_done (k := q) (hp54 _ _ ⟨Bs.post ⟨hg, hs, hd⟩ p, keep p 0 rfl i0, out p 2 3 _ rfl rfl rfl, trivial⟩)
      rintro a k ⟨⟨hg, hs, hd⟩, i0, i3, _⟩
      exact hgo44 _ _ _ (Option.some.inj hr).symm ⟨⟨hg, hs, hd⟩, i0, i3, trivial⟩
    rw [if_neg (by rw [hc58]; decide)] at hr
    refine wp_exit ?_
    exact hex45 _ _ _ _ (Option.some.inj hr).symm ⟨rfl, ⟨hg, hs, hd⟩, i0, trivial⟩
  · rintro r66 a k rfl hR
    dsimp only at hr
    obtain rfl := Option.some.inj hr
    exact hR
  · rintro _ _ _ rfl _
    simp at hr
  clear hf61
  rintro _ s62 a k rfl ⟨rfl, ⟨hg, hs, hd⟩, i0, _⟩
  dsimp only at hr
  refine wp_seq ?_
  refine cut (fun a' k' => Bs noF k0 61 a' k' ∧ (IsV (decide ((l_.length : Int) ≤ 20000))) (a'.get 2) k' ∧ True) ?_ hQ ?_
  · intro Q64 hQQ64 hp65
    refine regionS (a0 := a) (k0 := k) (n := 61) (m := 4) (⟨some (IsV l_), [(0, none)]⟩ :: ⟨some (IsV (α := Int) (l_.length : Int)), [(58, some 0)]⟩ :: ⟨some (IsV (decide ((l_.length : Int) ≤ 20000))), [(59, some 1)]⟩ :: ⟨some (IsV (decide ((l_.length : Int) ≤ 20000))), [(60, some 2)]⟩ :: []) hs (by kernel_rfl) ⟨ob1 rfl fun b q hk hn => ok_move rfl (up i0 hk hn.1), ob1 rfl fun b q hk hn => ok_len rfl rfl Try.underlying22 (IsV.rd hn.1), ob1 rfl fun b q hk hn => ok_leq rfl hn.1 (isV_int.2 rfl), ob1 rfl fun b q hk hn => ok_assign rfl hn.1, trivial⟩ hQQ64 fun b q p => ?_
    exact tail_done (k := q) (hp65 _ _ ⟨Bs.post ⟨hg, hs, hd⟩ p, out p 3 2 _ rfl rfl rfl, trivial⟩)
  rintro a k ⟨⟨hg, hs, hd⟩, i2, _⟩
  refine wp_ret ?_
  obtain rfl := Option.some.inj hr
  exact retC1 rfl hd hg i2
def rAt_L0 (l_ : (List Account)) (lot : Int) (s74 : Int) : Option (Flow (Int) (Int)) :=
  if (decide (s74 < (l_.length : Int))) then
    (getI l_ s74).bind fun x79_2 =>
    if (x79_2.Lot == lot) then
      some (.ret s74)
    else
      (addI s74 1).bind fun x83_1 =>
      some (.go x83_1)
  else
    some (.ex 0 s74)
def rAt (l_ : (List Account)) (lot : Int) : Option (Int) :=
  (iterL (rAt_L0 l_ lot) (l_.length + 1) 0).bind fun f92 => match f92 with
    | .go _ => none
    | .ex _ _ =>
      some (-1)
    | .ret r97 => some r97
theorem rAt_ok {k0 : K} {v0 v1 : Value} {l_ : (List Account)} {lot : Int} {r : Int} (i0 : (IsV l_) v0 k0) (i1 : (IsV lot) v1 k0) (hr : rAt l_ lot = some r) :
    Calls Try.prog 32 #[v0, v1] k0.w (Ret k0 (IsV r)) := by
  unfold rAt at hr
  refine Ret.ofC ?_
  refine enterK Try.func32 rfl Try.ntmps32 (show 2 ≤ 20 by decide) fun a k hk0 hs hd ha => ?_
  obtain ⟨e0, e1, _⟩ := ha
  replace i0 : (IsV l_) (a.get 0) k := by rw [e0, hk0]; exact i0
  replace i1 : (IsV lot) (a.get 1) k := by rw [e1, hk0]; exact i1
  have hQ : Gb.LetsOut (bodyPost Try.prog Try.f32 (RetC noF k0 (IsV r))) := letsOutC
  have hg : Chg noF k0 k := by rw [hk0]; exact Chg.refl _ k0
  refine wp_seq ?_
  refine cut (fun a' k' => Bs noF k0 20 a' k' ∧ (IsV l_) (a'.get 0) k' ∧ (IsV lot) (a'.get 1) k' ∧ True) ?_ hQ ?_
  · intro Q101 hQQ101 hp102
    refine regionS (a0 := a) (k0 := k) (n := 20) (m := 1) (⟨some (IsV (α := Int) 0), []⟩ :: []) hs (by kernel_rfl) ⟨ob1 rfl fun b q hk hn => ok_assign rfl (isV_int.2 rfl), trivial⟩ hQQ101 fun b q p => ?_
    exact tail_done (k := q) (hp102 _ _ ⟨Bs.post ⟨hg, hs, hd⟩ p, keep p 0 rfl i0, keep p 1 rfl i1, trivial⟩)
  rintro a k ⟨⟨hg, hs, hd⟩, i0, i1, _⟩
  refine wp_seq ?_
  refine wp_seq ?_
  refine cut (fun a' k' => Bs noF k0 20 a' k' ∧ (IsV l_) (a'.get 0) k' ∧ (IsV lot) (a'.get 1) k' ∧ (IsV (α := Int) 0) (a'.get 5) k' ∧ True) ?_ hQ ?_
  · intro Q99 hQQ99 hp100
    refine regionS (a0 := a) (k0 := k) (n := 20) (m := 1) (⟨some (IsV (α := Int) 0), []⟩ :: []) hs (by kernel_rfl) ⟨ob1 rfl fun b q hk hn => ok_assign rfl (isV_int.2 rfl), trivial⟩ hQQ99 fun b q p => ?_
    exact tail_done (k := q) (hp100 _ _ ⟨Bs.post ⟨hg, hs, hd⟩ p, keep p 0 rfl i0, keep p 1 rfl i1, out p 0 5 _ rfl rfl rfl, trivial⟩)
  rintro a k ⟨⟨hg, hs, hd⟩, i0, i1, i5, _⟩
  refine wp_block ?_
  obtain ⟨f92, hf92, hr⟩ := bind_some hr
  refine cutFe f92 (fun s' a' k' => Bs noF k0 20 a' k' ∧ (IsV l_) (a'.get 0) k' ∧ (IsV lot) (a'.get 1) k' ∧ (IsV s') (a'.get 5) k' ∧ True) (fun i' s' a' k' => (i' = 0 ∧ Bs noF k0 20 a' k' ∧ True)) (fun r' a' k' => bodyPost Try.prog Try.f32 (RetC noF k0 (IsV r')) .ret a' k'.w) ?_ hQ ?_ ?_ ?_
  · intro Q98 hQQ98 hgo hex hret
    refine sim_loop ?_ _ _ _ _ _ hf92 ⟨⟨hg, hs, hd⟩, i0, i1, i5, trivial⟩ Q98 hQQ98 hgo hex hret
    clear hr hf92 hgo hex hret hQQ98 hQ hg hs hd i0 i1 i5
    intro s74 fl_ a k hr hS Q hQ hgo75 hex76 hret77
    obtain ⟨⟨hg, hs, hd⟩, i0, i1, i5, _⟩ := hS
    unfold rAt_L0 at hr
    refine wp_seq ?_
    refine wp_seq ?_
    refine cut (fun a' k' => Bs noF k0 20 a' k' ∧ (IsV l_) (a'.get 0) k' ∧ (IsV lot) (a'.get 1) k' ∧ (IsV s74) (a'.get 5) k' ∧ (IsV (decide (s74 < (l_.length : Int)))) (a'.get 9) k' ∧ True) ?_ hQ ?_
    · intro Q90 hQQ90 hp91
      refine regionS (a0 := a) (k0 := k) (n := 20) (m := 4) (⟨some (IsV s74), [(5, none)]⟩ :: ⟨some (IsV l_), [(0, none)]⟩ :: ⟨some (IsV (α := Int) (l_.length : Int)), [(7, some 1)]⟩ :: ⟨some (IsV (decide (s74 < (l_.length : Int)))), [(6, some 0), (8, some 2)]⟩ :: []) hs (by kernel_rfl) ⟨ob1 rfl fun b q hk hn => ok_move rfl (up i5 hk hn.1), ob1 rfl fun b q hk hn => ok_move rfl (up i0 hk hn.1), ob1 rfl fun b q hk hn => ok_len rfl rfl Try.underlying22 (IsV.rd hn.1), ob1 rfl fun b q hk hn => ok_lss rfl hn.1 hn.2.1, trivial⟩ hQQ90 fun b q p => ?_
      exact tail_done (k := q) (hp91 _ _ ⟨Bs.post ⟨hg, hs, hd⟩ p, keep p 0 rfl i0, keep p 1 rfl i1, keep p 5 rfl i5, out p 3 9 _ rfl rfl rfl, trivial⟩)
    rintro a k ⟨⟨hg, hs, hd⟩, i0, i1, i5, i9, _⟩
    refine wp_cond_split (isBool i9) (fun hc89 => ?_) (fun hc89 => ?_)
    · rw [if_pos hc89] at hr
      refine wp_skip ?_
      refine wp_seq ?_
      refine wp_block ?_
      refine wp_seq ?_
      obtain ⟨x79_2, hx79_2, hr⟩ := bind_some hr
      refine cut (fun a' k' => Bs noF k0 20 a' k' ∧ (IsV l_) (a'.get 0) k' ∧ (IsV lot) (a'.get 1) k' ∧ (IsV s74) (a'.get 5) k' ∧ (IsV (x79_2.Lot == lot)) (a'.get 18) k' ∧ True) ?_ hQ ?_
      · intro Q87 hQQ87 hp88
        refine regionS (a0 := a) (k0 := k) (n := 20) (m := 7) (⟨some (IsV l_), [(0, none)]⟩ :: ⟨some (IsV s74), [(5, none)]⟩ :: ⟨some (IsPtr x79_2), [(12, some 0), (13, some 1)]⟩ :: ⟨some (IsPtr x79_2.Lot), [(14, some 2)]⟩ :: ⟨some (IsV x79_2.Lot), [(15, some 3)]⟩ :: ⟨some (IsV lot), [(1, none)]⟩ :: ⟨some (IsV (x79_2.Lot == lot)), [(16, some 4), (17, some 5)]⟩ :: []) hs (by kernel_rfl) ⟨ob1 rfl fun b q hk hn => ok_move rfl (up i0 hk hn.1), ob1 rfl fun b q hk hn => ok_move rfl (up i5 hk hn.1), ob1 rfl fun b q hk hn => ok_indexAddr rfl Try.underlying22 ty35 (IsV.rd hn.1) hn.2.1 hx79_2, ob1 rfl fun b q hk hn => ok_fieldAddr rfl fo35_0 (at_Account_0 _) hn.1, ob1 rfl fun b q hk hn => ok_load rfl ty3 hn.1, ob1 rfl fun b q hk hn => ok_move rfl (up i1 hk hn.1), ob1 rfl fun b q hk hn => ok_eqI rfl hn.1 hn.2.1, trivial⟩ hQQ87 fun b q p => ?_
        exact tail_done (k := q) (hp88 _ _ ⟨Bs.post ⟨hg, hs, hd⟩ p, keep p 0 rfl i0, keep p 1 rfl i1, keep p 5 rfl i5, out p 6 18 _ rfl rfl rfl, trivial⟩)
      rintro a k ⟨⟨hg, hs, hd⟩, i0, i1, i5, i18, _⟩
      refine wp_cond_split (isBool i18) (fun hc86 => ?_) (fun hc86 => ?_)
      · rw [if_pos hc86] at hr
        refine wp_seq ?_
        refine cut (fun a' k' => Bs noF k0 20 a' k' ∧ (IsV s74) (a'.get 4) k' ∧ True) ?_ hQ ?_
        · intro Q81 hQQ81 hp82
          refine regionS (a0 := a) (k0 := k) (n := 20) (m := 2) (⟨some (IsV s74), [(5, none)]⟩ :: ⟨some (IsV s74), [(19, some 0)]⟩ :: []) hs (by kernel_rfl) ⟨ob1 rfl fun b q hk hn => ok_move rfl (up i5 hk hn.1), ob1 rfl fun b q hk hn => ok_assign rfl hn.1, trivial⟩ hQQ81 fun b q p => ?_
          exact tail_done (k := q) (hp82 _ _ ⟨Bs.post ⟨hg, hs, hd⟩ p, out p 1 4 _ rfl rfl rfl, trivial⟩)
        rintro a k ⟨⟨hg, hs, hd⟩, i4, _⟩
        refine wp_ret ?_
        exact hret77 _ _ _ (Option.some.inj hr).symm (retC1 rfl hd hg i4)
      rw [if_neg (by rw [hc86]; decide)] at hr
      refine wp_skip ?_
      obtain ⟨x83_1, hx83_1, hr⟩ := bind_some hr
      refine cut (fun a' k' => Bs noF k0 20 a' k' ∧ (IsV l_) (a'.get 0) k' ∧ (IsV lot) (a'.get 1) k' ∧ (IsV x83_1) (a'.get 5) k' ∧ True) ?_ hQ ?_
      · intro Q84 hQQ84 hp85
        refine regionS (a0 := a) (k0 := k) (n := 20) (m := 3) (⟨some (IsV s74), [(5, none)]⟩ :: ⟨some (IsV x83_1), [(10, some 0)]⟩ :: ⟨some (IsV x83_1), [(11, some 1)]⟩ :: []) hs (by kernel_rfl) ⟨ob1 rfl fun b q hk hn => ok_move rfl (up i5 hk hn.1), ob1 rfl fun b q hk hn => ok_add rfl hn.1 (isV_int.2 rfl) hx83_1, ob1 rfl fun b q hk hn => ok_assign rfl hn.1, trivial⟩ hQQ84 fun b q p => ?_
        exact tail_done (k := q) (hp85 _ _ ⟨Bs.post ⟨hg, hs, hd⟩ p, keep p 0 rfl i0, keep p 1 rfl i1, out p 2 5 _ rfl rfl rfl, trivial⟩)
      rintro a k ⟨⟨hg, hs, hd⟩, i0, i1, i5, _⟩
      exact hgo75 _ _ _ (Option.some.inj hr).symm ⟨⟨hg, hs, hd⟩, i0, i1, i5, trivial⟩
    rw [if_neg (by rw [hc89]; decide)] at hr
    refine wp_exit ?_
    exact hex76 _ _ _ _ (Option.some.inj hr).symm ⟨rfl, ⟨hg, hs, hd⟩, trivial⟩
  · rintro r97 a k rfl hR
    dsimp only at hr
    obtain rfl := Option.some.inj hr
    exact hR
  · rintro _ _ _ rfl _
    simp at hr
  clear hf92
  rintro _ s93 a k rfl ⟨rfl, ⟨hg, hs, hd⟩, _⟩
  dsimp only at hr
  refine wp_seq ?_
  refine cut (fun a' k' => Bs noF k0 20 a' k' ∧ (IsV (α := Int) (-1)) (a'.get 4) k' ∧ True) ?_ hQ ?_
  · intro Q95 hQQ95 hp96
    refine regionS (a0 := a) (k0 := k) (n := 20) (m := 1) (⟨some (IsV (α := Int) (-1)), []⟩ :: []) hs (by kernel_rfl) ⟨ob1 rfl fun b q hk hn => ok_assign rfl (isV_int.2 rfl), trivial⟩ hQQ95 fun b q p => ?_
    exact tail_done (k := q) (hp96 _ _ ⟨Bs.post ⟨hg, hs, hd⟩ p, out p 0 4 _ rfl rfl rfl, trivial⟩)
  rintro a k ⟨⟨hg, hs, hd⟩, i4, _⟩
  refine wp_ret ?_
  obtain rfl := Option.some.inj hr
  exact retC1 rfl hd hg i4
def rUnits (l_ : (List Account)) (lot : Int) : Option (Int) :=
  (rAt l_ lot).bind fun x104_2 =>
  if (decide (x104_2 < 0)) then
    some 0
  else
    (getI l_ x104_2).bind fun x109_2 =>
    some x109_2.Units
theorem rUnits_ok {k0 : K} {v0 v1 : Value} {l_ : (List Account)} {lot : Int} {r : Int} (i0 : (IsV l_) v0 k0) (i1 : (IsV lot) v1 k0) (hr : rUnits l_ lot = some r) :
    Calls Try.prog 20 #[v0, v1] k0.w (Ret k0 (IsV r)) := by
  unfold rUnits at hr
  refine Ret.ofC ?_
  refine enterK Try.func20 rfl Try.ntmps20 (show 2 ≤ 16 by decide) fun a k hk0 hs hd ha => ?_
  obtain ⟨e0, e1, _⟩ := ha
  replace i0 : (IsV l_) (a.get 0) k := by rw [e0, hk0]; exact i0
  replace i1 : (IsV lot) (a.get 1) k := by rw [e1, hk0]; exact i1
  have hQ : Gb.LetsOut (bodyPost Try.prog Try.f20 (RetC noF k0 (IsV r))) := letsOutC
  have hg : Chg noF k0 k := by rw [hk0]; exact Chg.refl _ k0
  refine wp_seq ?_
  refine cut (fun a' k' => Bs noF k0 16 a' k' ∧ (IsV l_) (a'.get 0) k' ∧ (IsV lot) (a'.get 1) k' ∧ True) ?_ hQ ?_
  · intro Q117 hQQ117 hp118
    refine regionS (a0 := a) (k0 := k) (n := 16) (m := 1) (⟨some (IsV (α := Int) 0), []⟩ :: []) hs (by kernel_rfl) ⟨ob1 rfl fun b q hk hn => ok_assign rfl (isV_int.2 rfl), trivial⟩ hQQ117 fun b q p => ?_
    exact tail_done (k := q) (hp118 _ _ ⟨Bs.post ⟨hg, hs, hd⟩ p, keep p 0 rfl i0, keep p 1 rfl i1, trivial⟩)
  rintro a k ⟨⟨hg, hs, hd⟩, i0, i1, _⟩
  refine wp_seq ?_
  obtain ⟨x104_2, hx104_2, hr⟩ := bind_some hr
  refine cut (fun a' k' => Bs noF k0 16 a' k' ∧ (IsV l_) (a'.get 0) k' ∧ (IsV x104_2) (a'.get 5) k' ∧ True) ?_ hQ ?_
  · intro Q115 hQQ115 hp116
    refine regionS (a0 := a) (k0 := k) (n := 16) (m := 4) (⟨some (IsV l_), [(0, none)]⟩ :: ⟨some (IsV lot), [(1, none)]⟩ :: ⟨some (IsV x104_2), [(6, some 0), (7, some 1)]⟩ :: ⟨some (IsV x104_2), [(8, some 2)]⟩ :: []) hs (by kernel_rfl) ⟨ob1 rfl fun b q hk hn => ok_move rfl (up i0 hk hn.1), ob1 rfl fun b q hk hn => ok_move rfl (up i1 hk hn.1), ob1 rfl fun b q hk hn => ok_call rfl Try.call32 (rAt_ok hn.1 hn.2.1 hx104_2), ob1 rfl fun b q hk hn => ok_assign rfl hn.1, trivial⟩ hQQ115 fun b q p => ?_
    exact tail_done (k := q) (hp116 _ _ ⟨Bs.post ⟨hg, hs, hd⟩ p, keep p 0 rfl i0, out p 3 5 _ rfl rfl rfl, trivial⟩)
  rintro a k ⟨⟨hg, hs, hd⟩, i0, i5, _⟩
  refine wp_seq ?_
  refine wp_seq ?_
  refine cut (fun a' k' => Bs noF k0 16 a' k' ∧ (IsV l_) (a'.get 0) k' ∧ (IsV x104_2) (a'.get 5) k' ∧ (IsV (decide (x104_2 < 0))) (a'.get 10) k' ∧ True) ?_ hQ ?_
  · intro Q113 hQQ113 hp114
    refine regionS (a0 := a) (k0 := k) (n := 16) (m := 2) (⟨some (IsV x104_2), [(5, none)]⟩ :: ⟨some (IsV (decide (x104_2 < 0))), [(9, some 0)]⟩ :: []) hs (by kernel_rfl) ⟨ob1 rfl fun b q hk hn => ok_move rfl (up i5 hk hn.1), ob1 rfl fun b q hk hn => ok_lss rfl hn.1 (isV_int.2 rfl), trivial⟩ hQQ113 fun b q p => ?_
    exact tail_done (k := q) (hp114 _ _ ⟨Bs.post ⟨hg, hs, hd⟩ p, keep p 0 rfl i0, keep p 5 rfl i5, out p 1 10 _ rfl rfl rfl, trivial⟩)
  rintro a k ⟨⟨hg, hs, hd⟩, i0, i5, i10, _⟩
  refine wp_cond_split (isBool i10) (fun hc112 => ?_) (fun hc112 => ?_)
  · rw [if_pos hc112] at hr
    refine wp_seq ?_
    refine cut (fun a' k' => Bs noF k0 16 a' k' ∧ (IsV (α := Int) 0) (a'.get 4) k' ∧ True) ?_ hQ ?_
    · intro Q107 hQQ107 hp108
      refine regionS (a0 := a) (k0 := k) (n := 16) (m := 1) (⟨some (IsV (α := Int) 0), []⟩ :: []) hs (by kernel_rfl) ⟨ob1 rfl fun b q hk hn => ok_assign rfl (isV_int.2 rfl), trivial⟩ hQQ107 fun b q p => ?_
      exact tail_done (k := q) (hp108 _ _ ⟨Bs.post ⟨hg, hs, hd⟩ p, out p 0 4 _ rfl rfl rfl, trivial⟩)
    rintro a k ⟨⟨hg, hs, hd⟩, i4, _⟩
    refine wp_ret ?_
    obtain rfl := Option.some.inj hr
    exact retC1 rfl hd hg i4
  rw [if_neg (by rw [hc112]; decide)] at hr
  refine wp_skip ?_
  refine wp_seq ?_
  obtain ⟨x109_2, hx109_2, hr⟩ := bind_some hr
  refine cut (fun a' k' => Bs noF k0 16 a' k' ∧ (IsV x109_2.Units) (a'.get 4) k' ∧ True) ?_ hQ ?_
  · intro Q110 hQQ110 hp111
    refine regionS (a0 := a) (k0 := k) (n := 16) (m := 6) (⟨some (IsV l_), [(0, none)]⟩ :: ⟨some (IsV x104_2), [(5, none)]⟩ :: ⟨some (IsPtr x109_2), [(11, some 0), (12, some 1)]⟩ :: ⟨some (IsPtr x109_2.Units), [(13, some 2)]⟩ :: ⟨some (IsV x109_2.Units), [(14, some 3)]⟩ :: ⟨some (IsV x109_2.Units), [(15, some 4)]⟩ :: []) hs (by kernel_rfl) ⟨ob1 rfl fun b q hk hn => ok_move rfl (up i0 hk hn.1), ob1 rfl fun b q hk hn => ok_move rfl (up i5 hk hn.1), ob1 rfl fun b q hk hn => ok_indexAddr rfl Try.underlying22 ty35 (IsV.rd hn.1) hn.2.1 hx109_2, ob1 rfl fun b q hk hn => ok_fieldAddr rfl fo35_1 (at_Account_1 _) hn.1, ob1 rfl fun b q hk hn => ok_load rfl ty3 hn.1, ob1 rfl fun b q hk hn => ok_assign rfl hn.1, trivial⟩ hQQ110 fun b q p => ?_
    exact tail_done (k := q) (hp111 _ _ ⟨Bs.post ⟨hg, hs, hd⟩ p, out p 5 4 _ rfl rfl rfl, trivial⟩)
  rintro a k ⟨⟨hg, hs, hd⟩, i4, _⟩
  refine wp_ret ?_
  obtain rfl := Option.some.inj hr
  exact retC1 rfl hd hg i4
def rTotal_L0 (l_ : (List Account)) (s122 : Int × Int) : Option (Flow (Int × Int) (Int)) :=
  (if (decide (s122.2 < (l_.length : Int))) then
    (rRight l_).bind fun x126_6 =>
    some x126_6
  else
    some false).bind fun x126_7 =>
  if x126_7 then
    (getI l_ s122.2).bind fun x127_3 =>
    (addI s122.1 x127_3.Units).bind fun x127_6 =>
    (addI s122.2 1).bind fun x128_1 =>
    some (.go (x127_6, x128_1))
  else
    some (.ex 0 (s122.1, s122.2))
def rTotal (l_ : (List Account)) : Option (Int) :=
  (iterL (rTotal_L0 l_) (l_.length + 1) (0, 0)).bind fun f136 => match f136 with
    | .go _ => none
    | .ex _ s137 =>
      some s137.1
    | .ret r141 => some r141
theorem rTotal_ok {k0 : K} {v0 : Value} {l_ : (List Account)} {r : Int} (i0 : (IsV l_) v0 k0) (hr : rTotal l_ = some r) :
    Calls Try.prog 22 #[v0] k0.w (Ret k0 (IsV r)) := by
  unfold rTotal at hr
  refine Ret.ofC ?_
  refine enterK Try.func22 rfl Try.ntmps22 (show 1 ≤ 23 by decide) fun a k hk0 hs hd ha => ?_
  obtain ⟨e0, _⟩ := ha
  replace i0 : (IsV l_) (a.get 0) k := by rw [e0, hk0]; exact i0
  have hQ : Gb.LetsOut (bodyPost Try.prog Try.f22 (RetC noF k0 (IsV r))) := letsOutC
  have hg : Chg noF k0 k := by rw [hk0]; exact Chg.refl _ k0
  refine wp_seq ?_
  refine cut (fun a' k' => Bs noF k0 23 a' k' ∧ (IsV l_) (a'.get 0) k' ∧ True) ?_ hQ ?_
  · intro Q147 hQQ147 hp148
    refine regionS (a0 := a) (k0 := k) (n := 23) (m := 1) (⟨some (IsV (α := Int) 0), []⟩ :: []) hs (by kernel_rfl) ⟨ob1 rfl fun b q hk hn => ok_assign rfl (isV_int.2 rfl), trivial⟩ hQQ147 fun b q p => ?_
    exact tail_done (k := q) (hp148 _ _ ⟨Bs.post ⟨hg, hs, hd⟩ p, keep p 0 rfl i0, trivial⟩)
  rintro a k ⟨⟨hg, hs, hd⟩, i0, _⟩
  refine wp_seq ?_
  refine cut (fun a' k' => Bs noF k0 23 a' k' ∧ (IsV l_) (a'.get 0) k' ∧ (IsV (α := Int) 0) (a'.get 3) k' ∧ True) ?_ hQ ?_
  · intro Q145 hQQ145 hp146
    refine regionS (a0 := a) (k0 := k) (n := 23) (m := 1) (⟨some (IsV (α := Int) 0), []⟩ :: []) hs (by kernel_rfl) ⟨ob1 rfl fun b q hk hn => ok_assign rfl (isV_int.2 rfl), trivial⟩ hQQ145 fun b q p => ?_
    exact tail_done (k := q) (hp146 _ _ ⟨Bs.post ⟨hg, hs, hd⟩ p, keep p 0 rfl i0, out p 0 3 _ rfl rfl rfl, trivial⟩)
  rintro a k ⟨⟨hg, hs, hd⟩, i0, i3, _⟩
  refine wp_seq ?_
  refine wp_seq ?_
  refine cut (fun a' k' => Bs noF k0 23 a' k' ∧ (IsV l_) (a'.get 0) k' ∧ (IsV (α := Int) 0) (a'.get 3) k' ∧ (IsV (α := Int) 0) (a'.get 4) k' ∧ True) ?_ hQ ?_
  · intro Q143 hQQ143 hp144
    refine regionS (a0 := a) (k0 := k) (n := 23) (m := 1) (⟨some (IsV (α := Int) 0), []⟩ :: []) hs (by kernel_rfl) ⟨ob1 rfl fun b q hk hn => ok_assign rfl (isV_int.2 rfl), trivial⟩ hQQ143 fun b q p => ?_
    exact tail_done (k := q) (hp144 _ _ ⟨Bs.post ⟨hg, hs, hd⟩ p, keep p 0 rfl i0, keep p 3 rfl i3, out p 0 4 _ rfl rfl rfl, trivial⟩)
  rintro a k ⟨⟨hg, hs, hd⟩, i0, i3, i4, _⟩
  refine wp_block ?_
  obtain ⟨f136, hf136, hr⟩ := bind_some hr
  refine cutFe f136 (fun s' a' k' => Bs noF k0 23 a' k' ∧ (IsV l_) (a'.get 0) k' ∧ (IsV s'.1) (a'.get 3) k' ∧ (IsV s'.2) (a'.get 4) k' ∧ True) (fun i' s' a' k' => (i' = 0 ∧ Bs noF k0 23 a' k' ∧ (IsV s'.1) (a'.get 3) k' ∧ True)) (fun r' a' k' => bodyPost Try.prog Try.f22 (RetC noF k0 (IsV r')) .ret a' k'.w) ?_ hQ ?_ ?_ ?_
  · intro Q142 hQQ142 hgo hex hret
    refine sim_loop ?_ _ _ _ _ _ hf136 ⟨⟨hg, hs, hd⟩, i0, i3, i4, trivial⟩ Q142 hQQ142 hgo hex hret
    clear hr hf136 hgo hex hret hQQ142 hQ hg hs hd i0 i3 i4
    intro s122 fl_ a k hr hS Q hQ hgo123 hex124 hret125
    obtain ⟨⟨hg, hs, hd⟩, i0, i3, i4, _⟩ := hS
    unfold rTotal_L0 at hr
    refine wp_seq ?_
    refine wp_seq ?_
    obtain ⟨x126_7, hx126_7, hr⟩ := bind_some hr
    obtain ⟨x126_6, hx126_6, hx126_7⟩ := ite_bind hx126_7
    refine cut (fun a' k' => Bs noF k0 23 a' k' ∧ (IsV l_) (a'.get 0) k' ∧ (IsV s122.1) (a'.get 3) k' ∧ (IsV s122.2) (a'.get 4) k' ∧ (IsV x126_7) (a'.get 12) k' ∧ True) ?_ hQ ?_
    · intro Q134 hQQ134 hp135
      refine regionS (a0 := a) (k0 := k) (n := 23) (m := 8) (⟨some (IsV s122.2), [(4, none)]⟩ :: ⟨some (IsV l_), [(0, none)]⟩ :: ⟨some (IsV (α := Int) (l_.length : Int)), [(6, some 1)]⟩ :: ⟨some (IsV (decide (s122.2 < (l_.length : Int)))), [(5, some 0), (7, some 2)]⟩ :: ⟨some (IsV (decide (s122.2 < (l_.length : Int)))), [(8, some 3)]⟩ :: ⟨some (Gd ((decide (s122.2 < (l_.length : Int))) = true) (IsV l_)), [(0, none)]⟩ :: ⟨some (Gd ((decide (s122.2 < (l_.length : Int))) = true) (IsV x126_6)), [(10, some 5)]⟩ :: ⟨some (IsV x126_7), [(9, some 4), (11, some 6)]⟩ :: []) hs (by kernel_rfl) ⟨ob1 rfl fun b q hk hn => ok_move rfl (up i4 hk hn.1), ob1 rfl fun b q hk hn => ok_move rfl (up i0 hk hn.1), ob1 rfl fun b q hk hn => ok_len rfl rfl Try.underlying22 (IsV.rd hn.1), ob1 rfl fun b q hk hn => ok_lss rfl hn.1 hn.2.1, ob1 rfl fun b q hk hn => ok_move rfl hn.1, gdT rfl rfl fun hp b q hk hn => ok_move rfl (up i0 hk hn.1), gdT rfl rfl fun hp b q hk hn => ok_call rfl Try.call18 (rRight_ok (Gd.get hn.1 hp) (hx126_6 hp)), ob1 rfl fun b q hk hn => ok_pickM rfl hn.1 hx126_7 (fun hm => (Gd.get hn.2.1 hm)) (fun _ => (isV_bool.2 rfl)), trivial⟩ hQQ134 fun b q p => ?_
      exact tail_done (k := q) (hp135 _ _ ⟨Bs.post ⟨hg, hs, hd⟩ p, keep p 0 rfl i0, keep p 3 rfl i3, keep p 4 rfl i4, out p 7 12 _ rfl rfl rfl, trivial⟩)
    rintro a k ⟨⟨hg, hs, hd⟩, i0, i3, i4, i12, _⟩
    refine wp_cond_split (isBool i12) (fun hc133 => ?_) (fun hc133 => ?_)
    · rw [if_pos hc133] at hr
      refine wp_skip ?_
      refine wp_seq ?_
      refine wp_block ?_
      obtain ⟨x127_3, hx127_3, hr⟩ := bind_some hr
      obtain ⟨x127_6, hx127_6, hr⟩ := bind_some hr
      refine cut (fun a' k' => Bs noF k0 23 a' k' ∧ (IsV l_) (a'.get 0) k' ∧ (IsV x127_6) (a'.get 3) k' ∧ (IsV s122.2) (a'.get 4) k' ∧ True) ?_ hQ ?_
      · intro Q131 hQQ131 hp132
        refine regionS (a0 := a) (k0 := k) (n := 23) (m := 8) (⟨some (IsV s122.1), [(3, none)]⟩ :: ⟨some (IsV l_), [(0, none)]⟩ :: ⟨some (IsV s122.2), [(4, none)]⟩ :: ⟨some (IsPtr x127_3), [(16, some 1), (17, some 2)]⟩ :: ⟨some (IsPtr x127_3.Units), [(18, some 3)]⟩ :: ⟨some (IsV x127_3.Units), [(19, some 4)]⟩ :: ⟨some (IsV x127_6), [(15, some 0), (20, some 5)]⟩ :: ⟨some (IsV x127_6), [(21, some 6)]⟩ :: []) hs (by kernel_rfl) ⟨ob1 rfl fun b q hk hn => ok_move rfl (up i3 hk hn.1), ob1 rfl fun b q hk hn => ok_move rfl (up i0 hk hn.1), ob1 rfl fun b q hk hn => ok_move rfl (up i4 hk hn.1), ob1 rfl fun b q hk hn => ok_indexAddr rfl Try.underlying22 ty35 (IsV.rd hn.1) hn.2.1 hx127_3, ob1 rfl fun b q hk hn => ok_fieldAddr rfl fo35_1 (at_Account_1 _) hn.1, ob1 rfl fun b q hk hn => ok_load rfl ty3 hn.1, ob1 rfl fun b q hk hn => ok_add rfl hn.1 hn.2.1 hx127_6, ob1 rfl fun b q hk hn => ok_assign rfl hn.1, trivial⟩ hQQ131 fun b q p => ?_
        exact tail_done (k := q) (hp132 _ _ ⟨Bs.post ⟨hg, hs, hd⟩ p, keep p 0 rfl i0, out p 7 3 _ rfl rfl rfl, keep p 4 rfl i4, trivial⟩)
      rintro a k ⟨⟨hg, hs, hd⟩, i0, i3, i4, _⟩
      obtain ⟨x128_1, hx128_1, hr⟩ := bind_some hr
      refine cut (fun a' k' => Bs noF k0 23 a' k' ∧ (IsV l_) (a'.get 0) k' ∧ (IsV x127_6) (a'.get 3) k' ∧ (IsV x128_1) (a'.get 4) k' ∧ True) ?_ hQ ?_
      · intro Q129 hQQ129 hp130
        refine regionS (a0 := a) (k0 := k) (n := 23) (m := 3) (⟨some (IsV s122.2), [(4, none)]⟩ :: ⟨some (IsV x128_1), [(13, some 0)]⟩ :: ⟨some (IsV x128_1), [(14, some 1)]⟩ :: []) hs (by kernel_rfl) ⟨ob1 rfl fun b q hk hn => ok_move rfl (up i4 hk hn.1), ob1 rfl fun b q hk hn => ok_add rfl hn.1 (isV_int.2 rfl) hx128_1, ob1 rfl fun b q hk hn => ok_assign rfl hn.1, trivial⟩ hQQ129 fun b q p => ?_
        exact tail_done (k := q) (hp130 _ _ ⟨Bs.post ⟨hg, hs, hd⟩ p, keep p 0 rfl i0, keep p 3 rfl i3, out p 2 4 _ rfl rfl rfl, trivial⟩)
      rintro a k ⟨⟨hg, hs, hd⟩, i0, i3, i4, _⟩
      exact hgo123 _ _ _ (Option.some.inj hr).symm ⟨⟨hg, hs, hd⟩, i0, i3, i4, trivial⟩
    rw [if_neg (by rw [hc133]; decide)] at hr
    refine wp_exit ?_
    exact hex124 _ _ _ _ (Option.some.inj hr).symm ⟨rfl, ⟨hg, hs, hd⟩, i3, trivial⟩
  · rintro r141 a k rfl hR
    dsimp only at hr
    obtain rfl := Option.some.inj hr
    exact hR
  · rintro _ _ _ rfl _
    simp at hr
  clear hf136
  rintro _ s137 a k rfl ⟨rfl, ⟨hg, hs, hd⟩, i3, _⟩
  dsimp only at hr
  refine wp_seq ?_
  refine cut (fun a' k' => Bs noF k0 23 a' k' ∧ (IsV s137.1) (a'.get 2) k' ∧ True) ?_ hQ ?_
  · intro Q139 hQQ139 hp140
    refine regionS (a0 := a) (k0 := k) (n := 23) (m := 2) (⟨some (IsV s137.1), [(3, none)]⟩ :: ⟨some (IsV s137.1), [(22, some 0)]⟩ :: []) hs (by kernel_rfl) ⟨ob1 rfl fun b q hk hn => ok_move rfl (up i3 hk hn.1), ob1 rfl fun b q hk hn => ok_assign rfl hn.1, trivial⟩ hQQ139 fun b q p => ?_
    exact tail_done (k := q) (hp140 _ _ ⟨Bs.post ⟨hg, hs, hd⟩ p, out p 1 2 _ rfl rfl rfl, trivial⟩)
  rintro a k ⟨⟨hg, hs, hd⟩, i2, _⟩
  refine wp_ret ?_
  obtain rfl := Option.some.inj hr
  exact retC1 rfl hd hg i2
def rValid (m_ : Move) : Option (Bool) :=
  if (m_.Kind == 0) then
    some (((((decide (1 ≤ m_.To)) && (decide (m_.To ≤ 1073741824))) && ((m_.From == 0) || (m_.From == 1))) && (decide (0 ≤ m_.N))) && (decide (m_.N ≤ 1073741824)))
  else
    if (m_.Kind == 1) then
      some (((m_.From != m_.To) && (decide (1 ≤ m_.N))) && (decide (m_.N ≤ 1073741824)))
    else
      (if (m_.Kind == 2) then
        some (m_.Kind == 2)
      else
        some (m_.Kind == 3)).bind fun s160 =>
      if s160 then
        some (((m_.To == 0) && (decide (1 ≤ m_.N))) && (decide (m_.N ≤ 1073741824)))
      else
        some false
theorem rValid_ok {k0 : K} {v0 : Value} {m_ : Move} {r : Bool} (i0 : (IsV m_) v0 k0) (hr : rValid m_ = some r) :
    Calls Try.prog 33 #[v0] k0.w (Ret k0 (IsV r)) := by
  unfold rValid at hr
  refine Ret.ofC ?_
  refine enterK Try.func33 rfl Try.ntmps33 (show 1 ≤ 68 by decide) fun a k hk0 hs hd ha => ?_
  obtain ⟨e0, _⟩ := ha
  replace i0 : (IsV m_) (a.get 0) k := by rw [e0, hk0]; exact i0
  have hQ : Gb.LetsOut (bodyPost Try.prog Try.f33 (RetC noF k0 (IsV r))) := letsOutC
  have hg : Chg noF k0 k := by rw [hk0]; exact Chg.refl _ k0
  refine wp_seq ?_
  refine cut (fun a' k' => Bs noF k0 68 a' k' ∧ (IsRef m_) (a'.get 1) k' ∧ True) ?_ hQ ?_
  · intro Q184 hQQ184 hp185
    refine regionS (a0 := a) (k0 := k) (n := 68) (m := 2) (⟨some (IsBox k.w.heap.size m_), [(0, none)]⟩ :: ⟨some (IsV false), []⟩ :: []) hs (by kernel_rfl) ⟨ob1 rfl fun b q hk hn => ok_box _ hk.size rfl (up i0 hk hn.1), ob1 rfl fun b q hk hn => ok_assign rfl (isV_bool.2 rfl), trivial⟩ hQQ184 fun b q p => ?_
    have hgq := hg.then p.grow
    have hsb := p.size.trans hs
    have hdb := p.defers.trans hd
    obtain ⟨b1, j1, x1, z1⟩ : (IsBox k.w.heap.size m_) (b.get 1) q := out p 0 1 _ rfl rfl rfl
    replace x1 : Lo k (Eq b1) := Lo.eq x1
    have y1 : Lo k0 (Eq b1) := x1.chg hg
    obtain ⟨q2, hsh, jn⟩ := z1.give
    rw [← j1] at jn
    replace j1 := jn
    replace hgq := hgq.hand hsh y1.wr
    rw [← hsh.w]
    clear hsh
    obtain ⟨q, hqq⟩ : ∃ q, q = q2 := ⟨q2, rfl⟩
    subst hqq
    exact tail_done (k := q) (hp185 _ _ ⟨⟨hgq, hsb, hdb⟩, j1, trivial⟩)
  rintro a k ⟨⟨hg, hs, hd⟩, i1, _⟩
  refine wp_seq ?_
  refine wp_seq ?_
  refine cut (fun a' k' => Bs noF k0 68 a' k' ∧ (IsRef m_) (a'.get 1) k' ∧ (IsV m_.Kind) (a'.get 4) k' ∧ True) ?_ hQ ?_
  · intro Q182 hQQ182 hp183
    refine regionS (a0 := a) (k0 := k) (n := 68) (m := 2) (⟨some (IsPtr m_.Kind), [(1, none)]⟩ :: ⟨some (IsV m_.Kind), [(3, some 0)]⟩ :: []) hs (by kernel_rfl) ⟨ob1 rfl fun b q hk hn => ok_fieldAddr rfl fo33_0 (at_Move_0 _) ((up i1 hk hn.1)).ptr, ob1 rfl fun b q hk hn => ok_load rfl ty3 hn.1, trivial⟩ hQQ182 fun b q p => ?_
    exact tail_done (k := q) (hp183 _ _ ⟨Bs.post ⟨hg, hs, hd⟩ p, keep p 1 rfl i1, out p 1 4 _ rfl rfl rfl, trivial⟩)
  rintro a k ⟨⟨hg, hs, hd⟩, i1, i4, _⟩
  refine wp_block ?_
  refine wp_seq ?_
  refine cut (fun a' k' => Bs noF k0 68 a' k' ∧ (IsRef m_) (a'.get 1) k' ∧ (IsV m_.Kind) (a'.get 4) k' ∧ (IsV (m_.Kind == 0)) (a'.get 5) k' ∧ True) ?_ hQ ?_
  · intro Q180 hQQ180 hp181
    refine regionS (a0 := a) (k0 := k) (n := 68) (m := 2) (⟨some (IsV (m_.Kind == 0)), [(4, none)]⟩ :: ⟨some (IsV (m_.Kind == 0)), [(6, some 0)]⟩ :: []) hs (by kernel_rfl) ⟨ob1 rfl fun b q hk hn => ok_eqI rfl (up i4 hk hn.1) (isV_int.2 rfl), ob1 rfl fun b q hk hn => ok_assign rfl hn.1, trivial⟩ hQQ180 fun b q p => ?_
    exact tail_done (k := q) (hp181 _ _ ⟨Bs.post ⟨hg, hs, hd⟩ p, keep p 1 rfl i1, keep p 4 rfl i4, out p 1 5 _ rfl rfl rfl, trivial⟩)
  rintro a k ⟨⟨hg, hs, hd⟩, i1, i4, i5, _⟩
  refine wp_cond_split (isBool i5) (fun hc179 => ?_) (fun hc179 => ?_)
  · rw [if_pos hc179] at hr
    refine wp_seq ?_
    refine cut (fun a' k' => Bs noF k0 68 a' k' ∧ (IsV (((((decide (1 ≤ m_.To)) && (decide (m_.To ≤ 1073741824))) && ((m_.From == 0) || (m_.From == 1))) && (decide (0 ≤ m_.N))) && (decide (m_.N ≤ 1073741824)))) (a'.get 2) k' ∧ True) ?_ hQ ?_
    · intro Q153 hQQ153 hp154
      refine regionS (a0 := a) (k0 := k) (n := 68) (m := 29) (⟨some (IsPtr m_.To), [(1, none)]⟩ :: ⟨some (IsV m_.To), [(7, some 0)]⟩ :: ⟨some (IsV (decide (1 ≤ m_.To))), [(8, some 1)]⟩ :: ⟨some (IsV (decide (1 ≤ m_.To))), [(9, some 2)]⟩ :: ⟨some (Gd ((decide (1 ≤ m_.To)) = true) (IsPtr m_.To)), [(1, none)]⟩ :: ⟨some (Gd ((decide (1 ≤ m_.To)) = true) (IsV m_.To)), [(11, some 4)]⟩ :: ⟨some (Gd ((decide (1 ≤ m_.To)) = true) (IsV (decide (m_.To ≤ 1073741824)))), [(12, some 5)]⟩ :: ⟨some (IsV ((decide (1 ≤ m_.To)) && (decide (m_.To ≤ 1073741824)))), [(10, some 3), (13, some 6)]⟩ :: ⟨some (IsV ((decide (1 ≤ m_.To)) && (decide (m_.To ≤ 1073741824)))), [(14, some 7)]⟩ :: ⟨some (Gd (((decide (1 ≤ m_.To)) && (decide (m_.To ≤ 1073741824))) = true) (IsPtr m_.From)), [(1, none)]⟩ :: ⟨some (Gd (((decide (1 ≤ m_.To)) && (decide (m_.To ≤ 1073741824))) = true) (IsV m_.From)), [(16, some 9)]⟩ :: ⟨some (Gd (((decide (1 ≤ m_.To)) && (decide (m_.To ≤ 1073741824))) = true) (IsV (m_.From == 0))), [(17, some 10)]⟩ :: ⟨some (Gd (((decide (1 ≤ m_.To)) && (decide (m_.To ≤ 1073741824))) = true) (IsV (m_.From == 0))), [(18, some 11)]⟩ :: ⟨some (Gd ((((decide (1 ≤ m_.To)) && (decide (m_.To ≤ 1073741824))) = true) ∧ (m_.From == 0) = false) (IsPtr m_.From)), [(1, none)]⟩ :: ⟨some (Gd ((((decide (1 ≤ m_.To)) && (decide (m_.To ≤ 1073741824))) = true) ∧ (m_.From == 0) = false) (IsV m_.From)), [(20, some 13)]⟩ :: ⟨some (Gd ((((decide (1 ≤ m_.To)) && (decide (m_.To ≤ 1073741824))) = true) ∧ (m_.From == 0) = false) (IsV (m_.From == 1))), [(21, some 14)]⟩ :: ⟨some (Gd (((decide (1 ≤ m_.To)) && (decide (m_.To ≤ 1073741824))) = true) (IsV ((m_.From == 0) || (m_.From == 1)))), [(19, some 12), (22, some 15)]⟩ :: ⟨some (IsV (((decide (1 ≤ m_.To)) && (decide (m_.To ≤ 1073741824))) && ((m_.From == 0) || (m_.From == 1)))), [(15, some 8), (23, some 16)]⟩ :: ⟨some (IsV (((decide (1 ≤ m_.To)) && (decide (m_.To ≤ 1073741824))) && ((m_.From == 0) || (m_.From == 1)))), [(24, some 17)]⟩ :: ⟨some (Gd ((((decide (1 ≤ m_.To)) && (decide (m_.To ≤ 1073741824))) && ((m_.From == 0) || (m_.From == 1))) = true) (IsPtr m_.N)), [(1, none)]⟩ :: ⟨some (Gd ((((decide (1 ≤ m_.To)) && (decide (m_.To ≤ 1073741824))) && ((m_.From == 0) || (m_.From == 1))) = true) (IsV m_.N)), [(26, some 19)]⟩ :: ⟨some (Gd ((((decide (1 ≤ m_.To)) && (decide (m_.To ≤ 1073741824))) && ((m_.From == 0) || (m_.From == 1))) = true) (IsV (decide (0 ≤ m_.N)))), [(27, some 20)]⟩ :: ⟨some (IsV ((((decide (1 ≤ m_.To)) && (decide (m_.To ≤ 1073741824))) && ((m_.From == 0) || (m_.From == 1))) && (decide (0 ≤ m_.N)))), [(25, some 18), (28, some 21)]⟩ :: ⟨some (IsV ((((decide (1 ≤ m_.To)) && (decide (m_.To ≤ 1073741824))) && ((m_.From == 0) || (m_.From == 1))) && (decide (0 ≤ m_.N)))), [(29, some 22)]⟩ :: ⟨some (Gd (((((decide (1 ≤ m_.To)) && (decide (m_.To ≤ 1073741824))) && ((m_.From == 0) || (m_.From == 1))) && (decide (0 ≤ m_.N))) = true) (IsPtr m_.N)), [(1, none)]⟩ :: ⟨some (Gd (((((decide (1 ≤ m_.To)) && (decide (m_.To ≤ 1073741824))) && ((m_.From == 0) || (m_.From == 1))) && (decide (0 ≤ m_.N))) = true) (IsV m_.N)), [(31, some 24)]⟩ :: ⟨some (Gd (((((decide (1 ≤ m_.To)) && (decide (m_.To ≤ 1073741824))) && ((m_.From == 0) || (m_.From == 1))) && (decide (0 ≤ m_.N))) = true) (IsV (decide (m_.N ≤ 1073741824)))), [(32, some 25)]⟩ :: ⟨some (IsV (((((decide (1 ≤ m_.To)) && (decide (m_.To ≤ 1073741824))) && ((m_.From == 0) || (m_.From == 1))) && (decide (0 ≤ m_.N))) && (decide (m_.N ≤ 1073741824)))), [(30, some 23), (33, some 26)]⟩ :: ⟨some (IsV (((((decide (1 ≤ m_.To)) && (decide (m_.To ≤ 1073741824))) && ((m_.From == 0) || (m_.From == 1))) && (decide (0 ≤ m_.N))) && (decide (m_.N ≤ 1073741824)))), [(34, some 27)]⟩ :: []) hs (by kernel_rfl) ⟨ob1 rfl fun b q hk hn => ok_fieldAddr rfl fo33_2 (at_Move_2 _) ((up i1 hk hn.1)).ptr, ob1 rfl fun b q hk hn => ok_load rfl ty3 hn.1, ob1 rfl fun b q hk hn => ok_geq rfl hn.1 (isV_int.2 rfl), ob1 rfl fun b q hk hn => ok_move rfl hn.1, gdT rfl rfl fun hp b q hk hn => ok_fieldAddr rfl fo33_2 (at_Move_2 _) ((up i1 hk hn.1)).ptr, gdT rfl rfl fun hp b q hk hn => ok_load rfl ty3 (Gd.get hn.1 hp), gdT rfl rfl fun hp b q hk hn => ok_leq rfl (Gd.get hn.1 hp) (isV_int.2 rfl), ob1 rfl fun b q hk hn => ok_pickAnd rfl hn.1 (fun hm => (Gd.get hn.2.1 hm)) (fun _ => (isV_bool.2 rfl)), ob1 rfl fun b q hk hn => ok_move rfl hn.1, gdT rfl rfl fun hp b q hk hn => ok_fieldAddr rfl fo33_1 (at_Move_1 _) ((up i1 hk hn.1)).ptr, gdT rfl rfl fun hp b q hk hn => ok_load rfl ty3 (Gd.get hn.1 hp), gdT rfl rfl fun hp b q hk hn => ok_eqI rfl (Gd.get hn.1 hp) (isV_int.2 rfl), gdT rfl rfl fun hp b q hk hn => ok_move rfl (Gd.get hn.1 hp), gdTF rfl rfl fun hp b q hk hn => ok_fieldAddr rfl fo33_1 (at_Move_1 _) ((up i1 hk hn.1)).ptr, gdTF rfl rfl fun hp b q hk hn => ok_load rfl ty3 (Gd.get hn.1 hp), gdTF rfl rfl fun hp b q hk hn => ok_eqI rfl (Gd.get hn.1 hp) (isV_int.2 rfl), gdT rfl rfl fun hp b q hk hn => ok_pickOr rfl (Gd.get hn.1 hp) (fun _ => (isV_bool.2 rfl)) (fun hm => (Gd.get hn.2.1 ⟨hp, hm⟩)), ob1 rfl fun b q hk hn => ok_pickAnd rfl hn.1 (fun hm => (Gd.get hn.2.1 hm)) (fun _ => (isV_bool.2 rfl)), ob1 rfl fun b q hk hn => ok_move rfl hn.1, gdT rfl rfl fun hp b q hk hn => ok_fieldAddr rfl fo33_3 (at_Move_3 _) ((up i1 hk hn.1)).ptr, gdT rfl rfl fun hp b q hk hn => ok_load rfl ty3 (Gd.get hn.1 hp), gdT rfl rfl fun hp b q hk hn => ok_geq rfl (Gd.get hn.1 hp) (isV_int.2 rfl), ob1 rfl fun b q hk hn => ok_pickAnd rfl hn.1 (fun hm => (Gd.get hn.2.1 hm)) (fun _ => (isV_bool.2 rfl)), ob1 rfl fun b q hk hn => ok_move rfl hn.1, gdT rfl rfl fun hp b q hk hn => ok_fieldAddr rfl fo33_3 (at_Move_3 _) ((up i1 hk hn.1)).ptr, gdT rfl rfl fun hp b q hk hn => ok_load rfl ty3 (Gd.get hn.1 hp), gdT rfl rfl fun hp b q hk hn => ok_leq rfl (Gd.get hn.1 hp) (isV_int.2 rfl), ob1 rfl fun b q hk hn => ok_pickAnd rfl hn.1 (fun hm => (Gd.get hn.2.1 hm)) (fun _ => (isV_bool.2 rfl)), ob1 rfl fun b q hk hn => ok_assign rfl hn.1, trivial⟩ hQQ153 fun b q p => ?_
      exact tail_done (k := q) (hp154 _ _ ⟨Bs.post ⟨hg, hs, hd⟩ p, out p 28 2 _ rfl rfl rfl, trivial⟩)
    rintro a k ⟨⟨hg, hs, hd⟩, i2, _⟩
    refine wp_ret ?_
    obtain rfl := Option.some.inj hr
    exact retC1 rfl hd hg i2
  rw [if_neg (by rw [hc179]; decide)] at hr
  refine wp_seq ?_
  refine cut (fun a' k' => Bs noF k0 68 a' k' ∧ (IsRef m_) (a'.get 1) k' ∧ (IsV m_.Kind) (a'.get 4) k' ∧ (IsV (m_.Kind == 1)) (a'.get 35) k' ∧ True) ?_ hQ ?_
  · intro Q177 hQQ177 hp178
    refine regionS (a0 := a) (k0 := k) (n := 68) (m := 2) (⟨some (IsV (m_.Kind == 1)), [(4, none)]⟩ :: ⟨some (IsV (m_.Kind == 1)), [(36, some 0)]⟩ :: []) hs (by kernel_rfl) ⟨ob1 rfl fun b q hk hn => ok_eqI rfl (up i4 hk hn.1) (isV_int.2 rfl), ob1 rfl fun b q hk hn => ok_assign rfl hn.1, trivial⟩ hQQ177 fun b q p => ?_
    exact tail_done (k := q) (hp178 _ _ ⟨Bs.post ⟨hg, hs, hd⟩ p, keep p 1 rfl i1, keep p 4 rfl i4, out p 1 35 _ rfl rfl rfl, trivial⟩)
  rintro a k ⟨⟨hg, hs, hd⟩, i1, i4, i35, _⟩
  refine wp_cond_split (isBool i35) (fun hc176 => ?_) (fun hc176 => ?_)
  · rw [if_pos hc176] at hr
    refine wp_seq ?_
    refine cut (fun a' k' => Bs noF k0 68 a' k' ∧ (IsV (((m_.From != m_.To) && (decide (1 ≤ m_.N))) && (decide (m_.N ≤ 1073741824)))) (a'.get 2) k' ∧ True) ?_ hQ ?_
    · intro Q157 hQQ157 hp158
      refine regionS (a0 := a) (k0 := k) (n := 68) (m := 16) (⟨some (IsPtr m_.From), [(1, none)]⟩ :: ⟨some (IsV m_.From), [(37, some 0)]⟩ :: ⟨some (IsPtr m_.To), [(1, none)]⟩ :: ⟨some (IsV m_.To), [(39, some 2)]⟩ :: ⟨some (IsV (m_.From != m_.To)), [(38, some 1), (40, some 3)]⟩ :: ⟨some (IsV (m_.From != m_.To)), [(41, some 4)]⟩ :: ⟨some (Gd ((m_.From != m_.To) = true) (IsPtr m_.N)), [(1, none)]⟩ :: ⟨some (Gd ((m_.From != m_.To) = true) (IsV m_.N)), [(43, some 6)]⟩ :: ⟨some (Gd ((m_.From != m_.To) = true) (IsV (decide (1 ≤ m_.N)))), [(44, some 7)]⟩ :: ⟨some (IsV ((m_.From != m_.To) && (decide (1 ≤ m_.N)))), [(42, some 5), (45, some 8)]⟩ :: ⟨some (IsV ((m_.From != m_.To) && (decide (1 ≤ m_.N)))), [(46, some 9)]⟩ :: ⟨some (Gd (((m_.From != m_.To) && (decide (1 ≤ m_.N))) = true) (IsPtr m_.N)), [(1, none)]⟩ :: ⟨some (Gd (((m_.From != m_.To) && (decide (1 ≤ m_.N))) = true) (IsV m_.N)), [(48, some 11)]⟩ :: ⟨some (Gd (((m_.From != m_.To) && (decide (1 ≤ m_.N))) = true) (IsV (decide (m_.N ≤ 1073741824)))), [(49, some 12)]⟩ :: ⟨some (IsV (((m_.From != m_.To) && (decide (1 ≤ m_.N))) && (decide (m_.N ≤ 1073741824)))), [(47, some 10), (50, some 13)]⟩ :: ⟨some (IsV (((m_.From != m_.To) && (decide (1 ≤ m_.N))) && (decide (m_.N ≤ 1073741824)))), [(51, some 14)]⟩ :: []) hs (by kernel_rfl) ⟨ob1 rfl fun b q hk hn => ok_fieldAddr rfl fo33_1 (at_Move_1 _) ((up i1 hk hn.1)).ptr, ob1 rfl fun b q hk hn => ok_load rfl ty3 hn.1, ob1 rfl fun b q hk hn => ok_fieldAddr rfl fo33_2 (at_Move_2 _) ((up i1 hk hn.1)).ptr, ob1 rfl fun b q hk hn => ok_load rfl ty3 hn.1, ob1 rfl fun b q hk hn => ok_neI rfl hn.1 hn.2.1, ob1 rfl fun b q hk hn => ok_move rfl hn.1, gdT rfl rfl fun hp b q hk hn => ok_fieldAddr rfl fo33_3 (at_Move_3 _) ((up i1 hk hn.1)).ptr, gdT rfl rfl fun hp b q hk hn => ok_load rfl ty3 (Gd.get hn.1 hp), gdT rfl rfl fun hp b q hk hn => ok_geq rfl (Gd.get hn.1 hp) (isV_int.2 rfl), ob1 rfl fun b q hk hn => ok_pickAnd rfl hn.1 (fun hm => (Gd.get hn.2.1 hm)) (fun _ => (isV_bool.2 rfl)), ob1 rfl fun b q hk hn => ok_move rfl hn.1, gdT rfl rfl fun hp b q hk hn => ok_fieldAddr rfl fo33_3 (at_Move_3 _) ((up i1 hk hn.1)).ptr, gdT rfl rfl fun hp b q hk hn => ok_load rfl ty3 (Gd.get hn.1 hp), gdT rfl rfl fun hp b q hk hn => ok_leq rfl (Gd.get hn.1 hp) (isV_int.2 rfl), ob1 rfl fun b q hk hn => ok_pickAnd rfl hn.1 (fun hm => (Gd.get hn.2.1 hm)) (fun _ => (isV_bool.2 rfl)), ob1 rfl fun b q hk hn => ok_assign rfl hn.1, trivial⟩ hQQ157 fun b q p => ?_
      exact tail_done (k := q) (hp158 _ _ ⟨Bs.post ⟨hg, hs, hd⟩ p, out p 15 2 _ rfl rfl rfl, trivial⟩)
    rintro a k ⟨⟨hg, hs, hd⟩, i2, _⟩
    refine wp_ret ?_
    obtain rfl := Option.some.inj hr
    exact retC1 rfl hd hg i2
  rw [if_neg (by rw [hc176]; decide)] at hr
  refine wp_seq ?_
  refine wp_seq ?_
  refine cut (fun a' k' => Bs noF k0 68 a' k' ∧ (IsRef m_) (a'.get 1) k' ∧ (IsV m_.Kind) (a'.get 4) k' ∧ (IsV (m_.Kind == 2)) (a'.get 52) k' ∧ True) ?_ hQ ?_
  · intro Q174 hQQ174 hp175
    refine regionS (a0 := a) (k0 := k) (n := 68) (m := 2) (⟨some (IsV (m_.Kind == 2)), [(4, none)]⟩ :: ⟨some (IsV (m_.Kind == 2)), [(53, some 0)]⟩ :: []) hs (by kernel_rfl) ⟨ob1 rfl fun b q hk hn => ok_eqI rfl (up i4 hk hn.1) (isV_int.2 rfl), ob1 rfl fun b q hk hn => ok_assign rfl hn.1, trivial⟩ hQQ174 fun b q p => ?_
    exact tail_done (k := q) (hp175 _ _ ⟨Bs.post ⟨hg, hs, hd⟩ p, keep p 1 rfl i1, keep p 4 rfl i4, out p 1 52 _ rfl rfl rfl, trivial⟩)
  rintro a k ⟨⟨hg, hs, hd⟩, i1, i4, i52, _⟩
  obtain ⟨s160, hs160, hr⟩ := bind_some hr
  refine cut (fun a' k' => Bs noF k0 68 a' k' ∧ (IsRef m_) (a'.get 1) k' ∧ (IsV s160) (a'.get 52) k' ∧ True) ?_ hQ ?_
  · intro Q173 hQQ173 hp161
    replace hr := hs160
    clear hQ
    have hQ := hQQ173
    refine wp_cond_split (isBool i52) (fun hc165 => ?_) (fun hc165 => ?_)
    · rw [if_pos hc165] at hr
      refine wp_skip ?_
      obtain rfl := Option.some.inj hr
      exact hp161 _ _ ⟨⟨hg, hs, hd⟩, i1, i52, trivial⟩
    rw [if_neg (by rw [hc165]; decide)] at hr
    refine cut (fun a' k' => Bs noF k0 68 a' k' ∧ (IsRef m_) (a'.get 1) k' ∧ (IsV (m_.Kind == 3)) (a'.get 52) k' ∧ True) ?_ hQ ?_
    · intro Q163 hQQ163 hp164
      refine regionS (a0 := a) (k0 := k) (n := 68) (m := 2) (⟨some (IsV (m_.Kind == 3)), [(4, none)]⟩ :: ⟨some (IsV (m_.Kind == 3)), [(54, some 0)]⟩ :: []) hs (by kernel_rfl) ⟨ob1 rfl fun b q hk hn => ok_eqI rfl (up i4 hk hn.1) (isV_int.2 rfl), ob1 rfl fun b q hk hn => ok_assign rfl hn.1, trivial⟩ hQQ163 fun b q p => ?_
      exact tail_done (k := q) (hp164 _ _ ⟨Bs.post ⟨hg, hs, hd⟩ p, keep p 1 rfl i1, out p 1 52 _ rfl rfl rfl, trivial⟩)
    rintro a k ⟨⟨hg, hs, hd⟩, i1, i52, _⟩
    obtain rfl := Option.some.inj hr
    exact hp161 _ _ ⟨⟨hg, hs, hd⟩, i1, i52, trivial⟩
  clear hs160
  rintro a k ⟨⟨hg, hs, hd⟩, i1, i52, _⟩
  refine wp_cond_split (isBool i52) (fun hc172 => ?_) (fun hc172 => ?_)
  · rw [if_pos hc172] at hr
    refine wp_seq ?_
    refine cut (fun a' k' => Bs noF k0 68 a' k' ∧ (IsV (((m_.To == 0) && (decide (1 ≤ m_.N))) && (decide (m_.N ≤ 1073741824)))) (a'.get 2) k' ∧ True) ?_ hQ ?_
    · intro Q167 hQQ167 hp168
      refine regionS (a0 := a) (k0 := k) (n := 68) (m := 14) (⟨some (IsPtr m_.To), [(1, none)]⟩ :: ⟨some (IsV m_.To), [(55, some 0)]⟩ :: ⟨some (IsV (m_.To == 0)), [(56, some 1)]⟩ :: ⟨some (IsV (m_.To == 0)), [(57, some 2)]⟩ :: ⟨some (Gd ((m_.To == 0) = true) (IsPtr m_.N)), [(1, none)]⟩ :: ⟨some (Gd ((m_.To == 0) = true) (IsV m_.N)), [(59, some 4)]⟩ :: ⟨some (Gd ((m_.To == 0) = true) (IsV (decide (1 ≤ m_.N)))), [(60, some 5)]⟩ :: ⟨some (IsV ((m_.To == 0) && (decide (1 ≤ m_.N)))), [(58, some 3), (61, some 6)]⟩ :: ⟨some (IsV ((m_.To == 0) && (decide (1 ≤ m_.N)))), [(62, some 7)]⟩ :: ⟨some (Gd (((m_.To == 0) && (decide (1 ≤ m_.N))) = true) (IsPtr m_.N)), [(1, none)]⟩ :: ⟨some (Gd (((m_.To == 0) && (decide (1 ≤ m_.N))) = true) (IsV m_.N)), [(64, some 9)]⟩ :: ⟨some (Gd (((m_.To == 0) && (decide (1 ≤ m_.N))) = true) (IsV (decide (m_.N ≤ 1073741824)))), [(65, some 10)]⟩ :: ⟨some (IsV (((m_.To == 0) && (decide (1 ≤ m_.N))) && (decide (m_.N ≤ 1073741824)))), [(63, some 8), (66, some 11)]⟩ :: ⟨some (IsV (((m_.To == 0) && (decide (1 ≤ m_.N))) && (decide (m_.N ≤ 1073741824)))), [(67, some 12)]⟩ :: []) hs (by kernel_rfl) ⟨ob1 rfl fun b q hk hn => ok_fieldAddr rfl fo33_2 (at_Move_2 _) ((up i1 hk hn.1)).ptr, ob1 rfl fun b q hk hn => ok_load rfl ty3 hn.1, ob1 rfl fun b q hk hn => ok_eqI rfl hn.1 (isV_int.2 rfl), ob1 rfl fun b q hk hn => ok_move rfl hn.1, gdT rfl rfl fun hp b q hk hn => ok_fieldAddr rfl fo33_3 (at_Move_3 _) ((up i1 hk hn.1)).ptr, gdT rfl rfl fun hp b q hk hn => ok_load rfl ty3 (Gd.get hn.1 hp), gdT rfl rfl fun hp b q hk hn => ok_geq rfl (Gd.get hn.1 hp) (isV_int.2 rfl), ob1 rfl fun b q hk hn => ok_pickAnd rfl hn.1 (fun hm => (Gd.get hn.2.1 hm)) (fun _ => (isV_bool.2 rfl)), ob1 rfl fun b q hk hn => ok_move rfl hn.1, gdT rfl rfl fun hp b q hk hn => ok_fieldAddr rfl fo33_3 (at_Move_3 _) ((up i1 hk hn.1)).ptr, gdT rfl rfl fun hp b q hk hn => ok_load rfl ty3 (Gd.get hn.1 hp), gdT rfl rfl fun hp b q hk hn => ok_leq rfl (Gd.get hn.1 hp) (isV_int.2 rfl), ob1 rfl fun b q hk hn => ok_pickAnd rfl hn.1 (fun hm => (Gd.get hn.2.1 hm)) (fun _ => (isV_bool.2 rfl)), ob1 rfl fun b q hk hn => ok_assign rfl hn.1, trivial⟩ hQQ167 fun b q p => ?_
      exact tail_done (k := q) (hp168 _ _ ⟨Bs.post ⟨hg, hs, hd⟩ p, out p 13 2 _ rfl rfl rfl, trivial⟩)
    rintro a k ⟨⟨hg, hs, hd⟩, i2, _⟩
    refine wp_ret ?_
    obtain rfl := Option.some.inj hr
    exact retC1 rfl hd hg i2
  rw [if_neg (by rw [hc172]; decide)] at hr
  refine wp_skip ?_
  refine wp_seq ?_
  refine cut (fun a' k' => Bs noF k0 68 a' k' ∧ (IsV false) (a'.get 2) k' ∧ True) ?_ hQ ?_
  · intro Q170 hQQ170 hp171
    refine regionS (a0 := a) (k0 := k) (n := 68) (m := 1) (⟨some (IsV false), []⟩ :: []) hs (by kernel_rfl) ⟨ob1 rfl fun b q hk hn => ok_assign rfl (isV_bool.2 rfl), trivial⟩ hQQ170 fun b q p => ?_
    exact tail_done (k := q) (hp171 _ _ ⟨Bs.post ⟨hg, hs, hd⟩ p, out p 0 2 _ rfl rfl rfl, trivial⟩)
  rintro a k ⟨⟨hg, hs, hd⟩, i2, _⟩
  refine wp_ret ?_
  obtain rfl := Option.some.inj hr
  exact retC1 rfl hd hg i2
def cValid (m_ : Move) : Option (Bool) :=
  if (m_.Kind == 0) then
    (within m_.To 1 1073741824).bind fun x189_2 =>
    (if x189_2 then
      (within m_.From 0 1).bind fun x189_6 =>
      some x189_6
    else
      some false).bind fun x189_7 =>
    (if x189_7 then
      (within m_.N 0 1073741824).bind fun x189_11 =>
      some x189_11
    else
      some false).bind fun x189_12 =>
    some x189_12
  else
    if (m_.Kind == 1) then
      (if (m_.From != m_.To) then
        (within m_.N 1 1073741824).bind fun x193_8 =>
        some x193_8
      else
        some false).bind fun x193_9 =>
      some x193_9
    else
      (if (m_.Kind == 2) then
        some (m_.Kind == 2)
      else
        some (m_.Kind == 3)).bind fun s197 =>
      if s197 then
        (if (m_.To == 0) then
          (within m_.N 1 1073741824).bind fun x203_6 =>
          some x203_6
        else
          some false).bind fun x203_7 =>
        some x203_7
      else
        some false
theorem cValid_ok {k0 : K} {v0 : Value} {m_ : Move} {r : Bool} (i0 : (IsV m_) v0 k0) (hr : cValid m_ = some r) :
    Calls Try.prog 28 #[v0] k0.w (Ret k0 (IsV r)) := by
  unfold cValid at hr
  refine Ret.ofC ?_
  refine enterK Try.func28 rfl Try.ntmps28 (show 1 ≤ 43 by decide) fun a k hk0 hs hd ha => ?_
  obtain ⟨e0, _⟩ := ha
  replace i0 : (IsV m_) (a.get 0) k := by rw [e0, hk0]; exact i0
  have hQ : Gb.LetsOut (bodyPost Try.prog Try.f28 (RetC noF k0 (IsV r))) := letsOutC
  have hg : Chg noF k0 k := by rw [hk0]; exact Chg.refl _ k0
  refine wp_seq ?_
  refine cut (fun a' k' => Bs noF k0 43 a' k' ∧ (IsRef m_) (a'.get 1) k' ∧ True) ?_ hQ ?_
  · intro Q221 hQQ221 hp222
    refine regionS (a0 := a) (k0 := k) (n := 43) (m := 2) (⟨some (IsBox k.w.heap.size m_), [(0, none)]⟩ :: ⟨some (IsV false), []⟩ :: []) hs (by kernel_rfl) ⟨ob1 rfl fun b q hk hn => ok_box _ hk.size rfl (up i0 hk hn.1), ob1 rfl fun b q hk hn => ok_assign rfl (isV_bool.2 rfl), trivial⟩ hQQ221 fun b q p => ?_
    have hgq := hg.then p.grow
    have hsb := p.size.trans hs
    have hdb := p.defers.trans hd
    obtain ⟨b1, j1, x1, z1⟩ : (IsBox k.w.heap.size m_) (b.get 1) q := out p 0 1 _ rfl rfl rfl
    replace x1 : Lo k (Eq b1) := Lo.eq x1
    have y1 : Lo k0 (Eq b1) := x1.chg hg
    obtain ⟨q2, hsh, jn⟩ := z1.give
    rw [← j1] at jn
    replace j1 := jn
    replace hgq := hgq.hand hsh y1.wr
    rw [← hsh.w]
    clear hsh
    obtain ⟨q, hqq⟩ : ∃ q, q = q2 := ⟨q2, rfl⟩
    subst hqq
    exact tail_done (k := q) (hp222 _ _ ⟨⟨hgq, hsb, hdb⟩, j1, trivial⟩)
  rintro a k ⟨⟨hg, hs, hd⟩, i1, _⟩
  refine wp_seq ?_
  refine wp_seq ?_
  refine cut (fun a' k' => Bs noF k0 43 a' k' ∧ (IsRef m_) (a'.get 1) k' ∧ (IsV m_.Kind) (a'.get 4) k' ∧ True) ?_ hQ ?_
  · intro Q219 hQQ219 hp220
    refine regionS (a0 := a) (k0 := k) (n := 43) (m := 2) (⟨some (IsPtr m_.Kind), [(1, none)]⟩ :: ⟨some (IsV m_.Kind), [(3, some 0)]⟩ :: []) hs (by kernel_rfl) ⟨ob1 rfl fun b q hk hn => ok_fieldAddr rfl fo33_0 (at_Move_0 _) ((up i1 hk hn.1)).ptr, ob1 rfl fun b q hk hn => ok_load rfl ty3 hn.1, trivial⟩ hQQ219 fun b q p => ?_
    exact tail_done (k := q) (hp220 _ _ ⟨Bs.post ⟨hg, hs, hd⟩ p, keep p 1 rfl i1, out p 1 4 _ rfl rfl rfl, trivial⟩)
  rintro a k ⟨⟨hg, hs, hd⟩, i1, i4, _⟩
  refine wp_block ?_
  refine wp_seq ?_
  refine cut (fun a' k' => Bs noF k0 43 a' k' ∧ (IsRef m_) (a'.get 1) k' ∧ (IsV m_.Kind) (a'.get 4) k' ∧ (IsV (m_.Kind == 0)) (a'.get 5) k' ∧ True) ?_ hQ ?_
  · intro Q217 hQQ217 hp218
    refine regionS (a0 := a) (k0 := k) (n := 43) (m := 2) (⟨some (IsV (m_.Kind == 0)), [(4, none)]⟩ :: ⟨some (IsV (m_.Kind == 0)), [(6, some 0)]⟩ :: []) hs (by kernel_rfl) ⟨ob1 rfl fun b q hk hn => ok_eqI rfl (up i4 hk hn.1) (isV_int.2 rfl), ob1 rfl fun b q hk hn => ok_assign rfl hn.1, trivial⟩ hQQ217 fun b q p => ?_
    exact tail_done (k := q) (hp218 _ _ ⟨Bs.post ⟨hg, hs, hd⟩ p, keep p 1 rfl i1, keep p 4 rfl i4, out p 1 5 _ rfl rfl rfl, trivial⟩)
  rintro a k ⟨⟨hg, hs, hd⟩, i1, i4, i5, _⟩
  refine wp_cond_split (isBool i5) (fun hc216 => ?_) (fun hc216 => ?_)
  · rw [if_pos hc216] at hr
    refine wp_seq ?_
    obtain ⟨x189_2, hx189_2, hr⟩ := bind_some hr
    obtain ⟨x189_7, hx189_7, hr⟩ := bind_some hr
    obtain ⟨x189_6, hx189_6, hx189_7⟩ := ite_bind hx189_7
    obtain ⟨x189_12, hx189_12, hr⟩ := bind_some hr
    obtain ⟨x189_11, hx189_11, hx189_12⟩ := ite_bind hx189_12
    refine cut (fun a' k' => Bs noF k0 43 a' k' ∧ (IsV x189_12) (a'.get 2) k' ∧ True) ?_ hQ ?_
    · intro Q190 hQQ190 hp191
      refine regionS (a0 := a) (k0 := k) (n := 43) (m := 14) (⟨some (IsPtr m_.To), [(1, none)]⟩ :: ⟨some (IsV m_.To), [(7, some 0)]⟩ :: ⟨some (IsV x189_2), [(8, some 1)]⟩ :: ⟨some (IsV x189_2), [(9, some 2)]⟩ :: ⟨some (Gd (x189_2 = true) (IsPtr m_.From)), [(1, none)]⟩ :: ⟨some (Gd (x189_2 = true) (IsV m_.From)), [(11, some 4)]⟩ :: ⟨some (Gd (x189_2 = true) (IsV x189_6)), [(12, some 5)]⟩ :: ⟨some (IsV x189_7), [(10, some 3), (13, some 6)]⟩ :: ⟨some (IsV x189_7), [(14, some 7)]⟩ :: ⟨some (Gd (x189_7 = true) (IsPtr m_.N)), [(1, none)]⟩ :: ⟨some (Gd (x189_7 = true) (IsV m_.N)), [(16, some 9)]⟩ :: ⟨some (Gd (x189_7 = true) (IsV x189_11)), [(17, some 10)]⟩ :: ⟨some (IsV x189_12), [(15, some 8), (18, some 11)]⟩ :: ⟨some (IsV x189_12), [(19, some 12)]⟩ :: []) hs (by kernel_rfl) ⟨ob1 rfl fun b q hk hn => ok_fieldAddr rfl fo33_2 (at_Move_2 _) ((up i1 hk hn.1)).ptr, ob1 rfl fun b q hk hn => ok_load rfl ty3 hn.1, ob1 rfl fun b q hk hn => ok_call rfl Try.call31 (within_ok hn.1 (isV_int.2 rfl) (isV_int.2 rfl) hx189_2), ob1 rfl fun b q hk hn => ok_move rfl hn.1, gdT rfl rfl fun hp b q hk hn => ok_fieldAddr rfl fo33_1 (at_Move_1 _) ((up i1 hk hn.1)).ptr, gdT rfl rfl fun hp b q hk hn => ok_load rfl ty3 (Gd.get hn.1 hp), gdT rfl rfl fun hp b q hk hn => ok_call rfl Try.call31 (within_ok (Gd.get hn.1 hp) (isV_int.2 rfl) (isV_int.2 rfl) (hx189_6 hp)), ob1 rfl fun b q hk hn => ok_pickM rfl hn.1 hx189_7 (fun hm => (Gd.get hn.2.1 hm)) (fun _ => (isV_bool.2 rfl)), ob1 rfl fun b q hk hn => ok_move rfl hn.1, gdT rfl rfl fun hp b q hk hn => ok_fieldAddr rfl fo33_3 (at_Move_3 _) ((up i1 hk hn.1)).ptr, gdT rfl rfl fun hp b q hk hn => ok_load rfl ty3 (Gd.get hn.1 hp), gdT rfl rfl fun hp b q hk hn => ok_call rfl Try.call31 (within_ok (Gd.get hn.1 hp) (isV_int.2 rfl) (isV_int.2 rfl) (hx189_11 hp)), ob1 rfl fun b q hk hn => ok_pickM rfl hn.1 hx189_12 (fun hm => (Gd.get hn.2.1 hm)) (fun _ => (isV_bool.2 rfl)), ob1 rfl fun b q hk hn => ok_assign rfl hn.1, trivial⟩ hQQ190 fun b q p => ?_
      exact tail_done (k := q) (hp191 _ _ ⟨Bs.post ⟨hg, hs, hd⟩ p, out p 13 2 _ rfl rfl rfl, trivial⟩)
    rintro a k ⟨⟨hg, hs, hd⟩, i2, _⟩
    refine wp_ret ?_
    obtain rfl := Option.some.inj hr
    exact retC1 rfl hd hg i2
  rw [if_neg (by rw [hc216]; decide)] at hr
  refine wp_seq ?_
  refine cut (fun a' k' => Bs noF k0 43 a' k' ∧ (IsRef m_) (a'.get 1) k' ∧ (IsV m_.Kind) (a'.get 4) k' ∧ (IsV (m_.Kind == 1)) (a'.get 20) k' ∧ True) ?_ hQ ?_
  · intro Q214 hQQ214 hp215
    refine regionS (a0 := a) (k0 := k) (n := 43) (m := 2) (⟨some (IsV (m_.Kind == 1)), [(4, none)]⟩ :: ⟨some (IsV (m_.Kind == 1)), [(21, some 0)]⟩ :: []) hs (by kernel_rfl) ⟨ob1 rfl fun b q hk hn => ok_eqI rfl (up i4 hk hn.1) (isV_int.2 rfl), ob1 rfl fun b q hk hn => ok_assign rfl hn.1, trivial⟩ hQQ214 fun b q p => ?_
    exact tail_done (k := q) (hp215 _ _ ⟨Bs.post ⟨hg, hs, hd⟩ p, keep p 1 rfl i1, keep p 4 rfl i4, out p 1 20 _ rfl rfl rfl, trivial⟩)
  rintro a k ⟨⟨hg, hs, hd⟩, i1, i4, i20, _⟩
  refine wp_cond_split (isBool i20) (fun hc213 => ?_) (fun hc213 => ?_)
  · rw [if_pos hc213] at hr
    refine wp_seq ?_
    obtain ⟨x193_9, hx193_9, hr⟩ := bind_some hr
    obtain ⟨x193_8, hx193_8, hx193_9⟩ := ite_bind hx193_9
    refine cut (fun a' k' => Bs noF k0 43 a' k' ∧ (IsV x193_9) (a'.get 2) k' ∧ True) ?_ hQ ?_
    · intro Q194 hQQ194 hp195
      refine regionS (a0 := a) (k0 := k) (n := 43) (m := 11) (⟨some (IsPtr m_.From), [(1, none)]⟩ :: ⟨some (IsV m_.From), [(22, some 0)]⟩ :: ⟨some (IsPtr m_.To), [(1, none)]⟩ :: ⟨some (IsV m_.To), [(24, some 2)]⟩ :: ⟨some (IsV (m_.From != m_.To)), [(23, some 1), (25, some 3)]⟩ :: ⟨some (IsV (m_.From != m_.To)), [(26, some 4)]⟩ :: ⟨some (Gd ((m_.From != m_.To) = true) (IsPtr m_.N)), [(1, none)]⟩ :: ⟨some (Gd ((m_.From != m_.To) = true) (IsV m_.N)), [(28, some 6)]⟩ :: ⟨some (Gd ((m_.From != m_.To) = true) (IsV x193_8)), [(29, some 7)]⟩ :: ⟨some (IsV x193_9), [(27, some 5), (30, some 8)]⟩ :: ⟨some (IsV x193_9), [(31, some 9)]⟩ :: []) hs (by kernel_rfl) ⟨ob1 rfl fun b q hk hn => ok_fieldAddr rfl fo33_1 (at_Move_1 _) ((up i1 hk hn.1)).ptr, ob1 rfl fun b q hk hn => ok_load rfl ty3 hn.1, ob1 rfl fun b q hk hn => ok_fieldAddr rfl fo33_2 (at_Move_2 _) ((up i1 hk hn.1)).ptr, ob1 rfl fun b q hk hn => ok_load rfl ty3 hn.1, ob1 rfl fun b q hk hn => ok_neI rfl hn.1 hn.2.1, ob1 rfl fun b q hk hn => ok_move rfl hn.1, gdT rfl rfl fun hp b q hk hn => ok_fieldAddr rfl fo33_3 (at_Move_3 _) ((up i1 hk hn.1)).ptr, gdT rfl rfl fun hp b q hk hn => ok_load rfl ty3 (Gd.get hn.1 hp), gdT rfl rfl fun hp b q hk hn => ok_call rfl Try.call31 (within_ok (Gd.get hn.1 hp) (isV_int.2 rfl) (isV_int.2 rfl) (hx193_8 hp)), ob1 rfl fun b q hk hn => ok_pickM rfl hn.1 hx193_9 (fun hm => (Gd.get hn.2.1 hm)) (fun _ => (isV_bool.2 rfl)), ob1 rfl fun b q hk hn => ok_assign rfl hn.1, trivial⟩ hQQ194 fun b q p => ?_
      exact tail_done (k := q) (hp195 _ _ ⟨Bs.post ⟨hg, hs, hd⟩ p, out p 10 2 _ rfl rfl rfl, trivial⟩)
    rintro a k ⟨⟨hg, hs, hd⟩, i2, _⟩
    refine wp_ret ?_
    obtain rfl := Option.some.inj hr
    exact retC1 rfl hd hg i2
  rw [if_neg (by rw [hc213]; decide)] at hr
  refine wp_seq ?_
  refine wp_seq ?_
  refine cut (fun a' k' => Bs noF k0 43 a' k' ∧ (IsRef m_) (a'.get 1) k' ∧ (IsV m_.Kind) (a'.get 4) k' ∧ (IsV (m_.Kind == 2)) (a'.get 32) k' ∧ True) ?_ hQ ?_
  · intro Q211 hQQ211 hp212
    refine regionS (a0 := a) (k0 := k) (n := 43) (m := 2) (⟨some (IsV (m_.Kind == 2)), [(4, none)]⟩ :: ⟨some (IsV (m_.Kind == 2)), [(33, some 0)]⟩ :: []) hs (by kernel_rfl) ⟨ob1 rfl fun b q hk hn => ok_eqI rfl (up i4 hk hn.1) (isV_int.2 rfl), ob1 rfl fun b q hk hn => ok_assign rfl hn.1, trivial⟩ hQQ211 fun b q p => ?_
    exact tail_done (k := q) (hp212 _ _ ⟨Bs.post ⟨hg, hs, hd⟩ p, keep p 1 rfl i1, keep p 4 rfl i4, out p 1 32 _ rfl rfl rfl, trivial⟩)
  rintro a k ⟨⟨hg, hs, hd⟩, i1, i4, i32, _⟩
  obtain ⟨s197, hs197, hr⟩ := bind_some hr
  refine cut (fun a' k' => Bs noF k0 43 a' k' ∧ (IsRef m_) (a'.get 1) k' ∧ (IsV s197) (a'.get 32) k' ∧ True) ?_ hQ ?_
  · intro Q210 hQQ210 hp198
    replace hr := hs197
    clear hQ
    have hQ := hQQ210
    refine wp_cond_split (isBool i32) (fun hc202 => ?_) (fun hc202 => ?_)
    · rw [if_pos hc202] at hr
      refine wp_skip ?_
      obtain rfl := Option.some.inj hr
      exact hp198 _ _ ⟨⟨hg, hs, hd⟩, i1, i32, trivial⟩
    rw [if_neg (by rw [hc202]; decide)] at hr
    refine cut (fun a' k' => Bs noF k0 43 a' k' ∧ (IsRef m_) (a'.get 1) k' ∧ (IsV (m_.Kind == 3)) (a'.get 32) k' ∧ True) ?_ hQ ?_
    · intro Q200 hQQ200 hp201
      refine regionS (a0 := a) (k0 := k) (n := 43) (m := 2) (⟨some (IsV (m_.Kind == 3)), [(4, none)]⟩ :: ⟨some (IsV (m_.Kind == 3)), [(34, some 0)]⟩ :: []) hs (by kernel_rfl) ⟨ob1 rfl fun b q hk hn => ok_eqI rfl (up i4 hk hn.1) (isV_int.2 rfl), ob1 rfl fun b q hk hn => ok_assign rfl hn.1, trivial⟩ hQQ200 fun b q p => ?_
      exact tail_done (k := q) (hp201 _ _ ⟨Bs.post ⟨hg, hs, hd⟩ p, keep p 1 rfl i1, out p 1 32 _ rfl rfl rfl, trivial⟩)
    rintro a k ⟨⟨hg, hs, hd⟩, i1, i32, _⟩
    obtain rfl := Option.some.inj hr
    exact hp198 _ _ ⟨⟨hg, hs, hd⟩, i1, i32, trivial⟩
  clear hs197
  rintro a k ⟨⟨hg, hs, hd⟩, i1, i32, _⟩
  refine wp_cond_split (isBool i32) (fun hc209 => ?_) (fun hc209 => ?_)
  · rw [if_pos hc209] at hr
    refine wp_seq ?_
    obtain ⟨x203_7, hx203_7, hr⟩ := bind_some hr
    obtain ⟨x203_6, hx203_6, hx203_7⟩ := ite_bind hx203_7
    refine cut (fun a' k' => Bs noF k0 43 a' k' ∧ (IsV x203_7) (a'.get 2) k' ∧ True) ?_ hQ ?_
    · intro Q204 hQQ204 hp205
      refine regionS (a0 := a) (k0 := k) (n := 43) (m := 9) (⟨some (IsPtr m_.To), [(1, none)]⟩ :: ⟨some (IsV m_.To), [(35, some 0)]⟩ :: ⟨some (IsV (m_.To == 0)), [(36, some 1)]⟩ :: ⟨some (IsV (m_.To == 0)), [(37, some 2)]⟩ :: ⟨some (Gd ((m_.To == 0) = true) (IsPtr m_.N)), [(1, none)]⟩ :: ⟨some (Gd ((m_.To == 0) = true) (IsV m_.N)), [(39, some 4)]⟩ :: ⟨some (Gd ((m_.To == 0) = true) (IsV x203_6)), [(40, some 5)]⟩ :: ⟨some (IsV x203_7), [(38, some 3), (41, some 6)]⟩ :: ⟨some (IsV x203_7), [(42, some 7)]⟩ :: []) hs (by kernel_rfl) ⟨ob1 rfl fun b q hk hn => ok_fieldAddr rfl fo33_2 (at_Move_2 _) ((up i1 hk hn.1)).ptr, ob1 rfl fun b q hk hn => ok_load rfl ty3 hn.1, ob1 rfl fun b q hk hn => ok_eqI rfl hn.1 (isV_int.2 rfl), ob1 rfl fun b q hk hn => ok_move rfl hn.1, gdT rfl rfl fun hp b q hk hn => ok_fieldAddr rfl fo33_3 (at_Move_3 _) ((up i1 hk hn.1)).ptr, gdT rfl rfl fun hp b q hk hn => ok_load rfl ty3 (Gd.get hn.1 hp), gdT rfl rfl fun hp b q hk hn => ok_call rfl Try.call31 (within_ok (Gd.get hn.1 hp) (isV_int.2 rfl) (isV_int.2 rfl) (hx203_6 hp)), ob1 rfl fun b q hk hn => ok_pickM rfl hn.1 hx203_7 (fun hm => (Gd.get hn.2.1 hm)) (fun _ => (isV_bool.2 rfl)), ob1 rfl fun b q hk hn => ok_assign rfl hn.1, trivial⟩ hQQ204 fun b q p => ?_
      exact tail_done (k := q) (hp205 _ _ ⟨Bs.post ⟨hg, hs, hd⟩ p, out p 8 2 _ rfl rfl rfl, trivial⟩)
    rintro a k ⟨⟨hg, hs, hd⟩, i2, _⟩
    refine wp_ret ?_
    obtain rfl := Option.some.inj hr
    exact retC1 rfl hd hg i2
  rw [if_neg (by rw [hc209]; decide)] at hr
  refine wp_skip ?_
  refine wp_seq ?_
  refine cut (fun a' k' => Bs noF k0 43 a' k' ∧ (IsV false) (a'.get 2) k' ∧ True) ?_ hQ ?_
  · intro Q207 hQQ207 hp208
    refine regionS (a0 := a) (k0 := k) (n := 43) (m := 1) (⟨some (IsV false), []⟩ :: []) hs (by kernel_rfl) ⟨ob1 rfl fun b q hk hn => ok_assign rfl (isV_bool.2 rfl), trivial⟩ hQQ207 fun b q p => ?_
    exact tail_done (k := q) (hp208 _ _ ⟨Bs.post ⟨hg, hs, hd⟩ p, out p 0 2 _ rfl rfl rfl, trivial⟩)
  rintro a k ⟨⟨hg, hs, hd⟩, i2, _⟩
  refine wp_ret ?_
  obtain rfl := Option.some.inj hr
  exact retC1 rfl hd hg i2
def cTotal_L0 (l_ : (List Account)) (s230 : Int × Int) : Option (Flow (Int × Int) (Int)) :=
  if (decide (s230.2 < (l_.length : Int))) then
    (getI l_ s230.2).bind fun x235_0 =>
    (addI s230.1 x235_0.Units).bind fun x236_3 =>
    (addI s230.2 1).bind fun x237_0 =>
    some (.go (x236_3, x237_0))
  else
    some (.ex 0 (s230.1, s230.2))
def cTotal (l_ : (List Account)) : Option (Int) :=
  (cRight l_).bind fun x224_1 =>
  if (!x224_1) then
    some 0
  else
    (iterL (cTotal_L0 l_) (l_.length + 1) (0, 0)).bind fun f247 => match f247 with
      | .go _ => none
      | .ex _ s248 =>
        some s248.1
      | .ret r252 => some r252
theorem cTotal_ok {k0 : K} {v0 : Value} {l_ : (List Account)} {r : Int} (i0 : (IsV l_) v0 k0) (hr : cTotal l_ = some r) :
    Calls Try.prog 21 #[v0] k0.w (Ret k0 (IsV r)) := by
  unfold cTotal at hr
  refine Ret.ofC ?_
  refine enterK Try.func21 rfl Try.ntmps21 (show 1 ≤ 21 by decide) fun a k hk0 hs hd ha => ?_
  obtain ⟨e0, _⟩ := ha
  replace i0 : (IsV l_) (a.get 0) k := by rw [e0, hk0]; exact i0
  have hQ : Gb.LetsOut (bodyPost Try.prog Try.f21 (RetC noF k0 (IsV r))) := letsOutC
  have hg : Chg noF k0 k := by rw [hk0]; exact Chg.refl _ k0
  refine wp_seq ?_
  refine cut (fun a' k' => Bs noF k0 21 a' k' ∧ (IsV l_) (a'.get 0) k' ∧ True) ?_ hQ ?_
  · intro Q261 hQQ261 hp262
    refine regionS (a0 := a) (k0 := k) (n := 21) (m := 1) (⟨some (IsV (α := Int) 0), []⟩ :: []) hs (by kernel_rfl) ⟨ob1 rfl fun b q hk hn => ok_assign rfl (isV_int.2 rfl), trivial⟩ hQQ261 fun b q p => ?_
    exact tail_done (k := q) (hp262 _ _ ⟨Bs.post ⟨hg, hs, hd⟩ p, keep p 0 rfl i0, trivial⟩)
  rintro a k ⟨⟨hg, hs, hd⟩, i0, _⟩
  refine wp_seq ?_
  refine wp_seq ?_
  obtain ⟨x224_1, hx224_1, hr⟩ := bind_some hr
  refine cut (fun a' k' => Bs noF k0 21 a' k' ∧ (IsV l_) (a'.get 0) k' ∧ (IsV (!x224_1)) (a'.get 8) k' ∧ True) ?_ hQ ?_
  · intro Q259 hQQ259 hp260
    refine regionS (a0 := a) (k0 := k) (n := 21) (m := 3) (⟨some (IsV l_), [(0, none)]⟩ :: ⟨some (IsV x224_1), [(6, some 0)]⟩ :: ⟨some (IsV (!x224_1)), [(7, some 1)]⟩ :: []) hs (by kernel_rfl) ⟨ob1 rfl fun b q hk hn => ok_move rfl (up i0 hk hn.1), ob1 rfl fun b q hk hn => ok_call rfl Try.call17 (cRight_ok hn.1 hx224_1), ob1 rfl fun b q hk hn => ok_not rfl hn.1, trivial⟩ hQQ259 fun b q p => ?_
    exact tail_done (k := q) (hp260 _ _ ⟨Bs.post ⟨hg, hs, hd⟩ p, keep p 0 rfl i0, out p 2 8 _ rfl rfl rfl, trivial⟩)
  rintro a k ⟨⟨hg, hs, hd⟩, i0, i8, _⟩
  refine wp_cond_split (isBool i8) (fun hc258 => ?_) (fun hc258 => ?_)
  · rw [if_pos hc258] at hr
    refine wp_seq ?_
    refine cut (fun a' k' => Bs noF k0 21 a' k' ∧ (IsV (α := Int) 0) (a'.get 2) k' ∧ True) ?_ hQ ?_
    · intro Q226 hQQ226 hp227
      refine regionS (a0 := a) (k0 := k) (n := 21) (m := 1) (⟨some (IsV (α := Int) 0), []⟩ :: []) hs (by kernel_rfl) ⟨ob1 rfl fun b q hk hn => ok_assign rfl (isV_int.2 rfl), trivial⟩ hQQ226 fun b q p => ?_
      exact tail_done (k := q) (hp227 _ _ ⟨Bs.post ⟨hg, hs, hd⟩ p, out p 0 2 _ rfl rfl rfl, trivial⟩)
    rintro a k ⟨⟨hg, hs, hd⟩, i2, _⟩
    refine wp_ret ?_
    obtain rfl := Option.some.inj hr
    exact retC1 rfl hd hg i2
  rw [if_neg (by rw [hc258]; decide)] at hr
  refine wp_skip ?_
  refine wp_seq ?_
  refine cut (fun a' k' => Bs noF k0 21 a' k' ∧ (IsV l_) (a'.get 0) k' ∧ (IsV (α := Int) 0) (a'.get 3) k' ∧ True) ?_ hQ ?_
  · intro Q256 hQQ256 hp257
    refine regionS (a0 := a) (k0 := k) (n := 21) (m := 1) (⟨some (IsV (α := Int) 0), []⟩ :: []) hs (by kernel_rfl) ⟨ob1 rfl fun b q hk hn => ok_assign rfl (isV_int.2 rfl), trivial⟩ hQQ256 fun b q p => ?_
    exact tail_done (k := q) (hp257 _ _ ⟨Bs.post ⟨hg, hs, hd⟩ p, keep p 0 rfl i0, out p 0 3 _ rfl rfl rfl, trivial⟩)
  rintro a k ⟨⟨hg, hs, hd⟩, i0, i3, _⟩
  refine wp_seq ?_
  refine wp_seq ?_
  refine cut (fun a' k' => Bs noF k0 21 a' k' ∧ (IsV (α := Int) 0) (a'.get 3) k' ∧ (IsV l_) (a'.get 9) k' ∧ (IsV (α := Int) (l_.length : Int)) (a'.get 10) k' ∧ (IsV (α := Int) 0) (a'.get 11) k' ∧ True) ?_ hQ ?_
  · intro Q254 hQQ254 hp255
    refine regionS (a0 := a) (k0 := k) (n := 21) (m := 3) (⟨some (IsV l_), [(0, none)]⟩ :: ⟨some (IsV (α := Int) (l_.length : Int)), [(9, some 0)]⟩ :: ⟨some (IsV (α := Int) 0), []⟩ :: []) hs (by kernel_rfl) ⟨ob1 rfl fun b q hk hn => ok_move rfl (up i0 hk hn.1), ob1 rfl fun b q hk hn => ok_len rfl rfl Try.underlying22 (IsV.rd hn.1), ob1 rfl fun b q hk hn => ok_move rfl (isV_int.2 rfl), trivial⟩ hQQ254 fun b q p => ?_
    exact tail_done (k := q) (hp255 _ _ ⟨Bs.post ⟨hg, hs, hd⟩ p, keep p 3 rfl i3, out p 0 9 _ rfl rfl rfl, out p 1 10 _ rfl rfl rfl, out p 2 11 _ rfl rfl rfl, trivial⟩)
  rintro a k ⟨⟨hg, hs, hd⟩, i3, i9, i10, i11, _⟩
  refine wp_block ?_
  obtain ⟨f247, hf247, hr⟩ := bind_some hr
  refine cutFe f247 (fun s' a' k' => Bs noF k0 21 a' k' ∧ (IsV s'.1) (a'.get 3) k' ∧ (IsV l_) (a'.get 9) k' ∧ (IsV (α := Int) (l_.length : Int)) (a'.get 10) k' ∧ (IsV s'.2) (a'.get 11) k' ∧ True) (fun i' s' a' k' => (i' = 0 ∧ Bs noF k0 21 a' k' ∧ (IsV s'.1) (a'.get 3) k' ∧ True)) (fun r' a' k' => bodyPost Try.prog Try.f21 (RetC noF k0 (IsV r')) .ret a' k'.w) ?_ hQ ?_ ?_ ?_
  · intro Q253 hQQ253 hgo hex hret
    refine sim_loop ?_ _ _ _ _ _ hf247 ⟨⟨hg, hs, hd⟩, i3, i9, i10, i11, trivial⟩ Q253 hQQ253 hgo hex hret
    clear hr hf247 hgo hex hret hQQ253 hQ hg hs hd i10 i11 i3 i9
    intro s230 fl_ a k hr hS Q hQ hgo231 hex232 hret233
    obtain ⟨⟨hg, hs, hd⟩, i3, i9, i10, i11, _⟩ := hS
    unfold cTotal_L0 at hr
    refine wp_seq ?_
    refine cut (fun a' k' => Bs noF k0 21 a' k' ∧ (IsV s230.1) (a'.get 3) k' ∧ (IsV l_) (a'.get 9) k' ∧ (IsV (α := Int) (l_.length : Int)) (a'.get 10) k' ∧ (IsV s230.2) (a'.get 11) k' ∧ (IsV (decide (s230.2 < (l_.length : Int)))) (a'.get 12) k' ∧ True) ?_ hQ ?_
    · intro Q245 hQQ245 hp246
      refine regionS (a0 := a) (k0 := k) (n := 21) (m := 1) (⟨some (IsV (decide (s230.2 < (l_.length : Int)))), [(11, none), (10, none)]⟩ :: []) hs (by kernel_rfl) ⟨ob1 rfl fun b q hk hn => ok_lss rfl (up i11 hk hn.1) (up i10 hk hn.2.1), trivial⟩ hQQ245 fun b q p => ?_
      exact tail_done (k := q) (hp246 _ _ ⟨Bs.post ⟨hg, hs, hd⟩ p, keep p 3 rfl i3, keep p 9 rfl i9, keep p 10 rfl i10, keep p 11 rfl i11, out p 0 12 _ rfl rfl rfl, trivial⟩)
    rintro a k ⟨⟨hg, hs, hd⟩, i3, i9, i10, i11, i12, _⟩
    refine wp_seq ?_
    refine wp_cond_split (isBool i12) (fun hc244 => ?_) (fun hc244 => ?_)
    · rw [if_pos hc244] at hr
      refine wp_skip ?_
      refine wp_seq ?_
      refine wp_block ?_
      refine wp_seq ?_
      obtain ⟨x235_0, hx235_0, hr⟩ := bind_some hr
      refine cut (fun a' k' => Bs noF k0 21 a' k' ∧ (IsV s230.1) (a'.get 3) k' ∧ (IsRef x235_0) (a'.get 5) k' ∧ (IsV l_) (a'.get 9) k' ∧ (IsV (α := Int) (l_.length : Int)) (a'.get 10) k' ∧ (IsV s230.2) (a'.get 11) k' ∧ True) ?_ hQ ?_
      · intro Q242 hQQ242 hp243
        refine regionS (a0 := a) (k0 := k) (n := 21) (m := 3) (⟨some (IsPtr x235_0), [(9, none), (11, none)]⟩ :: ⟨some (IsV x235_0), [(13, some 0)]⟩ :: ⟨some (IsBox k.w.heap.size (⟨0, 0, false⟩ : Account)), []⟩ :: []) hs (by kernel_rfl) ⟨ob1 rfl fun b q hk hn => ok_indexAddr rfl Try.underlying22 ty35 (IsV.rd (up i9 hk hn.1)) (up i11 hk hn.2.1) hx235_0, ob1 rfl fun b q hk hn => ok_load rfl ty35 hn.1, ob1 rfl fun b q hk hn => ok_alloc _ hk.size rfl z35, trivial⟩ hQQ242 fun b q p => ?_
        have hgq := hg.then p.grow
        have hsb := p.size.trans hs
        have hdb := p.defers.trans hd
        have j3 := keep p 3 rfl i3
        obtain ⟨b5, j5, x5, z5⟩ : (IsBox k.w.heap.size (⟨0, 0, false⟩ : Account)) (b.get 5) q := out p 2 5 _ rfl rfl rfl
        replace x5 : Lo k (Eq b5) := Lo.eq x5
        have y5 : Lo k0 (Eq b5) := x5.chg hg
        have j9 := keep p 9 rfl i9
        have j10 := keep p 10 rfl i10
        have j11 := keep p 11 rfl i11
        have j14 : (IsV x235_0) (b.get 14) q := out p 1 14 _ rfl rfl rfl
        have hns := z5.nshF
        refine tail_storeB (i := 3) rfl rfl rfl rfl szf35 (Upd.self (α := Account)) j5 z5 j14 fun q2 hch hz => ?_
        replace hgq := hgq.step hch y5.wr
        have hle := hch.le hns
        replace j3 := Pers.pers hle j3
        replace j9 := Pers.pers hle j9
        replace j10 := Pers.pers hle j10
        replace j11 := Pers.pers hle j11
        replace j14 := Pers.pers hle j14
        replace z5 := hz
        clear hns hle hch
        obtain ⟨q, hqq⟩ : ∃ q, q = q2 := ⟨q2, rfl⟩
        subst hqq
        obtain ⟨q2, hsh, jn⟩ := z5.give
        replace j3 := Pers.pers hsh.le j3
        replace j9 := Pers.pers hsh.le j9
        replace j10 := Pers.pers hsh.le j10
        replace j11 := Pers.pers hsh.le j11
        rw [← j5] at jn
        replace j5 := jn
        replace hgq := hgq.hand hsh y5.wr
        rw [← hsh.w]
        clear hsh
        obtain ⟨q, hqq⟩ : ∃ q, q = q2 := ⟨q2, rfl⟩
        subst hqq
        exact tail_done (k := q) (hp243 _ _ ⟨⟨hgq, hsb, hdb⟩, j3, j5, j9, j10, j11, trivial⟩)
      rintro a k ⟨⟨hg, hs, hd⟩, i3, i5, i9, i10, i11, _⟩
      obtain ⟨x236_3, hx236_3, hr⟩ := bind_some hr
      refine cut (fun a' k' => Bs noF k0 21 a' k' ∧ (IsV x236_3) (a'.get 3) k' ∧ (IsV l_) (a'.get 9) k' ∧ (IsV (α := Int) (l_.length : Int)) (a'.get 10) k' ∧ (IsV s230.2) (a'.get 11) k' ∧ True) ?_ hQ ?_
      · intro Q240 hQQ240 hp241
        refine regionS (a0 := a) (k0 := k) (n := 21) (m := 5) (⟨some (IsV s230.1), [(3, none)]⟩ :: ⟨some (IsPtr x235_0.Units), [(5, none)]⟩ :: ⟨some (IsV x235_0.Units), [(16, some 1)]⟩ :: ⟨some (IsV x236_3), [(15, some 0), (17, some 2)]⟩ :: ⟨some (IsV x236_3), [(18, some 3)]⟩ :: []) hs (by kernel_rfl) ⟨ob1 rfl fun b q hk hn => ok_move rfl (up i3 hk hn.1), ob1 rfl fun b q hk hn => ok_fieldAddr rfl fo35_1 (at_Account_1 _) ((up i5 hk hn.1)).ptr, ob1 rfl fun b q hk hn => ok_load rfl ty3 hn.1, ob1 rfl fun b q hk hn => ok_add rfl hn.1 hn.2.1 hx236_3, ob1 rfl fun b q hk hn => ok_assign rfl hn.1, trivial⟩ hQQ240 fun b q p => ?_
        exact tail_done (k := q) (hp241 _ _ ⟨Bs.post ⟨hg, hs, hd⟩ p, out p 4 3 _ rfl rfl rfl, keep p 9 rfl i9, keep p 10 rfl i10, keep p 11 rfl i11, trivial⟩)
      rintro a k ⟨⟨hg, hs, hd⟩, i3, i9, i10, i11, _⟩
      obtain ⟨x237_0, hx237_0, hr⟩ := bind_some hr
      refine cut (fun a' k' => Bs noF k0 21 a' k' ∧ (IsV x236_3) (a'.get 3) k' ∧ (IsV l_) (a'.get 9) k' ∧ (IsV (α := Int) (l_.length : Int)) (a'.get 10) k' ∧ (IsV x237_0) (a'.get 11) k' ∧ True) ?_ hQ ?_
      · intro Q238 hQQ238 hp239
        refine regionS (a0 := a) (k0 := k) (n := 21) (m := 2) (⟨some (IsV x237_0), [(11, none)]⟩ :: ⟨some (IsV x237_0), [(19, some 0)]⟩ :: []) hs (by kernel_rfl) ⟨ob1 rfl fun b q hk hn => ok_add rfl (up i11 hk hn.1) (isV_int.2 rfl) hx237_0, ob1 rfl fun b q hk hn => ok_move rfl hn.1, trivial⟩ hQQ238 fun b q p => ?_
        exact tail_done (k := q) (hp239 _ _ ⟨Bs.post ⟨hg, hs, hd⟩ p, keep p 3 rfl i3, keep p 9 rfl i9, keep p 10 rfl i10, out p 1 11 _ rfl rfl rfl, trivial⟩)
      rintro a k ⟨⟨hg, hs, hd⟩, i3, i9, i10, i11, _⟩
      exact hgo231 _ _ _ (Option.some.inj hr).symm ⟨⟨hg, hs, hd⟩, i3, i9, i10, i11, trivial⟩
    rw [if_neg (by rw [hc244]; decide)] at hr
    refine wp_exit ?_
    exact hex232 _ _ _ _ (Option.some.inj hr).symm ⟨rfl, ⟨hg, hs, hd⟩, i3, trivial⟩
  · rintro r252 a k rfl hR
    dsimp only at hr
    obtain rfl := Option.some.inj hr
    exact hR
  · rintro _ _ _ rfl _
    simp at hr
  clear hf247
  rintro _ s248 a k rfl ⟨rfl, ⟨hg, hs, hd⟩, i3, _⟩
  dsimp only at hr
  refine wp_seq ?_
  refine cut (fun a' k' => Bs noF k0 21 a' k' ∧ (IsV s248.1) (a'.get 2) k' ∧ True) ?_ hQ ?_
  · intro Q250 hQQ250 hp251
    refine regionS (a0 := a) (k0 := k) (n := 21) (m := 2) (⟨some (IsV s248.1), [(3, none)]⟩ :: ⟨some (IsV s248.1), [(20, some 0)]⟩ :: []) hs (by kernel_rfl) ⟨ob1 rfl fun b q hk hn => ok_move rfl (up i3 hk hn.1), ob1 rfl fun b q hk hn => ok_assign rfl hn.1, trivial⟩ hQQ250 fun b q p => ?_
    exact tail_done (k := q) (hp251 _ _ ⟨Bs.post ⟨hg, hs, hd⟩ p, out p 1 2 _ rfl rfl rfl, trivial⟩)
  rintro a k ⟨⟨hg, hs, hd⟩, i2, _⟩
  refine wp_ret ?_
  obtain rfl := Option.some.inj hr
  exact retC1 rfl hd hg i2
def few (l_ : (List Account)) (m_ : (List Move)) : Option (Bool) :=
  some ((decide ((l_.length : Int) ≤ 10)) && (decide ((m_.length : Int) ≤ 20)))
theorem few_ok {k0 : K} {v0 v1 : Value} {l_ : (List Account)} {m_ : (List Move)} {r : Bool} (i0 : (IsV l_) v0 k0) (i1 : (IsV m_) v1 k0) (hr : few l_ m_ = some r) :
    Calls Try.prog 9 #[v0, v1] k0.w (Ret k0 (IsV r)) := by
  unfold few at hr
  refine Ret.ofC ?_
  refine enterK Try.func9 rfl Try.ntmps9 (show 2 ≤ 13 by decide) fun a k hk0 hs hd ha => ?_
  obtain ⟨e0, e1, _⟩ := ha
  replace i0 : (IsV l_) (a.get 0) k := by rw [e0, hk0]; exact i0
  replace i1 : (IsV m_) (a.get 1) k := by rw [e1, hk0]; exact i1
  have hQ : Gb.LetsOut (bodyPost Try.prog Try.f9 (RetC noF k0 (IsV r))) := letsOutC
  have hg : Chg noF k0 k := by rw [hk0]; exact Chg.refl _ k0
  refine wp_seq ?_
  refine cut (fun a' k' => Bs noF k0 13 a' k' ∧ (IsV l_) (a'.get 0) k' ∧ (IsV m_) (a'.get 1) k' ∧ True) ?_ hQ ?_
  · intro Q267 hQQ267 hp268
    refine regionS (a0 := a) (k0 := k) (n := 13) (m := 1) (⟨some (IsV false), []⟩ :: []) hs (by kernel_rfl) ⟨ob1 rfl fun b q hk hn => ok_assign rfl (isV_bool.2 rfl), trivial⟩ hQQ267 fun b q p => ?_
    exact tail_done (k := q) (hp268 _ _ ⟨Bs.post ⟨hg, hs, hd⟩ p, keep p 0 rfl i0, keep p 1 rfl i1, trivial⟩)
  rintro a k ⟨⟨hg, hs, hd⟩, i0, i1, _⟩
  refine wp_seq ?_
  refine cut (fun a' k' => Bs noF k0 13 a' k' ∧ (IsV ((decide ((l_.length : Int) ≤ 10)) && (decide ((m_.length : Int) ≤ 20)))) (a'.get 4) k' ∧ True) ?_ hQ ?_
  · intro Q265 hQQ265 hp266
    refine regionS (a0 := a) (k0 := k) (n := 13) (m := 9) (⟨some (IsV l_), [(0, none)]⟩ :: ⟨some (IsV (α := Int) (l_.length : Int)), [(5, some 0)]⟩ :: ⟨some (IsV (decide ((l_.length : Int) ≤ 10))), [(6, some 1)]⟩ :: ⟨some (IsV (decide ((l_.length : Int) ≤ 10))), [(7, some 2)]⟩ :: ⟨some (Gd ((decide ((l_.length : Int) ≤ 10)) = true) (IsV m_)), [(1, none)]⟩ :: ⟨some (Gd ((decide ((l_.length : Int) ≤ 10)) = true) (IsV (α := Int) (m_.length : Int))), [(9, some 4)]⟩ :: ⟨some (Gd ((decide ((l_.length : Int) ≤ 10)) = true) (IsV (decide ((m_.length : Int) ≤ 20)))), [(10, some 5)]⟩ :: ⟨some (IsV ((decide ((l_.length : Int) ≤ 10)) && (decide ((m_.length : Int) ≤ 20)))), [(8, some 3), (11, some 6)]⟩ :: ⟨some (IsV ((decide ((l_.length : Int) ≤ 10)) && (decide ((m_.length : Int) ≤ 20)))), [(12, some 7)]⟩ :: []) hs (by kernel_rfl) ⟨ob1 rfl fun b q hk hn => ok_move rfl (up i0 hk hn.1), ob1 rfl fun b q hk hn => ok_len rfl rfl Try.underlying22 (IsV.rd hn.1), ob1 rfl fun b q hk hn => ok_leq rfl hn.1 (isV_int.2 rfl), ob1 rfl fun b q hk hn => ok_move rfl hn.1, gdT rfl rfl fun hp b q hk hn => ok_move rfl (up i1 hk hn.1), gdT rfl rfl fun hp b q hk hn => ok_len rfl rfl Try.underlying23 (IsV.rd (Gd.get hn.1 hp)), gdT rfl rfl fun hp b q hk hn => ok_leq rfl (Gd.get hn.1 hp) (isV_int.2 rfl), ob1 rfl fun b q hk hn => ok_pickAnd rfl hn.1 (fun hm => (Gd.get hn.2.1 hm)) (fun _ => (isV_bool.2 rfl)), ob1 rfl fun b q hk hn => ok_assign rfl hn.1, trivial⟩ hQQ265 fun b q p => ?_
    exact tail_done (k := q) (hp266 _ _ ⟨Bs.post ⟨hg, hs, hd⟩ p, out p 8 4 _ rfl rfl rfl, trivial⟩)
  rintro a k ⟨⟨hg, hs, hd⟩, i4, _⟩
  refine wp_ret ?_
  obtain rfl := Option.some.inj hr
  exact retC1 rfl hd hg i4
def lAdd_L0 (t_ : (List (Int × Int))) (origin : Int) (s272 : Int × Int) : Option (Flow (Int × Int) (Int)) :=
  if (decide (s272.2 < (t_.length : Int))) then
    (getI t_ s272.2).bind fun x277_2 =>
    (if ((x277_2.1 == origin) || (origin == 0)) then
      (getI t_ s272.2).bind fun x280_3 =>
      (addI s272.1 x280_3.2).bind fun x280_6 =>
      some x280_6
    else
      some s272.1).bind fun s278 =>
    (addI s272.2 1).bind fun x284_1 =>
    some (.go (s278, x284_1))
  else
    some (.ex 0 (s272.1, s272.2))
def lAdd (t_ : (List (Int × Int))) (origin : Int) : Option (Int) :=
  (iterL (lAdd_L0 t_ origin) (t_.length + 1) (0, 0)).bind fun f293 => match f293 with
    | .go _ => none
    | .ex _ s294 =>
      some s294.1
    | .ret r298 => some r298
theorem lAdd_ok {k0 : K} {v0 v1 : Value} {t_ : (List (Int × Int))} {origin : Int} {r : Int} (i0 : (IsV t_) v0 k0) (i1 : (IsV origin) v1 k0) (hr : lAdd t_ origin = some r) :
    Calls Try.prog 12 #[v0, v1] k0.w (Ret k0 (IsV r)) := by
  unfold lAdd at hr
  refine Ret.ofC ?_
  refine enterK Try.func12 rfl Try.ntmps12 (show 2 ≤ 32 by decide) fun a k hk0 hs hd ha => ?_
  obtain ⟨e0, e1, _⟩ := ha
  replace i0 : (IsV t_) (a.get 0) k := by rw [e0, hk0]; exact i0
  replace i1 : (IsV origin) (a.get 1) k := by rw [e1, hk0]; exact i1
  have hQ : Gb.LetsOut (bodyPost Try.prog Try.f12 (RetC noF k0 (IsV r))) := letsOutC
  have hg : Chg noF k0 k := by rw [hk0]; exact Chg.refl _ k0
  refine wp_seq ?_
  refine cut (fun a' k' => Bs noF k0 32 a' k' ∧ (IsV t_) (a'.get 0) k' ∧ (IsV origin) (a'.get 1) k' ∧ True) ?_ hQ ?_
  · intro Q304 hQQ304 hp305
    refine regionS (a0 := a) (k0 := k) (n := 32) (m := 1) (⟨some (IsV (α := Int) 0), []⟩ :: []) hs (by kernel_rfl) ⟨ob1 rfl fun b q hk hn => ok_assign rfl (isV_int.2 rfl), trivial⟩ hQQ304 fun b q p => ?_
    exact tail_done (k := q) (hp305 _ _ ⟨Bs.post ⟨hg, hs, hd⟩ p, keep p 0 rfl i0, keep p 1 rfl i1, trivial⟩)
  rintro a k ⟨⟨hg, hs, hd⟩, i0, i1, _⟩
  refine wp_seq ?_
  refine cut (fun a' k' => Bs noF k0 32 a' k' ∧ (IsV t_) (a'.get 0) k' ∧ (IsV origin) (a'.get 1) k' ∧ (IsV (α := Int) 0) (a'.get 5) k' ∧ True) ?_ hQ ?_
  · intro Q302 hQQ302 hp303
    refine regionS (a0 := a) (k0 := k) (n := 32) (m := 1) (⟨some (IsV (α := Int) 0), []⟩ :: []) hs (by kernel_rfl) ⟨ob1 rfl fun b q hk hn => ok_assign rfl (isV_int.2 rfl), trivial⟩ hQQ302 fun b q p => ?_
    exact tail_done (k := q) (hp303 _ _ ⟨Bs.post ⟨hg, hs, hd⟩ p, keep p 0 rfl i0, keep p 1 rfl i1, out p 0 5 _ rfl rfl rfl, trivial⟩)
  rintro a k ⟨⟨hg, hs, hd⟩, i0, i1, i5, _⟩
  refine wp_seq ?_
  refine wp_seq ?_
  refine cut (fun a' k' => Bs noF k0 32 a' k' ∧ (IsV t_) (a'.get 0) k' ∧ (IsV origin) (a'.get 1) k' ∧ (IsV (α := Int) 0) (a'.get 5) k' ∧ (IsV (α := Int) 0) (a'.get 6) k' ∧ True) ?_ hQ ?_
  · intro Q300 hQQ300 hp301
    refine regionS (a0 := a) (k0 := k) (n := 32) (m := 1) (⟨some (IsV (α := Int) 0), []⟩ :: []) hs (by kernel_rfl) ⟨ob1 rfl fun b q hk hn => ok_assign rfl (isV_int.2 rfl), trivial⟩ hQQ300 fun b q p => ?_
    exact tail_done (k := q) (hp301 _ _ ⟨Bs.post ⟨hg, hs, hd⟩ p, keep p 0 rfl i0, keep p 1 rfl i1, keep p 5 rfl i5, out p 0 6 _ rfl rfl rfl, trivial⟩)
  rintro a k ⟨⟨hg, hs, hd⟩, i0, i1, i5, i6, _⟩
  refine wp_block ?_
  obtain ⟨f293, hf293, hr⟩ := bind_some hr
  refine cutFe f293 (fun s' a' k' => Bs noF k0 32 a' k' ∧ (IsV t_) (a'.get 0) k' ∧ (IsV origin) (a'.get 1) k' ∧ (IsV s'.1) (a'.get 5) k' ∧ (IsV s'.2) (a'.get 6) k' ∧ True) (fun i' s' a' k' => (i' = 0 ∧ Bs noF k0 32 a' k' ∧ (IsV s'.1) (a'.get 5) k' ∧ True)) (fun r' a' k' => bodyPost Try.prog Try.f12 (RetC noF k0 (IsV r')) .ret a' k'.w) ?_ hQ ?_ ?_ ?_
  · intro Q299 hQQ299 hgo hex hret
    refine sim_loop ?_ _ _ _ _ _ hf293 ⟨⟨hg, hs, hd⟩, i0, i1, i5, i6, trivial⟩ Q299 hQQ299 hgo hex hret
    clear hr hf293 hgo hex hret hQQ299 hQ hg hs hd i0 i1 i5 i6
    intro s272 fl_ a k hr hS Q hQ hgo273 hex274 hret275
    obtain ⟨⟨hg, hs, hd⟩, i0, i1, i5, i6, _⟩ := hS
    unfold lAdd_L0 at hr
    refine wp_seq ?_
    refine wp_seq ?_
    refine cut (fun a' k' => Bs noF k0 32 a' k' ∧ (IsV t_) (a'.get 0) k' ∧ (IsV origin) (a'.get 1) k' ∧ (IsV s272.1) (a'.get 5) k' ∧ (IsV s272.2) (a'.get 6) k' ∧ (IsV (decide (s272.2 < (t_.length : Int)))) (a'.get 10) k' ∧ True) ?_ hQ ?_
    · intro Q291 hQQ291 hp292
      refine regionS (a0 := a) (k0 := k) (n := 32) (m := 4) (⟨some (IsV s272.2), [(6, none)]⟩ :: ⟨some (IsV t_), [(0, none)]⟩ :: ⟨some (IsV (α := Int) (t_.length : Int)), [(8, some 1)]⟩ :: ⟨some (IsV (decide (s272.2 < (t_.length : Int)))), [(7, some 0), (9, some 2)]⟩ :: []) hs (by kernel_rfl) ⟨ob1 rfl fun b q hk hn => ok_move rfl (up i6 hk hn.1), ob1 rfl fun b q hk hn => ok_move rfl (up i0 hk hn.1), ob1 rfl fun b q hk hn => ok_len rfl rfl Try.underlying29 (IsV.rd hn.1), ob1 rfl fun b q hk hn => ok_lss rfl hn.1 hn.2.1, trivial⟩ hQQ291 fun b q p => ?_
      exact tail_done (k := q) (hp292 _ _ ⟨Bs.post ⟨hg, hs, hd⟩ p, keep p 0 rfl i0, keep p 1 rfl i1, keep p 5 rfl i5, keep p 6 rfl i6, out p 3 10 _ rfl rfl rfl, trivial⟩)
    rintro a k ⟨⟨hg, hs, hd⟩, i0, i1, i5, i6, i10, _⟩
    refine wp_cond_split (isBool i10) (fun hc290 => ?_) (fun hc290 => ?_)
    · rw [if_pos hc290] at hr
      refine wp_skip ?_
      refine wp_seq ?_
      refine wp_block ?_
      refine wp_seq ?_
      obtain ⟨x277_2, hx277_2, hr⟩ := bind_some hr
      refine cut (fun a' k' => Bs noF k0 32 a' k' ∧ (IsV t_) (a'.get 0) k' ∧ (IsV origin) (a'.get 1) k' ∧ (IsV s272.1) (a'.get 5) k' ∧ (IsV s272.2) (a'.get 6) k' ∧ (IsV ((x277_2.1 == origin) || (origin == 0))) (a'.get 23) k' ∧ True) ?_ hQ ?_
      · intro Q288 hQQ288 hp289
        refine regionS (a0 := a) (k0 := k) (n := 32) (m := 11) (⟨some (IsV t_), [(0, none)]⟩ :: ⟨some (IsV s272.2), [(6, none)]⟩ :: ⟨some (IsPtr x277_2), [(13, some 0), (14, some 1)]⟩ :: ⟨some (IsPtr x277_2.1), [(15, some 2)]⟩ :: ⟨some (IsV x277_2.1), [(16, some 3)]⟩ :: ⟨some (IsV origin), [(1, none)]⟩ :: ⟨some (IsV (x277_2.1 == origin)), [(17, some 4), (18, some 5)]⟩ :: ⟨some (IsV (x277_2.1 == origin)), [(19, some 6)]⟩ :: ⟨some (Gd ((x277_2.1 == origin) = false) (IsV origin)), [(1, none)]⟩ :: ⟨some (Gd ((x277_2.1 == origin) = false) (IsV (origin == 0))), [(21, some 8)]⟩ :: ⟨some (IsV ((x277_2.1 == origin) || (origin == 0))), [(20, some 7), (22, some 9)]⟩ :: []) hs (by kernel_rfl) ⟨ob1 rfl fun b q hk hn => ok_move rfl (up i0 hk hn.1), ob1 rfl fun b q hk hn => ok_move rfl (up i6 hk hn.1), ob1 rfl fun b q hk hn => ok_indexAddr rfl Try.underlying29 ty37 (IsV.rd hn.1) hn.2.1 hx277_2, ob1 rfl fun b q hk hn => ok_arrAddr (i := 0) rfl ao37 (by decide) (aat37_0 _) hn.1 (isV_int.2 rfl), ob1 rfl fun b q hk hn => ok_load rfl ty3 hn.1, ob1 rfl fun b q hk hn => ok_move rfl (up i1 hk hn.1), ob1 rfl fun b q hk hn => ok_eqI rfl hn.1 hn.2.1, ob1 rfl fun b q hk hn => ok_move rfl hn.1, gdF rfl rfl fun hp b q hk hn => ok_move rfl (up i1 hk hn.1), gdF rfl rfl fun hp b q hk hn => ok_eqI rfl (Gd.get hn.1 hp) (isV_int.2 rfl), ob1 rfl fun b q hk hn => ok_pickOr rfl hn.1 (fun _ => (isV_bool.2 rfl)) (fun hm => (Gd.get hn.2.1 hm)), trivial⟩ hQQ288 fun b q p => ?_
        exact tail_done (k := q) (hp289 _ _ ⟨Bs.post ⟨hg, hs, hd⟩ p, keep p 0 rfl i0, keep p 1 rfl i1, keep p 5 rfl i5, keep p 6 rfl i6, out p 10 23 _ rfl rfl rfl, trivial⟩)
      rintro a k ⟨⟨hg, hs, hd⟩, i0, i1, i5, i6, i23, _⟩
      obtain ⟨s278, hs278, hr⟩ := bind_some hr
      refine cut (fun a' k' => Bs noF k0 32 a' k' ∧ (IsV t_) (a'.get 0) k' ∧ (IsV origin) (a'.get 1) k' ∧ (IsV s278) (a'.get 5) k' ∧ (IsV s272.2) (a'.get 6) k' ∧ True) ?_ hQ ?_
      · intro Q287 hQQ287 hp279
        replace hr := hs278
        clear hQ
        have hQ := hQQ287
        refine wp_cond_split (isBool i23) (fun hc283 => ?_) (fun hc283 => ?_)
        · rw [if_pos hc283] at hr
          obtain ⟨x280_3, hx280_3, hr⟩ := bind_some hr
          obtain ⟨x280_6, hx280_6, hr⟩ := bind_some hr
          refine cut (fun a' k' => Bs noF k0 32 a' k' ∧ (IsV t_) (a'.get 0) k' ∧ (IsV origin) (a'.get 1) k' ∧ (IsV x280_6) (a'.get 5) k' ∧ (IsV s272.2) (a'.get 6) k' ∧ True) ?_ hQ ?_
          · intro Q281 hQQ281 hp282
            refine regionS (a0 := a) (k0 := k) (n := 32) (m := 8) (⟨some (IsV s272.1), [(5, none)]⟩ :: ⟨some (IsV t_), [(0, none)]⟩ :: ⟨some (IsV s272.2), [(6, none)]⟩ :: ⟨some (IsPtr x280_3), [(25, some 1), (26, some 2)]⟩ :: ⟨some (IsPtr x280_3.2), [(27, some 3)]⟩ :: ⟨some (IsV x280_3.2), [(28, some 4)]⟩ :: ⟨some (IsV x280_6), [(24, some 0), (29, some 5)]⟩ :: ⟨some (IsV x280_6), [(30, some 6)]⟩ :: []) hs (by kernel_rfl) ⟨ob1 rfl fun b q hk hn => ok_move rfl (up i5 hk hn.1), ob1 rfl fun b q hk hn => ok_move rfl (up i0 hk hn.1), ob1 rfl fun b q hk hn => ok_move rfl (up i6 hk hn.1), ob1 rfl fun b q hk hn => ok_indexAddr rfl Try.underlying29 ty37 (IsV.rd hn.1) hn.2.1 hx280_3, ob1 rfl fun b q hk hn => ok_arrAddr (i := 1) rfl ao37 (by decide) (aat37_1 _) hn.1 (isV_int.2 rfl), ob1 rfl fun b q hk hn => ok_load rfl ty3 hn.1, ob1 rfl fun b q hk hn => ok_add rfl hn.1 hn.2.1 hx280_6, ob1 rfl fun b q hk hn => ok_assign rfl hn.1, trivial⟩ hQQ281 fun b q p => ?_
            exact tail_done (k := q) (hp282 _ _ ⟨Bs.post ⟨hg, hs, hd⟩ p, keep p 0 rfl i0, keep p 1 rfl i1, out p 7 5 _ rfl rfl rfl, keep p 6 rfl i6, trivial⟩)
          rintro a k ⟨⟨hg, hs, hd⟩, i0, i1, i5, i6, _⟩
          obtain rfl := Option.some.inj hr
          exact hp279 _ _ ⟨⟨hg, hs, hd⟩, i0, i1, i5, i6, trivial⟩
        rw [if_neg (by rw [hc283]; decide)] at hr
        refine wp_skip ?_
        obtain rfl := Option.some.inj hr
        exact hp279 _ _ ⟨⟨hg, hs, hd⟩, i0, i1, i5, i6, trivial⟩
      clear hs278
      rintro a k ⟨⟨hg, hs, hd⟩, i0, i1, i5, i6, _⟩
      obtain ⟨x284_1, hx284_1, hr⟩ := bind_some hr
      refine cut (fun a' k' => Bs noF k0 32 a' k' ∧ (IsV t_) (a'.get 0) k' ∧ (IsV origin) (a'.get 1) k' ∧ (IsV s278) (a'.get 5) k' ∧ (IsV x284_1) (a'.get 6) k' ∧ True) ?_ hQ ?_
      · intro Q285 hQQ285 hp286
        refine regionS (a0 := a) (k0 := k) (n := 32) (m := 3) (⟨some (IsV s272.2), [(6, none)]⟩ :: ⟨some (IsV x284_1), [(11, some 0)]⟩ :: ⟨some (IsV x284_1), [(12, some 1)]⟩ :: []) hs (by kernel_rfl) ⟨ob1 rfl fun b q hk hn => ok_move rfl (up i6 hk hn.1), ob1 rfl fun b q hk hn => ok_add rfl hn.1 (isV_int.2 rfl) hx284_1, ob1 rfl fun b q hk hn => ok_assign rfl hn.1, trivial⟩ hQQ285 fun b q p => ?_
        exact tail_done (k := q) (hp286 _ _ ⟨Bs.post ⟨hg, hs, hd⟩ p, keep p 0 rfl i0, keep p 1 rfl i1, keep p 5 rfl i5, out p 2 6 _ rfl rfl rfl, trivial⟩)
      rintro a k ⟨⟨hg, hs, hd⟩, i0, i1, i5, i6, _⟩
      exact hgo273 _ _ _ (Option.some.inj hr).symm ⟨⟨hg, hs, hd⟩, i0, i1, i5, i6, trivial⟩
    rw [if_neg (by rw [hc290]; decide)] at hr
    refine wp_exit ?_
    exact hex274 _ _ _ _ (Option.some.inj hr).symm ⟨rfl, ⟨hg, hs, hd⟩, i5, trivial⟩
  · rintro r298 a k rfl hR
    dsimp only at hr
    obtain rfl := Option.some.inj hr
    exact hR
  · rintro _ _ _ rfl _
    simp at hr
  clear hf293
  rintro _ s294 a k rfl ⟨rfl, ⟨hg, hs, hd⟩, i5, _⟩
  dsimp only at hr
  refine wp_seq ?_
  refine cut (fun a' k' => Bs noF k0 32 a' k' ∧ (IsV s294.1) (a'.get 4) k' ∧ True) ?_ hQ ?_
  · intro Q296 hQQ296 hp297
    refine regionS (a0 := a) (k0 := k) (n := 32) (m := 2) (⟨some (IsV s294.1), [(5, none)]⟩ :: ⟨some (IsV s294.1), [(31, some 0)]⟩ :: []) hs (by kernel_rfl) ⟨ob1 rfl fun b q hk hn => ok_move rfl (up i5 hk hn.1), ob1 rfl fun b q hk hn => ok_assign rfl hn.1, trivial⟩ hQQ296 fun b q p => ?_
    exact tail_done (k := q) (hp297 _ _ ⟨Bs.post ⟨hg, hs, hd⟩ p, out p 1 4 _ rfl rfl rfl, trivial⟩)
  rintro a k ⟨⟨hg, hs, hd⟩, i4, _⟩
  refine wp_ret ?_
  obtain rfl := Option.some.inj hr
  exact retC1 rfl hd hg i4
def rSame_L0 (a_ : (List Account)) (b_ : (List Account)) (s312 : Int) : Option (Flow (Int) (Bool)) :=
  if (decide (s312 < (a_.length : Int))) then
    (getI a_ s312).bind fun x317_2 =>
    (getI b_ s312).bind fun x317_6 =>
    if (!decide (x317_2 = x317_6)) then
      some (.ret false)
    else
      (addI s312 1).bind fun x321_1 =>
      some (.go x321_1)
  else
    some (.ex 0 s312)
def rSame (a_ : (List Account)) (b_ : (List Account)) : Option (Bool) :=
  if ((a_.length : Int) != (b_.length : Int)) then
    some false
  else
    (iterL (rSame_L0 a_ b_) (a_.length + b_.length + 1) 0).bind fun f330 => match f330 with
      | .go _ => none
      | .ex _ _ =>
        some true
      | .ret r335 => some r335
theorem rSame_ok {k0 : K} {v0 v1 : Value} {a_ : (List Account)} {b_ : (List Account)} {r : Bool} (i0 : (IsV a_) v0 k0) (i1 : (IsV b_) v1 k0) (hr : rSame a_ b_ = some r) :
    Calls Try.prog 14 #[v0, v1] k0.w (Ret k0 (IsV r)) := by
  unfold rSame at hr
  refine Ret.ofC ?_
  refine enterK Try.func14 rfl Try.ntmps14 (show 2 ≤ 26 by decide) fun a k hk0 hs hd ha => ?_
  obtain ⟨e0, e1, _⟩ := ha
  replace i0 : (IsV a_) (a.get 0) k := by rw [e0, hk0]; exact i0
  replace i1 : (IsV b_) (a.get 1) k := by rw [e1, hk0]; exact i1
  have hQ : Gb.LetsOut (bodyPost Try.prog Try.f14 (RetC noF k0 (IsV r))) := letsOutC
  have hg : Chg noF k0 k := by rw [hk0]; exact Chg.refl _ k0
  refine wp_seq ?_
  refine cut (fun a' k' => Bs noF k0 26 a' k' ∧ (IsV a_) (a'.get 0) k' ∧ (IsV b_) (a'.get 1) k' ∧ True) ?_ hQ ?_
  · intro Q342 hQQ342 hp343
    refine regionS (a0 := a) (k0 := k) (n := 26) (m := 1) (⟨some (IsV false), []⟩ :: []) hs (by kernel_rfl) ⟨ob1 rfl fun b q hk hn => ok_assign rfl (isV_bool.2 rfl), trivial⟩ hQQ342 fun b q p => ?_
    exact tail_done (k := q) (hp343 _ _ ⟨Bs.post ⟨hg, hs, hd⟩ p, keep p 0 rfl i0, keep p 1 rfl i1, trivial⟩)
  rintro a k ⟨⟨hg, hs, hd⟩, i0, i1, _⟩
  refine wp_seq ?_
  refine wp_seq ?_
  refine cut (fun a' k' => Bs noF k0 26 a' k' ∧ (IsV a_) (a'.get 0) k' ∧ (IsV b_) (a'.get 1) k' ∧ (IsV ((a_.length : Int) != (b_.length : Int))) (a'.get 10) k' ∧ True) ?_ hQ ?_
  · intro Q340 hQQ340 hp341
    refine regionS (a0 := a) (k0 := k) (n := 26) (m := 5) (⟨some (IsV a_), [(0, none)]⟩ :: ⟨some (IsV (α := Int) (a_.length : Int)), [(6, some 0)]⟩ :: ⟨some (IsV b_), [(1, none)]⟩ :: ⟨some (IsV (α := Int) (b_.length : Int)), [(8, some 2)]⟩ :: ⟨some (IsV ((a_.length : Int) != (b_.length : Int))), [(7, some 1), (9, some 3)]⟩ :: []) hs (by kernel_rfl) ⟨ob1 rfl fun b q hk hn => ok_move rfl (up i0 hk hn.1), ob1 rfl fun b q hk hn => ok_len rfl rfl Try.underlying22 (IsV.rd hn.1), ob1 rfl fun b q hk hn => ok_move rfl (up i1 hk hn.1), ob1 rfl fun b q hk hn => ok_len rfl rfl Try.underlying22 (IsV.rd hn.1), ob1 rfl fun b q hk hn => ok_neI rfl hn.1 hn.2.1, trivial⟩ hQQ340 fun b q p => ?_
    exact tail_done (k := q) (hp341 _ _ ⟨Bs.post ⟨hg, hs, hd⟩ p, keep p 0 rfl i0, keep p 1 rfl i1, out p 4 10 _ rfl rfl rfl, trivial⟩)
  rintro a k ⟨⟨hg, hs, hd⟩, i0, i1, i10, _⟩
  refine wp_cond_split (isBool i10) (fun hc339 => ?_) (fun hc339 => ?_)
  · rw [if_pos hc339] at hr
    refine wp_seq ?_
    refine cut (fun a' k' => Bs noF k0 26 a' k' ∧ (IsV false) (a'.get 4) k' ∧ True) ?_ hQ ?_
    · intro Q309 hQQ309 hp310
      refine regionS (a0 := a) (k0 := k) (n := 26) (m := 1) (⟨some (IsV false), []⟩ :: []) hs (by kernel_rfl) ⟨ob1 rfl fun b q hk hn => ok_assign rfl (isV_bool.2 rfl), trivial⟩ hQQ309 fun b q p => ?_
      exact tail_done (k := q) (hp310 _ _ ⟨Bs.post ⟨hg, hs, hd⟩ p, out p 0 4 _ rfl rfl rfl, trivial⟩)
    rintro a k ⟨⟨hg, hs, hd⟩, i4, _⟩
    refine wp_ret ?_
    obtain rfl := Option.some.inj hr
    exact retC1 rfl hd hg i4
  rw [if_neg (by rw [hc339]; decide)] at hr
  refine wp_skip ?_
  refine wp_seq ?_
  refine wp_seq ?_
  refine cut (fun a' k' => Bs noF k0 26 a' k' ∧ (IsV a_) (a'.get 0) k' ∧ (IsV b_) (a'.get 1) k' ∧ (IsV (α := Int) 0) (a'.get 5) k' ∧ True) ?_ hQ ?_
  · intro Q337 hQQ337 hp338
    refine regionS (a0 := a) (k0 := k) (n := 26) (m := 1) (⟨some (IsV (α := Int) 0), []⟩ :: []) hs (by kernel_rfl) ⟨ob1 rfl fun b q hk hn => ok_assign rfl (isV_int.2 rfl), trivial⟩ hQQ337 fun b q p => ?_
    exact tail_done (k := q) (hp338 _ _ ⟨Bs.post ⟨hg, hs, hd⟩ p, keep p 0 rfl i0, keep p 1 rfl i1, out p 0 5 _ rfl rfl rfl, trivial⟩)
  rintro a k ⟨⟨hg, hs, hd⟩, i0, i1, i5, _⟩
  refine wp_block ?_
  obtain ⟨f330, hf330, hr⟩ := bind_some hr
  refine cutFe f330 (fun s' a' k' => Bs noF k0 26 a' k' ∧ (IsV a_) (a'.get 0) k' ∧ (IsV b_) (a'.get 1) k' ∧ (IsV s') (a'.get 5) k' ∧ True) (fun i' s' a' k' => (i' = 0 ∧ Bs noF k0 26 a' k' ∧ True)) (fun r' a' k' => bodyPost Try.prog Try.f14 (RetC noF k0 (IsV r')) .ret a' k'.w) ?_ hQ ?_ ?_ ?_
  · intro Q336 hQQ336 hgo hex hret
    refine sim_loop ?_ _ _ _ _ _ hf330 ⟨⟨hg, hs, hd⟩, i0, i1, i5, trivial⟩ Q336 hQQ336 hgo hex hret
    clear hr hf330 hgo hex hret hQQ336 hQ hg hs hd i0 i1 i5
    intro s312 fl_ a k hr hS Q hQ hgo313 hex314 hret315
    obtain ⟨⟨hg, hs, hd⟩, i0, i1, i5, _⟩ := hS
    unfold rSame_L0 at hr
    refine wp_seq ?_
    refine wp_seq ?_
    refine cut (fun a' k' => Bs noF k0 26 a' k' ∧ (IsV a_) (a'.get 0) k' ∧ (IsV b_) (a'.get 1) k' ∧ (IsV s312) (a'.get 5) k' ∧ (IsV (decide (s312 < (a_.length : Int)))) (a'.get 14) k' ∧ True) ?_ hQ ?_
    · intro Q328 hQQ328 hp329
      refine regionS (a0 := a) (k0 := k) (n := 26) (m := 4) (⟨some (IsV s312), [(5, none)]⟩ :: ⟨some (IsV a_), [(0, none)]⟩ :: ⟨some (IsV (α := Int) (a_.length : Int)), [(12, some 1)]⟩ :: ⟨some (IsV (decide (s312 < (a_.length : Int)))), [(11, some 0), (13, some 2)]⟩ :: []) hs (by kernel_rfl) ⟨ob1 rfl fun b q hk hn => ok_move rfl (up i5 hk hn.1), ob1 rfl fun b q hk hn => ok_move rfl (up i0 hk hn.1), ob1 rfl fun b q hk hn => ok_len rfl rfl Try.underlying22 (IsV.rd hn.1), ob1 rfl fun b q hk hn => ok_lss rfl hn.1 hn.2.1, trivial⟩ hQQ328 fun b q p => ?_
      exact tail_done (k := q) (hp329 _ _ ⟨Bs.post ⟨hg, hs, hd⟩ p, keep p 0 rfl i0, keep p 1 rfl i1, keep p 5 rfl i5, out p 3 14 _ rfl rfl rfl, trivial⟩)
    rintro a k ⟨⟨hg, hs, hd⟩, i0, i1, i5, i14, _⟩
    refine wp_cond_split (isBool i14) (fun hc327 => ?_) (fun hc327 => ?_)
    · rw [if_pos hc327] at hr
      refine wp_skip ?_
      refine wp_seq ?_
      refine wp_block ?_
      refine wp_seq ?_
      obtain ⟨x317_2, hx317_2, hr⟩ := bind_some hr
      obtain ⟨x317_6, hx317_6, hr⟩ := bind_some hr
      refine cut (fun a' k' => Bs noF k0 26 a' k' ∧ (IsV a_) (a'.get 0) k' ∧ (IsV b_) (a'.get 1) k' ∧ (IsV s312) (a'.get 5) k' ∧ (IsV (!decide (x317_2 = x317_6))) (a'.get 25) k' ∧ True) ?_ hQ ?_
      · intro Q325 hQQ325 hp326
        refine region (a0 := a) (k0 := k) (n := 26) (m := 9) (⟨some (IsV a_), [(0, none)]⟩ :: ⟨some (IsV s312), [(5, none)]⟩ :: ⟨some (IsPtr x317_2), [(17, some 0), (18, some 1)]⟩ :: ⟨some (IsV x317_2), [(19, some 2)]⟩ :: ⟨some (IsV b_), [(1, none)]⟩ :: ⟨some (IsV s312), [(5, none)]⟩ :: ⟨some (IsPtr x317_6), [(21, some 4), (22, some 5)]⟩ :: ⟨some (IsV x317_6), [(23, some 6)]⟩ :: ⟨some (IsV (!decide (x317_2 = x317_6))), [(20, some 3), (24, some 7)]⟩ :: []) hmix hs (by kernel_rfl) ⟨ob1 rfl fun b q hk hn => ok_move rfl (up i0 hk hn.1), ob1 rfl fun b q hk hn => ok_move rfl (up i5 hk hn.1), ob1 rfl fun b q hk hn => ok_indexAddr rfl Try.underlying22 ty35 (IsV.rd hn.1) hn.2.1 hx317_2, ob1 rfl fun b q hk hn => ok_load rfl ty35 hn.1, ob1 rfl fun b q hk hn => ok_move rfl (up i1 hk hn.1), ob1 rfl fun b q hk hn => ok_move rfl (up i5 hk hn.1), ob1 rfl fun b q hk hn => ok_indexAddr rfl Try.underlying22 ty35 (IsV.rd hn.1) hn.2.1 hx317_6, ob1 rfl fun b q hk hn => ok_load rfl ty35 hn.1, ob1 rfl fun b q hk hn => ok_neA rfl eq35 hn.1 hn.2.1, trivial⟩ hQQ325 fun b q p => ?_
        exact tail_done (k := q) (hp326 _ _ ⟨Bs.post ⟨hg, hs, hd⟩ p, keep p 0 rfl i0, keep p 1 rfl i1, keep p 5 rfl i5, out p 8 25 _ rfl rfl rfl, trivial⟩)
      rintro a k ⟨⟨hg, hs, hd⟩, i0, i1, i5, i25, _⟩
      refine wp_cond_split (isBool i25) (fun hc324 => ?_) (fun hc324 => ?_)
      · rw [if_pos hc324] at hr
        refine wp_seq ?_
        refine cut (fun a' k' => Bs noF k0 26 a' k' ∧ (IsV false) (a'.get 4) k' ∧ True) ?_ hQ ?_
        · intro Q319 hQQ319 hp320
          refine regionS (a0 := a) (k0 := k) (n := 26) (m := 1) (⟨some (IsV false), []⟩ :: []) hs (by kernel_rfl) ⟨ob1 rfl fun b q hk hn => ok_assign rfl (isV_bool.2 rfl), trivial⟩ hQQ319 fun b q p => ?_
          exact tail_done (k := q) (hp320 _ _ ⟨Bs.post ⟨hg, hs, hd⟩ p, out p 0 4 _ rfl rfl rfl, trivial⟩)
        rintro a k ⟨⟨hg, hs, hd⟩, i4, _⟩
        refine wp_ret ?_
        exact hret315 _ _ _ (Option.some.inj hr).symm (retC1 rfl hd hg i4)
      rw [if_neg (by rw [hc324]; decide)] at hr
      refine wp_skip ?_
      obtain ⟨x321_1, hx321_1, hr⟩ := bind_some hr
      refine cut (fun a' k' => Bs noF k0 26 a' k' ∧ (IsV a_) (a'.get 0) k' ∧ (IsV b_) (a'.get 1) k' ∧ (IsV x321_1) (a'.get 5) k' ∧ True) ?_ hQ ?_
      · intro Q322 hQQ322 hp323
        refine regionS (a0 := a) (k0 := k) (n := 26) (m := 3) (⟨some (IsV s312), [(5, none)]⟩ :: ⟨some (IsV x321_1), [(15, some 0)]⟩ :: ⟨some (IsV x321_1), [(16, some 1)]⟩ :: []) hs (by kernel_rfl) ⟨ob1 rfl fun b q hk hn => ok_move rfl (up i5 hk hn.1), ob1 rfl fun b q hk hn => ok_add rfl hn.1 (isV_int.2 rfl) hx321_1, ob1 rfl fun b q hk hn => ok_assign rfl hn.1, trivial⟩ hQQ322 fun b q p => ?_
        exact tail_done (k := q) (hp323 _ _ ⟨Bs.post ⟨hg, hs, hd⟩ p, keep p 0 rfl i0, keep p 1 rfl i1, out p 2 5 _ rfl rfl rfl, trivial⟩)
      rintro a k ⟨⟨hg, hs, hd⟩, i0, i1, i5, _⟩
      exact hgo313 _ _ _ (Option.some.inj hr).symm ⟨⟨hg, hs, hd⟩, i0, i1, i5, trivial⟩
    rw [if_neg (by rw [hc327]; decide)] at hr
    refine wp_exit ?_
    exact hex314 _ _ _ _ (Option.some.inj hr).symm ⟨rfl, ⟨hg, hs, hd⟩, trivial⟩
  · rintro r335 a k rfl hR
    dsimp only at hr
    obtain rfl := Option.some.inj hr
    exact hR
  · rintro _ _ _ rfl _
    simp at hr
  clear hf330
  rintro _ s331 a k rfl ⟨rfl, ⟨hg, hs, hd⟩, _⟩
  dsimp only at hr
  refine wp_seq ?_
  refine cut (fun a' k' => Bs noF k0 26 a' k' ∧ (IsV true) (a'.get 4) k' ∧ True) ?_ hQ ?_
  · intro Q333 hQQ333 hp334
    refine regionS (a0 := a) (k0 := k) (n := 26) (m := 1) (⟨some (IsV true), []⟩ :: []) hs (by kernel_rfl) ⟨ob1 rfl fun b q hk hn => ok_assign rfl (isV_bool.2 rfl), trivial⟩ hQQ333 fun b q p => ?_
    exact tail_done (k := q) (hp334 _ _ ⟨Bs.post ⟨hg, hs, hd⟩ p, out p 0 4 _ rfl rfl rfl, trivial⟩)
  rintro a k ⟨⟨hg, hs, hd⟩, i4, _⟩
  refine wp_ret ?_
  obtain rfl := Option.some.inj hr
  exact retC1 rfl hd hg i4
def rSameTrace_L0 (a_ : (List (Int × Int))) (b_ : (List (Int × Int))) (s350 : Int) : Option (Flow (Int) (Bool)) :=
  if (decide (s350 < (a_.length : Int))) then
    (getI a_ s350).bind fun x355_2 =>
    (getI b_ s350).bind fun x355_6 =>
    if (!decide (x355_2 = x355_6)) then
      some (.ret false)
    else
      (addI s350 1).bind fun x359_1 =>
      some (.go x359_1)
  else
    some (.ex 0 s350)
def rSameTrace (a_ : (List (Int × Int))) (b_ : (List (Int × Int))) : Option (Bool) :=
  if ((a_.length : Int) != (b_.length : Int)) then
    some false
  else
    (iterL (rSameTrace_L0 a_ b_) (a_.length + b_.length + 1) 0).bind fun f368 => match f368 with
      | .go _ => none
      | .ex _ _ =>
        some true
      | .ret r373 => some r373
theorem rSameTrace_ok {k0 : K} {v0 v1 : Value} {a_ : (List (Int × Int))} {b_ : (List (Int × Int))} {r : Bool} (i0 : (IsV a_) v0 k0) (i1 : (IsV b_) v1 k0) (hr : rSameTrace a_ b_ = some r) :
    Calls Try.prog 15 #[v0, v1] k0.w (Ret k0 (IsV r)) := by
  unfold rSameTrace at hr
  refine Ret.ofC ?_
  refine enterK Try.func15 rfl Try.ntmps15 (show 2 ≤ 26 by decide) fun a k hk0 hs hd ha => ?_
  obtain ⟨e0, e1, _⟩ := ha
  replace i0 : (IsV a_) (a.get 0) k := by rw [e0, hk0]; exact i0
  replace i1 : (IsV b_) (a.get 1) k := by rw [e1, hk0]; exact i1
  have hQ : Gb.LetsOut (bodyPost Try.prog Try.f15 (RetC noF k0 (IsV r))) := letsOutC
  have hg : Chg noF k0 k := by rw [hk0]; exact Chg.refl _ k0
  refine wp_seq ?_
  refine cut (fun a' k' => Bs noF k0 26 a' k' ∧ (IsV a_) (a'.get 0) k' ∧ (IsV b_) (a'.get 1) k' ∧ True) ?_ hQ ?_
  · intro Q380 hQQ380 hp381
    refine regionS (a0 := a) (k0 := k) (n := 26) (m := 1) (⟨some (IsV false), []⟩ :: []) hs (by kernel_rfl) ⟨ob1 rfl fun b q hk hn => ok_assign rfl (isV_bool.2 rfl), trivial⟩ hQQ380 fun b q p => ?_
    exact tail_done (k := q) (hp381 _ _ ⟨Bs.post ⟨hg, hs, hd⟩ p, keep p 0 rfl i0, keep p 1 rfl i1, trivial⟩)
  rintro a k ⟨⟨hg, hs, hd⟩, i0, i1, _⟩
  refine wp_seq ?_
  refine wp_seq ?_
  refine cut (fun a' k' => Bs noF k0 26 a' k' ∧ (IsV a_) (a'.get 0) k' ∧ (IsV b_) (a'.get 1) k' ∧ (IsV ((a_.length : Int) != (b_.length : Int))) (a'.get 10) k' ∧ True) ?_ hQ ?_
  · intro Q378 hQQ378 hp379
    refine regionS (a0 := a) (k0 := k) (n := 26) (m := 5) (⟨some (IsV a_), [(0, none)]⟩ :: ⟨some (IsV (α := Int) (a_.length : Int)), [(6, some 0)]⟩ :: ⟨some (IsV b_), [(1, none)]⟩ :: ⟨some (IsV (α := Int) (b_.length : Int)), [(8, some 2)]⟩ :: ⟨some (IsV ((a_.length : Int) != (b_.length : Int))), [(7, some 1), (9, some 3)]⟩ :: []) hs (by kernel_rfl) ⟨ob1 rfl fun b q hk hn => ok_move rfl (up i0 hk hn.1), ob1 rfl fun b q hk hn => ok_len rfl rfl Try.underlying29 (IsV.rd hn.1), ob1 rfl fun b q hk hn => ok_move rfl (up i1 hk hn.1), ob1 rfl fun b q hk hn => ok_len rfl rfl Try.underlying29 (IsV.rd hn.1), ob1 rfl fun b q hk hn => ok_neI rfl hn.1 hn.2.1, trivial⟩ hQQ378 fun b q p => ?_
    exact tail_done (k := q) (hp379 _ _ ⟨Bs.post ⟨hg, hs, hd⟩ p, keep p 0 rfl i0, keep p 1 rfl i1, out p 4 10 _ rfl rfl rfl, trivial⟩)
  rintro a k ⟨⟨hg, hs, hd⟩, i0, i1, i10, _⟩
  refine wp_cond_split (isBool i10) (fun hc377 => ?_) (fun hc377 => ?_)
  · rw [if_pos hc377] at hr
    refine wp_seq ?_
    refine cut (fun a' k' => Bs noF k0 26 a' k' ∧ (IsV false) (a'.get 4) k' ∧ True) ?_ hQ ?_
    · intro Q347 hQQ347 hp348
      refine regionS (a0 := a) (k0 := k) (n := 26) (m := 1) (⟨some (IsV false), []⟩ :: []) hs (by kernel_rfl) ⟨ob1 rfl fun b q hk hn => ok_assign rfl (isV_bool.2 rfl), trivial⟩ hQQ347 fun b q p => ?_
      exact tail_done (k := q) (hp348 _ _ ⟨Bs.post ⟨hg, hs, hd⟩ p, out p 0 4 _ rfl rfl rfl, trivial⟩)
    rintro a k ⟨⟨hg, hs, hd⟩, i4, _⟩
    refine wp_ret ?_
    obtain rfl := Option.some.inj hr
    exact retC1 rfl hd hg i4
  rw [if_neg (by rw [hc377]; decide)] at hr
  refine wp_skip ?_
  refine wp_seq ?_
  refine wp_seq ?_
  refine cut (fun a' k' => Bs noF k0 26 a' k' ∧ (IsV a_) (a'.get 0) k' ∧ (IsV b_) (a'.get 1) k' ∧ (IsV (α := Int) 0) (a'.get 5) k' ∧ True) ?_ hQ ?_
  · intro Q375 hQQ375 hp376
    refine regionS (a0 := a) (k0 := k) (n := 26) (m := 1) (⟨some (IsV (α := Int) 0), []⟩ :: []) hs (by kernel_rfl) ⟨ob1 rfl fun b q hk hn => ok_assign rfl (isV_int.2 rfl), trivial⟩ hQQ375 fun b q p => ?_
    exact tail_done (k := q) (hp376 _ _ ⟨Bs.post ⟨hg, hs, hd⟩ p, keep p 0 rfl i0, keep p 1 rfl i1, out p 0 5 _ rfl rfl rfl, trivial⟩)
  rintro a k ⟨⟨hg, hs, hd⟩, i0, i1, i5, _⟩
  refine wp_block ?_
  obtain ⟨f368, hf368, hr⟩ := bind_some hr
  refine cutFe f368 (fun s' a' k' => Bs noF k0 26 a' k' ∧ (IsV a_) (a'.get 0) k' ∧ (IsV b_) (a'.get 1) k' ∧ (IsV s') (a'.get 5) k' ∧ True) (fun i' s' a' k' => (i' = 0 ∧ Bs noF k0 26 a' k' ∧ True)) (fun r' a' k' => bodyPost Try.prog Try.f15 (RetC noF k0 (IsV r')) .ret a' k'.w) ?_ hQ ?_ ?_ ?_
  · intro Q374 hQQ374 hgo hex hret
    refine sim_loop ?_ _ _ _ _ _ hf368 ⟨⟨hg, hs, hd⟩, i0, i1, i5, trivial⟩ Q374 hQQ374 hgo hex hret
    clear hr hf368 hgo hex hret hQQ374 hQ hg hs hd i0 i1 i5
    intro s350 fl_ a k hr hS Q hQ hgo351 hex352 hret353
    obtain ⟨⟨hg, hs, hd⟩, i0, i1, i5, _⟩ := hS
    unfold rSameTrace_L0 at hr
    refine wp_seq ?_
    refine wp_seq ?_
    refine cut (fun a' k' => Bs noF k0 26 a' k' ∧ (IsV a_) (a'.get 0) k' ∧ (IsV b_) (a'.get 1) k' ∧ (IsV s350) (a'.get 5) k' ∧ (IsV (decide (s350 < (a_.length : Int)))) (a'.get 14) k' ∧ True) ?_ hQ ?_
    · intro Q366 hQQ366 hp367
      refine regionS (a0 := a) (k0 := k) (n := 26) (m := 4) (⟨some (IsV s350), [(5, none)]⟩ :: ⟨some (IsV a_), [(0, none)]⟩ :: ⟨some (IsV (α := Int) (a_.length : Int)), [(12, some 1)]⟩ :: ⟨some (IsV (decide (s350 < (a_.length : Int)))), [(11, some 0), (13, some 2)]⟩ :: []) hs (by kernel_rfl) ⟨ob1 rfl fun b q hk hn => ok_move rfl (up i5 hk hn.1), ob1 rfl fun b q hk hn => ok_move rfl (up i0 hk hn.1), ob1 rfl fun b q hk hn => ok_len rfl rfl Try.underlying29 (IsV.rd hn.1), ob1 rfl fun b q hk hn => ok_lss rfl hn.1 hn.2.1, trivial⟩ hQQ366 fun b q p => ?_
      exact tail_done (k := q) (hp367 _ _ ⟨Bs.post ⟨hg, hs, hd⟩ p, keep p 0 rfl i0, keep p 1 rfl i1, keep p 5 rfl i5, out p 3 14 _ rfl rfl rfl, trivial⟩)
    rintro a k ⟨⟨hg, hs, hd⟩, i0, i1, i5, i14, _⟩
    refine wp_cond_split (isBool i14) (fun hc365 => ?_) (fun hc365 => ?_)
    · rw [if_pos hc365] at hr
      refine wp_skip ?_
      refine wp_seq ?_
      refine wp_block ?_
      refine wp_seq ?_
      obtain ⟨x355_2, hx355_2, hr⟩ := bind_some hr
      obtain ⟨x355_6, hx355_6, hr⟩ := bind_some hr
      refine cut (fun a' k' => Bs noF k0 26 a' k' ∧ (IsV a_) (a'.get 0) k' ∧ (IsV b_) (a'.get 1) k' ∧ (IsV s350) (a'.get 5) k' ∧ (IsV (!decide (x355_2 = x355_6))) (a'.get 25) k' ∧ True) ?_ hQ ?_
      · intro Q363 hQQ363 hp364
        refine region (a0 := a) (k0 := k) (n := 26) (m := 9) (⟨some (IsV a_), [(0, none)]⟩ :: ⟨some (IsV s350), [(5, none)]⟩ :: ⟨some (IsPtr x355_2), [(17, some 0), (18, some 1)]⟩ :: ⟨some (IsV x355_2), [(19, some 2)]⟩ :: ⟨some (IsV b_), [(1, none)]⟩ :: ⟨some (IsV s350), [(5, none)]⟩ :: ⟨some (IsPtr x355_6), [(21, some 4), (22, some 5)]⟩ :: ⟨some (IsV x355_6), [(23, some 6)]⟩ :: ⟨some (IsV (!decide (x355_2 = x355_6))), [(20, some 3), (24, some 7)]⟩ :: []) hmix hs (by kernel_rfl) ⟨ob1 rfl fun b q hk hn => ok_move rfl (up i0 hk hn.1), ob1 rfl fun b q hk hn => ok_move rfl (up i5 hk hn.1), ob1 rfl fun b q hk hn => ok_indexAddr rfl Try.underlying29 ty37 (IsV.rd hn.1) hn.2.1 hx355_2, ob1 rfl fun b q hk hn => ok_load rfl ty37 hn.1, ob1 rfl fun b q hk hn => ok_move rfl (up i1 hk hn.1), ob1 rfl fun b q hk hn => ok_move rfl (up i5 hk hn.1), ob1 rfl fun b q hk hn => ok_indexAddr rfl Try.underlying29 ty37 (IsV.rd hn.1) hn.2.1 hx355_6, ob1 rfl fun b q hk hn => ok_load rfl ty37 hn.1, ob1 rfl fun b q hk hn => ok_neA rfl eq37 hn.1 hn.2.1, trivial⟩ hQQ363 fun b q p => ?_
        exact tail_done (k := q) (hp364 _ _ ⟨Bs.post ⟨hg, hs, hd⟩ p, keep p 0 rfl i0, keep p 1 rfl i1, keep p 5 rfl i5, out p 8 25 _ rfl rfl rfl, trivial⟩)
      rintro a k ⟨⟨hg, hs, hd⟩, i0, i1, i5, i25, _⟩
      refine wp_cond_split (isBool i25) (fun hc362 => ?_) (fun hc362 => ?_)
      · rw [if_pos hc362] at hr
        refine wp_seq ?_
        refine cut (fun a' k' => Bs noF k0 26 a' k' ∧ (IsV false) (a'.get 4) k' ∧ True) ?_ hQ ?_
        · intro Q357 hQQ357 hp358
          refine regionS (a0 := a) (k0 := k) (n := 26) (m := 1) (⟨some (IsV false), []⟩ :: []) hs (by kernel_rfl) ⟨ob1 rfl fun b q hk hn => ok_assign rfl (isV_bool.2 rfl), trivial⟩ hQQ357 fun b q p => ?_
          exact tail_done (k := q) (hp358 _ _ ⟨Bs.post ⟨hg, hs, hd⟩ p, out p 0 4 _ rfl rfl rfl, trivial⟩)
        rintro a k ⟨⟨hg, hs, hd⟩, i4, _⟩
        refine wp_ret ?_
        exact hret353 _ _ _ (Option.some.inj hr).symm (retC1 rfl hd hg i4)
      rw [if_neg (by rw [hc362]; decide)] at hr
      refine wp_skip ?_
      obtain ⟨x359_1, hx359_1, hr⟩ := bind_some hr
      refine cut (fun a' k' => Bs noF k0 26 a' k' ∧ (IsV a_) (a'.get 0) k' ∧ (IsV b_) (a'.get 1) k' ∧ (IsV x359_1) (a'.get 5) k' ∧ True) ?_ hQ ?_
      · intro Q360 hQQ360 hp361
        refine regionS (a0 := a) (k0 := k) (n := 26) (m := 3) (⟨some (IsV s350), [(5, none)]⟩ :: ⟨some (IsV x359_1), [(15, some 0)]⟩ :: ⟨some (IsV x359_1), [(16, some 1)]⟩ :: []) hs (by kernel_rfl) ⟨ob1 rfl fun b q hk hn => ok_move rfl (up i5 hk hn.1), ob1 rfl fun b q hk hn => ok_add rfl hn.1 (isV_int.2 rfl) hx359_1, ob1 rfl fun b q hk hn => ok_assign rfl hn.1, trivial⟩ hQQ360 fun b q p => ?_
        exact tail_done (k := q) (hp361 _ _ ⟨Bs.post ⟨hg, hs, hd⟩ p, keep p 0 rfl i0, keep p 1 rfl i1, out p 2 5 _ rfl rfl rfl, trivial⟩)
      rintro a k ⟨⟨hg, hs, hd⟩, i0, i1, i5, _⟩
      exact hgo351 _ _ _ (Option.some.inj hr).symm ⟨⟨hg, hs, hd⟩, i0, i1, i5, trivial⟩
    rw [if_neg (by rw [hc365]; decide)] at hr
    refine wp_exit ?_
    exact hex352 _ _ _ _ (Option.some.inj hr).symm ⟨rfl, ⟨hg, hs, hd⟩, trivial⟩
  · rintro r373 a k rfl hR
    dsimp only at hr
    obtain rfl := Option.some.inj hr
    exact hR
  · rintro _ _ _ rfl _
    simp at hr
  clear hf368
  rintro _ s369 a k rfl ⟨rfl, ⟨hg, hs, hd⟩, _⟩
  dsimp only at hr
  refine wp_seq ?_
  refine cut (fun a' k' => Bs noF k0 26 a' k' ∧ (IsV true) (a'.get 4) k' ∧ True) ?_ hQ ?_
  · intro Q371 hQQ371 hp372
    refine regionS (a0 := a) (k0 := k) (n := 26) (m := 1) (⟨some (IsV true), []⟩ :: []) hs (by kernel_rfl) ⟨ob1 rfl fun b q hk hn => ok_assign rfl (isV_bool.2 rfl), trivial⟩ hQQ371 fun b q p => ?_
    exact tail_done (k := q) (hp372 _ _ ⟨Bs.post ⟨hg, hs, hd⟩ p, out p 0 4 _ rfl rfl rfl, trivial⟩)
  rintro a k ⟨⟨hg, hs, hd⟩, i4, _⟩
  refine wp_ret ?_
  obtain rfl := Option.some.inj hr
  exact retC1 rfl hd hg i4
def rDo_L0 (m_ : Move) (s401 : (List Account) × Int) : Option (Flow ((List Account) × Int) ((List Account) × Int)) :=
  (if (decide (0 < s401.2)) then
    (subI s401.2 1).bind fun x405_5 =>
    (getI s401.1 x405_5).bind fun x405_6 =>
    some (decide (m_.To < x405_6.Lot))
  else
    some false).bind fun x405_12 =>
  if x405_12 then
    (subI s401.2 1).bind fun x406_4 =>
    (getI s401.1 x406_4).bind fun x406_5 =>
    (getI s401.1 s401.2).bind fun x406_7 =>
    (some (s401.1.set (s401.2).toNat x406_5)).bind fun x406_8 =>
    (subI s401.2 1).bind fun x407_1 =>
    some (.go (x406_8, x407_1))
  else
    some (.ex 0 (s401.1, s401.2))
def rDo (l_ : (List Account)) (m_ : Move) : Option ((List Account) × Int) :=
  (rRight l_).bind fun x383_1 =>
  (if (!x383_1) then
    some true
  else
    (rValid m_).bind fun x383_5 =>
    some (!x383_5)).bind fun x383_7 =>
  if x383_7 then
    some (([] : List Account), 1)
  else
    (rAt l_ m_.From).bind fun x387_3 =>
    (rAt l_ m_.To).bind fun x388_3 =>
    (appI [] l_).bind fun x389_2 =>
    if (m_.Kind == 0) then
      if (decide (0 ≤ x388_3)) then
        some (([] : List Account), 5)
      else
        if (decide (20000 ≤ (l_.length : Int))) then
          some (([] : List Account), 6)
        else
          (appI x389_2 ([(⟨0, 0, false⟩ : Account)])).bind fun x400_3 =>
          (iterL (rDo_L0 m_) (x400_3.length + 1) (x400_3, (x389_2.length : Int))).bind fun f415 => match f415 with
            | .go _ => none
            | .ex _ s416 =>
              (getI s416.1 s416.2).bind fun x417_10 =>
              (some (s416.1.set (s416.2).toNat (⟨m_.To, m_.N, (m_.From == 1)⟩ : Account))).bind fun x417_11 =>
              some (x417_11, 0)
            | .ret r424 => some r424
    else
      if ((decide (x387_3 < 0)) || ((m_.Kind == 1) && (decide (x388_3 < 0)))) then
        some (([] : List Account), 4)
      else
        (if (m_.Kind == 1) then
          (getI l_ (max x388_3 0)).bind fun x440_7 =>
          some (!x440_7.Receives)
        else
          some false).bind fun x440_11 =>
        if x440_11 then
          some (([] : List Account), 24)
        else
          (getI l_ x387_3).bind fun x444_2 =>
          if (decide (x444_2.Units < m_.N)) then
            some (([] : List Account), 23)
          else
            (if (m_.Kind == 1) then
              (getI l_ (max x388_3 0)).bind fun x448_7 =>
              (addI x448_7.Units m_.N).bind fun x448_12 =>
              some (decide (1073741824 < x448_12))
            else
              some false).bind fun x448_14 =>
            if x448_14 then
              some (([] : List Account), 6)
            else
              (getI x389_2 x387_3).bind fun x452_4 =>
              (subI x452_4.Units m_.N).bind fun x452_9 =>
              (getI x389_2 x387_3).bind fun x452_10 =>
              (some (x389_2.set (x387_3).toNat ({ x452_10 with Units := x452_9 }))).bind fun x452_12 =>
              (if (m_.Kind == 1) then
                (getI x452_12 x388_3).bind fun x456_4 =>
                (addI x456_4.Units m_.N).bind fun x456_9 =>
                (getI x452_12 x388_3).bind fun x456_10 =>
                (some (x452_12.set (x388_3).toNat ({ x456_10 with Units := x456_9 }))).bind fun x456_12 =>
                some x456_12
              else
                some x452_12).bind fun s454 =>
              some (s454, 0)
theorem rDo_ok {k0 : K} {v0 v1 : Value} {l_ : (List Account)} {m_ : Move} {r : (List Account) × Int} (i0 : (IsV l_) v0 k0) (i1 : (IsV m_) v1 k0) (hr : rDo l_ m_ = some r) :
    Calls Try.prog 23 #[v0, v1] k0.w (Ret k0 (IsTup2 (IsV r.1) (IsV r.2))) := by
  unfold rDo at hr
  refine Ret.ofC ?_
  refine enterK Try.func23 rfl Try.ntmps23 (show 2 ≤ 152 by decide) fun a k hk0 hs hd ha => ?_
  obtain ⟨e0, e1, _⟩ := ha
  replace i0 : (IsV l_) (a.get 0) k := by rw [e0, hk0]; exact i0
  replace i1 : (IsV m_) (a.get 1) k := by rw [e1, hk0]; exact i1
  have hQ : Gb.LetsOut (bodyPost Try.prog Try.f23 (RetC noF k0 (IsTup2 (IsV r.1) (IsV r.2)))) := letsOutC
  have hg : Chg noF k0 k := by rw [hk0]; exact Chg.refl _ k0
  refine wp_seq ?_
  refine cut (fun a' k' => Bs noF k0 152 a' k' ∧ (IsV l_) (a'.get 0) k' ∧ (IsRef m_) (a'.get 3) k' ∧ True) ?_ hQ ?_
  · intro Q494 hQQ494 hp495
    refine regionS (a0 := a) (k0 := k) (n := 152) (m := 3) (⟨some (IsBox k.w.heap.size m_), [(1, none)]⟩ :: ⟨some IsE0, []⟩ :: ⟨some (IsV (α := Int) 0), []⟩ :: []) hs (by kernel_rfl) ⟨ob1 rfl fun b q hk hn => ok_box _ hk.size rfl (up i1 hk hn.1), ob1 rfl fun b q hk hn => ok_assign rfl isE0_nil, ob1 rfl fun b q hk hn => ok_assign rfl (isV_int.2 rfl), trivial⟩ hQQ494 fun b q p => ?_
    have hgq := hg.then p.grow
    have hsb := p.size.trans hs
    have hdb := p.defers.trans hd
    have j0 := keep p 0 rfl i0
    obtain ⟨b3, j3, x3, z3⟩ : (IsBox k.w.heap.size m_) (b.get 3) q := out p 0 3 _ rfl rfl rfl
    replace x3 : Lo k (Eq b3) := Lo.eq x3
    have y3 : Lo k0 (Eq b3) := x3.chg hg
    obtain ⟨q2, hsh, jn⟩ := z3.give
    replace j0 := Pers.pers hsh.le j0
    rw [← j3] at jn
    replace j3 := jn
    replace hgq := hgq.hand hsh y3.wr
    rw [← hsh.w]
    clear hsh
    obtain ⟨q, hqq⟩ : ∃ q, q = q2 := ⟨q2, rfl⟩
    subst hqq
    exact tail_done (k := q) (hp495 _ _ ⟨⟨hgq, hsb, hdb⟩, j0, j3, trivial⟩)
  rintro a k ⟨⟨hg, hs, hd⟩, i0, i3, _⟩
  refine wp_seq ?_
  refine wp_seq ?_
  obtain ⟨x383_1, hx383_1, hr⟩ := bind_some hr
  obtain ⟨x383_7, hx383_7, hr⟩ := bind_some hr
  obtain ⟨x383_5, hx383_5, hx383_7⟩ := ite_bindF hx383_7
  refine cut (fun a' k' => Bs noF k0 152 a' k' ∧ (IsV l_) (a'.get 0) k' ∧ (IsRef m_) (a'.get 3) k' ∧ (IsV x383_7) (a'.get 17) k' ∧ True) ?_ hQ ?_
  · intro Q492 hQQ492 hp493
    refine regionS (a0 := a) (k0 := k) (n := 152) (m := 8) (⟨some (IsV l_), [(0, none)]⟩ :: ⟨some (IsV x383_1), [(10, some 0)]⟩ :: ⟨some (IsV (!x383_1)), [(11, some 1)]⟩ :: ⟨some (IsV (!x383_1)), [(12, some 2)]⟩ :: ⟨some (Gd ((!x383_1) = false) (IsV m_)), [(3, none)]⟩ :: ⟨some (Gd ((!x383_1) = false) (IsV x383_5)), [(14, some 4)]⟩ :: ⟨some (Gd ((!x383_1) = false) (IsV (!x383_5))), [(15, some 5)]⟩ :: ⟨some (IsV x383_7), [(13, some 3), (16, some 6)]⟩ :: []) hs (by kernel_rfl) ⟨ob1 rfl fun b q hk hn => ok_move rfl (up i0 hk hn.1), ob1 rfl fun b q hk hn => ok_call rfl Try.call18 (rRight_ok hn.1 hx383_1), ob1 rfl fun b q hk hn => ok_not rfl hn.1, ob1 rfl fun b q hk hn => ok_move rfl hn.1, gdF rfl rfl fun hp b q hk hn => ok_load rfl ty33 ((up i3 hk hn.1)).ptr, gdF rfl rfl fun hp b q hk hn => ok_call rfl Try.call33 (rValid_ok (Gd.get hn.1 hp) (hx383_5 hp)), gdF rfl rfl fun hp b q hk hn => ok_not rfl (Gd.get hn.1 hp), ob1 rfl fun b q hk hn => ok_pickM rfl hn.1 hx383_7 (fun _ => (isV_bool.2 rfl)) (fun hm => (Gd.get hn.2.1 hm)), trivial⟩ hQQ492 fun b q p => ?_
    exact tail_done (k := q) (hp493 _ _ ⟨Bs.post ⟨hg, hs, hd⟩ p, keep p 0 rfl i0, keep p 3 rfl i3, out p 7 17 _ rfl rfl rfl, trivial⟩)
  rintro a k ⟨⟨hg, hs, hd⟩, i0, i3, i17, _⟩
  refine wp_cond_split (isBool i17) (fun hc491 => ?_) (fun hc491 => ?_)
  · rw [if_pos hc491] at hr
    refine wp_seq ?_
    refine cut (fun a' k' => Bs noF k0 152 a' k' ∧ (IsV ([] : List Account)) (a'.get 4) k' ∧ (IsV (α := Int) 1) (a'.get 5) k' ∧ True) ?_ hQ ?_
    · intro Q385 hQQ385 hp386
      refine regionS (a0 := a) (k0 := k) (n := 152) (m := 2) (⟨some IsE0, []⟩ :: ⟨some (IsV (α := Int) 1), []⟩ :: []) hs (by kernel_rfl) ⟨ob1 rfl fun b q hk hn => ok_assign rfl isE0_nil, ob1 rfl fun b q hk hn => ok_assign rfl (isV_int.2 rfl), trivial⟩ hQQ385 fun b q p => ?_
      have hgq := hg.then p.grow
      have hsb := p.size.trans hs
      have hdb := p.defers.trans hd
      have j4 : IsE0 (b.get 4) q := out p 0 4 _ rfl rfl rfl
      have j5 : (IsV (α := Int) 1) (b.get 5) q := out p 1 5 _ rfl rfl rfl
      replace j4 : IsV ([] : List Account) (b.get 4) q := j4.isV
      exact tail_done (k := q) (hp386 _ _ ⟨⟨hgq, hsb, hdb⟩, j4, j5, trivial⟩)
    rintro a k ⟨⟨hg, hs, hd⟩, i4, i5, _⟩
    refine wp_ret ?_
    obtain rfl := Option.some.inj hr
    exact retC2 rfl hd hg i4 i5
  rw [if_neg (by rw [hc491]; decide)] at hr
  refine wp_skip ?_
  refine wp_seq ?_
  obtain ⟨x387_3, hx387_3, hr⟩ := bind_some hr
  refine cut (fun a' k' => Bs noF k0 152 a' k' ∧ (IsV l_) (a'.get 0) k' ∧ (IsRef m_) (a'.get 3) k' ∧ (IsV x387_3) (a'.get 6) k' ∧ True) ?_ hQ ?_
  · intro Q489 hQQ489 hp490
    refine regionS (a0 := a) (k0 := k) (n := 152) (m := 5) (⟨some (IsV l_), [(0, none)]⟩ :: ⟨some (IsPtr m_.From), [(3, none)]⟩ :: ⟨some (IsV m_.From), [(19, some 1)]⟩ :: ⟨some (IsV x387_3), [(18, some 0), (20, some 2)]⟩ :: ⟨some (IsV x387_3), [(21, some 3)]⟩ :: []) hs (by kernel_rfl) ⟨ob1 rfl fun b q hk hn => ok_move rfl (up i0 hk hn.1), ob1 rfl fun b q hk hn => ok_fieldAddr rfl fo33_1 (at_Move_1 _) ((up i3 hk hn.1)).ptr, ob1 rfl fun b q hk hn => ok_load rfl ty3 hn.1, ob1 rfl fun b q hk hn => ok_call rfl Try.call32 (rAt_ok hn.1 hn.2.1 hx387_3), ob1 rfl fun b q hk hn => ok_assign rfl hn.1, trivial⟩ hQQ489 fun b q p => ?_
    exact tail_done (k := q) (hp490 _ _ ⟨Bs.post ⟨hg, hs, hd⟩ p, keep p 0 rfl i0, keep p 3 rfl i3, out p 4 6 _ rfl rfl rfl, trivial⟩)
  rintro a k ⟨⟨hg, hs, hd⟩, i0, i3, i6, _⟩
  refine wp_seq ?_
  obtain ⟨x388_3, hx388_3, hr⟩ := bind_some hr
  refine cut (fun a' k' => Bs noF k0 152 a' k' ∧ (IsV l_) (a'.get 0) k' ∧ (IsRef m_) (a'.get 3) k' ∧ (IsV x387_3) (a'.get 6) k' ∧ (IsV x388_3) (a'.get 7) k' ∧ True) ?_ hQ ?_
  · intro Q487 hQQ487 hp488
    refine regionS (a0 := a) (k0 := k) (n := 152) (m := 5) (⟨some (IsV l_), [(0, none)]⟩ :: ⟨some (IsPtr m_.To), [(3, none)]⟩ :: ⟨some (IsV m_.To), [(23, some 1)]⟩ :: ⟨some (IsV x388_3), [(22, some 0), (24, some 2)]⟩ :: ⟨some (IsV x388_3), [(25, some 3)]⟩ :: []) hs (by kernel_rfl) ⟨ob1 rfl fun b q hk hn => ok_move rfl (up i0 hk hn.1), ob1 rfl fun b q hk hn => ok_fieldAddr rfl fo33_2 (at_Move_2 _) ((up i3 hk hn.1)).ptr, ob1 rfl fun b q hk hn => ok_load rfl ty3 hn.1, ob1 rfl fun b q hk hn => ok_call rfl Try.call32 (rAt_ok hn.1 hn.2.1 hx388_3), ob1 rfl fun b q hk hn => ok_assign rfl hn.1, trivial⟩ hQQ487 fun b q p => ?_
    exact tail_done (k := q) (hp488 _ _ ⟨Bs.post ⟨hg, hs, hd⟩ p, keep p 0 rfl i0, keep p 3 rfl i3, keep p 6 rfl i6, out p 4 7 _ rfl rfl rfl, trivial⟩)
  rintro a k ⟨⟨hg, hs, hd⟩, i0, i3, i6, i7, _⟩
  refine wp_seq ?_
  obtain ⟨x389_2, hx389_2, hr⟩ := bind_some hr
  refine cut (fun a' k' => Bs noF k0 152 a' k' ∧ (IsV l_) (a'.get 0) k' ∧ (IsRef m_) (a'.get 3) k' ∧ (IsV x387_3) (a'.get 6) k' ∧ (IsV x388_3) (a'.get 7) k' ∧ IsOwn 0 35 x389_2 (a'.get 8) k' ∧ Lo k0 (obF (a'.get 8)) ∧ True) ?_ hQ ?_
  · intro Q485 hQQ485 hp486
    refine regionS (a0 := a) (k0 := k) (n := 152) (m := 4) (⟨some IsE0, []⟩ :: ⟨some (IsV l_), [(0, none)]⟩ :: ⟨some (IsOwn k.w.heap.size 35 x389_2), [(26, some 0), (27, some 1)]⟩ :: ⟨some (IsOwn k.w.heap.size 35 x389_2), [(28, some 2)]⟩ :: []) hs (by kernel_rfl) ⟨ob1 rfl fun b q hk hn => ok_buildSlice0 rfl Try.underlying22 eo35, ob1 rfl fun b q hk hn => ok_move rfl (up i0 hk hn.1), ob1 rfl fun b q hk hn => ok_append0 rfl Try.underlying22 eo35 hk.size hn.1 (IsV.rd hn.2.1) hx389_2, ob1 rfl fun b q hk hn => ok_assign rfl hn.1, trivial⟩ hQQ485 fun b q p => ?_
    have hgq := hg.then p.grow
    have hsb := p.size.trans hs
    have hdb := p.defers.trans hd
    have j0 := keep p 0 rfl i0
    have j3 := keep p 3 rfl i3
    have j6 := keep p 6 rfl i6
    have j7 := keep p 7 rfl i7
    have j8 : (IsOwn k.w.heap.size 35 x389_2) (b.get 8) q := out p 3 8 _ rfl rfl rfl
    have x8 : Lo k (obF (b.get 8)) := j8.loF
    have y8 := x8.chg hg
    replace j8 := j8.weaken (Nat.zero_le _)
    exact tail_done (k := q) (hp486 _ _ ⟨⟨hgq, hsb, hdb⟩, j0, j3, j6, j7, j8, y8, trivial⟩)
  rintro a k ⟨⟨hg, hs, hd⟩, i0, i3, i6, i7, i8, n8, _⟩
  refine wp_seq ?_
  refine wp_seq ?_
  refine cut (fun a' k' => Bs noF k0 152 a' k' ∧ (IsV l_) (a'.get 0) k' ∧ (IsRef m_) (a'.get 3) k' ∧ (IsV x387_3) (a'.get 6) k' ∧ (IsV x388_3) (a'.get 7) k' ∧ IsOwn 0 35 x389_2 (a'.get 8) k' ∧ Lo k0 (obF (a'.get 8)) ∧ (IsV (m_.Kind == 0)) (a'.get 31) k' ∧ True) ?_ hQ ?_
  · intro Q483 hQQ483 hp484
    refine regionS (a0 := a) (k0 := k) (n := 152) (m := 3) (⟨some (IsPtr m_.Kind), [(3, none)]⟩ :: ⟨some (IsV m_.Kind), [(29, some 0)]⟩ :: ⟨some (IsV (m_.Kind == 0)), [(30, some 1)]⟩ :: []) hs (by kernel_rfl) ⟨ob1 rfl fun b q hk hn => ok_fieldAddr rfl fo33_0 (at_Move_0 _) ((up i3 hk hn.1)).ptr, ob1 rfl fun b q hk hn => ok_load rfl ty3 hn.1, ob1 rfl fun b q hk hn => ok_eqI rfl hn.1 (isV_int.2 rfl), trivial⟩ hQQ483 fun b q p => ?_
    exact tail_done (k := q) (hp484 _ _ ⟨Bs.post ⟨hg, hs, hd⟩ p, keep p 0 rfl i0, keep p 3 rfl i3, keep p 6 rfl i6, keep p 7 rfl i7, keep p 8 rfl i8, (by rw [p.old 8 rfl]; exact n8), out p 2 31 _ rfl rfl rfl, trivial⟩)
  rintro a k ⟨⟨hg, hs, hd⟩, i0, i3, i6, i7, i8, n8, i31, _⟩
  refine wp_cond_split (isBool i31) (fun hc482 => ?_) (fun hc482 => ?_)
  · rw [if_pos hc482] at hr
    refine wp_seq ?_
    refine wp_seq ?_
    refine cut (fun a' k' => Bs noF k0 152 a' k' ∧ (IsV l_) (a'.get 0) k' ∧ (IsRef m_) (a'.get 3) k' ∧ IsOwn 0 35 x389_2 (a'.get 8) k' ∧ Lo k0 (obF (a'.get 8)) ∧ (IsV (decide (0 ≤ x388_3))) (a'.get 33) k' ∧ True) ?_ hQ ?_
    · intro Q434 hQQ434 hp435
      refine regionS (a0 := a) (k0 := k) (n := 152) (m := 2) (⟨some (IsV x388_3), [(7, none)]⟩ :: ⟨some (IsV (decide (0 ≤ x388_3))), [(32, some 0)]⟩ :: []) hs (by kernel_rfl) ⟨ob1 rfl fun b q hk hn => ok_move rfl (up i7 hk hn.1), ob1 rfl fun b q hk hn => ok_geq rfl hn.1 (isV_int.2 rfl), trivial⟩ hQQ434 fun b q p => ?_
      exact tail_done (k := q) (hp435 _ _ ⟨Bs.post ⟨hg, hs, hd⟩ p, keep p 0 rfl i0, keep p 3 rfl i3, keep p 8 rfl i8, (by rw [p.old 8 rfl]; exact n8), out p 1 33 _ rfl rfl rfl, trivial⟩)
    rintro a k ⟨⟨hg, hs, hd⟩, i0, i3, i8, n8, i33, _⟩
    refine wp_cond_split (isBool i33) (fun hc433 => ?_) (fun hc433 => ?_)
    · rw [if_pos hc433] at hr
      refine wp_seq ?_
      refine cut (fun a' k' => Bs noF k0 152 a' k' ∧ (IsV ([] : List Account)) (a'.get 4) k' ∧ (IsV (α := Int) 5) (a'.get 5) k' ∧ True) ?_ hQ ?_
      · intro Q393 hQQ393 hp394
        refine regionS (a0 := a) (k0 := k) (n := 152) (m := 2) (⟨some IsE0, []⟩ :: ⟨some (IsV (α := Int) 5), []⟩ :: []) hs (by kernel_rfl) ⟨ob1 rfl fun b q hk hn => ok_assign rfl isE0_nil, ob1 rfl fun b q hk hn => ok_assign rfl (isV_int.2 rfl), trivial⟩ hQQ393 fun b q p => ?_
        have hgq := hg.then p.grow
        have hsb := p.size.trans hs
        have hdb := p.defers.trans hd
        have j4 : IsE0 (b.get 4) q := out p 0 4 _ rfl rfl rfl
        have j5 : (IsV (α := Int) 5) (b.get 5) q := out p 1 5 _ rfl rfl rfl
        replace j4 : IsV ([] : List Account) (b.get 4) q := j4.isV
        exact tail_done (k := q) (hp394 _ _ ⟨⟨hgq, hsb, hdb⟩, j4, j5, trivial⟩)
      rintro a k ⟨⟨hg, hs, hd⟩, i4, i5, _⟩
      refine wp_ret ?_
      obtain rfl := Option.some.inj hr
      exact retC2 rfl hd hg i4 i5
    rw [if_neg (by rw [hc433]; decide)] at hr
    refine wp_skip ?_
    refine wp_seq ?_
    refine wp_seq ?_
    refine cut (fun a' k' => Bs noF k0 152 a' k' ∧ (IsRef m_) (a'.get 3) k' ∧ IsOwn 0 35 x389_2 (a'.get 8) k' ∧ Lo k0 (obF (a'.get 8)) ∧ (IsV (decide (20000 ≤ (l_.length : Int)))) (a'.get 36) k' ∧ True) ?_ hQ ?_
    · intro Q431 hQQ431 hp432
      refine regionS (a0 := a) (k0 := k) (n := 152) (m := 3) (⟨some (IsV l_), [(0, none)]⟩ :: ⟨some (IsV (α := Int) (l_.length : Int)), [(34, some 0)]⟩ :: ⟨some (IsV (decide (20000 ≤ (l_.length : Int)))), [(35, some 1)]⟩ :: []) hs (by kernel_rfl) ⟨ob1 rfl fun b q hk hn => ok_move rfl (up i0 hk hn.1), ob1 rfl fun b q hk hn => ok_len rfl rfl Try.underlying22 (IsV.rd hn.1), ob1 rfl fun b q hk hn => ok_geq rfl hn.1 (isV_int.2 rfl), trivial⟩ hQQ431 fun b q p => ?_
      exact tail_done (k := q) (hp432 _ _ ⟨Bs.post ⟨hg, hs, hd⟩ p, keep p 3 rfl i3, keep p 8 rfl i8, (by rw [p.old 8 rfl]; exact n8), out p 2 36 _ rfl rfl rfl, trivial⟩)
    rintro a k ⟨⟨hg, hs, hd⟩, i3, i8, n8, i36, _⟩
    refine wp_cond_split (isBool i36) (fun hc430 => ?_) (fun hc430 => ?_)
    · rw [if_pos hc430] at hr
      refine wp_seq ?_
      refine cut (fun a' k' => Bs noF k0 152 a' k' ∧ (IsV ([] : List Account)) (a'.get 4) k' ∧ (IsV (α := Int) 6) (a'.get 5) k' ∧ True) ?_ hQ ?_
      · intro Q397 hQQ397 hp398
        refine regionS (a0 := a) (k0 := k) (n := 152) (m := 2) (⟨some IsE0, []⟩ :: ⟨some (IsV (α := Int) 6), []⟩ :: []) hs (by kernel_rfl) ⟨ob1 rfl fun b q hk hn => ok_assign rfl isE0_nil, ob1 rfl fun b q hk hn => ok_assign rfl (isV_int.2 rfl), trivial⟩ hQQ397 fun b q p => ?_
        have hgq := hg.then p.grow
        have hsb := p.size.trans hs
        have hdb := p.defers.trans hd
        have j4 : IsE0 (b.get 4) q := out p 0 4 _ rfl rfl rfl
        have j5 : (IsV (α := Int) 6) (b.get 5) q := out p 1 5 _ rfl rfl rfl
        replace j4 : IsV ([] : List Account) (b.get 4) q := j4.isV
        exact tail_done (k := q) (hp398 _ _ ⟨⟨hgq, hsb, hdb⟩, j4, j5, trivial⟩)
      rintro a k ⟨⟨hg, hs, hd⟩, i4, i5, _⟩
      refine wp_ret ?_
      obtain rfl := Option.some.inj hr
      exact retC2 rfl hd hg i4 i5
    rw [if_neg (by rw [hc430]; decide)] at hr
    refine wp_skip ?_
    refine wp_seq ?_
    refine cut (fun a' k' => Bs noF k0 152 a' k' ∧ (IsRef m_) (a'.get 3) k' ∧ IsOwn 0 35 x389_2 (a'.get 8) k' ∧ Lo k0 (obF (a'.get 8)) ∧ (IsV (α := Int) (x389_2.length : Int)) (a'.get 9) k' ∧ True) ?_ hQ ?_
    · intro Q428 hQQ428 hp429
      refine regionS (a0 := a) (k0 := k) (n := 152) (m := 3) (⟨some (OwnAt (a.get 8) 0 35 x389_2), [(8, none)]⟩ :: ⟨some (IsV (α := Int) (x389_2.length : Int)), [(37, some 0)]⟩ :: ⟨some (IsV (α := Int) (x389_2.length : Int)), [(38, some 1)]⟩ :: []) hs (by kernel_rfl) ⟨ob1 rfl fun b q hk hn => ok_moveOA (.inl rfl) ⟨hn.1, up i8 hk hn.1⟩, ob1 rfl fun b q hk hn => ok_len rfl rfl Try.underlying22 (IsOwn.rd (hn.1).2), ob1 rfl fun b q hk hn => ok_assign rfl hn.1, trivial⟩ hQQ428 fun b q p => ?_
      exact tail_done (k := q) (hp429 _ _ ⟨Bs.post ⟨hg, hs, hd⟩ p, keep p 3 rfl i3, keep p 8 rfl i8, (by rw [p.old 8 rfl]; exact n8), out p 2 9 _ rfl rfl rfl, trivial⟩)
    rintro a k ⟨⟨hg, hs, hd⟩, i3, i8, n8, i9, _⟩
    refine wp_seq ?_
    obtain ⟨x400_3, hx400_3, hr⟩ := bind_some hr
    refine cut (fun a' k' => Bs noF k0 152 a' k' ∧ (IsRef m_) (a'.get 3) k' ∧ IsOwn 0 35 x400_3 (a'.get 8) k' ∧ Lo k0 (obF (a'.get 8)) ∧ (IsV (α := Int) (x389_2.length : Int)) (a'.get 9) k' ∧ True) ?_ hQ ?_
    · intro Q426 hQQ426 hp427
      refine regionS (a0 := a) (k0 := k) (n := 152) (m := 3) (⟨some (OwnAt (a.get 8) 0 35 x389_2), [(8, none)]⟩ :: ⟨some (IsV (⟨0, 0, false⟩ : Account)), []⟩ :: ⟨some (IsV ([(⟨0, 0, false⟩ : Account)])), [(40, some 1)]⟩ :: []) hs (by kernel_rfl) ⟨ob1 rfl fun b q hk hn => ok_moveOA (.inl rfl) ⟨hn.1, up i8 hk hn.1⟩, ob1 rfl fun b q hk hn => ok_build rfl (bld35_ ), ob1 rfl fun b q hk hn => ok_buildSlice rfl Try.underlying22 eo35 rfl (by decide) (by decide) ⟨rfl, hn.1, trivial⟩, trivial⟩ hQQ426 fun b q p => ?_
      have hgq := hg.then p.grow
      have hsb := p.size.trans hs
      have hdb := p.defers.trans hd
      have j3 := keep p 3 rfl i3
      have j9 := keep p 9 rfl i9
      have e39 : b.get 39 = a.get 8 := (out p 0 39 _ rfl rfl rfl).1
      have j39 : IsOwn 0 35 x389_2 (b.get 39) q := (out p 0 39 _ rfl rfl rfl).2
      have y39 : Lo k0 (obF (b.get 39)) := by rw [e39]; exact n8
      have j41 : (IsV ([(⟨0, 0, false⟩ : Account)])) (b.get 41) q := out p 2 41 _ rfl rfl rfl
      have hns := j39.nshF
      refine tail_appendS (i := 3) (d := 42) rfl rfl rfl rfl (by rw [hsb]; decide) (e := 35) Try.underlying22 eo35 j39 (IsV.rd j41) hx400_3 fun b2 q2 hsz hdf hoth hch hown hob => ?_
      have hle := hch.le hns
      have yn : Lo k0 (obF (b2.get 42)) := y39.app hgq hob
      replace j3 := Pers.pers hle j3
      replace j9 := Pers.pers hle j9
      replace j41 := Pers.pers hle j41
      replace hgq := hgq.step hch y39.wr
      rw [← hoth 3 (by decide)] at j3
      rw [← hoth 9 (by decide)] at j9
      rw [← hoth 41 (by decide)] at j41
      have j42 := hown
      have y42 := yn
      replace hsb := hsz.trans hsb
      replace hdb := hdf.trans hdb
      clear hle hch hown hob hns yn hsz hdf hoth
      obtain ⟨b, hbb⟩ : ∃ b, b = b2 := ⟨b2, rfl⟩
      subst hbb
      obtain ⟨q, hqq⟩ : ∃ q, q = q2 := ⟨q2, rfl⟩
      subst hqq
      refine tail_assign (i := 4) (d := 8) rfl rfl (.inl rfl) rfl (by rw [hsb]; decide) fun b2 hsz hdf hnew hoth => ?_
      have jn : (IsOwn 0 35 x400_3) (b2.get 8) q := by rw [hnew]; exact j42
      have yn : Lo k0 (obF (b2.get 8)) := by rw [hnew]; exact y42
      rw [← hoth 3 (by decide)] at j3
      rw [← hoth 9 (by decide)] at j9
      rw [← hoth 41 (by decide)] at j41
      have j8 := jn
      have y8 := yn
      replace hsb := hsz.trans hsb
      replace hdb := hdf.trans hdb
      clear hsz hdf hoth
      obtain ⟨b, hbb⟩ : ∃ b, b = b2 := ⟨b2, rfl⟩
      subst hbb
      exact tail_done (k := q) (hp427 _ _ ⟨⟨hgq, hsb, hdb⟩, j3, j8, y8, j9, trivial⟩)
    rintro a k ⟨⟨hg, hs, hd⟩, i3, i8, n8, i9, _⟩
    refine wp_seq ?_
    refine wp_block ?_
    obtain ⟨f415, hf415, hr⟩ := bind_some hr
    refine cutFe f415 (fun s' a' k' => Bs noF k0 152 a' k' ∧ (IsRef m_) (a'.get 3) k' ∧ IsOwn 0 35 s'.1 (a'.get 8) k' ∧ Lo k0 (obF (a'.get 8)) ∧ (IsV s'.2) (a'.get 9) k' ∧ True) (fun i' s' a' k' => (i' = 0 ∧ Bs noF k0 152 a' k' ∧ (IsRef m_) (a'.get 3) k' ∧ IsOwn 0 35 s'.1 (a'.get 8) k' ∧ Lo k0 (obF (a'.get 8)) ∧ (IsV s'.2) (a'.get 9) k' ∧ True)) (fun r' a' k' => bodyPost Try.prog Try.f23 (RetC noF k0 (IsTup2 (IsV r'.1) (IsV r'.2))) .ret a' k'.w) ?_ hQ ?_ ?_ ?_
    · intro Q425 hQQ425 hgo hex hret
      refine sim_loop ?_ _ _ _ _ _ hf415 ⟨⟨hg, hs, hd⟩, i3, i8, n8, i9, trivial⟩ Q425 hQQ425 hgo hex hret
      clear hr hf415 hgo hex hret hQQ425 hQ hg hs hd i3 i8 i9 n8
      intro s401 fl_ a k hr hS Q hQ hgo402 hex403 hret404
      obtain ⟨⟨hg, hs, hd⟩, i3, i8, n8, i9, _⟩ := hS
      unfold rDo_L0 at hr
      refine wp_seq ?_
      refine wp_seq ?_
      obtain ⟨x405_12, hx405_12, hr⟩ := bind_some hr
      obtain ⟨x405_5, hx405_5, hx405_12⟩ := ite_bind hx405_12
      obtain ⟨x405_6, hx405_6, hx405_12⟩ := ite_bind hx405_12
      refine cut (fun a' k' => Bs noF k0 152 a' k' ∧ (IsRef m_) (a'.get 3) k' ∧ IsOwn 0 35 s401.1 (a'.get 8) k' ∧ Lo k0 (obF (a'.get 8)) ∧ (IsV s401.2) (a'.get 9) k' ∧ (IsV x405_12) (a'.get 55) k' ∧ True) ?_ hQ ?_
      · intro Q413 hQQ413 hp414
        refine region (a0 := a) (k0 := k) (n := 152) (m := 13) (⟨some (IsV s401.2), [(9, none)]⟩ :: ⟨some (IsV (decide (0 < s401.2))), [(43, some 0)]⟩ :: ⟨some (IsV (decide (0 < s401.2))), [(44, some 1)]⟩ :: ⟨some (Gd ((decide (0 < s401.2)) = true) (OwnAt (a.get 8) 0 35 s401.1)), [(8, none)]⟩ :: ⟨some (Gd ((decide (0 < s401.2)) = true) (IsV s401.2)), [(9, none)]⟩ :: ⟨some (Gd ((decide (0 < s401.2)) = true) (IsV x405_5)), [(47, some 4)]⟩ :: ⟨some (Gd ((decide (0 < s401.2)) = true) (IsPtr x405_6)), [(46, some 3), (48, some 5)]⟩ :: ⟨some (Gd ((decide (0 < s401.2)) = true) (IsPtr x405_6.Lot)), [(49, some 6)]⟩ :: ⟨some (Gd ((decide (0 < s401.2)) = true) (IsV x405_6.Lot)), [(50, some 7)]⟩ :: ⟨some (Gd ((decide (0 < s401.2)) = true) (IsPtr m_.To)), [(3, none)]⟩ :: ⟨some (Gd ((decide (0 < s401.2)) = true) (IsV m_.To)), [(52, some 9)]⟩ :: ⟨some (Gd ((decide (0 < s401.2)) = true) (IsV (decide (m_.To < x405_6.Lot)))), [(51, some 8), (53, some 10)]⟩ :: ⟨some (IsV x405_12), [(45, some 2), (54, some 11)]⟩ :: []) hmix hs (by kernel_rfl) ⟨ob1 rfl fun b q hk hn => ok_move rfl (up i9 hk hn.1), ob1 rfl fun b q hk hn => ok_gtr rfl hn.1 (isV_int.2 rfl), ob1 rfl fun b q hk hn => ok_move rfl hn.1, gdT rfl rfl fun hp b q hk hn => ok_moveOA (.inl rfl) ⟨hn.1, up i8 hk hn.1⟩, gdT rfl rfl fun hp b q hk hn => ok_move rfl (up i9 hk hn.1), gdT rfl rfl fun hp b q hk hn => ok_sub rfl (Gd.get hn.1 hp) (isV_int.2 rfl) (hx405_5 hp), gdT rfl rfl fun hp b q hk hn => ok_indexAddr rfl Try.underlying22 ty35 (IsOwn.rd ((Gd.get hn.1 hp)).2) (Gd.get hn.2.1 hp) (hx405_6 hp), gdT rfl rfl fun hp b q hk hn => ok_fieldAddr rfl fo35_0 (at_Account_0 _) (Gd.get hn.1 hp), gdT rfl rfl fun hp b q hk hn => ok_load rfl ty3 (Gd.get hn.1 hp), gdT rfl rfl fun hp b q hk hn => ok_fieldAddr rfl fo33_2 (at_Move_2 _) ((up i3 hk hn.1)).ptr, gdT rfl rfl fun hp b q hk hn => ok_load rfl ty3 (Gd.get hn.1 hp), gdT rfl rfl fun hp b q hk hn => ok_gtr rfl (Gd.get hn.1 hp) (Gd.get hn.2.1 hp), ob1 rfl fun b q hk hn => ok_pickM rfl hn.1 hx405_12 (fun hm => (Gd.get hn.2.1 hm)) (fun _ => (isV_bool.2 rfl)), trivial⟩ hQQ413 fun b q p => ?_
        exact tail_done (k := q) (hp414 _ _ ⟨Bs.post ⟨hg, hs, hd⟩ p, keep p 3 rfl i3, keep p 8 rfl i8, (by rw [p.old 8 rfl]; exact n8), keep p 9 rfl i9, out p 12 55 _ rfl rfl rfl, trivial⟩)
      rintro a k ⟨⟨hg, hs, hd⟩, i3, i8, n8, i9, i55, _⟩
      refine wp_cond_split (isBool i55) (fun hc412 => ?_) (fun hc412 => ?_)
      · rw [if_pos hc412] at hr
        refine wp_skip ?_
        refine wp_block ?_
        refine wp_seq ?_
        obtain ⟨x406_4, hx406_4, hr⟩ := bind_some hr
        obtain ⟨x406_5, hx406_5, hr⟩ := bind_some hr
        obtain ⟨x406_7, hx406_7, hr⟩ := bind_some hr
        obtain ⟨x406_8, hx406_8, hr⟩ := bind_some hr
        refine cut (fun a' k' => Bs noF k0 152 a' k' ∧ (IsRef m_) (a'.get 3) k' ∧ IsOwn 0 35 x406_8 (a'.get 8) k' ∧ Lo k0 (obF (a'.get 8)) ∧ (IsV s401.2) (a'.get 9) k' ∧ True) ?_ hQ ?_
        · intro Q410 hQQ410 hp411
          refine regionS (a0 := a) (k0 := k) (n := 152) (m := 8) (⟨some (OwnAt (a.get 8) 0 35 s401.1), [(8, none)]⟩ :: ⟨some (IsV s401.2), [(9, none)]⟩ :: ⟨some (OwnAt (a.get 8) 0 35 s401.1), [(8, none)]⟩ :: ⟨some (IsV s401.2), [(9, none)]⟩ :: ⟨some (IsV x406_4), [(59, some 3)]⟩ :: ⟨some (IsPtr x406_5), [(58, some 2), (60, some 4)]⟩ :: ⟨some (IsV x406_5), [(61, some 5)]⟩ :: ⟨some (IsAdrO (a.get 8) ((s401.2).toNat * Enc.sz Account)), [(56, some 0), (57, some 1)]⟩ :: []) hs (by kernel_rfl) ⟨ob1 rfl fun b q hk hn => ok_moveOA (.inl rfl) ⟨hn.1, up i8 hk hn.1⟩, ob1 rfl fun b q hk hn => ok_move rfl (up i9 hk hn.1), ob1 rfl fun b q hk hn => ok_moveOA (.inl rfl) ⟨hn.1, up i8 hk hn.1⟩, ob1 rfl fun b q hk hn => ok_move rfl (up i9 hk hn.1), ob1 rfl fun b q hk hn => ok_sub rfl hn.1 (isV_int.2 rfl) hx406_4, ob1 rfl fun b q hk hn => ok_indexAddr rfl Try.underlying22 ty35 (IsOwn.rd (hn.1).2) hn.2.1 hx406_5, ob1 rfl fun b q hk hn => ok_load rfl ty35 hn.1, ob1 rfl fun b q hk hn => ok_indexO rfl Try.underlying22 ty35 hn.1 hn.2.1 hx406_7, trivial⟩ hQQ410 fun b q p => ?_
          have hgq := hg.then p.grow
          have hsb := p.size.trans hs
          have hdb := p.defers.trans hd
          have j3 := keep p 3 rfl i3
          have j8 := keep p 8 rfl i8
          have y8 : Lo k0 (obF (b.get 8)) := by rw [p.old 8 rfl]; exact n8
          have j9 := keep p 9 rfl i9
          have j62 : (IsV x406_5) (b.get 62) q := out p 6 62 _ rfl rfl rfl
          have j63 : IsAdrO (a.get 8) ((s401.2).toNat * Enc.sz Account) (b.get 63) q := out p 7 63 _ rfl rfl rfl
          have eo : b.get 8 = a.get 8 := p.old 8 rfl
          have hns := j8.nshF
          refine tail_storeS (i := 8) (u := b.get 8) (m := (s401.2).toNat) (off := 0) rfl rfl rfl rfl szf35 (Upd.self (α := Account)) (by rw [eo]; exact j63) j8 (getI_spec hx406_7).2.1 j62 fun q2 hch hz => ?_
          replace hgq := hgq.step hch y8.wr
          have hle := hch.le hns
          replace j3 := Pers.pers hle j3
          replace j9 := Pers.pers hle j9
          replace j62 := Pers.pers hle j62
          replace j63 := Pers.pers hle j63
          replace j8 := hz
          rw [Option.some.inj hx406_8] at j8
          clear hns hle hch eo hz
          obtain ⟨q, hqq⟩ : ∃ q, q = q2 := ⟨q2, rfl⟩
          subst hqq
          exact tail_done (k := q) (hp411 _ _ ⟨⟨hgq, hsb, hdb⟩, j3, j8, y8, j9, trivial⟩)
        rintro a k ⟨⟨hg, hs, hd⟩, i3, i8, n8, i9, _⟩
        obtain ⟨x407_1, hx407_1, hr⟩ := bind_some hr
        refine cut (fun a' k' => Bs noF k0 152 a' k' ∧ (IsRef m_) (a'.get 3) k' ∧ IsOwn 0 35 x406_8 (a'.get 8) k' ∧ Lo k0 (obF (a'.get 8)) ∧ (IsV x407_1) (a'.get 9) k' ∧ True) ?_ hQ ?_
        · intro Q408 hQQ408 hp409
          refine regionS (a0 := a) (k0 := k) (n := 152) (m := 3) (⟨some (IsV s401.2), [(9, none)]⟩ :: ⟨some (IsV x407_1), [(64, some 0)]⟩ :: ⟨some (IsV x407_1), [(65, some 1)]⟩ :: []) hs (by kernel_rfl) ⟨ob1 rfl fun b q hk hn => ok_move rfl (up i9 hk hn.1), ob1 rfl fun b q hk hn => ok_sub rfl hn.1 (isV_int.2 rfl) hx407_1, ob1 rfl fun b q hk hn => ok_assign rfl hn.1, trivial⟩ hQQ408 fun b q p => ?_
          exact tail_done (k := q) (hp409 _ _ ⟨Bs.post ⟨hg, hs, hd⟩ p, keep p 3 rfl i3, keep p 8 rfl i8, (by rw [p.old 8 rfl]; exact n8), out p 2 9 _ rfl rfl rfl, trivial⟩)
        rintro a k ⟨⟨hg, hs, hd⟩, i3, i8, n8, i9, _⟩
        exact hgo402 _ _ _ (Option.some.inj hr).symm ⟨⟨hg, hs, hd⟩, i3, i8, n8, i9, trivial⟩
      rw [if_neg (by rw [hc412]; decide)] at hr
      refine wp_exit ?_
      exact hex403 _ _ _ _ (Option.some.inj hr).symm ⟨rfl, ⟨hg, hs, hd⟩, i3, i8, n8, i9, trivial⟩
    · rintro r424 a k rfl hR
      dsimp only at hr
      obtain rfl := Option.some.inj hr
      exact hR
    · rintro _ _ _ rfl _
      simp at hr
    clear hf415
    rintro _ s416 a k rfl ⟨rfl, ⟨hg, hs, hd⟩, i3, i8, n8, i9, _⟩
    dsimp only at hr
    refine wp_seq ?_
    obtain ⟨x417_10, hx417_10, hr⟩ := bind_some hr
    obtain ⟨x417_11, hx417_11, hr⟩ := bind_some hr
    refine cut (fun a' k' => Bs noF k0 152 a' k' ∧ IsOwn 0 35 x417_11 (a'.get 8) k' ∧ Lo k0 (obF (a'.get 8)) ∧ True) ?_ hQ ?_
    · intro Q422 hQQ422 hp423
      refine regionS (a0 := a) (k0 := k) (n := 152) (m := 11) (⟨some (OwnAt (a.get 8) 0 35 s416.1), [(8, none)]⟩ :: ⟨some (IsV s416.2), [(9, none)]⟩ :: ⟨some (IsPtr m_.To), [(3, none)]⟩ :: ⟨some (IsV m_.To), [(68, some 2)]⟩ :: ⟨some (IsPtr m_.N), [(3, none)]⟩ :: ⟨some (IsV m_.N), [(70, some 4)]⟩ :: ⟨some (IsPtr m_.From), [(3, none)]⟩ :: ⟨some (IsV m_.From), [(72, some 6)]⟩ :: ⟨some (IsV (m_.From == 1)), [(73, some 7)]⟩ :: ⟨some (IsV (⟨m_.To, m_.N, (m_.From == 1)⟩ : Account)), [(69, some 3), (71, some 5), (74, some 8)]⟩ :: ⟨some (IsAdrO (a.get 8) ((s416.2).toNat * Enc.sz Account)), [(66, some 0), (67, some 1)]⟩ :: []) hs (by kernel_rfl) ⟨ob1 rfl fun b q hk hn => ok_moveOA (.inl rfl) ⟨hn.1, up i8 hk hn.1⟩, ob1 rfl fun b q hk hn => ok_move rfl (up i9 hk hn.1), ob1 rfl fun b q hk hn => ok_fieldAddr rfl fo33_2 (at_Move_2 _) ((up i3 hk hn.1)).ptr, ob1 rfl fun b q hk hn => ok_load rfl ty3 hn.1, ob1 rfl fun b q hk hn => ok_fieldAddr rfl fo33_3 (at_Move_3 _) ((up i3 hk hn.1)).ptr, ob1 rfl fun b q hk hn => ok_load rfl ty3 hn.1, ob1 rfl fun b q hk hn => ok_fieldAddr rfl fo33_1 (at_Move_1 _) ((up i3 hk hn.1)).ptr, ob1 rfl fun b q hk hn => ok_load rfl ty3 hn.1, ob1 rfl fun b q hk hn => ok_eqI rfl hn.1 (isV_int.2 rfl), ob1 rfl fun b q hk hn => ok_build rfl (bld35_0_1_2 hn.1 hn.2.1 hn.2.2.1), ob1 rfl fun b q hk hn => ok_indexO rfl Try.underlying22 ty35 hn.1 hn.2.1 hx417_10, trivial⟩ hQQ422 fun b q p => ?_
      have hgq := hg.then p.grow
      have hsb := p.size.trans hs
      have hdb := p.defers.trans hd
      have j8 := keep p 8 rfl i8
      have y8 : Lo k0 (obF (b.get 8)) := by rw [p.old 8 rfl]; exact n8
      have j75 : (IsV (⟨m_.To, m_.N, (m_.From == 1)⟩ : Account)) (b.get 75) q := out p 9 75 _ rfl rfl rfl
      have j76 : IsAdrO (a.get 8) ((s416.2).toNat * Enc.sz Account) (b.get 76) q := out p 10 76 _ rfl rfl rfl
      have eo : b.get 8 = a.get 8 := p.old 8 rfl
      have hns := j8.nshF
      refine tail_storeS (i := 11) (u := b.get 8) (m := (s416.2).toNat) (off := 0) rfl rfl rfl rfl szf35 (Upd.self (α := Account)) (by rw [eo]; exact j76) j8 (getI_spec hx417_10).2.1 j75 fun q2 hch hz => ?_
      replace hgq := hgq.step hch y8.wr
      have hle := hch.le hns
      replace j75 := Pers.pers hle j75
      replace j76 := Pers.pers hle j76
      replace j8 := hz
      rw [Option.some.inj hx417_11] at j8
      clear hns hle hch eo hz
      obtain ⟨q, hqq⟩ : ∃ q, q = q2 := ⟨q2, rfl⟩
      subst hqq
      exact tail_done (k := q) (hp423 _ _ ⟨⟨hgq, hsb, hdb⟩, j8, y8, trivial⟩)
    rintro a k ⟨⟨hg, hs, hd⟩, i8, n8, _⟩
    refine wp_seq ?_
    obtain ⟨kk, sh418, ii8⟩ := i8.give
    replace i8 := ii8
    replace hg := hg.hand sh418 n8.wr
    rw [← sh418.w]
    clear sh418
    obtain ⟨k, hkk⟩ : ∃ k, k = kk := ⟨kk, rfl⟩
    subst hkk
    refine cut (fun a' k' => Bs noF k0 152 a' k' ∧ (IsV x417_11) (a'.get 4) k' ∧ (IsV (α := Int) 0) (a'.get 5) k' ∧ True) ?_ hQ ?_
    · intro Q420 hQQ420 hp421
      refine regionS (a0 := a) (k0 := k) (n := 152) (m := 3) (⟨some (IsV x417_11), [(8, none)]⟩ :: ⟨some (IsV x417_11), [(77, some 0)]⟩ :: ⟨some (IsV (α := Int) 0), []⟩ :: []) hs (by kernel_rfl) ⟨ob1 rfl fun b q hk hn => ok_move rfl (up i8 hk hn.1), ob1 rfl fun b q hk hn => ok_assign rfl hn.1, ob1 rfl fun b q hk hn => ok_assign rfl (isV_int.2 rfl), trivial⟩ hQQ420 fun b q p => ?_
      exact tail_done (k := q) (hp421 _ _ ⟨Bs.post ⟨hg, hs, hd⟩ p, out p 1 4 _ rfl rfl rfl, out p 2 5 _ rfl rfl rfl, trivial⟩)
    rintro a k ⟨⟨hg, hs, hd⟩, i4, i5, _⟩
    refine wp_ret ?_
    obtain rfl := Option.some.inj hr
    exact retC2 rfl hd hg i4 i5
  rw [if_neg (by rw [hc482]; decide)] at hr
  refine wp_skip ?_
  refine wp_seq ?_
  refine wp_seq ?_
  refine cut (fun a' k' => Bs noF k0 152 a' k' ∧ (IsV l_) (a'.get 0) k' ∧ (IsRef m_) (a'.get 3) k' ∧ (IsV x387_3) (a'.get 6) k' ∧ (IsV x388_3) (a'.get 7) k' ∧ IsOwn 0 35 x389_2 (a'.get 8) k' ∧ Lo k0 (obF (a'.get 8)) ∧ (IsV ((decide (x387_3 < 0)) || ((m_.Kind == 1) && (decide (x388_3 < 0))))) (a'.get 88) k' ∧ True) ?_ hQ ?_
  · intro Q480 hQQ480 hp481
    refine regionS (a0 := a) (k0 := k) (n := 152) (m := 11) (⟨some (IsV x387_3), [(6, none)]⟩ :: ⟨some (IsV (decide (x387_3 < 0))), [(78, some 0)]⟩ :: ⟨some (IsV (decide (x387_3 < 0))), [(79, some 1)]⟩ :: ⟨some (Gd ((decide (x387_3 < 0)) = false) (IsPtr m_.Kind)), [(3, none)]⟩ :: ⟨some (Gd ((decide (x387_3 < 0)) = false) (IsV m_.Kind)), [(81, some 3)]⟩ :: ⟨some (Gd ((decide (x387_3 < 0)) = false) (IsV (m_.Kind == 1))), [(82, some 4)]⟩ :: ⟨some (Gd ((decide (x387_3 < 0)) = false) (IsV (m_.Kind == 1))), [(83, some 5)]⟩ :: ⟨some (Gd (((decide (x387_3 < 0)) = false) ∧ (m_.Kind == 1) = true) (IsV x388_3)), [(7, none)]⟩ :: ⟨some (Gd (((decide (x387_3 < 0)) = false) ∧ (m_.Kind == 1) = true) (IsV (decide (x388_3 < 0)))), [(85, some 7)]⟩ :: ⟨some (Gd ((decide (x387_3 < 0)) = false) (IsV ((m_.Kind == 1) && (decide (x388_3 < 0))))), [(84, some 6), (86, some 8)]⟩ :: ⟨some (IsV ((decide (x387_3 < 0)) || ((m_.Kind == 1) && (decide (x388_3 < 0))))), [(80, some 2), (87, some 9)]⟩ :: []) hs (by kernel_rfl) ⟨ob1 rfl fun b q hk hn => ok_move rfl (up i6 hk hn.1), ob1 rfl fun b q hk hn => ok_lss rfl hn.1 (isV_int.2 rfl), ob1 rfl fun b q hk hn => ok_move rfl hn.1, gdF rfl rfl fun hp b q hk hn => ok_fieldAddr rfl fo33_0 (at_Move_0 _) ((up i3 hk hn.1)).ptr, gdF rfl rfl fun hp b q hk hn => ok_load rfl ty3 (Gd.get hn.1 hp), gdF rfl rfl fun hp b q hk hn => ok_eqI rfl (Gd.get hn.1 hp) (isV_int.2 rfl), gdF rfl rfl fun hp b q hk hn => ok_move rfl (Gd.get hn.1 hp), gdTT rfl rfl fun hp b q hk hn => ok_move rfl (up i7 hk hn.1), gdTT rfl rfl fun hp b q hk hn => ok_lss rfl (Gd.get hn.1 hp) (isV_int.2 rfl), gdF rfl rfl fun hp b q hk hn => ok_pickAnd rfl (Gd.get hn.1 hp) (fun hm => (Gd.get hn.2.1 ⟨hp, hm⟩)) (fun _ => (isV_bool.2 rfl)), ob1 rfl fun b q hk hn => ok_pickOr rfl hn.1 (fun _ => (isV_bool.2 rfl)) (fun hm => (Gd.get hn.2.1 hm)), trivial⟩ hQQ480 fun b q p => ?_
    exact tail_done (k := q) (hp481 _ _ ⟨Bs.post ⟨hg, hs, hd⟩ p, keep p 0 rfl i0, keep p 3 rfl i3, keep p 6 rfl i6, keep p 7 rfl i7, keep p 8 rfl i8, (by rw [p.old 8 rfl]; exact n8), out p 10 88 _ rfl rfl rfl, trivial⟩)
  rintro a k ⟨⟨hg, hs, hd⟩, i0, i3, i6, i7, i8, n8, i88, _⟩
  refine wp_cond_split (isBool i88) (fun hc479 => ?_) (fun hc479 => ?_)
  · rw [if_pos hc479] at hr
    refine wp_seq ?_
    refine cut (fun a' k' => Bs noF k0 152 a' k' ∧ (IsV ([] : List Account)) (a'.get 4) k' ∧ (IsV (α := Int) 4) (a'.get 5) k' ∧ True) ?_ hQ ?_
    · intro Q438 hQQ438 hp439
      refine regionS (a0 := a) (k0 := k) (n := 152) (m := 2) (⟨some IsE0, []⟩ :: ⟨some (IsV (α := Int) 4), []⟩ :: []) hs (by kernel_rfl) ⟨ob1 rfl fun b q hk hn => ok_assign rfl isE0_nil, ob1 rfl fun b q hk hn => ok_assign rfl (isV_int.2 rfl), trivial⟩ hQQ438 fun b q p => ?_
      have hgq := hg.then p.grow
      have hsb := p.size.trans hs
      have hdb := p.defers.trans hd
      have j4 : IsE0 (b.get 4) q := out p 0 4 _ rfl rfl rfl
      have j5 : (IsV (α := Int) 4) (b.get 5) q := out p 1 5 _ rfl rfl rfl
      replace j4 : IsV ([] : List Account) (b.get 4) q := j4.isV
      exact tail_done (k := q) (hp439 _ _ ⟨⟨hgq, hsb, hdb⟩, j4, j5, trivial⟩)
    rintro a k ⟨⟨hg, hs, hd⟩, i4, i5, _⟩
    refine wp_ret ?_
    obtain rfl := Option.some.inj hr
    exact retC2 rfl hd hg i4 i5
  rw [if_neg (by rw [hc479]; decide)] at hr
  refine wp_skip ?_
  refine wp_seq ?_
  refine wp_seq ?_
  obtain ⟨x440_11, hx440_11, hr⟩ := bind_some hr
  obtain ⟨x440_7, hx440_7, hx440_11⟩ := ite_bind hx440_11
  refine cut (fun a' k' => Bs noF k0 152 a' k' ∧ (IsV l_) (a'.get 0) k' ∧ (IsRef m_) (a'.get 3) k' ∧ (IsV x387_3) (a'.get 6) k' ∧ (IsV x388_3) (a'.get 7) k' ∧ IsOwn 0 35 x389_2 (a'.get 8) k' ∧ Lo k0 (obF (a'.get 8)) ∧ (IsV x440_11) (a'.get 100) k' ∧ True) ?_ hQ ?_
  · intro Q477 hQQ477 hp478
    refine regionS (a0 := a) (k0 := k) (n := 152) (m := 12) (⟨some (IsPtr m_.Kind), [(3, none)]⟩ :: ⟨some (IsV m_.Kind), [(89, some 0)]⟩ :: ⟨some (IsV (m_.Kind == 1)), [(90, some 1)]⟩ :: ⟨some (IsV (m_.Kind == 1)), [(91, some 2)]⟩ :: ⟨some (Gd ((m_.Kind == 1) = true) (IsV l_)), [(0, none)]⟩ :: ⟨some (Gd ((m_.Kind == 1) = true) (IsV x388_3)), [(7, none)]⟩ :: ⟨some (Gd ((m_.Kind == 1) = true) (IsV (α := Int) (max x388_3 0))), [(94, some 5)]⟩ :: ⟨some (Gd ((m_.Kind == 1) = true) (IsPtr x440_7)), [(93, some 4), (95, some 6)]⟩ :: ⟨some (Gd ((m_.Kind == 1) = true) (IsPtr x440_7.Receives)), [(96, some 7)]⟩ :: ⟨some (Gd ((m_.Kind == 1) = true) (IsV x440_7.Receives)), [(97, some 8)]⟩ :: ⟨some (Gd ((m_.Kind == 1) = true) (IsV (!x440_7.Receives))), [(98, some 9)]⟩ :: ⟨some (IsV x440_11), [(92, some 3), (99, some 10)]⟩ :: []) hs (by kernel_rfl) ⟨ob1 rfl fun b q hk hn => ok_fieldAddr rfl fo33_0 (at_Move_0 _) ((up i3 hk hn.1)).ptr, ob1 rfl fun b q hk hn => ok_load rfl ty3 hn.1, ob1 rfl fun b q hk hn => ok_eqI rfl hn.1 (isV_int.2 rfl), ob1 rfl fun b q hk hn => ok_move rfl hn.1, gdT rfl rfl fun hp b q hk hn => ok_move rfl (up i0 hk hn.1), gdT rfl rfl fun hp b q hk hn => ok_move rfl (up i7 hk hn.1), gdT rfl rfl fun hp b q hk hn => ok_max2 rfl (Gd.get hn.1 hp) (isV_int.2 rfl), gdT rfl rfl fun hp b q hk hn => ok_indexAddr rfl Try.underlying22 ty35 (IsV.rd (Gd.get hn.1 hp)) (Gd.get hn.2.1 hp) (hx440_7 hp), gdT rfl rfl fun hp b q hk hn => ok_fieldAddr rfl fo35_2 (at_Account_2 _) (Gd.get hn.1 hp), gdT rfl rfl fun hp b q hk hn => ok_load rfl ty4 (Gd.get hn.1 hp), gdT rfl rfl fun hp b q hk hn => ok_not rfl (Gd.get hn.1 hp), ob1 rfl fun b q hk hn => ok_pickM rfl hn.1 hx440_11 (fun hm => (Gd.get hn.2.1 hm)) (fun _ => (isV_bool.2 rfl)), trivial⟩ hQQ477 fun b q p => ?_
    exact tail_done (k := q) (hp478 _ _ ⟨Bs.post ⟨hg, hs, hd⟩ p, keep p 0 rfl i0, keep p 3 rfl i3, keep p 6 rfl i6, keep p 7 rfl i7, keep p 8 rfl i8, (by rw [p.old 8 rfl]; exact n8), out p 11 100 _ rfl rfl rfl, trivial⟩)
  rintro a k ⟨⟨hg, hs, hd⟩, i0, i3, i6, i7, i8, n8, i100, _⟩
  refine wp_cond_split (isBool i100) (fun hc476 => ?_) (fun hc476 => ?_)
  · rw [if_pos hc476] at hr
    refine wp_seq ?_
    refine cut (fun a' k' => Bs noF k0 152 a' k' ∧ (IsV ([] : List Account)) (a'.get 4) k' ∧ (IsV (α := Int) 24) (a'.get 5) k' ∧ True) ?_ hQ ?_
    · intro Q442 hQQ442 hp443
      refine regionS (a0 := a) (k0 := k) (n := 152) (m := 2) (⟨some IsE0, []⟩ :: ⟨some (IsV (α := Int) 24), []⟩ :: []) hs (by kernel_rfl) ⟨ob1 rfl fun b q hk hn => ok_assign rfl isE0_nil, ob1 rfl fun b q hk hn => ok_assign rfl (isV_int.2 rfl), trivial⟩ hQQ442 fun b q p => ?_
      have hgq := hg.then p.grow
      have hsb := p.size.trans hs
      have hdb := p.defers.trans hd
      have j4 : IsE0 (b.get 4) q := out p 0 4 _ rfl rfl rfl
      have j5 : (IsV (α := Int) 24) (b.get 5) q := out p 1 5 _ rfl rfl rfl
      replace j4 : IsV ([] : List Account) (b.get 4) q := j4.isV
      exact tail_done (k := q) (hp443 _ _ ⟨⟨hgq, hsb, hdb⟩, j4, j5, trivial⟩)
    rintro a k ⟨⟨hg, hs, hd⟩, i4, i5, _⟩
    refine wp_ret ?_
    obtain rfl := Option.some.inj hr
    exact retC2 rfl hd hg i4 i5
  rw [if_neg (by rw [hc476]; decide)] at hr
  refine wp_skip ?_
  refine wp_seq ?_
  refine wp_seq ?_
  obtain ⟨x444_2, hx444_2, hr⟩ := bind_some hr
  refine cut (fun a' k' => Bs noF k0 152 a' k' ∧ (IsV l_) (a'.get 0) k' ∧ (IsRef m_) (a'.get 3) k' ∧ (IsV x387_3) (a'.get 6) k' ∧ (IsV x388_3) (a'.get 7) k' ∧ IsOwn 0 35 x389_2 (a'.get 8) k' ∧ Lo k0 (obF (a'.get 8)) ∧ (IsV (decide (x444_2.Units < m_.N))) (a'.get 108) k' ∧ True) ?_ hQ ?_
  · intro Q474 hQQ474 hp475
    refine region (a0 := a) (k0 := k) (n := 152) (m := 8) (⟨some (IsV l_), [(0, none)]⟩ :: ⟨some (IsV x387_3), [(6, none)]⟩ :: ⟨some (IsPtr x444_2), [(101, some 0), (102, some 1)]⟩ :: ⟨some (IsPtr x444_2.Units), [(103, some 2)]⟩ :: ⟨some (IsV x444_2.Units), [(104, some 3)]⟩ :: ⟨some (IsPtr m_.N), [(3, none)]⟩ :: ⟨some (IsV m_.N), [(106, some 5)]⟩ :: ⟨some (IsV (decide (x444_2.Units < m_.N))), [(105, some 4), (107, some 6)]⟩ :: []) hmix hs (by kernel_rfl) ⟨ob1 rfl fun b q hk hn => ok_move rfl (up i0 hk hn.1), ob1 rfl fun b q hk hn => ok_move rfl (up i6 hk hn.1), ob1 rfl fun b q hk hn => ok_indexAddr rfl Try.underlying22 ty35 (IsV.rd hn.1) hn.2.1 hx444_2, ob1 rfl fun b q hk hn => ok_fieldAddr rfl fo35_1 (at_Account_1 _) hn.1, ob1 rfl fun b q hk hn => ok_load rfl ty3 hn.1, ob1 rfl fun b q hk hn => ok_fieldAddr rfl fo33_3 (at_Move_3 _) ((up i3 hk hn.1)).ptr, ob1 rfl fun b q hk hn => ok_load rfl ty3 hn.1, ob1 rfl fun b q hk hn => ok_lss rfl hn.1 hn.2.1, trivial⟩ hQQ474 fun b q p => ?_
    exact tail_done (k := q) (hp475 _ _ ⟨Bs.post ⟨hg, hs, hd⟩ p, keep p 0 rfl i0, keep p 3 rfl i3, keep p 6 rfl i6, keep p 7 rfl i7, keep p 8 rfl i8, (by rw [p.old 8 rfl]; exact n8), out p 7 108 _ rfl rfl rfl, trivial⟩)
  rintro a k ⟨⟨hg, hs, hd⟩, i0, i3, i6, i7, i8, n8, i108, _⟩
  refine wp_cond_split (isBool i108) (fun hc473 => ?_) (fun hc473 => ?_)
  · rw [if_pos hc473] at hr
    refine wp_seq ?_
    refine cut (fun a' k' => Bs noF k0 152 a' k' ∧ (IsV ([] : List Account)) (a'.get 4) k' ∧ (IsV (α := Int) 23) (a'.get 5) k' ∧ True) ?_ hQ ?_
    · intro Q446 hQQ446 hp447
      refine regionS (a0 := a) (k0 := k) (n := 152) (m := 2) (⟨some IsE0, []⟩ :: ⟨some (IsV (α := Int) 23), []⟩ :: []) hs (by kernel_rfl) ⟨ob1 rfl fun b q hk hn => ok_assign rfl isE0_nil, ob1 rfl fun b q hk hn => ok_assign rfl (isV_int.2 rfl), trivial⟩ hQQ446 fun b q p => ?_
      have hgq := hg.then p.grow
      have hsb := p.size.trans hs
      have hdb := p.defers.trans hd
      have j4 : IsE0 (b.get 4) q := out p 0 4 _ rfl rfl rfl
      have j5 : (IsV (α := Int) 23) (b.get 5) q := out p 1 5 _ rfl rfl rfl
      replace j4 : IsV ([] : List Account) (b.get 4) q := j4.isV
      exact tail_done (k := q) (hp447 _ _ ⟨⟨hgq, hsb, hdb⟩, j4, j5, trivial⟩)
    rintro a k ⟨⟨hg, hs, hd⟩, i4, i5, _⟩
    refine wp_ret ?_
    obtain rfl := Option.some.inj hr
    exact retC2 rfl hd hg i4 i5
  rw [if_neg (by rw [hc473]; decide)] at hr
  refine wp_skip ?_
  refine wp_seq ?_
  refine wp_seq ?_
  obtain ⟨x448_14, hx448_14, hr⟩ := bind_some hr
  obtain ⟨x448_7, hx448_7, hx448_14⟩ := ite_bind hx448_14
  obtain ⟨x448_12, hx448_12, hx448_14⟩ := ite_bind hx448_14
  refine cut (fun a' k' => Bs noF k0 152 a' k' ∧ (IsRef m_) (a'.get 3) k' ∧ (IsV x387_3) (a'.get 6) k' ∧ (IsV x388_3) (a'.get 7) k' ∧ IsOwn 0 35 x389_2 (a'.get 8) k' ∧ Lo k0 (obF (a'.get 8)) ∧ (IsV x448_14) (a'.get 123) k' ∧ True) ?_ hQ ?_
  · intro Q471 hQQ471 hp472
    refine region (a0 := a) (k0 := k) (n := 152) (m := 15) (⟨some (IsPtr m_.Kind), [(3, none)]⟩ :: ⟨some (IsV m_.Kind), [(109, some 0)]⟩ :: ⟨some (IsV (m_.Kind == 1)), [(110, some 1)]⟩ :: ⟨some (IsV (m_.Kind == 1)), [(111, some 2)]⟩ :: ⟨some (Gd ((m_.Kind == 1) = true) (IsV l_)), [(0, none)]⟩ :: ⟨some (Gd ((m_.Kind == 1) = true) (IsV x388_3)), [(7, none)]⟩ :: ⟨some (Gd ((m_.Kind == 1) = true) (IsV (α := Int) (max x388_3 0))), [(114, some 5)]⟩ :: ⟨some (Gd ((m_.Kind == 1) = true) (IsPtr x448_7)), [(113, some 4), (115, some 6)]⟩ :: ⟨some (Gd ((m_.Kind == 1) = true) (IsPtr x448_7.Units)), [(116, some 7)]⟩ :: ⟨some (Gd ((m_.Kind == 1) = true) (IsV x448_7.Units)), [(117, some 8)]⟩ :: ⟨some (Gd ((m_.Kind == 1) = true) (IsPtr m_.N)), [(3, none)]⟩ :: ⟨some (Gd ((m_.Kind == 1) = true) (IsV m_.N)), [(119, some 10)]⟩ :: ⟨some (Gd ((m_.Kind == 1) = true) (IsV x448_12)), [(118, some 9), (120, some 11)]⟩ :: ⟨some (Gd ((m_.Kind == 1) = true) (IsV (decide (1073741824 < x448_12)))), [(121, some 12)]⟩ :: ⟨some (IsV x448_14), [(112, some 3), (122, some 13)]⟩ :: []) hmix hs (by kernel_rfl) ⟨ob1 rfl fun b q hk hn => ok_fieldAddr rfl fo33_0 (at_Move_0 _) ((up i3 hk hn.1)).ptr, ob1 rfl fun b q hk hn => ok_load rfl ty3 hn.1, ob1 rfl fun b q hk hn => ok_eqI rfl hn.1 (isV_int.2 rfl), ob1 rfl fun b q hk hn => ok_move rfl hn.1, gdT rfl rfl fun hp b q hk hn => ok_move rfl (up i0 hk hn.1), gdT rfl rfl fun hp b q hk hn => ok_move rfl (up i7 hk hn.1), gdT rfl rfl fun hp b q hk hn => ok_max2 rfl (Gd.get hn.1 hp) (isV_int.2 rfl), gdT rfl rfl fun hp b q hk hn => ok_indexAddr rfl Try.underlying22 ty35 (IsV.rd (Gd.get hn.1 hp)) (Gd.get hn.2.1 hp) (hx448_7 hp), gdT rfl rfl fun hp b q hk hn => ok_fieldAddr rfl fo35_1 (at_Account_1 _) (Gd.get hn.1 hp), gdT rfl rfl fun hp b q hk hn => ok_load rfl ty3 (Gd.get hn.1 hp), gdT rfl rfl fun hp b q hk hn => ok_fieldAddr rfl fo33_3 (at_Move_3 _) ((up i3 hk hn.1)).ptr, gdT rfl rfl fun hp b q hk hn => ok_load rfl ty3 (Gd.get hn.1 hp), gdT rfl rfl fun hp b q hk hn => ok_add rfl (Gd.get hn.1 hp) (Gd.get hn.2.1 hp) (hx448_12 hp), gdT rfl rfl fun hp b q hk hn => ok_gtr rfl (Gd.get hn.1 hp) (isV_int.2 rfl), ob1 rfl fun b q hk hn => ok_pickM rfl hn.1 hx448_14 (fun hm => (Gd.get hn.2.1 hm)) (fun _ => (isV_bool.2 rfl)), trivial⟩ hQQ471 fun b q p => ?_
    exact tail_done (k := q) (hp472 _ _ ⟨Bs.post ⟨hg, hs, hd⟩ p, keep p 3 rfl i3, keep p 6 rfl i6, keep p 7 rfl i7, keep p 8 rfl i8, (by rw [p.old 8 rfl]; exact n8), out p 14 123 _ rfl rfl rfl, trivial⟩)
  rintro a k ⟨⟨hg, hs, hd⟩, i3, i6, i7, i8, n8, i123, _⟩
  refine wp_cond_split (isBool i123) (fun hc470 => ?_) (fun hc470 => ?_)
  · rw [if_pos hc470] at hr
    refine wp_seq ?_
    refine cut (fun a' k' => Bs noF k0 152 a' k' ∧ (IsV ([] : List Account)) (a'.get 4) k' ∧ (IsV (α := Int) 6) (a'.get 5) k' ∧ True) ?_ hQ ?_
    · intro Q450 hQQ450 hp451
      refine regionS (a0 := a) (k0 := k) (n := 152) (m := 2) (⟨some IsE0, []⟩ :: ⟨some (IsV (α := Int) 6), []⟩ :: []) hs (by kernel_rfl) ⟨ob1 rfl fun b q hk hn => ok_assign rfl isE0_nil, ob1 rfl fun b q hk hn => ok_assign rfl (isV_int.2 rfl), trivial⟩ hQQ450 fun b q p => ?_
      have hgq := hg.then p.grow
      have hsb := p.size.trans hs
      have hdb := p.defers.trans hd
      have j4 : IsE0 (b.get 4) q := out p 0 4 _ rfl rfl rfl
      have j5 : (IsV (α := Int) 6) (b.get 5) q := out p 1 5 _ rfl rfl rfl
      replace j4 : IsV ([] : List Account) (b.get 4) q := j4.isV
      exact tail_done (k := q) (hp451 _ _ ⟨⟨hgq, hsb, hdb⟩, j4, j5, trivial⟩)
    rintro a k ⟨⟨hg, hs, hd⟩, i4, i5, _⟩
    refine wp_ret ?_
    obtain rfl := Option.some.inj hr
    exact retC2 rfl hd hg i4 i5
  rw [if_neg (by rw [hc470]; decide)] at hr
  refine wp_skip ?_
  refine wp_seq ?_
  obtain ⟨x452_4, hx452_4, hr⟩ := bind_some hr
  obtain ⟨x452_9, hx452_9, hr⟩ := bind_some hr
  obtain ⟨x452_10, hx452_10, hr⟩ := bind_some hr
  obtain ⟨x452_12, hx452_12, hr⟩ := bind_some hr
  refine cut (fun a' k' => Bs noF k0 152 a' k' ∧ (IsRef m_) (a'.get 3) k' ∧ (IsV x388_3) (a'.get 7) k' ∧ IsOwn 0 35 x452_12 (a'.get 8) k' ∧ Lo k0 (obF (a'.get 8)) ∧ True) ?_ hQ ?_
  · intro Q468 hQQ468 hp469
    refine region (a0 := a) (k0 := k) (n := 152) (m := 12) (⟨some (OwnAt (a.get 8) 0 35 x389_2), [(8, none)]⟩ :: ⟨some (IsV x387_3), [(6, none)]⟩ :: ⟨some (OwnAt (a.get 8) 0 35 x389_2), [(8, none)]⟩ :: ⟨some (IsV x387_3), [(6, none)]⟩ :: ⟨some (IsPtr x452_4), [(126, some 2), (127, some 3)]⟩ :: ⟨some (IsPtr x452_4.Units), [(128, some 4)]⟩ :: ⟨some (IsV x452_4.Units), [(129, some 5)]⟩ :: ⟨some (IsPtr m_.N), [(3, none)]⟩ :: ⟨some (IsV m_.N), [(131, some 7)]⟩ :: ⟨some (IsV x452_9), [(130, some 6), (132, some 8)]⟩ :: ⟨some (IsAdrO (a.get 8) ((x387_3).toNat * Enc.sz Account)), [(124, some 0), (125, some 1)]⟩ :: ⟨some (IsAdrO (a.get 8) ((x387_3).toNat * Enc.sz Account + 1)), [(134, some 10)]⟩ :: []) hmix hs (by kernel_rfl) ⟨ob1 rfl fun b q hk hn => ok_moveOA (.inl rfl) ⟨hn.1, up i8 hk hn.1⟩, ob1 rfl fun b q hk hn => ok_move rfl (up i6 hk hn.1), ob1 rfl fun b q hk hn => ok_moveOA (.inl rfl) ⟨hn.1, up i8 hk hn.1⟩, ob1 rfl fun b q hk hn => ok_move rfl (up i6 hk hn.1), ob1 rfl fun b q hk hn => ok_indexAddr rfl Try.underlying22 ty35 (IsOwn.rd (hn.1).2) hn.2.1 hx452_4, ob1 rfl fun b q hk hn => ok_fieldAddr rfl fo35_1 (at_Account_1 _) hn.1, ob1 rfl fun b q hk hn => ok_load rfl ty3 hn.1, ob1 rfl fun b q hk hn => ok_fieldAddr rfl fo33_3 (at_Move_3 _) ((up i3 hk hn.1)).ptr, ob1 rfl fun b q hk hn => ok_load rfl ty3 hn.1, ob1 rfl fun b q hk hn => ok_sub rfl hn.1 hn.2.1 hx452_9, ob1 rfl fun b q hk hn => ok_indexO rfl Try.underlying22 ty35 hn.1 hn.2.1 hx452_10, ob1 rfl fun b q hk hn => ok_fieldAdrO rfl fo35_1 hn.1, trivial⟩ hQQ468 fun b q p => ?_
    have hgq := hg.then p.grow
    have hsb := p.size.trans hs
    have hdb := p.defers.trans hd
    have j3 := keep p 3 rfl i3
    have j7 := keep p 7 rfl i7
    have j8 := keep p 8 rfl i8
    have y8 : Lo k0 (obF (b.get 8)) := by rw [p.old 8 rfl]; exact n8
    have j133 : (IsV x452_9) (b.get 133) q := out p 9 133 _ rfl rfl rfl
    have j135 : IsAdrO (a.get 8) ((x387_3).toNat * Enc.sz Account + 1) (b.get 135) q := out p 11 135 _ rfl rfl rfl
    have eo : b.get 8 = a.get 8 := p.old 8 rfl
    have hns := j8.nshF
    refine tail_storeS (i := 12) (u := b.get 8) (m := (x387_3).toNat) (off := 0 + 1) rfl rfl rfl rfl szf3 upd_F35_1 (by rw [eo]; exact j135) j8 (getI_spec hx452_10).2.1 j133 fun q2 hch hz => ?_
    replace hgq := hgq.step hch y8.wr
    have hle := hch.le hns
    replace j3 := Pers.pers hle j3
    replace j7 := Pers.pers hle j7
    replace j133 := Pers.pers hle j133
    replace j135 := Pers.pers hle j135
    replace j8 := hz
    rw [Option.some.inj hx452_12] at j8
    clear hns hle hch eo hz
    obtain ⟨q, hqq⟩ : ∃ q, q = q2 := ⟨q2, rfl⟩
    subst hqq
    exact tail_done (k := q) (hp469 _ _ ⟨⟨hgq, hsb, hdb⟩, j3, j7, j8, y8, trivial⟩)
  rintro a k ⟨⟨hg, hs, hd⟩, i3, i7, i8, n8, _⟩
  refine wp_seq ?_
  refine wp_seq ?_
  refine cut (fun a' k' => Bs noF k0 152 a' k' ∧ (IsRef m_) (a'.get 3) k' ∧ (IsV x388_3) (a'.get 7) k' ∧ IsOwn 0 35 x452_12 (a'.get 8) k' ∧ Lo k0 (obF (a'.get 8)) ∧ (IsV (m_.Kind == 1)) (a'.get 138) k' ∧ True) ?_ hQ ?_
  · intro Q466 hQQ466 hp467
    refine regionS (a0 := a) (k0 := k) (n := 152) (m := 3) (⟨some (IsPtr m_.Kind), [(3, none)]⟩ :: ⟨some (IsV m_.Kind), [(136, some 0)]⟩ :: ⟨some (IsV (m_.Kind == 1)), [(137, some 1)]⟩ :: []) hs (by kernel_rfl) ⟨ob1 rfl fun b q hk hn => ok_fieldAddr rfl fo33_0 (at_Move_0 _) ((up i3 hk hn.1)).ptr, ob1 rfl fun b q hk hn => ok_load rfl ty3 hn.1, ob1 rfl fun b q hk hn => ok_eqI rfl hn.1 (isV_int.2 rfl), trivial⟩ hQQ466 fun b q p => ?_
    exact tail_done (k := q) (hp467 _ _ ⟨Bs.post ⟨hg, hs, hd⟩ p, keep p 3 rfl i3, keep p 7 rfl i7, keep p 8 rfl i8, (by rw [p.old 8 rfl]; exact n8), out p 2 138 _ rfl rfl rfl, trivial⟩)
  rintro a k ⟨⟨hg, hs, hd⟩, i3, i7, i8, n8, i138, _⟩
  obtain ⟨s454, hs454, hr⟩ := bind_some hr
  refine cut (fun a' k' => Bs noF k0 152 a' k' ∧ (IsV s454) (a'.get 8) k' ∧ True) ?_ hQ ?_
  · intro Q465 hQQ465 hp455
    replace hr := hs454
    clear hQ
    have hQ := hQQ465
    refine wp_cond_split (isBool i138) (fun hc461 => ?_) (fun hc461 => ?_)
    · rw [if_pos hc461] at hr
      obtain ⟨x456_4, hx456_4, hr⟩ := bind_some hr
      obtain ⟨x456_9, hx456_9, hr⟩ := bind_some hr
      obtain ⟨x456_10, hx456_10, hr⟩ := bind_some hr
      obtain ⟨x456_12, hx456_12, hr⟩ := bind_some hr
      refine cut (fun a' k' => Bs noF k0 152 a' k' ∧ IsOwn 0 35 x456_12 (a'.get 8) k' ∧ Lo k0 (obF (a'.get 8)) ∧ True) ?_ hQ ?_
      · intro Q458 hQQ458 hp459
        refine region (a0 := a) (k0 := k) (n := 152) (m := 12) (⟨some (OwnAt (a.get 8) 0 35 x452_12), [(8, none)]⟩ :: ⟨some (IsV x388_3), [(7, none)]⟩ :: ⟨some (OwnAt (a.get 8) 0 35 x452_12), [(8, none)]⟩ :: ⟨some (IsV x388_3), [(7, none)]⟩ :: ⟨some (IsPtr x456_4), [(141, some 2), (142, some 3)]⟩ :: ⟨some (IsPtr x456_4.Units), [(143, some 4)]⟩ :: ⟨some (IsV x456_4.Units), [(144, some 5)]⟩ :: ⟨some (IsPtr m_.N), [(3, none)]⟩ :: ⟨some (IsV m_.N), [(146, some 7)]⟩ :: ⟨some (IsV x456_9), [(145, some 6), (147, some 8)]⟩ :: ⟨some (IsAdrO (a.get 8) ((x388_3).toNat * Enc.sz Account)), [(139, some 0), (140, some 1)]⟩ :: ⟨some (IsAdrO (a.get 8) ((x388_3).toNat * Enc.sz Account + 1)), [(149, some 10)]⟩ :: []) hmix hs (by kernel_rfl) ⟨ob1 rfl fun b q hk hn => ok_moveOA (.inl rfl) ⟨hn.1, up i8 hk hn.1⟩, ob1 rfl fun b q hk hn => ok_move rfl (up i7 hk hn.1), ob1 rfl fun b q hk hn => ok_moveOA (.inl rfl) ⟨hn.1, up i8 hk hn.1⟩, ob1 rfl fun b q hk hn => ok_move rfl (up i7 hk hn.1), ob1 rfl fun b q hk hn => ok_indexAddr rfl Try.underlying22 ty35 (IsOwn.rd (hn.1).2) hn.2.1 hx456_4, ob1 rfl fun b q hk hn => ok_fieldAddr rfl fo35_1 (at_Account_1 _) hn.1, ob1 rfl fun b q hk hn => ok_load rfl ty3 hn.1, ob1 rfl fun b q hk hn => ok_fieldAddr rfl fo33_3 (at_Move_3 _) ((up i3 hk hn.1)).ptr, ob1 rfl fun b q hk hn => ok_load rfl ty3 hn.1, ob1 rfl fun b q hk hn => ok_add rfl hn.1 hn.2.1 hx456_9, ob1 rfl fun b q hk hn => ok_indexO rfl Try.underlying22 ty35 hn.1 hn.2.1 hx456_10, ob1 rfl fun b q hk hn => ok_fieldAdrO rfl fo35_1 hn.1, trivial⟩ hQQ458 fun b q p => ?_
        have hgq := hg.then p.grow
        have hsb := p.size.trans hs
        have hdb := p.defers.trans hd
        have j8 := keep p 8 rfl i8
        have y8 : Lo k0 (obF (b.get 8)) := by rw [p.old 8 rfl]; exact n8
        have j148 : (IsV x456_9) (b.get 148) q := out p 9 148 _ rfl rfl rfl
        have j150 : IsAdrO (a.get 8) ((x388_3).toNat * Enc.sz Account + 1) (b.get 150) q := out p 11 150 _ rfl rfl rfl
        have eo : b.get 8 = a.get 8 := p.old 8 rfl
        have hns := j8.nshF
        refine tail_storeS (i := 12) (u := b.get 8) (m := (x388_3).toNat) (off := 0 + 1) rfl rfl rfl rfl szf3 upd_F35_1 (by rw [eo]; exact j150) j8 (getI_spec hx456_10).2.1 j148 fun q2 hch hz => ?_
        replace hgq := hgq.step hch y8.wr
        have hle := hch.le hns
        replace j148 := Pers.pers hle j148
        replace j150 := Pers.pers hle j150
        replace j8 := hz
        rw [Option.some.inj hx456_12] at j8
        clear hns hle hch eo hz
        obtain ⟨q, hqq⟩ : ∃ q, q = q2 := ⟨q2, rfl⟩
        subst hqq
        exact tail_done (k := q) (hp459 _ _ ⟨⟨hgq, hsb, hdb⟩, j8, y8, trivial⟩)
      rintro a k ⟨⟨hg, hs, hd⟩, i8, n8, _⟩
      obtain ⟨kk, sh457, ii8⟩ := i8.give
      replace i8 := ii8
      replace hg := hg.hand sh457 n8.wr
      rw [← sh457.w]
      clear sh457
      obtain ⟨k, hkk⟩ : ∃ k, k = kk := ⟨kk, rfl⟩
      subst hkk
      obtain rfl := Option.some.inj hr
      exact hp455 _ _ ⟨⟨hg, hs, hd⟩, i8, trivial⟩
    rw [if_neg (by rw [hc461]; decide)] at hr
    refine wp_skip ?_
    obtain ⟨kk, sh460, ii8⟩ := i8.give
    replace i8 := ii8
    replace hg := hg.hand sh460 n8.wr
    rw [← sh460.w]
    clear sh460
    obtain ⟨k, hkk⟩ : ∃ k, k = kk := ⟨kk, rfl⟩
    subst hkk
    obtain rfl := Option.some.inj hr
    exact hp455 _ _ ⟨⟨hg, hs, hd⟩, i8, trivial⟩
  clear hs454
  rintro a k ⟨⟨hg, hs, hd⟩, i8, _⟩
  refine wp_seq ?_
  refine cut (fun a' k' => Bs noF k0 152 a' k' ∧ (IsV s454) (a'.get 4) k' ∧ (IsV (α := Int) 0) (a'.get 5) k' ∧ True) ?_ hQ ?_
  · intro Q463 hQQ463 hp464
    refine regionS (a0 := a) (k0 := k) (n := 152) (m := 3) (⟨some (IsV s454), [(8, none)]⟩ :: ⟨some (IsV s454), [(151, some 0)]⟩ :: ⟨some (IsV (α := Int) 0), []⟩ :: []) hs (by kernel_rfl) ⟨ob1 rfl fun b q hk hn => ok_move rfl (up i8 hk hn.1), ob1 rfl fun b q hk hn => ok_assign rfl hn.1, ob1 rfl fun b q hk hn => ok_assign rfl (isV_int.2 rfl), trivial⟩ hQQ463 fun b q p => ?_
    exact tail_done (k := q) (hp464 _ _ ⟨Bs.post ⟨hg, hs, hd⟩ p, out p 1 4 _ rfl rfl rfl, out p 2 5 _ rfl rfl rfl, trivial⟩)
  rintro a k ⟨⟨hg, hs, hd⟩, i4, i5, _⟩
  refine wp_ret ?_
  obtain rfl := Option.some.inj hr
  exact retC2 rfl hd hg i4 i5
end Go.Proofs.Ytbanncpkgbiklaa
