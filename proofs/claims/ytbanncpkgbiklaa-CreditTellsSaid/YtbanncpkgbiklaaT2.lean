/- What the functions compute that the law reaches, part 2 -/
import Derived.Test.YtbanncpkgbiklaaT1
namespace Go.Proofs.Ytbanncpkgbiklaa
open Go.Gb
set_option linter.unusedVariables false
set_option linter.unusedSimpArgs false
set_option maxRecDepth 100000
section
open Go.Proofs Go.RowKit Go.Lib
set_option linter.unusedVariables false
set_option linter.unusedSimpArgs false
set_option maxHeartbeats 4000000 in
set_option maxRecDepth 100000 in
theorem ins_shift (b off n c i vb voff m vc : Nat) (e' : TypeId) (cur : Array Value) (cs vs : List Value) (w : World) (hz : (Try.prog.info? 35).map (·.size) = some 3)
    (hi : i < n) (hm : 0 < m) (hroom : n + m ≤ c) (hc63 : c ≤ 9223372036854775807) (hvb : vb ≠ b)
    (hg : w.heap[b]? = some (.cells cur e' (0, 0))) (hfit : off + c * 3 ≤ cur.size) (hcl : cs.length = (n - i) * 3) (hvl : vs.length = m * 3)
    (hcs : ∀ j v, cs[j]? = some v → w.cell? ⟨b, off + i * 3 + j, none⟩ = some v)
    (hvs : ∀ j v, vs[j]? = some v → w.cell? ⟨vb, voff + j, none⟩ = some v) (h1c : ∀ v ∈ cs, v.oneCell' = true) (h1v : ∀ v ∈ vs, v.oneCell' = true)
    (hov : ∀ lb cb, (callFunc 37 #[.slice (some ⟨vb, voff, none⟩) m vc, .slice (some ⟨b, off + (i + m) * 3, none⟩) lb cb]).run Try.prog w = .ok (.value (.bool false)) w) :
    Calls Try.prog 36 #[.slice (some ⟨b, off, none⟩) n c, .int .i64 i, .slice (some ⟨vb, voff, none⟩) m vc] w fun e w' =>
      e = .returned (.slice (some ⟨b, off, none⟩) (n + m) c) ∧ ∃ cur', w' = (w.drew.setRow b (cur.toList.take (off + (i + m) * 3) ++ cs ++ cur.toList.drop (off + (i + m) * 3 + cs.length)).toArray).setRow b cur' ∧
        cur'.toList = (cur.toList.take (off + (i + m) * 3) ++ cs ++ cur.toList.drop (off + (i + m) * 3 + cs.length)).take (off + i * 3) ++ vs ++ (cur.toList.take (off + (i + m) * 3) ++ cs ++ cur.toList.drop (off + (i + m) * 3 + cs.length)).drop (off + i * 3 + vs.length) := by
  have mixed : Try.prog.follows .mixedOrders = true := by kernel_rfl
  have hz1 : ¬ ((m : Int) = 0) := by omega
  have hz2 : ¬ ((i : Int) = (n : Int)) := by omega
  have hw1 : IntKind.i64.wrap ((i : Int) + (m : Int)) = (i : Int) + (m : Int) := by rw [IntKind.wrap_i64]; omega
  have hb1 : (0 : Int) ≤ (i : Int) + (m : Int) := by omega
  have hin : i ≤ n := by omega
  have htn : ((i : Int) + (m : Int)).toNat = i + m := by omega
  have hb2 : ¬ (c = i + m) := by omega
  have hb3 : (i : Int) ≤ (n : Int) + (m : Int) := by omega
  have hb4 : ¬ (c = i) := by omega
  have hgd : w.drew.heap[b]? = some (.cells cur e' (0, 0)) := hg
  have hadd : ∀ (x y j : Nat), (⟨x, y, none⟩ : Addr).add j = ⟨x, y + j, none⟩ := fun x y j => by unfold Addr.add; split <;> simp_all
  have hcp1 : ∀ ty dc sc, (Builtin.copy_ #[22, 22] ty #[.slice (some ⟨b, off + (i + m) * 3, none⟩) (n + m - (i + m)) dc, .slice (some ⟨b, off + i * 3, none⟩) (n + m - i) sc]).run Try.prog w.drew = _ := fun ty dc sc =>
    run_copy_raw (e := 35) (z := 3) Try.underlying22 hz hgd (cs := cs) (by rw [hcl, show Nat.min (n + m - i) (n + m - (i + m)) = n - i from by simp only [Nat.min_def]; split <;> omega]) (fun j v hj => by rw [hadd]; exact hcs j v hj) (by omega) h1c
  obtain ⟨W1, hW1⟩ : ∃ W1, W1 = w.drew.setRow b (cur.toList.take (off + (i + m) * 3) ++ cs ++ cur.toList.drop (off + (i + m) * 3 + cs.length)).toArray := ⟨_, rfl⟩
  have hg1 : W1.heap[b]? = some (.cells (cur.toList.take (off + (i + m) * 3) ++ cs ++ cur.toList.drop (off + (i + m) * 3 + cs.length)).toArray e' (0, 0)) := by
    rw [hW1]; exact setRow_heap w.drew b cur _ e' _ hgd
  have hcp2 : ∀ ty dc, (Builtin.copy_ #[22, 22] ty #[.slice (some ⟨b, off + i * 3, none⟩) (n + m - i) dc, .slice (some ⟨vb, voff, none⟩) m vc]).run Try.prog W1 = _ := fun ty dc =>
    run_copy_raw (e := 35) (z := 3) Try.underlying22 hz hg1 (cs := vs) (by rw [hvl, show Nat.min m (n + m - i) = m from by simp only [Nat.min_def]; split <;> omega]) (fun j v hj => by
      rw [hadd, hW1]
      have := hvs j v hj
      unfold World.cell? at this ⊢
      rw [setRow_other w.drew b vb _ hvb]
      exact this) (by simp only [List.size_toArray, List.length_append, List.length_take, List.length_drop, Array.length_toList]; omega) h1v
  rw [← hW1] at hcp1
  rw [← hW1]
  clear hW1
  go_enter Try.func36, Try.ntmps36
  go_wp2_with (simp only [hov])
  go_region_law_o (refine step_copy_runI rfl _ _ 22 22 rfl _ _ (by simp [Act.eval, Act.put]) (by simp [Act.eval, Act.put]) (hcp1 _ _ _) ?_)
  go_wp2_with (at_builtin; refine wpList_copy_runI _ rfl _ _ 22 22 rfl _ _ rfl rfl (hcp2 _ _) ?_)
  go_ret
  exact ⟨rfl, _, rfl, by simp [hcl, hvl]⟩
set_option maxHeartbeats 4000000 in
set_option maxRecDepth 100000 in
theorem ins_grow (b off n c i vb voff m vc : Nat) (cs vs : List Value) (w : World) (i0 : TypeInfo) (zv : Value) (hi0 : Try.prog.info? 35 = some i0) (hz0 : i0.zero = some zv) (hzs : i0.size = 3) (hzc : zv.cells.size = 3) (hby : i0.bytes ≤ 65536)
    (hi : i < n) (hm : 0 < m) (hnc : n ≤ c) (hroom : c < n + m) (hbig : n + m ≤ 1073741824) (hbw : b < w.heap.size) (hvw : vb < w.heap.size)
    (hcl : cs.length = n * 3) (hvl : vs.length = m * 3)
    (hcs : ∀ j v, cs[j]? = some v → w.cell? ⟨b, off + j, none⟩ = some v)
    (hvs : ∀ j v, vs[j]? = some v → w.cell? ⟨vb, voff + j, none⟩ = some v) (h1c : ∀ v ∈ cs, v.oneCell' = true) (h1v : ∀ v ∈ vs, v.oneCell' = true) :
    Calls Try.prog 36 #[.slice (some ⟨b, off, none⟩) n c, .int .i64 i, .slice (some ⟨vb, voff, none⟩) m vc] w fun e w' =>
      ∃ G ROW X2 X3, n + m ≤ G ∧ G ≤ maxLen ∧ e = .returned (.slice (some ⟨w.heap.size, 0, none⟩) (n + m) G) ∧ ROW.toList.take (i * 3) = cs.take (i * 3) ∧ ROW.size = G * 3 ∧
        w' = ((w.drew.alloc (.cells ROW 35)).setRow w.heap.size X2).drew.setRow w.heap.size X3 ∧
        X2.toList = ROW.toList.take (i * 3) ++ vs ++ ROW.toList.drop (i * 3 + m * 3) ∧ X3.toList = X2.toList.take ((i + m) * 3) ++ cs.drop (i * 3) ++ X2.toList.drop ((i + m) * 3 + (n - i) * 3) := by
  have mixed : Try.prog.follows .mixedOrders = true := by kernel_rfl
  have hz : (Try.prog.info? 35).map (·.size) = some 3 := by rw [hi0]; simp [hzs]
  have hz1 : ¬ ((m : Int) = 0) := by omega
  have hz2 : ¬ ((i : Int) = (n : Int)) := by omega
  have hz3 : (c : Int) < (n : Int) + (m : Int) := by omega
  have hadd : ∀ (x y j : Nat), (⟨x, y, none⟩ : Addr).add j = ⟨x, y + j, none⟩ := fun x y j => by unfold Addr.add; split <;> simp_all
  have hkk : (n : Int) + (m : Int) - (i : Int) = ((n + m - i : Nat) : Int) := by omega
  have hik : i + (n + m - i) = n + m := by omega
  have hold : (Builtin.firstCells i0.size i (.slice (some ⟨b, off, none⟩) i c)).run Try.prog w.drew = .ok (cs.take (i * 3)).toArray w.drew := by
    rw [hzs]
    exact run_firstCells_some w.drew 3 i ⟨b, off, none⟩ i c (cs.take (i * 3)) (by rw [List.length_take]; omega) (fun j v hj => by
      rw [hadd]
      rw [List.getElem?_take] at hj
      split at hj
      · exact hcs j v hj
      · cases hj)
  have hrz : ∀ ty, (Builtin.append_ #[22, 3] ty #[.slice (some ⟨b, off, none⟩) i c, .int .i64 ((n : Int) + (m : Int) - (i : Int))]).run Try.prog w =
      .ok (.slice (some ⟨w.heap.size, 0, none⟩) (n + m) (grownCap w (n + m) c 35)) (w.drew.alloc (.cells ((cs.take (i * 3)).toArray ++ Builtin.zeroCells zv.cells (n + m - i) ++ Builtin.zeroCells zv.cells (grownCap w (n + m) c 35 - (n + m))) 35)) := fun ty => by
    have h := Lib.run_append_grow_zeros w 22 3 ty 35 i0 zv .i64 .i64 Try.underlying22 Try.underlying3 hi0 hz0 (some ⟨b, off, none⟩) i c (cs.take (i * 3)) hold (n + m - i) (by omega) (by omega) (by omega) (by omega)
      (by have : (n + m - i) * i0.bytes ≤ 1073741824 * 65536 := Nat.mul_le_mul (by omega) hby; omega) (by rw [hik]; exact growslice_fits hroom (by
          have : (n + m) * i0.bytes ≤ 1073741824 * 65536 := Nat.mul_le_mul hbig hby
          omega))
    rw [hik] at h
    rw [hkk]
    exact h
  have hGn : n + m ≤ grownCap w (n + m) c 35 := grownCap_ge w _ _ _
  have hGm : grownCap w (n + m) c 35 ≤ maxLen := grownCap_le_maxLen w (n + m) c 35 (by unfold maxLen; omega)
  obtain ⟨G, hG⟩ : ∃ G, G = grownCap w (n + m) c 35 := ⟨_, rfl⟩
  rw [← hG] at hrz hGn hGm
  obtain ⟨ROW, hROW⟩ : ∃ ROW : Array Value, ROW = (cs.take (i * 3)).toArray ++ Builtin.zeroCells zv.cells (n + m - i) ++ Builtin.zeroCells zv.cells (G - (n + m)) := ⟨_, rfl⟩
  rw [← hROW] at hrz
  have hRs : ROW.size = G * 3 := by
    rw [hROW]
    simp only [Array.size_append, List.size_toArray, size_zeroCells, hzc, List.length_take, hcl]
    omega
  have hRt : ROW.toList.take (i * 3) = cs.take (i * 3) := by
    rw [hROW]
    simp only [Array.toList_append, List.append_assoc]
    rw [List.take_append_of_le_length (by simp; omega), List.take_of_length_le (by simp; omega)]
  obtain ⟨W1, hW1⟩ : ∃ W1, W1 = w.drew.alloc (.cells ROW 35) := ⟨_, rfl⟩
  rw [← hW1] at hrz
  have hg1 : W1.heap[w.heap.size]? = some (.cells ROW 35 (0, 0)) := by rw [hW1]; exact heap_alloc_new w.drew _
  have hold1 : ∀ x, x < w.heap.size → W1.heap[x]? = w.heap[x]? := fun x hx => by rw [hW1]; exact (World.grownBy_alloc w.drew _ none).block x hx (by simp)
  have hcpA : ∀ ty dc, (Builtin.copy_ #[22, 22] ty #[.slice (some ⟨w.heap.size, i * 3, none⟩) (n + m - i) dc, .slice (some ⟨vb, voff, none⟩) m vc]).run Try.prog W1 = _ := fun ty dc =>
    run_copy_raw (e := 35) (z := 3) Try.underlying22 hz hg1 (cs := vs) (by rw [hvl, show Nat.min m (n + m - i) = m from by simp only [Nat.min_def]; split <;> omega]) (fun j v hj => by
      rw [hadd]
      have := hvs j v hj
      unfold World.cell? at this ⊢
      simp only [hold1 vb hvw]
      exact this) (by omega) h1v
  obtain ⟨X2, hX2⟩ : ∃ X2, X2 = (ROW.toList.take (i * 3) ++ vs ++ ROW.toList.drop (i * 3 + vs.length)).toArray := ⟨_, rfl⟩
  rw [← hX2] at hcpA
  have hX2s : X2.size = G * 3 := by rw [hX2]; simp [hRs, hvl]; omega
  obtain ⟨W2, hW2⟩ : ∃ W2, W2 = W1.setRow w.heap.size X2 := ⟨_, rfl⟩
  rw [← hW2] at hcpA
  have hg2 : W2.drew.heap[w.heap.size]? = some (.cells X2 35 (0, 0)) := by rw [hW2]; exact setRow_heap W1 w.heap.size ROW _ 35 _ hg1
  have hcpB : ∀ ty dc sc, (Builtin.copy_ #[22, 22] ty #[.slice (some ⟨w.heap.size, (i + m) * 3, none⟩) (n + m - (i + m)) dc, .slice (some ⟨b, off + i * 3, none⟩) (n - i) sc]).run Try.prog W2.drew = _ := fun ty dc sc =>
    run_copy_raw (e := 35) (z := 3) Try.underlying22 hz hg2 (cs := cs.drop (i * 3)) (by rw [List.length_drop, hcl, show Nat.min (n - i) (n + m - (i + m)) = n - i from by simp only [Nat.min_def]; split <;> omega, Nat.sub_mul]) (fun j v hj => by
      rw [hadd]
      rw [List.getElem?_drop] at hj
      have := hcs _ v hj
      rw [← Nat.add_assoc] at this
      unfold World.cell? at this ⊢
      have hne : b ≠ w.heap.size := by omega
      have h2 : W2.drew.heap[b]? = w.heap[b]? := by rw [hW2]; exact (setRow_other W1 w.heap.size b _ hne).trans (hold1 b hbw)
      simp only [h2]
      exact this) (by rw [List.length_drop, hcl, hX2s]; have : (n + m) * 3 ≤ G * 3 := Nat.mul_le_mul_right 3 hGn
                      omega) (fun v hv => h1c v (List.mem_of_mem_drop hv))
  obtain ⟨X3, hX3⟩ : ∃ X3, X3 = (X2.toList.take ((i + m) * 3) ++ cs.drop (i * 3) ++ X2.toList.drop ((i + m) * 3 + (cs.drop (i * 3)).length)).toArray := ⟨_, rfl⟩
  rw [← hX3] at hcpB
  have hfin : ∃ (Y2 Y3 : Array Value), Y2 = X2 ∧ Y3 = X3 ∧ W2.drew.setRow w.heap.size X3 = ((w.drew.alloc (.cells ROW 35)).setRow w.heap.size Y2).drew.setRow w.heap.size Y3 ∧
      Y2.toList = ROW.toList.take (i * 3) ++ vs ++ ROW.toList.drop (i * 3 + m * 3) ∧ Y3.toList = Y2.toList.take ((i + m) * 3) ++ cs.drop (i * 3) ++ Y2.toList.drop ((i + m) * 3 + (n - i) * 3) :=
    ⟨X2, X3, rfl, rfl, by rw [hW2, hW1], by rw [hX2, hvl], by rw [hX3]; simp only [List.length_drop, hcl, Nat.sub_mul]⟩
  clear hX3 hX2 hW2 hW1 hROW hG hkk hik hold
  have hG63 : G ≤ 9223372036854775807 := by unfold maxLen at hGm; omega
  have hGi : ¬ (G = i) := by omega
  have hGim : ¬ (G = i + m) := by omega
  have hb1 : (0 : Int) ≤ (i : Int) + (m : Int) := by omega
  have htn : ((i : Int) + (m : Int)).toNat = i + m := by omega
  have hin : i ≤ n := by omega
  have hb3 : (i : Int) ≤ (n : Int) := by omega
  have hb4 : ¬ (c = i) := by omega
  have hw0 : IntKind.i64.wrap ((n : Int) + (m : Int)) = (n : Int) + (m : Int) := by rw [IntKind.wrap_i64]; omega
  have hw1 : IntKind.i64.wrap ((i : Int) + (m : Int)) = (i : Int) + (m : Int) := by rw [IntKind.wrap_i64]; omega
  have hw2 : IntKind.i64.wrap ((n : Int) + (m : Int) - (i : Int)) = (n : Int) + (m : Int) - (i : Int) := by rw [IntKind.wrap_i64]; omega
  go_enter Try.func36, Try.ntmps36
  go_wp2_with (first
    | (at_builtin; refine Lib.wpList_append_run _ rfl _ _ _ _ rfl _ _ rfl rfl _ _ (hrz _) ?_)
    | (at_builtin; refine wpList_copy_runI _ rfl _ _ 22 22 rfl _ _ rfl rfl (hcpA _ _) ?_))
  go_region_law_o (refine step_copy_runI rfl _ _ 22 22 rfl _ _ (by simp [Act.eval, Act.put]) (by simp [Act.eval, Act.put]) (hcpB _ _ _) ?_)
  go_wp2
  go_ret
  obtain ⟨Y2, Y3, rfl, rfl, e1, e2, e3⟩ := hfin
  exact ⟨G, ROW, Y2, Y3, hGn, hGm, rfl, hRt, hRs, e1, e2, e3⟩
set_option maxHeartbeats 4000000 in
set_option maxRecDepth 100000 in
theorem ins_end (base : Option Addr) (n c : Nat) (base2 : Option Addr) (m vc : Nat) (w w' : World) (v' : Value) (hm : 0 < m) (hnc : n ≤ c) (hb : base = none → c = 0)
    (hrun : (Builtin.append_ #[22, 22] 22 #[.slice base n c, .slice base2 m vc]).run Try.prog w = .ok v' w') :
    Calls Try.prog 36 #[.slice base n c, .int .i64 n, .slice base2 m vc] w fun e w2 => e = .returned v' ∧ w2 = w' := by
  have hz1 : ¬ ((m : Int) = 0) := by omega
  have hzn : n ≤ n := Nat.le_refl n
  go_enter Try.func36, Try.ntmps36
  cases base with
  | none =>
    have hc0 := hb rfl
    subst hc0
    have hn0 : n = 0 := by omega
    subst hn0
    go_wp2_with (at_builtin; refine Lib.wpList_append_run _ rfl _ _ _ _ rfl _ _ rfl rfl _ _ hrun ?_)
    go_ret
    exact ⟨rfl, rfl⟩
  | some a =>
    obtain ⟨ab, ao, asp⟩ := a
    go_wp2_with (at_builtin; refine Lib.wpList_append_run _ rfl _ _ _ _ rfl _ _ rfl rfl _ _ hrun ?_)
    all_goals (go_ret; exact ⟨rfl, rfl⟩)
def insertA (xs : List Account) (i : Int) (ys : List Account) : Option (List Account) :=
  if 0 ≤ i ∧ i ≤ xs.length ∧ 0 < ys.length ∧ xs.length + ys.length ≤ 1073741824 then some (xs.take i.toNat ++ ys ++ xs.drop i.toNat) else none
theorem sz35 : Enc.sz Account = 3 := rfl
theorem insertA_ok {k0 : K} {v0 v1 v2 : Value} {xs ys : List Account} {i : Int} {r : List Account} (i0 : IsOwn 0 35 xs v0 k0) (i1 : IsV i v1 k0) (i2 : IsOwn 0 35 ys v2 k0) (d02 : Apart (obF v0) (obF v2)) (hr : insertA xs i ys = some r) :
    Calls Try.prog 36 #[v0, v1, v2] k0.w (RetC (obF v0) k0 (fun v k => IsOwn 0 35 r v k ∧ Wr (obF v0) k0 (obF v))) := by
  obtain ⟨⟨h0, hin, hm, hbig⟩, rfl⟩ := of_ite hr
  rw [isV_int.1 i1]
  obtain ⟨I, rfl⟩ : ∃ I : Nat, i = (I : Int) := ⟨i.toNat, by omega⟩
  have hI : I ≤ xs.length := by omega
  rw [Int.toNat_natCast]
  obtain ⟨i0i, zv, hi0, hz0, hsz0, hzc, hpos, hby⟩ := eo35
  have hz : (Try.prog.info? 35).map (·.size) = some 3 := by rw [hi0]; simp [hsz0, sz35]
  have hrd := IsOwn.rd i2
  rcases i2 with ⟨_, rfl⟩ | ⟨_, _, rfl⟩ | ⟨vb, voff, vc, cur2, vs, rfl, _, hvo, hvh, hvc, hv0, hvm, hvs, hvcells, hvr⟩
  · simp at hm
  · simp at hm
  rcases Nat.lt_or_ge I xs.length with hlt | hge
  · rcases i0 with ⟨_, rfl⟩ | ⟨_, _, rfl⟩ | ⟨b, off, cap, cur, cs, rfl, _, ho, hh, hc, hc0, hcm, hcs, hcells, hrep⟩
    · simp at hlt
    · simp at hlt
    have hcl := hrep.len
    have hvl := hvr.len
    have hvbb : vb ≠ b := fun e => d02 b (by simp [obF, ob, Nat.ne_of_gt hc0]) (by simp [obF, ob, Nat.ne_of_gt hv0, e])
    have hbw : b < k0.w.heap.size := (Array.getElem?_eq_some_iff.1 hh).1
    have hvw : vb < k0.w.heap.size := (Array.getElem?_eq_some_iff.1 hvh).1
    have hcat : CellsAt k0.w ⟨b, off, none⟩ cs := by
      have := cellsAt_row (n := xs.length * Enc.sz Account) (off := off) hh (by have := Nat.mul_le_mul_right (Enc.sz Account) hc; omega)
      rwa [hcells] at this
    have hvat : CellsAt k0.w ⟨vb, voff, none⟩ vs := by
      have := cellsAt_row (n := ys.length * Enc.sz Account) (off := voff) hvh (by have := Nat.mul_le_mul_right (Enc.sz Account) hvc; omega)
      rwa [hvcells] at this
    have hadd : ∀ (x y j : Nat), (⟨x, y, none⟩ : Addr).add j = ⟨x, y + j, none⟩ := fun x y j => by unfold Addr.add; split <;> simp_all
    have hcc : ∀ j v, cs[j]? = some v → k0.w.cell? ⟨b, off + j, none⟩ = some v := fun j v hj => by rw [← hadd]; exact hcat.cell j v hj
    have hvv : ∀ j v, vs[j]? = some v → k0.w.cell? ⟨vb, voff + j, none⟩ = some v := fun j v hj => by rw [← hadd]; exact hvat.cell j v hj
    rw [sz35] at hcl hvl hcs hvs hcells hvcells
    have hnew : RepL k0 (cs.take (I * 3) ++ vs ++ cs.drop (I * 3)) (xs.take I ++ ys ++ xs.drop I) := ((RepL.take I hrep).append hvr).append (RepL.drop I hrep)
    have hlen : (xs.take I ++ ys ++ xs.drop I).length = xs.length + ys.length := by simp; omega
    by_cases hroom : xs.length + ys.length ≤ cap
    · have hov : ∀ lb cb, (callFunc 37 #[.slice (some ⟨vb, voff, none⟩) ys.length vc, .slice (some ⟨b, off + (I + ys.length) * 3, none⟩) lb cb]).run Try.prog k0.w = .ok (.value (.bool false)) k0.w := fun lb cb => by
        rw [run_callFunc_extern (P := Try.prog) (f := 37) rfl (by kernel_rfl) (by kernel_rfl) (by kernel_rfl) (e := Extern.SlicesOverlaps.overlaps #[22, 22] #[4]) (by kernel_rfl),
          Lib.run_overlaps_apart k0.w 22 4 35 Try.underlying22 3 (fun w => Go.Gb.run_sizeOf hz) ⟨vb, voff, none⟩ ⟨b, off + (I + ys.length) * 3, none⟩ ys.length vc lb cb hvbb 35 35 cur2.size cur.size
            (by simp [World.shape?, hvh]) (by simp [World.shape?, hh]) (by omega) (by simp [World.frozen?, hvh]) (by simp [World.frozen?, hvh])]
        rfl
      refine Calls.mono (ins_shift b off xs.length cap I vb voff ys.length vc 35 cur (cs.drop (I * 3)) vs k0.w hz hlt hm hroom (by unfold maxLen at hcm; omega) hvbb hh hcs (by rw [List.length_drop, hcl, Nat.sub_mul]) hvl
        (fun j v hj => by rw [List.getElem?_drop] at hj; rw [Nat.add_assoc]; exact hcc _ v hj) hvv (fun u hu => hrep.one u (List.mem_of_mem_drop hu)) hvr.one hov) fun e w' he => ?_
      obtain ⟨rfl, X3, hw', hX3⟩ := he
      have hblk : ∀ x, x ≠ b → w'.heap[x]? = k0.w.heap[x]? := fun x hx => by
        rw [hw']
        exact (setRow_other _ _ _ _ hx).trans (setRow_other k0.w.drew _ _ _ hx)
      have hsz : w'.heap.size = k0.w.heap.size := by rw [hw']; simp
      have hrow : w'.heap[b]? = some (.cells X3 35 (0, 0)) := by
        rw [hw']
        exact setRow_heap _ _ _ X3 35 _ (setRow_heap k0.w.drew _ cur _ 35 _ hh)
      have hcul : cur.toList.length = cur.size := by simp
      have hX3t : (X3.toList.drop off).take ((xs.length + ys.length) * 3) = cs.take (I * 3) ++ vs ++ cs.drop (I * 3) := by
        have hA : (cur.toList.take (off + (I + ys.length) * 3) ++ cs.drop (I * 3) ++ cur.toList.drop (off + (I + ys.length) * 3 + (cs.drop (I * 3)).length)).take (off + I * 3) = cur.toList.take (off + I * 3) := by
          rw [List.append_assoc, List.take_append_of_le_length (by simp only [List.length_take, hcul]; omega), List.take_take, Nat.min_eq_left (by omega)]
        have hB : (cur.toList.take (off + (I + ys.length) * 3) ++ cs.drop (I * 3) ++ cur.toList.drop (off + (I + ys.length) * 3 + (cs.drop (I * 3)).length)).drop (off + I * 3 + vs.length) =
            cs.drop (I * 3) ++ cur.toList.drop (off + (I + ys.length) * 3 + (cs.drop (I * 3)).length) := by
          rw [List.append_assoc]
          exact List.drop_left' (by simp only [List.length_take, hcul, hvl]; omega)
        rw [hX3, hA, hB, List.append_assoc, List.drop_append_of_le_length (by simp only [List.length_take, hcul]; omega), List.drop_take, Nat.add_sub_cancel_left]
        have hC : (cur.toList.drop off).take (I * 3) = cs.take (I * 3) := by
          rw [← hcells, List.take_take, Nat.min_eq_left (by omega)]
        rw [hC, ← List.append_assoc, ← List.append_assoc]
        exact List.take_left' (by simp only [List.length_append, List.length_take, List.length_drop, hcl, hvl]; omega)
      have hX3l : X3.size = cur.size := by
        have : X3.toList.length = cur.size := by rw [hX3]; simp only [List.length_append, List.length_take, List.length_drop, hcul, hcl, hvl]; omega
        simpa using this
      let k' : K := ⟨w', k0.sh, fun x hx => by have := k0.lt x hx; omega⟩
      have hle : Le k0 k' := ⟨fun x hx => hblk x (fun e => ho (e ▸ hx)), fun x hx => hx⟩
      refine ⟨k', rfl, ⟨by rw [show k'.w = w' from rfl, hw']; rfl, by rw [show k'.w = w' from rfl, hw']; rfl, by rw [show k'.w = w' from rfl, hw']; rfl, by show _ ≤ w'.heap.size; omega, fun x hx hF => hblk x (fun e => hF (by simp [obF, ob, Nat.ne_of_gt hc0, e])), fun _ h => h, fun _ _ h => .inl h, ?_⟩, .inr (.inr ⟨b, off, cap, X3, _, by rw [hlen], Nat.zero_le _, ho, hrow, by rw [hlen]; exact hroom, hc0, hcm, ?_, rfl, ?_⟩), ?_⟩
      · show k0.w.drawn ≤ w'.drawn
        rw [hw']
        exact Nat.le_succ _
      · rw [sz35, hX3l]; exact hcs
      · rw [hlen, sz35, hX3t]
        exact hnew.mono hle
      · intro x hx
        refine .inl ?_
        simp only [obF, ob] at hx ⊢
        exact hx
    · refine Calls.mono (ins_grow b off xs.length cap I vb voff ys.length vc cs vs k0.w i0i zv hi0 hz0 (by rw [hsz0]; rfl) (by rw [hzc]; rfl) hby hlt hm hc (by omega) hbig hbw hvw hcl hvl hcc hvv hrep.one hvr.one) fun e w' he => ?_
      obtain ⟨G, ROW, X2, X3, hG, hGm, rfl, hRt, hRs, hw', hX2, hX3⟩ := he
      have hsz : w'.heap.size = k0.w.heap.size + 1 := by rw [hw']; simp
      have hblk : ∀ x, x < k0.w.heap.size → w'.heap[x]? = k0.w.heap[x]? := fun x hx => by
        rw [hw']
        exact ((setRow_other _ _ _ _ (by omega)).trans (setRow_other (k0.w.drew.alloc (.cells ROW 35)) _ _ _ (by omega))).trans ((World.grownBy_alloc k0.w.drew _ none).block x hx (by simp))
      have hrow : w'.heap[k0.w.heap.size]? = some (.cells X3 35 (0, 0)) := by
        rw [hw']
        exact setRow_heap _ _ X2 _ 35 _ (setRow_heap (k0.w.drew.alloc (.cells ROW 35)) _ ROW X2 35 _ (heap_alloc_new k0.w.drew _))
      have hRl : ROW.toList.length = G * 3 := by simpa using hRs
      have hX2l : X2.toList.length = G * 3 := by rw [hX2]; simp only [List.length_append, List.length_take, List.length_drop, hRl, hvl]; omega
      have hX2t : X2.toList.take ((I + ys.length) * 3) = cs.take (I * 3) ++ vs := by
        rw [hX2, hRt]
        exact List.take_left' (by simp only [List.length_append, List.length_take, hcl, hvl]; omega)
      have hX3t : X3.toList.take ((xs.length + ys.length) * 3) = cs.take (I * 3) ++ vs ++ cs.drop (I * 3) := by
        rw [hX3, hX2t]
        exact List.take_left' (by simp only [List.length_append, List.length_take, List.length_drop, hcl, hvl]; omega)
      have hX3l : X3.size = G * 3 := by
        have : X3.toList.length = G * 3 := by rw [hX3]; simp only [List.length_append, List.length_take, List.length_drop, hX2l, hcl]; omega
        simpa using this
      let k' : K := ⟨w', k0.sh, fun x hx => by have := k0.lt x hx; omega⟩
      have hle : Le k0 k' := ⟨fun x hx => hblk x (k0.lt x hx), fun x hx => hx⟩
      refine ⟨k', rfl, ⟨by rw [show k'.w = w' from rfl, hw']; rfl, by rw [show k'.w = w' from rfl, hw']; rfl, by rw [show k'.w = w' from rfl, hw']; rfl, by show _ ≤ w'.heap.size; omega, fun x hx _ => hblk x hx, fun _ h => h, fun _ _ h => .inl h, ?_⟩, .inr (.inr ⟨k0.w.heap.size, 0, G, X3, _, by rw [hlen], Nat.zero_le _, fun hs => Nat.lt_irrefl _ (k0.lt _ hs), hrow, by rw [hlen]; exact hG, by omega, hGm, ?_, rfl, ?_⟩), ?_⟩
      · show k0.w.drawn ≤ w'.drawn
        rw [hw']
        exact Nat.le_trans (Nat.le_succ _) (Nat.le_succ _)
      · rw [sz35, hX3l]; omega
      · rw [hlen, sz35, List.drop_zero, hX3t]
        exact hnew.mono hle
      · intro x hx
        refine .inr ?_
        simp only [obF, ob] at hx
        split at hx
        · simp at hx
        · simp at hx; omega
  · have hIe : I = xs.length := by omega
    subst hIe
    obtain ⟨v', k', hrun, hg, hown, hob⟩ := run_append (P := Try.prog) (t := 22) (ty := 22) (e := 35) (B := 0) Try.underlying22 ⟨i0i, zv, hi0, hz0, hsz0, hzc, hpos, hby⟩ (Nat.zero_le _) i0 hrd (show appI xs ys = some (xs ++ ys) from if_pos hbig)
    have hv0s : ∃ base c, v0 = .slice base xs.length c ∧ xs.length ≤ c ∧ (base = none → c = 0) := by
      rcases i0 with ⟨rfl, rfl⟩ | ⟨ad, rfl, rfl⟩ | ⟨b, off, cap, cur, cs, rfl, _, _, _, hc, _⟩
      · exact ⟨none, 0, rfl, Nat.le_refl _, fun _ => rfl⟩
      · exact ⟨some ad, 0, rfl, Nat.le_refl _, fun _ => rfl⟩
      · exact ⟨_, cap, rfl, hc, fun h => by simp at h⟩
    obtain ⟨base, c, rfl, hnc, hb0⟩ := hv0s
    refine Calls.mono (ins_end base xs.length c _ ys.length vc k0.w k'.w v' hm hnc hb0 hrun) fun e w' he => ?_
    obtain ⟨rfl, rfl⟩ := he
    refine ⟨k', rfl, hg.chg, ?_, fun x hx => ?_⟩
    · simpa using hown
    · exact (hob x hx).imp id id
end

abbrev PM := GMap Int (List (Int × Int))
def PM.at (m : PM) (n : Int) : List (Int × Int) := (getK m.l n).getD []
abbrev kI : Int → Value := KeyV.kv
theorem zero29 : ∀ w, (zeroValue 29).run Try.prog w = .ok nilS w := fun w => Try.zeroValue29 w

def cPut (m : PM) (lot origin n : Int) : Option PM :=
  if (n == 0) then some m else
  (if (decide (0 < ((m.at lot).length : Int))) then
    (subI ((m.at lot).length : Int) 1).bind fun x1 =>
    (getI (m.at lot) x1).bind fun x2 =>
    some (x2.1 == origin)
  else some false).bind fun x3 =>
  if x3 then
    (subI ((m.at lot).length : Int) 1).bind fun x4 =>
    (getI (m.at lot) x4).bind fun x5 =>
    (addI x5.2 n).bind fun x6 =>
    (getI (m.at lot) x4).bind fun x7 =>
    some ⟨backK m.l lot ((m.at lot).set x4.toNat (x7.1, x6))⟩
  else
    (appI (m.at lot) [(origin, n)]).bind fun x8 =>
    some ⟨setK m.l lot x8⟩

theorem retT {R : FP → Pred} {F G : FP} {k0 k : K} {u : Value} {fn : Func} {a : Act} (hr : fn.results = #[]) (hd : a.defers = []) (hg : Chg F k0 k) (h : R G u k) (hG : ∀ c, G c → F c ∨ k0.w.heap.size ≤ c) :
    bodyPost Try.prog fn (RetC F k0 (fun _ => Turned R u k0 F)) .ret a k.w :=
  ⟨hd, .tuple #[], by simp [results, hr], k, rfl, hg, G, h, hG⟩

theorem cPut_ok {k0 : K} {F0 : FP} {v0 v1 v2 v3 : Value} {m : PM} {lot origin n_ : Int} {r : PM} (i0 : SlR kI 37 m.l F0 v0 k0) (i1 : (IsV lot) v1 k0) (i2 : (IsV origin) v2 k0) (i3 : (IsV n_) v3 k0) (hr : cPut m lot origin n_ = some r) :
    Calls Try.prog 26 #[v0, v1, v2, v3] k0.w (RetC F0 k0 (fun _ => Turned (SlR kI 37 r.l) v0 k0 F0)) := by
  unfold cPut at hr
  refine enterK Try.func26 rfl Try.ntmps26 (show 4 ≤ 49 by decide) fun a k hk0 hs hd ha => ?_
  obtain ⟨e0, e1, e2, e3, _⟩ := ha
  replace i0 : SlR kI 37 m.l F0 v0 k := by rw [hk0]; exact i0
  replace i1 : (IsV lot) (a.get 1) k := by rw [e1, hk0]; exact i1
  replace i2 : (IsV origin) (a.get 2) k := by rw [e2, hk0]; exact i2
  replace i3 : (IsV n_) (a.get 3) k := by rw [e3, hk0]; exact i3
  have hQ : Gb.LetsOut (bodyPost Try.prog Try.f26 (RetC F0 k0 (fun _ => Turned (SlR kI 37 r.l) v0 k0 F0))) := letsOutC
  have hg : Chg F0 k0 k := by rw [hk0]; exact Chg.refl _ k0
  obtain ⟨bm, u8, G8, hv, hH, i8, hA, hF⟩ := i0.focus lot
  have hGs : Wr F0 k0 G8 := fun c hc => .inl (hF c (.inl hc))
  have n8 : Wr F0 k0 (obF u8) := fun c hc => .inl (hF c (.inr hc))
  have e8 := e0
  rw [hv] at e0
  replace i8 : IsOwn 0 37 (m.at lot) u8 k := i8
  generalize hl : m.at lot = l_ at hr i8
  refine wp_seq ?_
  refine cut (fun a' k' => Chg F0 k0 k' ∧ a'.tmps.size = 49 ∧ a'.defers = [] ∧ a'.get 0 = .map (some bm) ∧ SlR kI 37 m.l F0 v0 k' ∧ HoleR kI 37 m.l lot bm u8 G8 v0 k' ∧ (IsV lot) (a'.get 1) k' ∧ (IsV origin) (a'.get 2) k' ∧ (IsV n_) (a'.get 3) k' ∧ a'.get 8 = u8 ∧ IsOwn 0 37 l_ u8 k' ∧ True) ?_ hQ ?_
  · intro Q1 hQ1 hp
    refine regionS (a0 := a) (k0 := k) (n := 49) (m := 4) (⟨some (Is (.map (some bm))), [(0, none)]⟩ :: ⟨some (IsV lot), [(1, none)]⟩ :: ⟨some (Is u8), [(9, some 0), (10, some 1)]⟩ :: ⟨some (Is u8), [(11, some 2)]⟩ :: []) hs (by kernel_rfl)
      ⟨⟨inferInstance, .inl ⟨fun b q hk hn => ok_move rfl (show b.get 0 = _ from hn.1.trans e0), rfl⟩⟩, ⟨inferInstance, .inl ⟨fun b q hk hn => ok_move rfl (up i1 hk hn.1), rfl⟩⟩,
       ⟨inferInstance, .inl ⟨fun b q hk hn => ok_lookupH rfl key3 Try.underlying49 zero29 hn.1 (isV_int.1 hn.2.1) (Rsc.grow hH hk), rfl⟩⟩, ⟨inferInstance, .inl ⟨fun b q hk hn => ok_assign rfl hn.1, rfl⟩⟩, trivial⟩ hQ1 fun b q p => ?_
    exact tail_done (k := q) (hp _ _ ⟨hg.then p.grow, p.size.trans hs, p.defers.trans hd, (p.old 0 rfl).trans e0, Rsc.grow i0 p.grow, Rsc.grow hH p.grow, keep p 1 rfl i1, keep p 2 rfl i2, keep p 3 rfl i3, out p 3 8 _ rfl rfl rfl, Mono.mono p.grow i8, trivial⟩)
  · clear i0 hH i1 i2 i3 i8 hg hs hd e0 e1 e2 e3 e8
    rintro a k ⟨hg, hs, hd, e0, i0, hH, i1, i2, i3, e8, i8, _⟩
    replace i8 : IsOwn 0 37 l_ (a.get 8) k := by rw [e8]; exact i8
    refine wp_block ?_
    refine wp_seq ?_
    refine cut (fun a' k' => Chg F0 k0 k' ∧ a'.tmps.size = 49 ∧ a'.defers = [] ∧ a'.get 0 = .map (some bm) ∧ SlR kI 37 m.l F0 v0 k' ∧ HoleR kI 37 m.l lot bm u8 G8 v0 k' ∧ (IsV lot) (a'.get 1) k' ∧ (IsV origin) (a'.get 2) k' ∧ (IsV n_) (a'.get 3) k' ∧ a'.get 8 = u8 ∧ IsOwn 0 37 l_ (a'.get 8) k' ∧ (IsV (n_ == 0)) (a'.get 20) k' ∧ True) ?_ hQ ?_
    · intro Q22 hQQ22 hp
      refine regionS (a0 := a) (k0 := k) (n := 49) (m := 3) (⟨some (IsV n_), [(3, none)]⟩ :: ⟨some (IsV (n_ == 0)), [(21, some 0)]⟩ :: ⟨some (IsV (n_ == 0)), [(22, some 1)]⟩ :: []) hs (by kernel_rfl) ⟨⟨inferInstance, .inl ⟨fun b q hk hn => ok_move rfl (up i3 hk hn.1), rfl⟩⟩, ⟨inferInstance, .inl ⟨fun b q hk hn => ok_eqI rfl hn.1 (isV_int.2 rfl), rfl⟩⟩, ⟨inferInstance, .inl ⟨fun b q hk hn => ok_assign rfl hn.1, rfl⟩⟩, trivial⟩ hQQ22 fun b q p => ?_
      exact tail_done (k := q) (hp _ _ ⟨hg.then p.grow, p.size.trans hs, p.defers.trans hd, (p.old 0 rfl).trans e0, Rsc.grow i0 p.grow, Rsc.grow hH p.grow, keep p 1 rfl i1, keep p 2 rfl i2, keep p 3 rfl i3, (p.old 8 rfl).trans e8, keep p 8 rfl i8, out p 2 20 _ rfl rfl rfl, trivial⟩)
    · clear i0 hH i1 i2 i3 i8 hg hs hd e0 e8
      rintro a k ⟨hg, hs, hd, e0, i0, hH, i1, i2, i3, e8, i8, i20, _⟩
      refine wp_cond_split (isBool i20) (fun hc20 => ?_) (fun hc20 => ?_)
      · rw [if_pos hc20] at hr
        refine wp_skip ?_
        obtain rfl := Option.some.inj hr
        exact retT (R := SlR kI 37 m.l) rfl hd hg i0 (fun c hc => .inl hc)
      · rw [if_neg (by rw [hc20]; decide)] at hr
        clear i0
        refine wp_seq ?_
        obtain ⟨x3, hx3, hr⟩ := bind_some hr
        refine cut (fun a' k' => Chg F0 k0 k' ∧ a'.tmps.size = 49 ∧ a'.defers = [] ∧ a'.get 0 = .map (some bm) ∧ HoleR kI 37 m.l lot bm u8 G8 v0 k' ∧ (IsV lot) (a'.get 1) k' ∧ (IsV origin) (a'.get 2) k' ∧ (IsV n_) (a'.get 3) k' ∧ a'.get 8 = u8 ∧ IsOwn 0 37 l_ (a'.get 8) k' ∧ (IsV x3) (a'.get 23) k' ∧ True) ?_ hQ ?_
        · intro Q15 hQQ15 hp
          rcases Bool.eq_false_or_eq_true (decide (0 < (l_.length : Int))) with hm17 | hm17
          · have ht18 := hx3
            rw [if_pos hm17] at ht18
            obtain ⟨x4_7, hx4_7, ht18⟩ := bind_some ht18
            obtain ⟨x4_8, hx4_8, ht18⟩ := bind_some ht18
            refine regionS (a0 := a) (k0 := k) (n := 49) (m := 15) (⟨some (OwnAt (a.get 8) 0 37 l_), [(8, none)]⟩ :: ⟨some (IsV (α := Int) (l_.length : Int)), [(24, some 0)]⟩ :: ⟨some (IsV (decide (0 < (l_.length : Int)))), [(25, some 1)]⟩ :: ⟨some (IsV (decide (0 < (l_.length : Int)))), [(26, some 2)]⟩ :: ⟨some (OwnAt (a.get 8) 0 37 l_), [(8, none)]⟩ :: ⟨some (OwnAt (a.get 8) 0 37 l_), [(8, none)]⟩ :: ⟨some (IsV (α := Int) (l_.length : Int)), [(29, some 5)]⟩ :: ⟨some (IsV x4_7), [(30, some 6)]⟩ :: ⟨some (IsPtr x4_8), [(28, some 4), (31, some 7)]⟩ :: ⟨some (IsPtr x4_8.1), [(32, some 8)]⟩ :: ⟨some (IsV x4_8.1), [(33, some 9)]⟩ :: ⟨some (IsV origin), [(2, none)]⟩ :: ⟨some (IsV (x4_8.1 == origin)), [(34, some 10), (35, some 11)]⟩ :: ⟨some (IsV x3), [(27, some 3), (36, some 12)]⟩ :: ⟨some (IsV x3), [(37, some 13)]⟩ :: []) hs (by kernel_rfl) ⟨⟨inferInstance, .inl ⟨fun b q hk hn => ok_moveOA (.inl rfl) ⟨hn.1, up i8 hk hn.1⟩, rfl⟩⟩, ⟨inferInstance, .inl ⟨fun b q hk hn => ok_len rfl rfl Try.underlying29 (IsOwn.rd (hn.1).2), rfl⟩⟩, ⟨inferInstance, .inl ⟨fun b q hk hn => ok_gtr rfl hn.1 (isV_int.2 rfl), rfl⟩⟩, ⟨inferInstance, .inl ⟨fun b q hk hn => ok_move rfl hn.1, rfl⟩⟩, ⟨inferInstance, .inl ⟨fun b q hk hn => ok_moveOA (.inl rfl) ⟨hn.1, up i8 hk hn.1⟩, guardT hm17⟩⟩, ⟨inferInstance, .inl ⟨fun b q hk hn => ok_moveOA (.inl rfl) ⟨hn.1, up i8 hk hn.1⟩, guardT hm17⟩⟩, ⟨inferInstance, .inl ⟨fun b q hk hn => ok_len rfl rfl Try.underlying29 (IsOwn.rd (hn.1).2), guardT hm17⟩⟩, ⟨inferInstance, .inl ⟨fun b q hk hn => ok_sub rfl hn.1 (isV_int.2 rfl) hx4_7, guardT hm17⟩⟩, ⟨inferInstance, .inl ⟨fun b q hk hn => ok_indexAddr rfl Try.underlying29 ty37 (IsOwn.rd (hn.1).2) hn.2.1 hx4_8, guardT hm17⟩⟩, ⟨inferInstance, .inl ⟨fun b q hk hn => ok_arrAddr (i := 0) rfl ao37 (by decide) (aat37_0 _) hn.1 (isV_int.2 rfl), guardT hm17⟩⟩, ⟨inferInstance, .inl ⟨fun b q hk hn => ok_load rfl ty3 hn.1, guardT hm17⟩⟩, ⟨inferInstance, .inl ⟨fun b q hk hn => ok_move rfl (up i2 hk hn.1), guardT hm17⟩⟩, ⟨inferInstance, .inl ⟨fun b q hk hn => ok_eqI rfl hn.1 hn.2.1, guardT hm17⟩⟩, ⟨inferInstance, .inl ⟨fun b q hk hn => ok_cast (Option.some.inj ht18) (ok_pick_t rfl hn.1 hm17 hn.2.1), rfl⟩⟩, ⟨inferInstance, .inl ⟨fun b q hk hn => ok_assign rfl hn.1, rfl⟩⟩, trivial⟩ hQQ15 fun b q p => ?_
            exact tail_done (k := q) (hp _ _ ⟨hg.then p.grow, p.size.trans hs, p.defers.trans hd, (p.old 0 rfl).trans e0, Rsc.grow hH p.grow, keep p 1 rfl i1, keep p 2 rfl i2, keep p 3 rfl i3, (p.old 8 rfl).trans e8, keep p 8 rfl i8, out p 14 23 _ rfl rfl rfl, trivial⟩)
          · have ht18 := hx3
            rw [if_neg (by rw [hm17]; decide)] at ht18
            refine regionS (a0 := a) (k0 := k) (n := 49) (m := 15) (⟨some (OwnAt (a.get 8) 0 37 l_), [(8, none)]⟩ :: ⟨some (IsV (α := Int) (l_.length : Int)), [(24, some 0)]⟩ :: ⟨some (IsV (decide (0 < (l_.length : Int)))), [(25, some 1)]⟩ :: ⟨some (IsV (decide (0 < (l_.length : Int)))), [(26, some 2)]⟩ :: ⟨none, []⟩ :: ⟨none, []⟩ :: ⟨none, []⟩ :: ⟨none, []⟩ :: ⟨none, []⟩ :: ⟨none, []⟩ :: ⟨none, []⟩ :: ⟨none, []⟩ :: ⟨none, []⟩ :: ⟨some (IsV x3), [(27, some 3), (36, some 12)]⟩ :: ⟨some (IsV x3), [(37, some 13)]⟩ :: []) hs (by kernel_rfl) ⟨⟨inferInstance, .inl ⟨fun b q hk hn => ok_moveOA (.inl rfl) ⟨hn.1, up i8 hk hn.1⟩, rfl⟩⟩, ⟨inferInstance, .inl ⟨fun b q hk hn => ok_len rfl rfl Try.underlying29 (IsOwn.rd (hn.1).2), rfl⟩⟩, ⟨inferInstance, .inl ⟨fun b q hk hn => ok_gtr rfl hn.1 (isV_int.2 rfl), rfl⟩⟩, ⟨inferInstance, .inl ⟨fun b q hk hn => ok_move rfl hn.1, rfl⟩⟩, guardF hm17, guardF hm17, guardF hm17, guardF hm17, guardF hm17, guardF hm17, guardF hm17, guardF hm17, guardF hm17, ⟨inferInstance, .inl ⟨fun b q hk hn => ok_cast (Option.some.inj ht18) (ok_pick_f rfl hn.1 hm17 (isV_bool.2 rfl)), rfl⟩⟩, ⟨inferInstance, .inl ⟨fun b q hk hn => ok_assign rfl hn.1, rfl⟩⟩, trivial⟩ hQQ15 fun b q p => ?_
            exact tail_done (k := q) (hp _ _ ⟨hg.then p.grow, p.size.trans hs, p.defers.trans hd, (p.old 0 rfl).trans e0, Rsc.grow hH p.grow, keep p 1 rfl i1, keep p 2 rfl i2, keep p 3 rfl i3, (p.old 8 rfl).trans e8, keep p 8 rfl i8, out p 14 23 _ rfl rfl rfl, trivial⟩)
        · clear hH i1 i2 i3 i8 hg hs hd e0 e8 i20
          rintro a k ⟨hg, hs, hd, e0, hH, i1, i2, i3, e8, i8, i23, _⟩
          have n8' : Wr F0 k0 (obF (a.get 8)) := by rw [e8]; exact n8
          refine wp_cond_split (isBool i23) (fun hc13 => ?_) (fun hc13 => ?_)
          · rw [if_pos hc13] at hr
            obtain ⟨x7_3, hx7_3, hr⟩ := bind_some hr
            obtain ⟨x7_4, hx7_4, hr⟩ := bind_some hr
            obtain ⟨x7_8, hx7_8, hr⟩ := bind_some hr
            obtain ⟨x7_9, hx7_9, hr⟩ := bind_some hr
            obtain rfl := Option.some.inj hr
            refine region (a0 := a) (k0 := k) (n := 49) (m := 11) (⟨some (OwnAt (a.get 8) 0 37 l_), [(8, none)]⟩ :: ⟨some (OwnAt (a.get 8) 0 37 l_), [(8, none)]⟩ :: ⟨some (IsV (α := Int) (l_.length : Int)), [(39, some 1)]⟩ :: ⟨some (IsV x7_3), [(40, some 2)]⟩ :: ⟨some (IsPtr x7_4), [(38, some 0), (41, some 3)]⟩ :: ⟨some (IsPtr x7_4.2), [(42, some 4)]⟩ :: ⟨some (IsV x7_4.2), [(43, some 5)]⟩ :: ⟨some (IsV n_), [(3, none)]⟩ :: ⟨some (IsV x7_8), [(44, some 6), (45, some 7)]⟩ :: ⟨some (IsAdrO (a.get 8) ((x7_3).toNat * Enc.sz (Int × Int))), [(38, some 0), (41, some 3)]⟩ :: ⟨some (IsAdrO (a.get 8) ((x7_3).toNat * Enc.sz (Int × Int) + 1 * Enc.sz Int)), [(47, some 9)]⟩ :: []) hmix hs (by kernel_rfl) ⟨⟨inferInstance, .inl ⟨fun b q hk hn => ok_moveOA (.inl rfl) ⟨hn.1, up i8 hk hn.1⟩, rfl⟩⟩, ⟨inferInstance, .inl ⟨fun b q hk hn => ok_moveOA (.inl rfl) ⟨hn.1, up i8 hk hn.1⟩, rfl⟩⟩, ⟨inferInstance, .inl ⟨fun b q hk hn => ok_len rfl rfl Try.underlying29 (IsOwn.rd (hn.1).2), rfl⟩⟩, ⟨inferInstance, .inl ⟨fun b q hk hn => ok_sub rfl hn.1 (isV_int.2 rfl) hx7_3, rfl⟩⟩, ⟨inferInstance, .inl ⟨fun b q hk hn => ok_indexAddr rfl Try.underlying29 ty37 (IsOwn.rd (hn.1).2) hn.2.1 hx7_4, rfl⟩⟩, ⟨inferInstance, .inl ⟨fun b q hk hn => ok_arrAddr (i := 1) rfl ao37 (by decide) (aat37_1 _) hn.1 (isV_int.2 rfl), rfl⟩⟩, ⟨inferInstance, .inl ⟨fun b q hk hn => ok_load rfl ty3 hn.1, rfl⟩⟩, ⟨inferInstance, .inl ⟨fun b q hk hn => ok_move rfl (up i3 hk hn.1), rfl⟩⟩, ⟨inferInstance, .inl ⟨fun b q hk hn => ok_add rfl hn.1 hn.2.1 hx7_8, rfl⟩⟩, ⟨inferInstance, .inl ⟨fun b q hk hn => ok_indexO rfl Try.underlying29 ty37 hn.1 hn.2.1 hx7_9, rfl⟩⟩, ⟨inferInstance, .inl ⟨fun b q hk hn => ok_arrAdrO (i := 1) rfl ao37 (by decide) hn.1 (isV_int.2 rfl), rfl⟩⟩, trivial⟩ hQ fun b q p => ?_
            have hgq := hg.then p.grow
            have hdb := p.defers.trans hd
            have j8 := keep p 8 rfl i8
            have y8 : Wr F0 k0 (obF (b.get 8)) := by rw [p.old 8 rfl]; exact n8'
            have j46 : (IsV x7_8) (b.get 46) q := out p 8 46 _ rfl rfl rfl
            have j48 : IsAdrO (a.get 8) ((x7_3).toNat * Enc.sz (Int × Int) + 1 * Enc.sz Int) (b.get 48) q := out p 10 48 _ rfl rfl rfl
            have eo : b.get 8 = a.get 8 := p.old 8 rfl
            have hns := j8.nshF
            have hHq := Rsc.grow hH p.grow
            refine tail_storeS (i := 11) (u := b.get 8) (m := (x7_3).toNat) (off := 0 + 1 * Enc.sz Int) rfl rfl rfl rfl szf3 upd_I37_1 (by rw [eo]; exact j48) j8 (getI_spec hx7_9).2.1 j46 fun q2 hch hz => ?_
            have e8b : b.get 8 = u8 := eo.trans e8
            rw [e8b] at hz hch hns y8
            have hH2 := Rsc.keep hHq hch hA hns
            obtain ⟨G, hS, hG⟩ := hH2.close hz hA
            exact tail_done (k := q2) (retT (R := SlR kI 37 _) rfl hdb (hgq.step hch y8) hS (fun c hc => .inl (hF c (hG c hc))))
          · rw [if_neg (by rw [hc13]; decide)] at hr
            obtain ⟨x10_7, hx10_7, hr⟩ := bind_some hr
            obtain rfl := Option.some.inj hr
            refine regionS (a0 := a) (k0 := k) (n := 49) (m := 7) (⟨some (Is (.map (some bm))), [(0, none)]⟩ :: ⟨some (IsV lot), [(1, none)]⟩ :: ⟨some (OwnAt (a.get 8) 0 37 l_), [(8, none)]⟩ :: ⟨some (IsV origin), [(2, none)]⟩ :: ⟨some (IsV n_), [(3, none)]⟩ :: ⟨some (IsV ((origin, n_) : (Int × Int))), [(15, some 3), (16, some 4)]⟩ :: ⟨some (IsV ([((origin, n_) : (Int × Int))])), [(17, some 5)]⟩ :: []) hs (by kernel_rfl) ⟨⟨inferInstance, .inl ⟨fun b q hk hn => ok_move rfl (show b.get 0 = _ from hn.1.trans e0), rfl⟩⟩, ⟨inferInstance, .inl ⟨fun b q hk hn => ok_move rfl (up i1 hk hn.1), rfl⟩⟩, ⟨inferInstance, .inl ⟨fun b q hk hn => ok_moveOA (.inl rfl) ⟨hn.1, up i8 hk hn.1⟩, rfl⟩⟩, ⟨inferInstance, .inl ⟨fun b q hk hn => ok_move rfl (up i2 hk hn.1), rfl⟩⟩, ⟨inferInstance, .inl ⟨fun b q hk hn => ok_move rfl (up i3 hk hn.1), rfl⟩⟩, ⟨inferInstance, .inl ⟨fun b q hk hn => ok_build rfl (bld37_0_1 hn.1 hn.2.1), rfl⟩⟩, ⟨inferInstance, .inl ⟨fun b q hk hn => ok_buildSlice rfl Try.underlying29 eo37 rfl (by decide) (by decide) ⟨rfl, hn.1, trivial⟩, rfl⟩⟩, trivial⟩ hQ fun b q p => ?_
            have hgq := hg.then p.grow
            have hsb := p.size.trans hs
            have hdb := p.defers.trans hd
            have e14 : b.get 14 = a.get 8 := (out p 2 14 _ rfl rfl rfl).1
            have j14 : IsOwn 0 37 l_ (b.get 14) q := (out p 2 14 _ rfl rfl rfl).2
            have y14 : Wr F0 k0 (obF (b.get 14)) := by rw [e14]; exact n8'
            have j12 : b.get 12 = .map (some bm) := out p 0 12 _ rfl rfl rfl
            have j13 : (IsV lot) (b.get 13) q := out p 1 13 _ rfl rfl rfl
            have j18 : (IsV ([((origin, n_) : (Int × Int))])) (b.get 18) q := out p 6 18 _ rfl rfl rfl
            have hns := j14.nshF
            have hHq := Rsc.grow hH p.grow
            have hA14 : Apart G8 (obF (b.get 14)) := by rw [e14, e8]; exact hA
            have hsub14 : ∀ c, obF (b.get 14) c → F0 c := fun c hc => by rw [e14, e8] at hc; exact hF c (.inr hc)
            refine tail_appendS (i := 7) (d := 19) rfl rfl rfl rfl (by rw [hsb]; decide) (e := 37) Try.underlying29 eo37 j14 (IsV.rd j18) hx10_7 fun b2 q2 hsz hdf hoth hch hown hob => ?_
            have hH2 := Rsc.keep hHq hch hA14 hns
            have hA2 : Apart G8 (obF (b2.get 19)) := Apart.app hA14 (Rsc.lt hHq) hob
            have hgq2 := hgq.step hch y14
            refine tail_putK (i := 8) (w := b2.get 19) rfl rfl rfl rfl key3 Try.underlying49 ((hoth 12 (by decide)).trans j12) (by rw [show b2.eval (.tmp 13) = b2.get 13 from rfl, hoth 13 (by decide)]; exact isV_int.1 j13) rfl hH2 hown hA2 fun q3 hch3 hS => ?_
            refine tail_done (k := q3) (retT (R := SlR kI 37 _) rfl (hdf.trans hdb) (hgq2.step hch3 hGs) hS ?_)
            intro c hc
            rcases hc with hc | hc
            · exact .inl (hF c (.inl hc))
            · rcases hob c hc with h | h
              · exact .inl (hsub14 c h)
              · exact .inr (Nat.le_trans hgq.size h)

def cTake_L (frm to : Int) (s : Int × PM) : Option (Flow (Int × PM) Unit) :=
  if (decide (0 < s.1)) then
    (getI (s.2.at frm) 0).bind fun x1 =>
    (if (min s.1 x1.2 == x1.2) then
      (sliceI (s.2.at frm) 1 ((s.2.at frm).length : Int)).bind fun x2 =>
      some ⟨setK s.2.l frm x2⟩
    else
      (getI (s.2.at frm) 0).bind fun x3 =>
      (subI x3.2 (min s.1 x1.2)).bind fun x4 =>
      some ⟨backK s.2.l frm ((s.2.at frm).set (0 : Int).toNat (x3.1, x4))⟩).bind fun (m1 : PM) =>
    (cPut m1 to x1.1 (min s.1 x1.2)).bind fun m2 =>
    (subI s.1 (min s.1 x1.2)).bind fun x5 =>
    some (.go (x5, m2))
  else some (.ex 0 s)
def cTake (m : PM) (frm to n : Int) : Option PM :=
  (iterL (cTake_L frm to) ((m.at frm).length + 2) (n, m)).bind fun f => match f with
  | .go _ => none
  | .ex _ s => some s.2
  | .ret _ => none

theorem cTake_ok {k0 : K} {F0 : FP} {v0 v1 v2 v3 : Value} {m : PM} {frm to n_ : Int} {r : PM} (i0 : SlR kI 37 m.l F0 v0 k0) (i1 : (IsV frm) v1 k0) (i2 : (IsV to) v2 k0) (i3 : (IsV n_) v3 k0) (hr : cTake m frm to n_ = some r) :
    Calls Try.prog 27 #[v0, v1, v2, v3] k0.w (RetC F0 k0 (fun _ => Turned (SlR kI 37 r.l) v0 k0 F0)) := by
  unfold cTake at hr
  refine enterK Try.func27 rfl Try.ntmps27 (show 4 ≤ 50 by decide) fun a k hk0 hs hd ha => ?_
  obtain ⟨e0, e1, e2, e3, _⟩ := ha
  have hX : Turned (SlR kI 37 m.l) v0 k0 F0 k := ⟨F0, by rw [hk0]; exact i0, fun c hc => .inl hc⟩
  replace i1 : (IsV frm) (a.get 1) k := by rw [e1, hk0]; exact i1
  replace i2 : (IsV to) (a.get 2) k := by rw [e2, hk0]; exact i2
  replace i3 : (IsV n_) (a.get 3) k := by rw [e3, hk0]; exact i3
  have hQ : Gb.LetsOut (bodyPost Try.prog Try.f27 (RetC F0 k0 (fun _ => Turned (SlR kI 37 r.l) v0 k0 F0))) := letsOutC
  have hg : Chg F0 k0 k := by rw [hk0]; exact Chg.refl _ k0
  obtain ⟨bm, u8, G8, hv, hH, i8, hA, hF⟩ := i0.focus frm
  rw [hv] at e0
  clear i0 u8 G8 hH i8 hA hF
  refine wp_block ?_
  obtain ⟨f1, hf1, hr⟩ := bind_some hr
  refine cutF f1 (fun s' a' k' => Chg F0 k0 k' ∧ a'.tmps.size = 50 ∧ a'.defers = [] ∧ a'.get 0 = .map (some bm) ∧ Turned (SlR kI 37 s'.2.l) v0 k0 F0 k' ∧ (IsV frm) (a'.get 1) k' ∧ (IsV to) (a'.get 2) k' ∧ (IsV s'.1) (a'.get 3) k') (fun i' s' a' k' => (i' = 0 ∧ Chg F0 k0 k' ∧ a'.defers = [] ∧ Turned (SlR kI 37 s'.2.l) v0 k0 F0 k')) (fun r' a' k' => False) ?_ hQ ?_ ?_ ?_
  · intro Q5 hQQ5 hgo hex hret
    refine sim_loop ?_ _ _ _ _ _ hf1 ⟨hg, hs, hd, e0, hX, i1, i2, i3⟩ Q5 hQQ5 hgo hex hret
    clear hr hf1 hgo hex hret hQQ5 hQ hd hg hs hX e0 i1 i2 i3 e1 e2 e3
    intro s fl_ a k hr hS Q hQ hgo hex hret
    obtain ⟨hg, hs, hd, e0, hX, i1, i2, i3⟩ := hS
    obtain ⟨n, m⟩ := s
    unfold cTake_L at hr
    simp only at hr i3 hX
    refine wp_seq ?_
    refine wp_seq ?_
    refine cut (fun a' k' => Chg F0 k0 k' ∧ a'.tmps.size = 50 ∧ a'.defers = [] ∧ a'.get 0 = .map (some bm) ∧ Turned (SlR kI 37 m.l) v0 k0 F0 k' ∧ (IsV frm) (a'.get 1) k' ∧ (IsV to) (a'.get 2) k' ∧ (IsV n) (a'.get 3) k' ∧ (IsV (decide (0 < n))) (a'.get 11) k') ?_ hQ ?_
    · intro Q1 hQ1 hp
      obtain ⟨G, hS, hG⟩ := hX
      refine regionS (a0 := a) (k0 := k) (n := 50) (m := 2) (⟨some (IsV n), [(3, none)]⟩ :: ⟨some (IsV (decide (0 < n))), [(10, some 0)]⟩ :: []) hs (by kernel_rfl)
        ⟨⟨inferInstance, .inl ⟨fun b q hk hn => ok_move rfl (up i3 hk hn.1), rfl⟩⟩, ⟨inferInstance, .inl ⟨fun b q hk hn => ok_gtr rfl hn.1 (isV_int.2 rfl), rfl⟩⟩, trivial⟩ hQ1 fun b q p => ?_
      exact tail_done (k := q) (hp _ _ ⟨hg.then p.grow, p.size.trans hs, p.defers.trans hd, (p.old 0 rfl).trans e0, ⟨G, Rsc.grow hS p.grow, hG⟩, keep p 1 rfl i1, keep p 2 rfl i2, keep p 3 rfl i3, out p 1 11 _ rfl rfl rfl⟩)
    · clear hg hs hd e0 hX i1 i2 i3
      rintro a k ⟨hg, hs, hd, e0, hX, i1, i2, i3, i11⟩
      refine wp_cond_split (isBool i11) (fun hc => ?_) (fun hc => ?_)
      · rw [if_pos hc] at hr
        refine wp_skip ?_
        refine wp_block ?_
        obtain ⟨x1, hx1, hr⟩ := bind_some hr
        refine wp_seq ?_
        refine cut (fun a' k' => Chg F0 k0 k' ∧ a'.tmps.size = 50 ∧ a'.defers = [] ∧ a'.get 0 = .map (some bm) ∧ Turned (SlR kI 37 m.l) v0 k0 F0 k' ∧ (IsV frm) (a'.get 1) k' ∧ (IsV to) (a'.get 2) k' ∧ (IsV n) (a'.get 3) k' ∧ IsRef x1 (a'.get 8) k') ?_ hQ ?_
        · intro Q1 hQ1 hp
          obtain ⟨G, hS, hG⟩ := hX
          obtain ⟨bm', u8, G8, hv', hH, i8, hA, hF⟩ := hS.focus frm
          obtain rfl : bm = bm' := by rw [hv] at hv'; simpa using hv'
          replace i8 : IsOwn 0 37 (m.at frm) u8 k := i8
          refine regionS (a0 := a) (k0 := k) (n := 50) (m := 6) (⟨some (Is (.map (some bm))), [(0, none)]⟩ :: ⟨some (IsV frm), [(1, none)]⟩ :: ⟨some (Is u8), [(12, some 0), (13, some 1)]⟩ :: ⟨some (IsPtr x1), [(14, some 2)]⟩ :: ⟨some (IsV x1), [(15, some 3)]⟩ :: ⟨some (IsBox k.w.heap.size ((0, 0) : Int × Int)), []⟩ :: []) hs (by kernel_rfl)
            ⟨⟨inferInstance, .inl ⟨fun b q hk hn => ok_move rfl (show b.get 0 = _ from hn.1.trans e0), rfl⟩⟩, ⟨inferInstance, .inl ⟨fun b q hk hn => ok_move rfl (up i1 hk hn.1), rfl⟩⟩,
             ⟨inferInstance, .inl ⟨fun b q hk hn => ok_lookupH rfl key3 Try.underlying49 zero29 hn.1 (isV_int.1 hn.2.1) (Rsc.grow hH hk), rfl⟩⟩,
             ⟨inferInstance, .inl ⟨fun b q hk hn => ok_indexAddr rfl Try.underlying29 ty37 (by rw [show b.eval (.tmp 14) = u8 from hn.1]; exact (Mono.mono hk i8 : IsOwn 0 37 _ u8 q).rd) (isV_int.2 rfl) hx1, rfl⟩⟩,
             ⟨inferInstance, .inl ⟨fun b q hk hn => ok_load rfl ty37 hn.1, rfl⟩⟩, ⟨inferInstance, .inl ⟨fun b q hk hn => ok_alloc _ hk.size rfl z37, rfl⟩⟩, trivial⟩ hQ1 fun b q p => ?_
          obtain ⟨b8, j8, x8, z8⟩ : IsBox k.w.heap.size ((0, 0) : Int × Int) (b.get 8) q := out p 5 8 _ rfl rfl rfl
          have j16 : IsV x1 (b.get 16) q := out p 4 16 _ rfl rfl rfl
          have hgq := hg.then p.grow
          have hdb := p.defers.trans hd
          have j0 := (p.old 0 rfl).trans e0
          have j1 := keep p 1 rfl i1
          have j2 := keep p 2 rfl i2
          have j3 := keep p 3 rfl i3
          have hSq := Rsc.grow hS p.grow
          have hns := z8.nshF
          have hlo : Lo k (Eq b8) := Lo.eq x8
          have hap : Apart G (Eq b8) := Apart.new (Rsc.lt hS) hlo
          refine tail_storeB (i := 6) rfl rfl rfl rfl szf37 (Upd.self (α := Int × Int)) j8 z8 j16 fun q2 hch hz => ?_
          have hSq2 := Rsc.keep hSq hch hap hns
          obtain ⟨q3, hsh, jn⟩ := hz.give
          have hgq2 := (hgq.step hch (hlo.chg hg).wr).hand hsh (hlo.chg hg).wr
          have hle := hch.le hns
          rw [← hsh.w]
          exact tail_done (k := q3) (hp _ _ ⟨hgq2, p.size.trans hs, hdb, j0, ⟨G, Rsc.handed hSq2 hsh hap, hG⟩, Pers.pers hsh.le (Pers.pers hle j1), Pers.pers hsh.le (Pers.pers hle j2), Pers.pers hsh.le (Pers.pers hle j3), by rw [j8]; exact jn⟩)
        · clear hg hs hd e0 hX i1 i2 i3 i11
          rintro a k ⟨hg, hs, hd, e0, hX, i1, i2, i3, i8⟩
          refine wp_seq ?_
          refine cut (fun a' k' => Chg F0 k0 k' ∧ a'.tmps.size = 50 ∧ a'.defers = [] ∧ a'.get 0 = .map (some bm) ∧ Turned (SlR kI 37 m.l) v0 k0 F0 k' ∧ (IsV frm) (a'.get 1) k' ∧ (IsV to) (a'.get 2) k' ∧ (IsV n) (a'.get 3) k' ∧ IsRef x1 (a'.get 8) k' ∧ IsV (min n x1.2) (a'.get 9) k') ?_ hQ ?_
          · intro Q1 hQ1 hp
            obtain ⟨G, hS, hG⟩ := hX
            refine regionS (a0 := a) (k0 := k) (n := 50) (m := 5) (⟨some (IsV n), [(3, none)]⟩ :: ⟨some (IsPtr x1.2), [(8, none)]⟩ :: ⟨some (IsV x1.2), [(18, some 1)]⟩ :: ⟨some (IsV (min n x1.2)), [(17, some 0), (19, some 2)]⟩ :: ⟨some (IsV (min n x1.2)), [(20, some 3)]⟩ :: []) hs (by kernel_rfl)
              ⟨⟨inferInstance, .inl ⟨fun b q hk hn => ok_move rfl (up i3 hk hn.1), rfl⟩⟩, ⟨inferInstance, .inl ⟨fun b q hk hn => ok_arrAddr (i := 1) rfl ao37 (by decide) (aat37_1 _) (up i8 hk hn.1).ptr (isV_int.2 rfl), rfl⟩⟩,
               ⟨inferInstance, .inl ⟨fun b q hk hn => ok_load rfl ty3 hn.1, rfl⟩⟩, ⟨inferInstance, .inl ⟨fun b q hk hn => ok_min2 rfl hn.1 hn.2.1, rfl⟩⟩, ⟨inferInstance, .inl ⟨fun b q hk hn => ok_assign rfl hn.1, rfl⟩⟩, trivial⟩ hQ1 fun b q p => ?_
            exact tail_done (k := q) (hp _ _ ⟨hg.then p.grow, p.size.trans hs, p.defers.trans hd, (p.old 0 rfl).trans e0, ⟨G, Rsc.grow hS p.grow, hG⟩, keep p 1 rfl i1, keep p 2 rfl i2, keep p 3 rfl i3, keep p 8 rfl i8, out p 4 9 _ rfl rfl rfl⟩)
          · clear hg hs hd e0 hX i1 i2 i3 i8
            rintro a k ⟨hg, hs, hd, e0, hX, i1, i2, i3, i8, i9⟩
            generalize min n x1.2 = kk at hr i9
            refine wp_seq ?_
            refine wp_seq ?_
            refine cut (fun a' k' => Chg F0 k0 k' ∧ a'.tmps.size = 50 ∧ a'.defers = [] ∧ a'.get 0 = .map (some bm) ∧ Turned (SlR kI 37 m.l) v0 k0 F0 k' ∧ (IsV frm) (a'.get 1) k' ∧ (IsV to) (a'.get 2) k' ∧ (IsV n) (a'.get 3) k' ∧ IsRef x1 (a'.get 8) k' ∧ IsV kk (a'.get 9) k' ∧ IsV (kk == x1.2) (a'.get 24) k') ?_ hQ ?_
            · intro Q1 hQ1 hp
              obtain ⟨G, hS, hG⟩ := hX
              refine regionS (a0 := a) (k0 := k) (n := 50) (m := 4) (⟨some (IsV kk), [(9, none)]⟩ :: ⟨some (IsPtr x1.2), [(8, none)]⟩ :: ⟨some (IsV x1.2), [(22, some 1)]⟩ :: ⟨some (IsV (kk == x1.2)), [(21, some 0), (23, some 2)]⟩ :: []) hs (by kernel_rfl)
                ⟨⟨inferInstance, .inl ⟨fun b q hk hn => ok_move rfl (up i9 hk hn.1), rfl⟩⟩, ⟨inferInstance, .inl ⟨fun b q hk hn => ok_arrAddr (i := 1) rfl ao37 (by decide) (aat37_1 _) (up i8 hk hn.1).ptr (isV_int.2 rfl), rfl⟩⟩,
                 ⟨inferInstance, .inl ⟨fun b q hk hn => ok_load rfl ty3 hn.1, rfl⟩⟩, ⟨inferInstance, .inl ⟨fun b q hk hn => ok_eqI rfl hn.1 hn.2.1, rfl⟩⟩, trivial⟩ hQ1 fun b q p => ?_
              exact tail_done (k := q) (hp _ _ ⟨hg.then p.grow, p.size.trans hs, p.defers.trans hd, (p.old 0 rfl).trans e0, ⟨G, Rsc.grow hS p.grow, hG⟩, keep p 1 rfl i1, keep p 2 rfl i2, keep p 3 rfl i3, keep p 8 rfl i8, keep p 9 rfl i9, out p 3 24 _ rfl rfl rfl⟩)
            · clear hg hs hd e0 hX i1 i2 i3 i8 i9
              rintro a k ⟨hg, hs, hd, e0, hX, i1, i2, i3, i8, i9, i24⟩
              obtain ⟨m1, hm1, hr⟩ := bind_some hr
              refine cut (fun a' k' => Chg F0 k0 k' ∧ a'.tmps.size = 50 ∧ a'.defers = [] ∧ a'.get 0 = .map (some bm) ∧ Turned (SlR kI 37 m1.l) v0 k0 F0 k' ∧ (IsV frm) (a'.get 1) k' ∧ (IsV to) (a'.get 2) k' ∧ (IsV n) (a'.get 3) k' ∧ IsRef x1 (a'.get 8) k' ∧ IsV kk (a'.get 9) k') ?_ hQ ?_
              · intro Q1 hQ1 hp
                obtain ⟨G, hS, hG⟩ := hX
                obtain ⟨bm', u8, G8, hv', hH, j8, hA, hF⟩ := hS.focus frm
                obtain rfl : bm = bm' := by rw [hv] at hv'; simpa using hv'
                replace j8 : IsOwn 0 37 (m.at frm) u8 k := j8
                have hGs : Wr F0 k0 G8 := fun c hc => hG c (hF c (.inl hc))
                have n8 : Wr F0 k0 (obF u8) := fun c hc => hG c (hF c (.inr hc))
                refine wp_cond_split (isBool i24) (fun hc2 => ?_) (fun hc2 => ?_)
                · rw [if_pos hc2] at hm1
                  obtain ⟨x2, hx2, hm1⟩ := bind_some hm1
                  obtain rfl := Option.some.inj hm1
                  refine regionS (a0 := a) (k0 := k) (n := 50) (m := 6) (⟨some (Is (.map (some bm))), [(0, none)]⟩ :: ⟨some (IsV frm), [(1, none)]⟩ :: ⟨some (Is (.map (some bm))), [(0, none)]⟩ :: ⟨some (IsV frm), [(1, none)]⟩ :: ⟨some (OwnAt u8 0 37 (m.at frm)), [(27, some 2), (28, some 3)]⟩ :: ⟨some (OwnSub u8 0 37 x2), [(29, some 4)]⟩ :: []) hs (by kernel_rfl)
                    ⟨⟨inferInstance, .inl ⟨fun b q hk hn => ok_move rfl (show b.get 0 = _ from hn.1.trans e0), rfl⟩⟩, ⟨inferInstance, .inl ⟨fun b q hk hn => ok_move rfl (up i1 hk hn.1), rfl⟩⟩,
                     ⟨inferInstance, .inl ⟨fun b q hk hn => ok_move rfl (show b.get 0 = _ from hn.1.trans e0), rfl⟩⟩, ⟨inferInstance, .inl ⟨fun b q hk hn => ok_move rfl (up i1 hk hn.1), rfl⟩⟩,
                     ⟨inferInstance, .inl ⟨fun b q hk hn => does_imp (ok_lookupH rfl key3 Try.underlying49 zero29 hn.1 (isV_int.1 hn.2.1) (Rsc.grow hH hk)) (fun v k2 hg2 hv2 => ⟨hv2, by rw [show v = u8 from hv2]; exact Mono.mono (hk.trans hg2) j8⟩), rfl⟩⟩,
                     ⟨inferInstance, .inl ⟨fun b q hk hn => ok_sliceO_lo rfl Try.underlying29 szf37 hn.1 (isV_int.2 rfl) hx2, rfl⟩⟩, trivial⟩ hQ1 fun b q p => ?_
                  obtain ⟨j30, s30⟩ : OwnSub u8 0 37 x2 (b.get 30) q := out p 5 30 _ rfl rfl rfl
                  have j25 : b.get 25 = .map (some bm) := out p 0 25 _ rfl rfl rfl
                  have j26 : IsV frm (b.get 26) q := out p 1 26 _ rfl rfl rfl
                  have hgq := hg.then p.grow
                  have hHq := Rsc.grow hH p.grow
                  have l1 := keep p 1 rfl i1
                  have l2 := keep p 2 rfl i2
                  have l3 := keep p 3 rfl i3
                  have l8 := keep p 8 rfl i8
                  have l9 := keep p 9 rfl i9
                  refine tail_putK (i := 6) (w := b.get 30) rfl rfl rfl rfl key3 Try.underlying49 j25 (isV_int.1 j26) rfl hHq j30 (fun c hc h => hA c hc (s30 c h)) fun q3 hch3 hS3 => ?_
                  have hle := hch3.le (Rsc.nsh hHq)
                  exact tail_done (k := q3) (hp _ _ ⟨hgq.step hch3 hGs, p.size.trans hs, p.defers.trans hd, (p.old 0 rfl).trans e0, ⟨_, hS3, fun c hc => hc.elim (fun h => hGs c h) (fun h => n8 c (s30 c h))⟩, Pers.pers hle l1, Pers.pers hle l2, Pers.pers hle l3, Pers.pers hle l8, Pers.pers hle l9⟩)
                · rw [if_neg (by rw [hc2]; decide)] at hm1
                  obtain ⟨x3, hx3, hm1⟩ := bind_some hm1
                  obtain ⟨x4, hx4, hm1⟩ := bind_some hm1
                  obtain rfl := Option.some.inj hm1
                  refine region (a0 := a) (k0 := k) (n := 50) (m := 10) (⟨some (Is (.map (some bm))), [(0, none)]⟩ :: ⟨some (IsV frm), [(1, none)]⟩ :: ⟨some (OwnAt u8 0 37 (m.at frm)), [(31, some 0), (32, some 1)]⟩ :: ⟨some (IsPtr x3), [(33, some 2)]⟩ :: ⟨some (IsPtr x3.2), [(34, some 3)]⟩ :: ⟨some (IsV x3.2), [(35, some 4)]⟩ :: ⟨some (IsV kk), [(9, none)]⟩ :: ⟨some (IsV x4), [(36, some 5), (37, some 6)]⟩ ::
                      ⟨some (IsAdrO u8 ((0 : Int).toNat * Enc.sz (Int × Int))), [(33, some 2)]⟩ :: ⟨some (IsAdrO u8 ((0 : Int).toNat * Enc.sz (Int × Int) + 1 * Enc.sz Int)), [(39, some 8)]⟩ :: []) hmix hs (by kernel_rfl)
                    ⟨⟨inferInstance, .inl ⟨fun b q hk hn => ok_move rfl (show b.get 0 = _ from hn.1.trans e0), rfl⟩⟩, ⟨inferInstance, .inl ⟨fun b q hk hn => ok_move rfl (up i1 hk hn.1), rfl⟩⟩,
                     ⟨inferInstance, .inl ⟨fun b q hk hn => does_imp (ok_lookupH rfl key3 Try.underlying49 zero29 hn.1 (isV_int.1 hn.2.1) (Rsc.grow hH hk)) (fun v k2 hg2 hv2 => ⟨hv2, by rw [show v = u8 from hv2]; exact Mono.mono (hk.trans hg2) j8⟩), rfl⟩⟩,
                     ⟨inferInstance, .inl ⟨fun b q hk hn => ok_indexAddr rfl Try.underlying29 ty37 (IsOwn.rd (hn.1).2) (isV_int.2 rfl) hx3, rfl⟩⟩,
                     ⟨inferInstance, .inl ⟨fun b q hk hn => ok_arrAddr (i := 1) rfl ao37 (by decide) (aat37_1 _) hn.1 (isV_int.2 rfl), rfl⟩⟩,
                     ⟨inferInstance, .inl ⟨fun b q hk hn => ok_load rfl ty3 hn.1, rfl⟩⟩, ⟨inferInstance, .inl ⟨fun b q hk hn => ok_move rfl (up i9 hk hn.1), rfl⟩⟩, ⟨inferInstance, .inl ⟨fun b q hk hn => ok_sub rfl hn.1 hn.2.1 hx4, rfl⟩⟩,
                     ⟨inferInstance, .inl ⟨fun b q hk hn => ok_indexO rfl Try.underlying29 ty37 hn.1 (isV_int.2 rfl) hx3, rfl⟩⟩, ⟨inferInstance, .inl ⟨fun b q hk hn => ok_arrAdrO (i := 1) rfl ao37 (by decide) hn.1 (isV_int.2 rfl), rfl⟩⟩, trivial⟩ hQ1 fun b q p => ?_
                  have j38 : (IsV x4) (b.get 38) q := out p 7 38 _ rfl rfl rfl
                  have j40 : IsAdrO u8 ((0 : Int).toNat * Enc.sz (Int × Int) + 1 * Enc.sz Int) (b.get 40) q := out p 9 40 _ rfl rfl rfl
                  have hgq := hg.then p.grow
                  have hHq := Rsc.grow hH p.grow
                  have l1 := keep p 1 rfl i1
                  have l2 := keep p 2 rfl i2
                  have l3 := keep p 3 rfl i3
                  have l8 := keep p 8 rfl i8
                  have l9 := keep p 9 rfl i9
                  have j8q : IsOwn 0 37 (m.at frm) u8 q := Mono.mono p.grow j8
                  have hns := j8q.nshF
                  refine tail_storeS (i := 10) (u := u8) (m := (0 : Int).toNat) (off := 0 + 1 * Enc.sz Int) rfl rfl rfl rfl szf3 upd_I37_1 j40 j8q (getI_spec hx3).2.1 j38 fun q2 hch hz => ?_
                  have hle := hch.le hns
                  have hH2 := Rsc.keep hHq hch hA hns
                  obtain ⟨G', hS', hG'⟩ := hH2.close hz hA
                  exact tail_done (k := q2) (hp _ _ ⟨hgq.step hch n8, p.size.trans hs, p.defers.trans hd, (p.old 0 rfl).trans e0, ⟨G', hS', fun c hc => hG c (hF c (hG' c hc))⟩, Pers.pers hle l1, Pers.pers hle l2, Pers.pers hle l3, Pers.pers hle l8, Pers.pers hle l9⟩)
              · clear hg hs hd e0 hX i1 i2 i3 i8 i9 i24
                rintro a k ⟨hg, hs, hd, e0, hX, i1, i2, i3, i8, i9⟩
                obtain ⟨m2, hm2, hr⟩ := bind_some hr
                refine wp_seq ?_
                refine cut (fun a' k' => Chg F0 k0 k' ∧ a'.tmps.size = 50 ∧ a'.defers = [] ∧ a'.get 0 = .map (some bm) ∧ Turned (SlR kI 37 m2.l) v0 k0 F0 k' ∧ (IsV frm) (a'.get 1) k' ∧ (IsV to) (a'.get 2) k' ∧ (IsV n) (a'.get 3) k' ∧ IsV kk (a'.get 9) k') ?_ hQ ?_
                · intro Q1 hQ1 hp
                  obtain ⟨G, hS, hG⟩ := hX
                  refine regionS (a0 := a) (k0 := k) (n := 50) (m := 5) (⟨some (Is (.map (some bm))), [(0, none)]⟩ :: ⟨some (IsV to), [(2, none)]⟩ :: ⟨some (IsPtr x1.1), [(8, none)]⟩ :: ⟨some (IsV x1.1), [(43, some 2)]⟩ :: ⟨some (IsV kk), [(9, none)]⟩ :: []) hs (by kernel_rfl)
                    ⟨⟨inferInstance, .inl ⟨fun b q hk hn => ok_move rfl (show b.get 0 = _ from hn.1.trans e0), rfl⟩⟩, ⟨inferInstance, .inl ⟨fun b q hk hn => ok_move rfl (up i2 hk hn.1), rfl⟩⟩,
                     ⟨inferInstance, .inl ⟨fun b q hk hn => ok_arrAddr (i := 0) rfl ao37 (by decide) (aat37_0 _) (up i8 hk hn.1).ptr (isV_int.2 rfl), rfl⟩⟩, ⟨inferInstance, .inl ⟨fun b q hk hn => ok_load rfl ty3 hn.1, rfl⟩⟩,
                     ⟨inferInstance, .inl ⟨fun b q hk hn => ok_move rfl (up i9 hk hn.1), rfl⟩⟩, trivial⟩ hQ1 fun b q p => ?_
                  have j41 : b.get 41 = .map (some bm) := out p 0 41 _ rfl rfl rfl
                  have j42 : IsV to (b.get 42) q := out p 1 42 _ rfl rfl rfl
                  have j44 : IsV x1.1 (b.get 44) q := out p 3 44 _ rfl rfl rfl
                  have j45 : IsV kk (b.get 45) q := out p 4 45 _ rfl rfl rfl
                  have hgq := hg.then p.grow
                  have hsb := p.size.trans hs
                  have hSq := Rsc.grow hS p.grow
                  have hns := Rsc.nsh hSq
                  have l1 := keep p 1 rfl i1
                  have l2 := keep p 2 rfl i2
                  have l3 := keep p 3 rfl i3
                  have l9 := keep p 9 rfl i9
                  have e41 : b.get 41 = v0 := j41.trans hv.symm
                  refine tail_call (F := G) (i := 5) (d := 46) (R := fun _ => Turned (SlR kI 37 m2.l) v0 q G) rfl rfl rfl rfl (by rw [hsb]; decide) Try.call26 hQ1 ?_ fun b2 q2 hsz hdf hoth hch hres => ?_
                  · have := cPut_ok (k0 := q) hSq j42 j44 j45 hm2
                    rw [← e41] at this ⊢
                    exact this
                  · have hle := hch.le hns
                    obtain ⟨G2, hS2, hG2⟩ := hres
                    refine tail_done (k := q2) (hp _ _ ⟨hgq.step hch hG, hsz.trans hsb, hdf.trans (p.defers.trans hd), (hoth 0 (by decide)).trans ((p.old 0 rfl).trans e0), ⟨G2, hS2, fun c hc => (hG2 c hc).elim (hG c) (fun h => .inr (Nat.le_trans hgq.size h))⟩, ?_, ?_, ?_, ?_⟩)
                    · rw [hoth 1 (by decide)]; exact Pers.pers hle l1
                    · rw [hoth 2 (by decide)]; exact Pers.pers hle l2
                    · rw [hoth 3 (by decide)]; exact Pers.pers hle l3
                    · rw [hoth 9 (by decide)]; exact Pers.pers hle l9
                · clear hg hs hd e0 hX i1 i2 i3 i8 i9
                  rintro a k ⟨hg, hs, hd, e0, hX, i1, i2, i3, i9⟩
                  obtain ⟨x5, hx5, hr⟩ := bind_some hr
                  obtain ⟨G, hS, hG⟩ := hX
                  refine regionS (a0 := a) (k0 := k) (n := 50) (m := 4) (⟨some (IsV n), [(3, none)]⟩ :: ⟨some (IsV kk), [(9, none)]⟩ :: ⟨some (IsV x5), [(47, some 0), (48, some 1)]⟩ :: ⟨some (IsV x5), [(49, some 2)]⟩ :: []) hs (by kernel_rfl)
                    ⟨⟨inferInstance, .inl ⟨fun b q hk hn => ok_move rfl (up i3 hk hn.1), rfl⟩⟩, ⟨inferInstance, .inl ⟨fun b q hk hn => ok_move rfl (up i9 hk hn.1), rfl⟩⟩, ⟨inferInstance, .inl ⟨fun b q hk hn => ok_sub rfl hn.1 hn.2.1 hx5, rfl⟩⟩, ⟨inferInstance, .inl ⟨fun b q hk hn => ok_assign rfl hn.1, rfl⟩⟩, trivial⟩ hQ fun b q p => ?_
                  exact tail_done (k := q) (hgo _ _ _ (Option.some.inj hr).symm ⟨hg.then p.grow, p.size.trans hs, p.defers.trans hd, (p.old 0 rfl).trans e0, ⟨G, Rsc.grow hS p.grow, hG⟩, keep p 1 rfl i1, keep p 2 rfl i2, out p 3 3 _ rfl rfl rfl⟩)
      · rw [if_neg (by rw [hc]; decide)] at hr
        refine wp_exit ?_
        exact hex _ _ _ _ (Option.some.inj hr).symm ⟨rfl, hg, hd, hX⟩
  · rintro _ _ _ rfl _
    simp at hr
  · clear hf1
    rintro _ s a k rfl ⟨rfl, hg, hd, hX⟩
    dsimp only at hr
    obtain rfl := Option.some.inj hr
    obtain ⟨G, hS, hG⟩ := hX
    exact inBlock_exit (retT (R := SlR kI 37 s.2.l) rfl hd hg hS hG)
  · rintro _ _ _ _ h
    exact h.elim

def within (n_ : Int) (lo_ : Int) (hi_ : Int) : Option (Bool) :=
 some ((decide (lo_ ≤ n_)) && (decide (n_ ≤ hi_)))
theorem within_ok {k0 : K} {v0 v1 v2 : Value} {n_ : Int} {lo_ : Int} {hi_ : Int} {r : Bool} (i0 : (IsV n_) v0 k0) (i1 : (IsV lo_) v1 k0) (i2 : (IsV hi_) v2 k0) (hr : within n_ lo_ hi_ = some r) :
  Calls Try.prog 31 #[v0, v1, v2] k0.w (Ret k0 (IsV r)) := by
 unfold within at hr
 refine Ret.ofC ?_
 refine enterK Try.func31 rfl Try.ntmps31 (show 3 ≤ 15 by decide) fun a k hk0 hs hd ha => ?_
 obtain ⟨e0, e1, e2, _⟩ := ha
 replace i0 : (IsV n_) (a.get 0) k := by rw [e0, hk0]; exact i0
 replace i1 : (IsV lo_) (a.get 1) k := by rw [e1, hk0]; exact i1
 replace i2 : (IsV hi_) (a.get 2) k := by rw [e2, hk0]; exact i2
 have hQ : Gb.LetsOut (bodyPost Try.prog Try.f31 (RetC noF k0 (IsV r))) := letsOutC
 have hg : Chg noF k0 k := by rw [hk0]; exact Chg.refl _ k0
 refine stepL 1 (⟨some (IsV false), []⟩ :: []) rfl ⟨hg, hs, hd⟩ (by kernel_rfl) ⟨ob1 rfl fun _ _ h n => ok_assign rfl (isV_bool.2 rfl), trivial⟩ [⟨_, _⟩, ⟨_, _⟩, ⟨_, _⟩] (fun b q p => ⟨p.ke 0 rfl i0, p.ke 1 rfl i1, p.ke 2 rfl i2, trivial⟩) ?_
 rintro a k ⟨⟨hg, hs, hd⟩, i0, i1, i2, _⟩
 refine stepL 9 (_ :: _ :: _ :: _ :: _ :: _ :: _ :: _ :: _ :: []) rfl ⟨hg, hs, hd⟩ (by kernel_rfl) ⟨mu rfl i1, mu rfl i0, o1 [(7, some 0), (8, some 1)] rfl fun _ _ h n => ok_leq rfl n.1 n.2.1, cm 2 rfl rfl, mT rfl rfl i0, mT rfl rfl i2, gT [(11, some 4), (12, some 5)] rfl rfl fun hp _ _ h n => ok_leq rfl (Gd.get n.1 hp) (Gd.get n.2.1 hp), o1 [(10, some 3), (13, some 6)] rfl fun _ _ h n => ok_pickAnd rfl n.1 (Gd.get n.2.1) (cB rfl), cp 7 rfl rfl, trivial⟩ [⟨_, _⟩] (fun b q p => ⟨p.ou 8 6 rfl, trivial⟩) ?_
 rintro a k ⟨⟨hg, hs, hd⟩, i6, _⟩
 refine wp_ret ?_
 obtain rfl := Option.some.inj hr
 exact retC1 rfl hd hg i6
def cRight_L0 (l_ : (List Account)) (s1 : Int) : Option (Flow (Int) (Bool)) :=
 if (decide (s1 < (l_.length : Int))) then
  (getI l_ s1).bind fun x1 =>
  (within x1.Lot 1 1073741824).bind fun x2 =>
  (if (!x2) then
   some true
  else
   (within x1.Units 0 1073741824).bind fun x3 =>
   some (!x3)).bind fun x4 =>
  (if x4 then
   some true
  else
   (if (decide (0 < s1)) then
    (subI s1 1).bind fun x5 =>
    (getI l_ x5).bind fun x6 =>
    some (decide (x1.Lot ≤ x6.Lot))
   else
    some false).bind fun x7 =>
   some x7).bind fun x8 =>
  if x8 then
   some (.ret false)
  else
   (addI s1 1).bind fun x9 =>
   some (.go x9)
 else
  some (.ex 0 s1)
def cRight (l_ : (List Account)) : Option (Bool) :=
 (iterL (cRight_L0 l_) (l_.length + 1) 0).bind fun f1 => match f1 with
  | .go _ => none
  | .ex _ _ =>
   some (decide ((l_.length : Int) ≤ 20000))
  | .ret r1 => some r1
theorem cRight_ok {k0 : K} {v0 : Value} {l_ : (List Account)} {r : Bool} (i0 : (IsV l_) v0 k0) (hr : cRight l_ = some r) :
  Calls Try.prog 17 #[v0] k0.w (Ret k0 (IsV r)) := by
 unfold cRight at hr
 refine Ret.ofC ?_
 refine enterK Try.func17 rfl Try.ntmps17 (show 1 ≤ 41 by decide) fun a k hk0 hs hd ha => ?_
 obtain ⟨e0, _⟩ := ha
 replace i0 : (IsV l_) (a.get 0) k := by rw [e0, hk0]; exact i0
 have hQ : Gb.LetsOut (bodyPost Try.prog Try.f17 (RetC noF k0 (IsV r))) := letsOutC
 have hg : Chg noF k0 k := by rw [hk0]; exact Chg.refl _ k0
 refine stepL 1 (⟨some (IsV false), []⟩ :: []) rfl ⟨hg, hs, hd⟩ (by kernel_rfl) ⟨ob1 rfl fun _ _ h n => ok_assign rfl (isV_bool.2 rfl), trivial⟩ [⟨_, _⟩] (fun b q p => ⟨p.ke 0 rfl i0, trivial⟩) ?_
 rintro a k ⟨⟨hg, hs, hd⟩, i0, _⟩
 refine wp_seq ?_
 refine stepL 3 (_ :: _ :: ⟨some (IsI 0), []⟩ :: []) rfl ⟨hg, hs, hd⟩ (by kernel_rfl) ⟨mu rfl i0, o1 [(5, some 0)] rfl fun _ _ h n => ok_len rfl rfl Try.underlying22 (IsV.rd n.1), ob1 rfl fun _ _ h n => ok_move rfl (cI rfl), trivial⟩ [⟨_, _⟩, ⟨_, _⟩, ⟨_, _⟩, ⟨_, _⟩] (fun b q p => ⟨p.ke 0 rfl i0, p.ou 0 5 rfl, p.ou 1 6 rfl, p.ou 2 7 rfl, trivial⟩) ?_
 rintro a k ⟨⟨hg, hs, hd⟩, i0, i5, i6, i7, _⟩
 refine wp_block ?_
 obtain ⟨f1, hf1, hr⟩ := bind_some hr
 refine cutFe f1 (fun s' c l => Bs noF k0 41 c l ∧ IsV l_ (c.get 0) l ∧ IsV l_ (c.get 5) l ∧ IsL l_ (c.get 6) l ∧ IsV s' (c.get 7) l ∧ True) (fun i' s' c l => (i' = 0 ∧ Bs noF k0 41 c l ∧ IsV l_ (c.get 0) l ∧ True)) (fun r' c l => bodyPost Try.prog Try.f17 (RetC noF k0 (IsV r')) .ret c l.w) ?_ hQ ?_ ?_ ?_
 ·intro Q1 W1 hgo hex hret
  refine sim_loop ?_ _ _ _ _ _ hf1 ⟨⟨hg, hs, hd⟩, i0, i5, i6, i7, trivial⟩ Q1 W1 hgo hex hret
  clear hr hf1 hgo hex hret W1 hQ hg hs hd i0 i5 i6 i7
  intro s1 fl_ a k hr hS Q hQ hgo10 hex11 hret12
  obtain ⟨⟨hg, hs, hd⟩, i0, i5, i6, i7, _⟩ := hS
  unfold cRight_L0 at hr
  refine stepL 1 (_ :: []) rfl ⟨hg, hs, hd⟩ (by kernel_rfl) ⟨o1 [(7, none), (6, none)] rfl fun _ _ h n => ok_lss rfl (up i7 h n.1) (up i6 h n.2.1), trivial⟩ [⟨_, _⟩, ⟨_, _⟩, ⟨_, _⟩, ⟨_, _⟩, ⟨_, _⟩] (fun b q p => ⟨p.ke 0 rfl i0, p.ke 5 rfl i5, p.ke 6 rfl i6, p.ke 7 rfl i7, p.ou 0 8 rfl, trivial⟩) ?_
  rintro a k ⟨⟨hg, hs, hd⟩, i0, i5, i6, i7, i8, _⟩
  refine wp_seq ?_
  refine wp_cond_split (isBool i8) (fun hc27 => ?_) (fun hc27 => ?_)
  ·rw [if_pos hc27] at hr
   refine wp_skip ?_
   refine wp_seq ?_
   refine wp_block ?_
   refine wp_seq ?_
   obtain ⟨x1, hx1, hr⟩ := bind_some hr
   refine cut (fun a' k' => Bs noF k0 41 a' k' ∧ (IsV l_) (a'.get 0) k' ∧ (IsV s1) (a'.get 3) k' ∧ (IsRef x1) (a'.get 4) k' ∧ (IsV l_) (a'.get 5) k' ∧ (IsL l_) (a'.get 6) k' ∧ (IsV s1) (a'.get 7) k' ∧ True) ?_ hQ ?_
   ·intro Q2 W2 w1
    refine gS 5 (_ :: _ :: _ :: ⟨some (IsBox k.w.heap.size (⟨0, 0, false⟩ : Account)), []⟩ :: _ :: []) hs (by kernel_rfl) ⟨mu rfl i7, o1 [(5, none), (7, none)] rfl fun _ _ h n => ok_indexAddr rfl Try.underlying22 ty35 (IsV.rd (up i5 h n.1)) (up i7 h n.2.1) hx1, o1 [(10, some 1)] rfl fun _ _ h n => ok_load rfl ty35 n.1, ob1 rfl fun _ _ h n => ok_alloc _ h.size rfl z35, cp 0 rfl rfl, trivial⟩ W2 fun b q p => ?_
    have hgq := hg.then p.grow
    have hsb := p.size.trans hs
    have hdb := p.defers.trans hd
    have j0 := p.ke 0 rfl i0
    have j3 : (IsV s1) (b.get 3) q := p.ou 4 3 rfl
    obtain ⟨b4, j4, x4, z4⟩ : (IsBox k.w.heap.size (⟨0, 0, false⟩ : Account)) (b.get 4) q := p.ou 3 4 rfl
    replace x4 : Lo k (Eq b4) := Lo.eq x4
    have y4 : Lo k0 (Eq b4) := x4.chg hg
    have j5 := p.ke 5 rfl i5
    have j6 := p.ke 6 rfl i6
    have j7 := p.ke 7 rfl i7
    have j11 : (IsV x1) (b.get 11) q := p.ou 2 11 rfl
    have hns := z4.nshF
    refine tail_storeB (i := 5) rfl rfl rfl rfl szf35 (Upd.self (α := Account)) j4 z4 j11 fun q2 hch hz => ?_
    replace hgq := hgq.step hch y4.wr
    have hle := hch.le hns
    replace j0 := Pers.pers hle j0
    replace j3 := Pers.pers hle j3
    replace j5 := Pers.pers hle j5
    replace j6 := Pers.pers hle j6
    replace j7 := Pers.pers hle j7
    replace j11 := Pers.pers hle j11
    replace z4 := hz
    clear hns hle hch
    obtain ⟨q, hqq⟩ : ∃ q, q = q2 := ⟨q2, rfl⟩
    subst hqq
    obtain ⟨q2, hsh, jn⟩ := z4.give
    replace j0 := Pers.pers hsh.le j0
    replace j3 := Pers.pers hsh.le j3
    replace j5 := Pers.pers hsh.le j5
    replace j6 := Pers.pers hsh.le j6
    replace j7 := Pers.pers hsh.le j7
    rw [← j4] at jn
    replace j4 := jn
    replace hgq := hgq.hand hsh y4.wr
    rw [← hsh.w]
    clear hsh
    obtain ⟨q, hqq⟩ : ∃ q, q = q2 := ⟨q2, rfl⟩
    subst hqq
    exact tail_done (k := q) (w1 _ _ ⟨⟨hgq, hsb, hdb⟩, j0, j3, j4, j5, j6, j7, trivial⟩)
   rintro a k ⟨⟨hg, hs, hd⟩, i0, i3, i4, i5, i6, i7, _⟩
   refine wp_seq ?_
   obtain ⟨x2, hx2, hr⟩ := bind_some hr
   obtain ⟨x3, hx3, hr⟩ := bind_some hr
   obtain ⟨x5, hx5, hx3⟩ := ite_bindF hx3
   obtain ⟨x6, hx6, hr⟩ := bind_some hr
   obtain ⟨x7, hx7, hx6⟩ := ite_bindF hx6
   obtain ⟨x8, hx8, hx7⟩ := ite_bindP hx7
   obtain ⟨x9, hx9, hx7⟩ := ite_bindP hx7
   refine cut (fun a' k' => Bs noF k0 41 a' k' ∧ (IsV l_) (a'.get 0) k' ∧ (IsV l_) (a'.get 5) k' ∧ (IsL l_) (a'.get 6) k' ∧ (IsV s1) (a'.get 7) k' ∧ (IsV x6) (a'.get 36) k' ∧ True) ?_ hQ ?_
   ·intro Q3 W3 w2
    refine region (m := 25) (_ :: _ :: _ :: _ :: _ :: _ :: _ :: _ :: _ :: _ :: _ :: _ :: _ :: ⟨some (Gd (x3 = false) (IsV (decide (0 < s1)))), [(24, some 12)]⟩ :: ⟨some (Gd ((x3 = false) ∧ (decide (0 < s1)) = true) (IsV l_)), [(0, none)]⟩ :: ⟨some (Gd ((x3 = false) ∧ (decide (0 < s1)) = true) (IsV s1)), [(3, none)]⟩ :: ⟨some (Gd ((x3 = false) ∧ (decide (0 < s1)) = true) (IsV x8)), [(27, some 15)]⟩ :: ⟨some (Gd ((x3 = false) ∧ (decide (0 < s1)) = true) (IsPtr x9)), [(26, some 14), (28, some 16)]⟩ :: ⟨some (Gd ((x3 = false) ∧ (decide (0 < s1)) = true) (IsPtr x9.Lot)), [(29, some 17)]⟩ :: ⟨some (Gd ((x3 = false) ∧ (decide (0 < s1)) = true) (IsV x9.Lot)), [(30, some 18)]⟩ :: ⟨some (Gd ((x3 = false) ∧ (decide (0 < s1)) = true) (IsPtr x1.Lot)), [(4, none)]⟩ :: ⟨some (Gd ((x3 = false) ∧ (decide (0 < s1)) = true) (IsV x1.Lot)), [(32, some 20)]⟩ :: ⟨some (Gd ((x3 = false) ∧ (decide (0 < s1)) = true) (IsV (decide (x1.Lot ≤ x9.Lot)))), [(31, some 19), (33, some 21)]⟩ :: _ :: _ :: []) hmix hs (by kernel_rfl) ⟨o1 [(4, none)] rfl fun _ _ h n => ok_fieldAddr rfl fo35_0 (at_Account_0 _) ((up i4 h n.1)).ptr, o1 [(12, some 0)] rfl fun _ _ h n => ok_load rfl ty3 n.1, o1 [(13, some 1)] rfl fun _ _ h n => ok_call rfl Try.call31 (within_ok n.1 (cI rfl) (cI rfl) hx2), o1 [(14, some 2)] rfl fun _ _ h n => ok_not rfl n.1, cm 3 rfl rfl, gF [(4, none)] rfl rfl fun hp _ _ h n => ok_fieldAddr rfl fo35_1 (at_Account_1 _) ((up i4 h n.1)).ptr, gF [(17, some 5)] rfl rfl fun hp _ _ h n => ok_load rfl ty3 (Gd.get n.1 hp), gF [(18, some 6)] rfl rfl fun hp _ _ h n => ok_call rfl Try.call31 (within_ok (Gd.get n.1 hp) (cI rfl) (cI rfl) (hx5 hp)), gF [(19, some 7)] rfl rfl fun hp _ _ h n => ok_not rfl (Gd.get n.1 hp), o1 [(16, some 4), (20, some 8)] rfl fun _ _ h n => ok_pickM rfl n.1 hx3 (cB rfl) (Gd.get n.2.1), cm 9 rfl rfl, mF rfl rfl i3, gF [(23, some 11)] rfl rfl fun hp _ _ h n => ok_gtr rfl (Gd.get n.1 hp) (cI rfl), gdF rfl rfl fun hp _ _ h n => ok_move rfl (Gd.get n.1 hp), gdTT rfl rfl fun hp b q h n => ok_move rfl (up i0 h n.1), gdTT rfl rfl fun hp b q h n => ok_move rfl (up i3 h n.1), gdTT rfl rfl fun hp b q h n => ok_sub rfl (Gd.get n.1 hp) (cI rfl) (hx8 hp), gdTT rfl rfl fun hp b q h n => ok_indexAddr rfl Try.underlying22 ty35 (IsV.rd (Gd.get n.1 hp)) (Gd.get n.2.1 hp) (hx9 hp), gdTT rfl rfl fun hp b q h n => ok_fieldAddr rfl fo35_0 (at_Account_0 _) (Gd.get n.1 hp), gdTT rfl rfl fun hp b q h n => ok_load rfl ty3 (Gd.get n.1 hp), gdTT rfl rfl fun hp b q h n => ok_fieldAddr rfl fo35_0 (at_Account_0 _) ((up i4 h n.1)).ptr, gdTT rfl rfl fun hp b q h n => ok_load rfl ty3 (Gd.get n.1 hp), gdTT rfl rfl fun hp b q h n => ok_geq rfl (Gd.get n.1 hp) (Gd.get n.2.1 hp), gF [(25, some 13), (34, some 22)] rfl rfl fun hp _ _ h n => ok_pickM rfl (Gd.get n.1 hp) (hx7 hp) (fun hm => (Gd.get n.2.1 ⟨hp, hm⟩)) (cB rfl), o1 [(22, some 10), (35, some 23)] rfl fun _ _ h n => ok_pickM rfl n.1 hx6 (cB rfl) (Gd.get n.2.1), trivial⟩ W3 fun b q p => ?_
    exact tail_done (k := q) (w2 _ _ ⟨Bs.post ⟨hg, hs, hd⟩ p, p.ke 0 rfl i0, p.ke 5 rfl i5, p.ke 6 rfl i6, p.ke 7 rfl i7, p.ou 24 36 rfl, trivial⟩)
   rintro a k ⟨⟨hg, hs, hd⟩, i0, i5, i6, i7, i36, _⟩
   refine wp_cond_split (isBool i36) (fun hc22 => ?_) (fun hc22 => ?_)
   ·rw [if_pos hc22] at hr
    refine stepL 1 (⟨some (IsV false), []⟩ :: []) rfl ⟨hg, hs, hd⟩ (by kernel_rfl) ⟨ob1 rfl fun _ _ h n => ok_assign rfl (isV_bool.2 rfl), trivial⟩ [⟨_, _⟩] (fun b q p => ⟨p.ou 0 2 rfl, trivial⟩) ?_
    rintro a k ⟨⟨hg, hs, hd⟩, i2, _⟩
    refine wp_ret ?_
    exact hret12 _ _ _ (Option.some.inj hr).symm (retC1 rfl hd hg i2)
   rw [if_neg (by rw [hc22]; decide)] at hr
   refine wp_skip ?_
   obtain ⟨x10, hx10, hr⟩ := bind_some hr
   refine cut (fun a' k' => Bs noF k0 41 a' k' ∧ (IsV l_) (a'.get 0) k' ∧ (IsV l_) (a'.get 5) k' ∧ (IsL l_) (a'.get 6) k' ∧ (IsV x10) (a'.get 7) k' ∧ True) ?_ hQ ?_
   ·intro Q4 W4 w3
    refine gS 2 (_ :: _ :: []) hs (by kernel_rfl) ⟨o1 [(7, none)] rfl fun _ _ h n => ok_add rfl (up i7 h n.1) (cI rfl) hx10, cm 0 rfl rfl, trivial⟩ W4 fun b q p => ?_
    exact tail_done (k := q) (w3 _ _ ⟨Bs.post ⟨hg, hs, hd⟩ p, p.ke 0 rfl i0, p.ke 5 rfl i5, p.ke 6 rfl i6, p.ou 1 7 rfl, trivial⟩)
   rintro a k ⟨⟨hg, hs, hd⟩, i0, i5, i6, i7, _⟩
   exact hgo10 _ _ _ (Option.some.inj hr).symm ⟨⟨hg, hs, hd⟩, i0, i5, i6, i7, trivial⟩
  rw [if_neg (by rw [hc27]; decide)] at hr
  refine wp_exit ?_
  exact hex11 _ _ _ _ (Option.some.inj hr).symm ⟨rfl, ⟨hg, hs, hd⟩, i0, trivial⟩
 ·rintro r1 a k rfl hR
  dsimp only at hr
  obtain rfl := Option.some.inj hr
  exact hR
 ·rintro _ _ _ rfl _
  simp at hr
 clear hf1
 rintro _ s2 a k rfl ⟨rfl, ⟨hg, hs, hd⟩, i0, _⟩
 dsimp only at hr
 refine stepL 4 (_ :: _ :: _ :: _ :: []) rfl ⟨hg, hs, hd⟩ (by kernel_rfl) ⟨mu rfl i0, o1 [(38, some 0)] rfl fun _ _ h n => ok_len rfl rfl Try.underlying22 (IsV.rd n.1), o1 [(39, some 1)] rfl fun _ _ h n => ok_leq rfl n.1 (cI rfl), cp 2 rfl rfl, trivial⟩ [⟨_, _⟩] (fun b q p => ⟨p.ou 3 2 rfl, trivial⟩) ?_
 rintro a k ⟨⟨hg, hs, hd⟩, i2, _⟩
 refine wp_ret ?_
 obtain rfl := Option.some.inj hr
 exact retC1 rfl hd hg i2
def rRight_L0 (l_ : (List Account)) (s1 : Int) : Option (Flow (Int) (Bool)) :=
 if (decide (s1 < (l_.length : Int))) then
  (getI l_ s1).bind fun x1 =>
  (if (decide (x1.Lot < 1)) then
   some true
  else
   (getI l_ s1).bind fun x2 =>
   some (decide (1073741824 < x2.Lot))).bind fun x3 =>
  (if x3 then
   some true
  else
   (getI l_ s1).bind fun x4 =>
   some (decide (x4.Units < 0))).bind fun x5 =>
  (if x5 then
   some true
  else
   (getI l_ s1).bind fun x6 =>
   some (decide (1073741824 < x6.Units))).bind fun x7 =>
  (if x7 then
   some true
  else
   (if (decide (0 < s1)) then
    (subI s1 1).bind fun x8 =>
    (getI l_ x8).bind fun x9 =>
    (getI l_ s1).bind fun x10 =>
    some (decide (x10.Lot ≤ x9.Lot))
   else
    some false).bind fun x11 =>
   some x11).bind fun x12 =>
  if x12 then
   some (.ret false)
  else
   (addI s1 1).bind fun x13 =>
   some (.go x13)
 else
  some (.ex 0 s1)
def rRight (l_ : (List Account)) : Option (Bool) :=
 (iterL (rRight_L0 l_) (l_.length + 1) 0).bind fun f1 => match f1 with
  | .go _ => none
  | .ex _ _ =>
   some (decide ((l_.length : Int) ≤ 20000))
  | .ret r1 => some r1
theorem rRight_ok {k0 : K} {v0 : Value} {l_ : (List Account)} {r : Bool} (i0 : (IsV l_) v0 k0) (hr : rRight l_ = some r) :
  Calls Try.prog 18 #[v0] k0.w (Ret k0 (IsV r)) := by
 unfold rRight at hr
 refine Ret.ofC ?_
 refine enterK Try.func18 rfl Try.ntmps18 (show 1 ≤ 61 by decide) fun a k hk0 hs hd ha => ?_
 obtain ⟨e0, _⟩ := ha
 replace i0 : (IsV l_) (a.get 0) k := by rw [e0, hk0]; exact i0
 have hQ : Gb.LetsOut (bodyPost Try.prog Try.f18 (RetC noF k0 (IsV r))) := letsOutC
 have hg : Chg noF k0 k := by rw [hk0]; exact Chg.refl _ k0
 refine stepL 1 (⟨some (IsV false), []⟩ :: []) rfl ⟨hg, hs, hd⟩ (by kernel_rfl) ⟨ob1 rfl fun _ _ h n => ok_assign rfl (isV_bool.2 rfl), trivial⟩ [⟨_, _⟩] (fun b q p => ⟨p.ke 0 rfl i0, trivial⟩) ?_
 rintro a k ⟨⟨hg, hs, hd⟩, i0, _⟩
 refine wp_seq ?_
 refine stepL 1 (⟨some (IsI 0), []⟩ :: []) rfl ⟨hg, hs, hd⟩ (by kernel_rfl) ⟨aI rfl rfl, trivial⟩ [⟨_, _⟩, ⟨_, _⟩] (fun b q p => ⟨p.ke 0 rfl i0, p.ou 0 3 rfl, trivial⟩) ?_
 rintro a k ⟨⟨hg, hs, hd⟩, i0, i3, _⟩
 refine wp_block ?_
 obtain ⟨f1, hf1, hr⟩ := bind_some hr
 refine cutFe f1 (fun s' c l => Bs noF k0 61 c l ∧ IsV l_ (c.get 0) l ∧ IsV s' (c.get 3) l ∧ True) (fun i' s' c l => (i' = 0 ∧ Bs noF k0 61 c l ∧ IsV l_ (c.get 0) l ∧ True)) (fun r' c l => bodyPost Try.prog Try.f18 (RetC noF k0 (IsV r')) .ret c l.w) ?_ hQ ?_ ?_ ?_
 ·intro Q1 W1 hgo hex hret
  refine sim_loop ?_ _ _ _ _ _ hf1 ⟨⟨hg, hs, hd⟩, i0, i3, trivial⟩ Q1 W1 hgo hex hret
  clear hr hf1 hgo hex hret W1 hQ hg hs hd i0 i3
  intro s1 fl_ a k hr hS Q hQ hgo44 hex45 hret46
  obtain ⟨⟨hg, hs, hd⟩, i0, i3, _⟩ := hS
  unfold rRight_L0 at hr
  refine wp_seq ?_
  refine stepL 4 (_ :: _ :: _ :: _ :: []) rfl ⟨hg, hs, hd⟩ (by kernel_rfl) ⟨mu rfl i3, mu rfl i0, o1 [(5, some 1)] rfl fun _ _ h n => ok_len rfl rfl Try.underlying22 (IsV.rd n.1), o1 [(4, some 0), (6, some 2)] rfl fun _ _ h n => ok_lss rfl n.1 n.2.1, trivial⟩ [⟨_, _⟩, ⟨_, _⟩, ⟨_, _⟩] (fun b q p => ⟨p.ke 0 rfl i0, p.ke 3 rfl i3, p.ou 3 7 rfl, trivial⟩) ?_
  rintro a k ⟨⟨hg, hs, hd⟩, i0, i3, i7, _⟩
  refine wp_cond_split (isBool i7) (fun hc58 => ?_) (fun hc58 => ?_)
  ·rw [if_pos hc58] at hr
   refine wp_skip ?_
   refine wp_seq ?_
   refine wp_block ?_
   refine wp_seq ?_
   obtain ⟨x1, hx1, hr⟩ := bind_some hr
   obtain ⟨x2, hx2, hr⟩ := bind_some hr
   obtain ⟨x3, hx3, hx2⟩ := ite_bindF hx2
   obtain ⟨x4, hx4, hr⟩ := bind_some hr
   obtain ⟨x5, hx5, hx4⟩ := ite_bindF hx4
   obtain ⟨x6, hx6, hr⟩ := bind_some hr
   obtain ⟨x7, hx7, hx6⟩ := ite_bindF hx6
   obtain ⟨x8, hx8, hr⟩ := bind_some hr
   obtain ⟨x9, hx9, hx8⟩ := ite_bindF hx8
   obtain ⟨x10, hx10, hx9⟩ := ite_bindP hx9
   obtain ⟨x11, hx11, hx9⟩ := ite_bindP hx9
   obtain ⟨x12, hx12, hx9⟩ := ite_bindP hx9
   refine cut (fun a' k' => Bs noF k0 61 a' k' ∧ (IsV l_) (a'.get 0) k' ∧ (IsV s1) (a'.get 3) k' ∧ (IsV x8) (a'.get 57) k' ∧ True) ?_ hQ ?_
   ·intro Q2 W2 w1
    refine region (m := 48) (_ :: _ :: _ :: _ :: _ :: _ :: _ :: _ :: _ :: _ :: _ :: _ :: _ :: _ :: _ :: _ :: _ :: _ :: _ :: _ :: _ :: _ :: _ :: _ :: _ :: _ :: _ :: _ :: _ :: _ :: _ :: _ :: _ :: ⟨some (Gd (x6 = false) (IsV (decide (0 < s1)))), [(42, some 32)]⟩ :: ⟨some (Gd ((x6 = false) ∧ (decide (0 < s1)) = true) (IsV l_)), [(0, none)]⟩ :: ⟨some (Gd ((x6 = false) ∧ (decide (0 < s1)) = true) (IsV s1)), [(3, none)]⟩ :: ⟨some (Gd ((x6 = false) ∧ (decide (0 < s1)) = true) (IsV x10)), [(45, some 35)]⟩ :: ⟨some (Gd ((x6 = false) ∧ (decide (0 < s1)) = true) (IsPtr x11)), [(44, some 34), (46, some 36)]⟩ :: ⟨some (Gd ((x6 = false) ∧ (decide (0 < s1)) = true) (IsPtr x11.Lot)), [(47, some 37)]⟩ :: ⟨some (Gd ((x6 = false) ∧ (decide (0 < s1)) = true) (IsV x11.Lot)), [(48, some 38)]⟩ :: ⟨some (Gd ((x6 = false) ∧ (decide (0 < s1)) = true) (IsV l_)), [(0, none)]⟩ :: ⟨some (Gd ((x6 = false) ∧ (decide (0 < s1)) = true) (IsV s1)), [(3, none)]⟩ :: ⟨some (Gd ((x6 = false) ∧ (decide (0 < s1)) = true) (IsPtr x12)), [(50, some 40), (51, some 41)]⟩ :: ⟨some (Gd ((x6 = false) ∧ (decide (0 < s1)) = true) (IsPtr x12.Lot)), [(52, some 42)]⟩ :: ⟨some (Gd ((x6 = false) ∧ (decide (0 < s1)) = true) (IsV x12.Lot)), [(53, some 43)]⟩ :: ⟨some (Gd ((x6 = false) ∧ (decide (0 < s1)) = true) (IsV (decide (x12.Lot ≤ x11.Lot)))), [(49, some 39), (54, some 44)]⟩ :: _ :: _ :: []) hmix hs (by kernel_rfl) ⟨mu rfl i0, mu rfl i3, o1 [(10, some 0), (11, some 1)] rfl fun _ _ h n => ok_indexAddr rfl Try.underlying22 ty35 (IsV.rd n.1) n.2.1 hx1, o1 [(12, some 2)] rfl fun _ _ h n => ok_fieldAddr rfl fo35_0 (at_Account_0 _) n.1, o1 [(13, some 3)] rfl fun _ _ h n => ok_load rfl ty3 n.1, o1 [(14, some 4)] rfl fun _ _ h n => ok_lss rfl n.1 (cI rfl), cm 5 rfl rfl, mF rfl rfl i0, mF rfl rfl i3, gF [(17, some 7), (18, some 8)] rfl rfl fun hp _ _ h n => ok_indexAddr rfl Try.underlying22 ty35 (IsV.rd (Gd.get n.1 hp)) (Gd.get n.2.1 hp) (hx3 hp), gF [(19, some 9)] rfl rfl fun hp _ _ h n => ok_fieldAddr rfl fo35_0 (at_Account_0 _) (Gd.get n.1 hp), gF [(20, some 10)] rfl rfl fun hp _ _ h n => ok_load rfl ty3 (Gd.get n.1 hp), gF [(21, some 11)] rfl rfl fun hp _ _ h n => ok_gtr rfl (Gd.get n.1 hp) (cI rfl), o1 [(16, some 6), (22, some 12)] rfl fun _ _ h n => ok_pickM rfl n.1 hx2 (cB rfl) (Gd.get n.2.1), cm 13 rfl rfl, mF rfl rfl i0, mF rfl rfl i3, gF [(25, some 15), (26, some 16)] rfl rfl fun hp _ _ h n => ok_indexAddr rfl Try.underlying22 ty35 (IsV.rd (Gd.get n.1 hp)) (Gd.get n.2.1 hp) (hx5 hp), gF [(27, some 17)] rfl rfl fun hp _ _ h n => ok_fieldAddr rfl fo35_1 (at_Account_1 _) (Gd.get n.1 hp), gF [(28, some 18)] rfl rfl fun hp _ _ h n => ok_load rfl ty3 (Gd.get n.1 hp), gF [(29, some 19)] rfl rfl fun hp _ _ h n => ok_lss rfl (Gd.get n.1 hp) (cI rfl), o1 [(24, some 14), (30, some 20)] rfl fun _ _ h n => ok_pickM rfl n.1 hx4 (cB rfl) (Gd.get n.2.1), cm 21 rfl rfl, mF rfl rfl i0, mF rfl rfl i3, gF [(33, some 23), (34, some 24)] rfl rfl fun hp _ _ h n => ok_indexAddr rfl Try.underlying22 ty35 (IsV.rd (Gd.get n.1 hp)) (Gd.get n.2.1 hp) (hx7 hp), gF [(35, some 25)] rfl rfl fun hp _ _ h n => ok_fieldAddr rfl fo35_1 (at_Account_1 _) (Gd.get n.1 hp), gF [(36, some 26)] rfl rfl fun hp _ _ h n => ok_load rfl ty3 (Gd.get n.1 hp), gF [(37, some 27)] rfl rfl fun hp _ _ h n => ok_gtr rfl (Gd.get n.1 hp) (cI rfl), o1 [(32, some 22), (38, some 28)] rfl fun _ _ h n => ok_pickM rfl n.1 hx6 (cB rfl) (Gd.get n.2.1), cm 29 rfl rfl, mF rfl rfl i3, gF [(41, some 31)] rfl rfl fun hp _ _ h n => ok_gtr rfl (Gd.get n.1 hp) (cI rfl), gdF rfl rfl fun hp _ _ h n => ok_move rfl (Gd.get n.1 hp), gdTT rfl rfl fun hp b q h n => ok_move rfl (up i0 h n.1), gdTT rfl rfl fun hp b q h n => ok_move rfl (up i3 h n.1), gdTT rfl rfl fun hp b q h n => ok_sub rfl (Gd.get n.1 hp) (cI rfl) (hx10 hp), gdTT rfl rfl fun hp b q h n => ok_indexAddr rfl Try.underlying22 ty35 (IsV.rd (Gd.get n.1 hp)) (Gd.get n.2.1 hp) (hx11 hp), gdTT rfl rfl fun hp b q h n => ok_fieldAddr rfl fo35_0 (at_Account_0 _) (Gd.get n.1 hp), gdTT rfl rfl fun hp b q h n => ok_load rfl ty3 (Gd.get n.1 hp), gdTT rfl rfl fun hp b q h n => ok_move rfl (up i0 h n.1), gdTT rfl rfl fun hp b q h n => ok_move rfl (up i3 h n.1), gdTT rfl rfl fun hp b q h n => ok_indexAddr rfl Try.underlying22 ty35 (IsV.rd (Gd.get n.1 hp)) (Gd.get n.2.1 hp) (hx12 hp), gdTT rfl rfl fun hp b q h n => ok_fieldAddr rfl fo35_0 (at_Account_0 _) (Gd.get n.1 hp), gdTT rfl rfl fun hp b q h n => ok_load rfl ty3 (Gd.get n.1 hp), gdTT rfl rfl fun hp b q h n => ok_geq rfl (Gd.get n.1 hp) (Gd.get n.2.1 hp), gF [(43, some 33), (55, some 45)] rfl rfl fun hp _ _ h n => ok_pickM rfl (Gd.get n.1 hp) (hx9 hp) (fun hm => (Gd.get n.2.1 ⟨hp, hm⟩)) (cB rfl), o1 [(40, some 30), (56, some 46)] rfl fun _ _ h n => ok_pickM rfl n.1 hx8 (cB rfl) (Gd.get n.2.1), trivial⟩ W2 fun b q p => ?_
    exact tail_done (k := q) (w1 _ _ ⟨Bs.post ⟨hg, hs, hd⟩ p, p.ke 0 rfl i0, p.ke 3 rfl i3, p.ou 47 57 rfl, trivial⟩)
   rintro a k ⟨⟨hg, hs, hd⟩, i0, i3, i57, _⟩
   refine wp_cond_split (isBool i57) (fun hc55 => ?_) (fun hc55 => ?_)
   ·rw [if_pos hc55] at hr
    refine stepL 1 (⟨some (IsV false), []⟩ :: []) rfl ⟨hg, hs, hd⟩ (by kernel_rfl) ⟨ob1 rfl fun _ _ h n => ok_assign rfl (isV_bool.2 rfl), trivial⟩ [⟨_, _⟩] (fun b q p => ⟨p.ou 0 2 rfl, trivial⟩) ?_
    rintro a k ⟨⟨hg, hs, hd⟩, i2, _⟩
    refine wp_ret ?_
    exact hret46 _ _ _ (Option.some.inj hr).symm (retC1 rfl hd hg i2)
   rw [if_neg (by rw [hc55]; decide)] at hr
   refine wp_skip ?_
   obtain ⟨x13, hx13, hr⟩ := bind_some hr
   refine cut (fun a' k' => Bs noF k0 61 a' k' ∧ (IsV l_) (a'.get 0) k' ∧ (IsV x13) (a'.get 3) k' ∧ True) ?_ hQ ?_
   ·intro Q3 W3 w2
    refine gS 3 (_ :: _ :: _ :: []) hs (by kernel_rfl) ⟨mu rfl i3, o1 [(8, some 0)] rfl fun _ _ h n => ok_add rfl n.1 (cI rfl) hx13, cp 1 rfl rfl, trivial⟩ W3 fun b q p => ?_
    exact tail_done (k := q) (w2 _ _ ⟨Bs.post ⟨hg, hs, hd⟩ p, p.ke 0 rfl i0, p.ou 2 3 rfl, trivial⟩)
   rintro a k ⟨⟨hg, hs, hd⟩, i0, i3, _⟩
   exact hgo44 _ _ _ (Option.some.inj hr).symm ⟨⟨hg, hs, hd⟩, i0, i3, trivial⟩
  rw [if_neg (by rw [hc58]; decide)] at hr
  refine wp_exit ?_
  exact hex45 _ _ _ _ (Option.some.inj hr).symm ⟨rfl, ⟨hg, hs, hd⟩, i0, trivial⟩
 ·rintro r1 a k rfl hR
  dsimp only at hr
  obtain rfl := Option.some.inj hr
  exact hR
 ·rintro _ _ _ rfl _
  simp at hr
 clear hf1
 rintro _ s2 a k rfl ⟨rfl, ⟨hg, hs, hd⟩, i0, _⟩
 dsimp only at hr
 refine stepL 4 (_ :: _ :: _ :: _ :: []) rfl ⟨hg, hs, hd⟩ (by kernel_rfl) ⟨mu rfl i0, o1 [(58, some 0)] rfl fun _ _ h n => ok_len rfl rfl Try.underlying22 (IsV.rd n.1), o1 [(59, some 1)] rfl fun _ _ h n => ok_leq rfl n.1 (cI rfl), cp 2 rfl rfl, trivial⟩ [⟨_, _⟩] (fun b q p => ⟨p.ou 3 2 rfl, trivial⟩) ?_
 rintro a k ⟨⟨hg, hs, hd⟩, i2, _⟩
 refine wp_ret ?_
 obtain rfl := Option.some.inj hr
 exact retC1 rfl hd hg i2
def rAt_L0 (l_ : (List Account)) (lot_ : Int) (s1 : Int) : Option (Flow (Int) (Int)) :=
 if (decide (s1 < (l_.length : Int))) then
  (getI l_ s1).bind fun x1 =>
  if (x1.Lot == lot_) then
   some (.ret s1)
  else
   (addI s1 1).bind fun x2 =>
   some (.go x2)
 else
  some (.ex 0 s1)
def rAt (l_ : (List Account)) (lot_ : Int) : Option (Int) :=
 (iterL (rAt_L0 l_ lot_) (l_.length + 1) 0).bind fun f1 => match f1 with
  | .go _ => none
  | .ex _ _ =>
   some (-1)
  | .ret r1 => some r1
theorem rAt_ok {k0 : K} {v0 v1 : Value} {l_ : (List Account)} {lot_ : Int} {r : Int} (i0 : (IsV l_) v0 k0) (i1 : (IsV lot_) v1 k0) (hr : rAt l_ lot_ = some r) :
  Calls Try.prog 32 #[v0, v1] k0.w (Ret k0 (IsV r)) := by
 unfold rAt at hr
 refine Ret.ofC ?_
 refine enterK Try.func32 rfl Try.ntmps32 (show 2 ≤ 20 by decide) fun a k hk0 hs hd ha => ?_
 obtain ⟨e0, e1, _⟩ := ha
 replace i0 : (IsV l_) (a.get 0) k := by rw [e0, hk0]; exact i0
 replace i1 : (IsV lot_) (a.get 1) k := by rw [e1, hk0]; exact i1
 have hQ : Gb.LetsOut (bodyPost Try.prog Try.f32 (RetC noF k0 (IsV r))) := letsOutC
 have hg : Chg noF k0 k := by rw [hk0]; exact Chg.refl _ k0
 refine stepL 1 (⟨some (IsI 0), []⟩ :: []) rfl ⟨hg, hs, hd⟩ (by kernel_rfl) ⟨aI rfl rfl, trivial⟩ [⟨_, _⟩, ⟨_, _⟩] (fun b q p => ⟨p.ke 0 rfl i0, p.ke 1 rfl i1, trivial⟩) ?_
 rintro a k ⟨⟨hg, hs, hd⟩, i0, i1, _⟩
 refine wp_seq ?_
 refine stepL 1 (⟨some (IsI 0), []⟩ :: []) rfl ⟨hg, hs, hd⟩ (by kernel_rfl) ⟨aI rfl rfl, trivial⟩ [⟨_, _⟩, ⟨_, _⟩, ⟨_, _⟩] (fun b q p => ⟨p.ke 0 rfl i0, p.ke 1 rfl i1, p.ou 0 5 rfl, trivial⟩) ?_
 rintro a k ⟨⟨hg, hs, hd⟩, i0, i1, i5, _⟩
 refine wp_block ?_
 obtain ⟨f1, hf1, hr⟩ := bind_some hr
 refine cutFe f1 (fun s' c l => Bs noF k0 20 c l ∧ IsV l_ (c.get 0) l ∧ IsV lot_ (c.get 1) l ∧ IsV s' (c.get 5) l ∧ True) (fun i' s' c l => (i' = 0 ∧ Bs noF k0 20 c l ∧ True)) (fun r' c l => bodyPost Try.prog Try.f32 (RetC noF k0 (IsV r')) .ret c l.w) ?_ hQ ?_ ?_ ?_
 ·intro Q1 W1 hgo hex hret
  refine sim_loop ?_ _ _ _ _ _ hf1 ⟨⟨hg, hs, hd⟩, i0, i1, i5, trivial⟩ Q1 W1 hgo hex hret
  clear hr hf1 hgo hex hret W1 hQ hg hs hd i0 i1 i5
  intro s1 fl_ a k hr hS Q hQ hgo75 hex76 hret77
  obtain ⟨⟨hg, hs, hd⟩, i0, i1, i5, _⟩ := hS
  unfold rAt_L0 at hr
  refine wp_seq ?_
  refine stepL 4 (_ :: _ :: _ :: _ :: []) rfl ⟨hg, hs, hd⟩ (by kernel_rfl) ⟨mu rfl i5, mu rfl i0, o1 [(7, some 1)] rfl fun _ _ h n => ok_len rfl rfl Try.underlying22 (IsV.rd n.1), o1 [(6, some 0), (8, some 2)] rfl fun _ _ h n => ok_lss rfl n.1 n.2.1, trivial⟩ [⟨_, _⟩, ⟨_, _⟩, ⟨_, _⟩, ⟨_, _⟩] (fun b q p => ⟨p.ke 0 rfl i0, p.ke 1 rfl i1, p.ke 5 rfl i5, p.ou 3 9 rfl, trivial⟩) ?_
  rintro a k ⟨⟨hg, hs, hd⟩, i0, i1, i5, i9, _⟩
  refine wp_cond_split (isBool i9) (fun hc89 => ?_) (fun hc89 => ?_)
  ·rw [if_pos hc89] at hr
   refine wp_skip ?_
   refine wp_seq ?_
   refine wp_block ?_
   refine wp_seq ?_
   obtain ⟨x1, hx1, hr⟩ := bind_some hr
   refine cut (fun a' k' => Bs noF k0 20 a' k' ∧ (IsV l_) (a'.get 0) k' ∧ (IsV lot_) (a'.get 1) k' ∧ (IsV s1) (a'.get 5) k' ∧ (IsV (x1.Lot == lot_)) (a'.get 18) k' ∧ True) ?_ hQ ?_
   ·intro Q2 W2 w1
    refine gS 7 (_ :: _ :: _ :: _ :: _ :: _ :: _ :: []) hs (by kernel_rfl) ⟨mu rfl i0, mu rfl i5, o1 [(12, some 0), (13, some 1)] rfl fun _ _ h n => ok_indexAddr rfl Try.underlying22 ty35 (IsV.rd n.1) n.2.1 hx1, o1 [(14, some 2)] rfl fun _ _ h n => ok_fieldAddr rfl fo35_0 (at_Account_0 _) n.1, o1 [(15, some 3)] rfl fun _ _ h n => ok_load rfl ty3 n.1, mu rfl i1, o1 [(16, some 4), (17, some 5)] rfl fun _ _ h n => ok_eqI rfl n.1 n.2.1, trivial⟩ W2 fun b q p => ?_
    exact tail_done (k := q) (w1 _ _ ⟨Bs.post ⟨hg, hs, hd⟩ p, p.ke 0 rfl i0, p.ke 1 rfl i1, p.ke 5 rfl i5, p.ou 6 18 rfl, trivial⟩)
   rintro a k ⟨⟨hg, hs, hd⟩, i0, i1, i5, i18, _⟩
   refine wp_cond_split (isBool i18) (fun hc86 => ?_) (fun hc86 => ?_)
   ·rw [if_pos hc86] at hr
    refine stepL 2 (_ :: _ :: []) rfl ⟨hg, hs, hd⟩ (by kernel_rfl) ⟨mu rfl i5, cp 0 rfl rfl, trivial⟩ [⟨_, _⟩] (fun b q p => ⟨p.ou 1 4 rfl, trivial⟩) ?_
    rintro a k ⟨⟨hg, hs, hd⟩, i4, _⟩
    refine wp_ret ?_
    exact hret77 _ _ _ (Option.some.inj hr).symm (retC1 rfl hd hg i4)
   rw [if_neg (by rw [hc86]; decide)] at hr
   refine wp_skip ?_
   obtain ⟨x2, hx2, hr⟩ := bind_some hr
   refine cut (fun a' k' => Bs noF k0 20 a' k' ∧ (IsV l_) (a'.get 0) k' ∧ (IsV lot_) (a'.get 1) k' ∧ (IsV x2) (a'.get 5) k' ∧ True) ?_ hQ ?_
   ·intro Q3 W3 w2
    refine gS 3 (_ :: _ :: _ :: []) hs (by kernel_rfl) ⟨mu rfl i5, o1 [(10, some 0)] rfl fun _ _ h n => ok_add rfl n.1 (cI rfl) hx2, cp 1 rfl rfl, trivial⟩ W3 fun b q p => ?_
    exact tail_done (k := q) (w2 _ _ ⟨Bs.post ⟨hg, hs, hd⟩ p, p.ke 0 rfl i0, p.ke 1 rfl i1, p.ou 2 5 rfl, trivial⟩)
   rintro a k ⟨⟨hg, hs, hd⟩, i0, i1, i5, _⟩
   exact hgo75 _ _ _ (Option.some.inj hr).symm ⟨⟨hg, hs, hd⟩, i0, i1, i5, trivial⟩
  rw [if_neg (by rw [hc89]; decide)] at hr
  refine wp_exit ?_
  exact hex76 _ _ _ _ (Option.some.inj hr).symm ⟨rfl, ⟨hg, hs, hd⟩, trivial⟩
 ·rintro r1 a k rfl hR
  dsimp only at hr
  obtain rfl := Option.some.inj hr
  exact hR
 ·rintro _ _ _ rfl _
  simp at hr
 clear hf1
 rintro _ s2 a k rfl ⟨rfl, ⟨hg, hs, hd⟩, _⟩
 dsimp only at hr
 refine stepL 1 (⟨some (IsI (-1)), []⟩ :: []) rfl ⟨hg, hs, hd⟩ (by kernel_rfl) ⟨aI rfl rfl, trivial⟩ [⟨_, _⟩] (fun b q p => ⟨p.ou 0 4 rfl, trivial⟩) ?_
 rintro a k ⟨⟨hg, hs, hd⟩, i4, _⟩
 refine wp_ret ?_
 obtain rfl := Option.some.inj hr
 exact retC1 rfl hd hg i4
def rUnits (l_ : (List Account)) (lot_ : Int) : Option (Int) :=
 (rAt l_ lot_).bind fun x1 =>
 if (decide (x1 < 0)) then
  some 0
 else
  (getI l_ x1).bind fun x2 =>
  some x2.Units
theorem rUnits_ok {k0 : K} {v0 v1 : Value} {l_ : (List Account)} {lot_ : Int} {r : Int} (i0 : (IsV l_) v0 k0) (i1 : (IsV lot_) v1 k0) (hr : rUnits l_ lot_ = some r) :
  Calls Try.prog 20 #[v0, v1] k0.w (Ret k0 (IsV r)) := by
 unfold rUnits at hr
 refine Ret.ofC ?_
 refine enterK Try.func20 rfl Try.ntmps20 (show 2 ≤ 16 by decide) fun a k hk0 hs hd ha => ?_
 obtain ⟨e0, e1, _⟩ := ha
 replace i0 : (IsV l_) (a.get 0) k := by rw [e0, hk0]; exact i0
 replace i1 : (IsV lot_) (a.get 1) k := by rw [e1, hk0]; exact i1
 have hQ : Gb.LetsOut (bodyPost Try.prog Try.f20 (RetC noF k0 (IsV r))) := letsOutC
 have hg : Chg noF k0 k := by rw [hk0]; exact Chg.refl _ k0
 refine stepL 1 (⟨some (IsI 0), []⟩ :: []) rfl ⟨hg, hs, hd⟩ (by kernel_rfl) ⟨aI rfl rfl, trivial⟩ [⟨_, _⟩, ⟨_, _⟩] (fun b q p => ⟨p.ke 0 rfl i0, p.ke 1 rfl i1, trivial⟩) ?_
 rintro a k ⟨⟨hg, hs, hd⟩, i0, i1, _⟩
 refine wp_seq ?_
 obtain ⟨x1, hx1, hr⟩ := bind_some hr
 refine cut (fun a' k' => Bs noF k0 16 a' k' ∧ (IsV l_) (a'.get 0) k' ∧ (IsV x1) (a'.get 5) k' ∧ True) ?_ hQ ?_
 ·intro Q1 W1 w1
  refine gS 4 (_ :: _ :: _ :: _ :: []) hs (by kernel_rfl) ⟨mu rfl i0, mu rfl i1, o1 [(6, some 0), (7, some 1)] rfl fun _ _ h n => ok_call rfl Try.call32 (rAt_ok n.1 n.2.1 hx1), cp 2 rfl rfl, trivial⟩ W1 fun b q p => ?_
  exact tail_done (k := q) (w1 _ _ ⟨Bs.post ⟨hg, hs, hd⟩ p, p.ke 0 rfl i0, p.ou 3 5 rfl, trivial⟩)
 rintro a k ⟨⟨hg, hs, hd⟩, i0, i5, _⟩
 refine wp_seq ?_
 refine stepL 2 (_ :: _ :: []) rfl ⟨hg, hs, hd⟩ (by kernel_rfl) ⟨mu rfl i5, o1 [(9, some 0)] rfl fun _ _ h n => ok_lss rfl n.1 (cI rfl), trivial⟩ [⟨_, _⟩, ⟨_, _⟩, ⟨_, _⟩] (fun b q p => ⟨p.ke 0 rfl i0, p.ke 5 rfl i5, p.ou 1 10 rfl, trivial⟩) ?_
 rintro a k ⟨⟨hg, hs, hd⟩, i0, i5, i10, _⟩
 refine wp_cond_split (isBool i10) (fun hc112 => ?_) (fun hc112 => ?_)
 ·rw [if_pos hc112] at hr
  refine stepL 1 (⟨some (IsI 0), []⟩ :: []) rfl ⟨hg, hs, hd⟩ (by kernel_rfl) ⟨aI rfl rfl, trivial⟩ [⟨_, _⟩] (fun b q p => ⟨p.ou 0 4 rfl, trivial⟩) ?_
  rintro a k ⟨⟨hg, hs, hd⟩, i4, _⟩
  refine wp_ret ?_
  obtain rfl := Option.some.inj hr
  exact retC1 rfl hd hg i4
 rw [if_neg (by rw [hc112]; decide)] at hr
 refine wp_skip ?_
 refine wp_seq ?_
 obtain ⟨x2, hx2, hr⟩ := bind_some hr
 refine cut (fun a' k' => Bs noF k0 16 a' k' ∧ (IsV x2.Units) (a'.get 4) k' ∧ True) ?_ hQ ?_
 ·intro Q2 W2 w2
  refine gS 6 (_ :: _ :: _ :: _ :: _ :: _ :: []) hs (by kernel_rfl) ⟨mu rfl i0, mu rfl i5, o1 [(11, some 0), (12, some 1)] rfl fun _ _ h n => ok_indexAddr rfl Try.underlying22 ty35 (IsV.rd n.1) n.2.1 hx2, o1 [(13, some 2)] rfl fun _ _ h n => ok_fieldAddr rfl fo35_1 (at_Account_1 _) n.1, o1 [(14, some 3)] rfl fun _ _ h n => ok_load rfl ty3 n.1, cp 4 rfl rfl, trivial⟩ W2 fun b q p => ?_
  exact tail_done (k := q) (w2 _ _ ⟨Bs.post ⟨hg, hs, hd⟩ p, p.ou 5 4 rfl, trivial⟩)
 rintro a k ⟨⟨hg, hs, hd⟩, i4, _⟩
 refine wp_ret ?_
 obtain rfl := Option.some.inj hr
 exact retC1 rfl hd hg i4
def rTotal_L0 (l_ : (List Account)) (s1 : Int × Int) : Option (Flow (Int × Int) (Int)) :=
 (if (decide (s1.2 < (l_.length : Int))) then
  (rRight l_).bind fun x1 =>
  some x1
 else
  some false).bind fun x2 =>
 if x2 then
  (getI l_ s1.2).bind fun x3 =>
  (addI s1.1 x3.Units).bind fun x4 =>
  (addI s1.2 1).bind fun x5 =>
  some (.go (x4, x5))
 else
  some (.ex 0 (s1.1, s1.2))
def rTotal (l_ : (List Account)) : Option (Int) :=
 (iterL (rTotal_L0 l_) (l_.length + 1) (0, 0)).bind fun f1 => match f1 with
  | .go _ => none
  | .ex _ s1 =>
   some s1.1
  | .ret r1 => some r1
theorem rTotal_ok {k0 : K} {v0 : Value} {l_ : (List Account)} {r : Int} (i0 : (IsV l_) v0 k0) (hr : rTotal l_ = some r) :
  Calls Try.prog 22 #[v0] k0.w (Ret k0 (IsV r)) := by
 unfold rTotal at hr
 refine Ret.ofC ?_
 refine enterK Try.func22 rfl Try.ntmps22 (show 1 ≤ 23 by decide) fun a k hk0 hs hd ha => ?_
 obtain ⟨e0, _⟩ := ha
 replace i0 : (IsV l_) (a.get 0) k := by rw [e0, hk0]; exact i0
 have hQ : Gb.LetsOut (bodyPost Try.prog Try.f22 (RetC noF k0 (IsV r))) := letsOutC
 have hg : Chg noF k0 k := by rw [hk0]; exact Chg.refl _ k0
 refine stepL 1 (⟨some (IsI 0), []⟩ :: []) rfl ⟨hg, hs, hd⟩ (by kernel_rfl) ⟨aI rfl rfl, trivial⟩ [⟨_, _⟩] (fun b q p => ⟨p.ke 0 rfl i0, trivial⟩) ?_
 rintro a k ⟨⟨hg, hs, hd⟩, i0, _⟩
 refine stepL 1 (⟨some (IsI 0), []⟩ :: []) rfl ⟨hg, hs, hd⟩ (by kernel_rfl) ⟨aI rfl rfl, trivial⟩ [⟨_, _⟩, ⟨_, _⟩] (fun b q p => ⟨p.ke 0 rfl i0, p.ou 0 3 rfl, trivial⟩) ?_
 rintro a k ⟨⟨hg, hs, hd⟩, i0, i3, _⟩
 refine wp_seq ?_
 refine stepL 1 (⟨some (IsI 0), []⟩ :: []) rfl ⟨hg, hs, hd⟩ (by kernel_rfl) ⟨aI rfl rfl, trivial⟩ [⟨_, _⟩, ⟨_, _⟩, ⟨_, _⟩] (fun b q p => ⟨p.ke 0 rfl i0, p.ke 3 rfl i3, p.ou 0 4 rfl, trivial⟩) ?_
 rintro a k ⟨⟨hg, hs, hd⟩, i0, i3, i4, _⟩
 refine wp_block ?_
 obtain ⟨f1, hf1, hr⟩ := bind_some hr
 refine cutFe f1 (fun s' c l => Bs noF k0 23 c l ∧ IsV l_ (c.get 0) l ∧ IsV s'.1 (c.get 3) l ∧ IsV s'.2 (c.get 4) l ∧ True) (fun i' s' c l => (i' = 0 ∧ Bs noF k0 23 c l ∧ IsV s'.1 (c.get 3) l ∧ True)) (fun r' c l => bodyPost Try.prog Try.f22 (RetC noF k0 (IsV r')) .ret c l.w) ?_ hQ ?_ ?_ ?_
 ·intro Q1 W1 hgo hex hret
  refine sim_loop ?_ _ _ _ _ _ hf1 ⟨⟨hg, hs, hd⟩, i0, i3, i4, trivial⟩ Q1 W1 hgo hex hret
  clear hr hf1 hgo hex hret W1 hQ hg hs hd i0 i3 i4
  intro s1 fl_ a k hr hS Q hQ hgo123 hex124 hret125
  obtain ⟨⟨hg, hs, hd⟩, i0, i3, i4, _⟩ := hS
  unfold rTotal_L0 at hr
  refine wp_seq ?_
  refine wp_seq ?_
  obtain ⟨x1, hx1, hr⟩ := bind_some hr
  obtain ⟨x2, hx2, hx1⟩ := ite_bind hx1
  refine cut (fun a' k' => Bs noF k0 23 a' k' ∧ (IsV l_) (a'.get 0) k' ∧ (IsV s1.1) (a'.get 3) k' ∧ (IsV s1.2) (a'.get 4) k' ∧ (IsV x1) (a'.get 12) k' ∧ True) ?_ hQ ?_
  ·intro Q2 W2 w1
   refine gS 8 (_ :: _ :: _ :: _ :: _ :: _ :: _ :: _ :: []) hs (by kernel_rfl) ⟨mu rfl i4, mu rfl i0, o1 [(6, some 1)] rfl fun _ _ h n => ok_len rfl rfl Try.underlying22 (IsV.rd n.1), o1 [(5, some 0), (7, some 2)] rfl fun _ _ h n => ok_lss rfl n.1 n.2.1, cm 3 rfl rfl, mT rfl rfl i0, gT [(10, some 5)] rfl rfl fun hp _ _ h n => ok_call rfl Try.call18 (rRight_ok (Gd.get n.1 hp) (hx2 hp)), o1 [(9, some 4), (11, some 6)] rfl fun _ _ h n => ok_pickM rfl n.1 hx1 (Gd.get n.2.1) (cB rfl), trivial⟩ W2 fun b q p => ?_
   exact tail_done (k := q) (w1 _ _ ⟨Bs.post ⟨hg, hs, hd⟩ p, p.ke 0 rfl i0, p.ke 3 rfl i3, p.ke 4 rfl i4, p.ou 7 12 rfl, trivial⟩)
  rintro a k ⟨⟨hg, hs, hd⟩, i0, i3, i4, i12, _⟩
  refine wp_cond_split (isBool i12) (fun hc133 => ?_) (fun hc133 => ?_)
  ·rw [if_pos hc133] at hr
   refine wp_skip ?_
   refine wp_seq ?_
   refine wp_block ?_
   obtain ⟨x3, hx3, hr⟩ := bind_some hr
   obtain ⟨x4, hx4, hr⟩ := bind_some hr
   refine cut (fun a' k' => Bs noF k0 23 a' k' ∧ (IsV l_) (a'.get 0) k' ∧ (IsV x4) (a'.get 3) k' ∧ (IsV s1.2) (a'.get 4) k' ∧ True) ?_ hQ ?_
   ·intro Q3 W3 w2
    refine gS 8 (_ :: _ :: _ :: _ :: _ :: _ :: _ :: _ :: []) hs (by kernel_rfl) ⟨mu rfl i3, mu rfl i0, mu rfl i4, o1 [(16, some 1), (17, some 2)] rfl fun _ _ h n => ok_indexAddr rfl Try.underlying22 ty35 (IsV.rd n.1) n.2.1 hx3, o1 [(18, some 3)] rfl fun _ _ h n => ok_fieldAddr rfl fo35_1 (at_Account_1 _) n.1, o1 [(19, some 4)] rfl fun _ _ h n => ok_load rfl ty3 n.1, o1 [(15, some 0), (20, some 5)] rfl fun _ _ h n => ok_add rfl n.1 n.2.1 hx4, cp 6 rfl rfl, trivial⟩ W3 fun b q p => ?_
    exact tail_done (k := q) (w2 _ _ ⟨Bs.post ⟨hg, hs, hd⟩ p, p.ke 0 rfl i0, p.ou 7 3 rfl, p.ke 4 rfl i4, trivial⟩)
   rintro a k ⟨⟨hg, hs, hd⟩, i0, i3, i4, _⟩
   obtain ⟨x5, hx5, hr⟩ := bind_some hr
   refine cut (fun a' k' => Bs noF k0 23 a' k' ∧ (IsV l_) (a'.get 0) k' ∧ (IsV x4) (a'.get 3) k' ∧ (IsV x5) (a'.get 4) k' ∧ True) ?_ hQ ?_
   ·intro Q4 W4 w3
    refine gS 3 (_ :: _ :: _ :: []) hs (by kernel_rfl) ⟨mu rfl i4, o1 [(13, some 0)] rfl fun _ _ h n => ok_add rfl n.1 (cI rfl) hx5, cp 1 rfl rfl, trivial⟩ W4 fun b q p => ?_
    exact tail_done (k := q) (w3 _ _ ⟨Bs.post ⟨hg, hs, hd⟩ p, p.ke 0 rfl i0, p.ke 3 rfl i3, p.ou 2 4 rfl, trivial⟩)
   rintro a k ⟨⟨hg, hs, hd⟩, i0, i3, i4, _⟩
   exact hgo123 _ _ _ (Option.some.inj hr).symm ⟨⟨hg, hs, hd⟩, i0, i3, i4, trivial⟩
  rw [if_neg (by rw [hc133]; decide)] at hr
  refine wp_exit ?_
  exact hex124 _ _ _ _ (Option.some.inj hr).symm ⟨rfl, ⟨hg, hs, hd⟩, i3, trivial⟩
 ·rintro r1 a k rfl hR
  dsimp only at hr
  obtain rfl := Option.some.inj hr
  exact hR
 ·rintro _ _ _ rfl _
  simp at hr
 clear hf1
 rintro _ s2 a k rfl ⟨rfl, ⟨hg, hs, hd⟩, i3, _⟩
 dsimp only at hr
 refine stepL 2 (_ :: _ :: []) rfl ⟨hg, hs, hd⟩ (by kernel_rfl) ⟨mu rfl i3, cp 0 rfl rfl, trivial⟩ [⟨_, _⟩] (fun b q p => ⟨p.ou 1 2 rfl, trivial⟩) ?_
 rintro a k ⟨⟨hg, hs, hd⟩, i2, _⟩
 refine wp_ret ?_
 obtain rfl := Option.some.inj hr
 exact retC1 rfl hd hg i2
def rValid (m_ : Move) : Option (Bool) :=
 if (m_.Kind == 0) then
  some (((((decide (1 ≤ m_.To)) && (decide (m_.To ≤ 1073741824))) && ((m_.From == 0) || (m_.From == 1))) && (decide (0 ≤ m_.N))) && (decide (m_.N ≤ 1073741824)))
 else
  if (m_.Kind == 1) then
   some (((m_.From != m_.To) && (decide (1 ≤ m_.N))) && (decide (m_.N ≤ 1073741824)))
  else
   (if (m_.Kind == 2) then
    some (m_.Kind == 2)
   else
    some (m_.Kind == 3)).bind fun s1 =>
   if s1 then
    some (((m_.To == 0) && (decide (1 ≤ m_.N))) && (decide (m_.N ≤ 1073741824)))
   else
    some false
theorem rValid_ok {k0 : K} {v0 : Value} {m_ : Move} {r : Bool} (i0 : (IsV m_) v0 k0) (hr : rValid m_ = some r) :
  Calls Try.prog 33 #[v0] k0.w (Ret k0 (IsV r)) := by
 unfold rValid at hr
 refine Ret.ofC ?_
 refine enterK Try.func33 rfl Try.ntmps33 (show 1 ≤ 68 by decide) fun a k hk0 hs hd ha => ?_
 obtain ⟨e0, _⟩ := ha
 replace i0 : (IsV m_) (a.get 0) k := by rw [e0, hk0]; exact i0
 have hQ : Gb.LetsOut (bodyPost Try.prog Try.f33 (RetC noF k0 (IsV r))) := letsOutC
 have hg : Chg noF k0 k := by rw [hk0]; exact Chg.refl _ k0
 refine stepL 2 (⟨some (IsRef m_), [(0, none)]⟩ :: ⟨some (IsV false), []⟩ :: []) rfl ⟨hg, hs, hd⟩ (by kernel_rfl) ⟨ob1 rfl fun _ _ h n => ok_boxR rfl (up i0 h n.1), ob1 rfl fun _ _ h n => ok_assign rfl (isV_bool.2 rfl), trivial⟩ [⟨_, _⟩] (fun b q p => ⟨p.ou 0 1 rfl, trivial⟩) ?_
 rintro a k ⟨⟨hg, hs, hd⟩, i1, _⟩
 refine wp_seq ?_
 refine stepL 2 (_ :: _ :: []) rfl ⟨hg, hs, hd⟩ (by kernel_rfl) ⟨o1 [(1, none)] rfl fun _ _ h n => ok_fieldAddr rfl fo33_0 (at_Move_0 _) ((up i1 h n.1)).ptr, o1 [(3, some 0)] rfl fun _ _ h n => ok_load rfl ty3 n.1, trivial⟩ [⟨_, _⟩, ⟨_, _⟩] (fun b q p => ⟨p.ke 1 rfl i1, p.ou 1 4 rfl, trivial⟩) ?_
 rintro a k ⟨⟨hg, hs, hd⟩, i1, i4, _⟩
 refine wp_block ?_
 refine stepL 2 (_ :: _ :: []) rfl ⟨hg, hs, hd⟩ (by kernel_rfl) ⟨o1 [(4, none)] rfl fun _ _ h n => ok_eqI rfl (up i4 h n.1) (cI rfl), cp 0 rfl rfl, trivial⟩ [⟨_, _⟩, ⟨_, _⟩, ⟨_, _⟩] (fun b q p => ⟨p.ke 1 rfl i1, p.ke 4 rfl i4, p.ou 1 5 rfl, trivial⟩) ?_
 rintro a k ⟨⟨hg, hs, hd⟩, i1, i4, i5, _⟩
 refine wp_cond_split (isBool i5) (fun hc179 => ?_) (fun hc179 => ?_)
 ·rw [if_pos hc179] at hr
  refine stepL 29 (_ :: _ :: _ :: _ :: _ :: _ :: _ :: _ :: _ :: _ :: _ :: _ :: ⟨some (Gd (((decide (1 ≤ m_.To)) && (decide (m_.To ≤ 1073741824))) = true) (IsV (m_.From == 0))), [(18, some 11)]⟩ :: ⟨some (Gd ((((decide (1 ≤ m_.To)) && (decide (m_.To ≤ 1073741824))) = true) ∧ (m_.From == 0) = false) (IsPtr m_.From)), [(1, none)]⟩ :: ⟨some (Gd ((((decide (1 ≤ m_.To)) && (decide (m_.To ≤ 1073741824))) = true) ∧ (m_.From == 0) = false) (IsV m_.From)), [(20, some 13)]⟩ :: ⟨some (Gd ((((decide (1 ≤ m_.To)) && (decide (m_.To ≤ 1073741824))) = true) ∧ (m_.From == 0) = false) (IsV (m_.From == 1))), [(21, some 14)]⟩ :: _ :: _ :: _ :: _ :: _ :: _ :: _ :: _ :: _ :: _ :: _ :: _ :: _ :: []) rfl ⟨hg, hs, hd⟩ (by kernel_rfl) ⟨o1 [(1, none)] rfl fun _ _ h n => ok_fieldAddr rfl fo33_2 (at_Move_2 _) ((up i1 h n.1)).ptr, o1 [(7, some 0)] rfl fun _ _ h n => ok_load rfl ty3 n.1, o1 [(8, some 1)] rfl fun _ _ h n => ok_geq rfl n.1 (cI rfl), cm 2 rfl rfl, gT [(1, none)] rfl rfl fun hp _ _ h n => ok_fieldAddr rfl fo33_2 (at_Move_2 _) ((up i1 h n.1)).ptr, gT [(11, some 4)] rfl rfl fun hp _ _ h n => ok_load rfl ty3 (Gd.get n.1 hp), gT [(12, some 5)] rfl rfl fun hp _ _ h n => ok_leq rfl (Gd.get n.1 hp) (cI rfl), o1 [(10, some 3), (13, some 6)] rfl fun _ _ h n => ok_pickAnd rfl n.1 (Gd.get n.2.1) (cB rfl), cm 7 rfl rfl, gT [(1, none)] rfl rfl fun hp _ _ h n => ok_fieldAddr rfl fo33_1 (at_Move_1 _) ((up i1 h n.1)).ptr, gT [(16, some 9)] rfl rfl fun hp _ _ h n => ok_load rfl ty3 (Gd.get n.1 hp), gT [(17, some 10)] rfl rfl fun hp _ _ h n => ok_eqI rfl (Gd.get n.1 hp) (cI rfl), gdT rfl rfl fun hp _ _ h n => ok_move rfl (Gd.get n.1 hp), gdTF rfl rfl fun hp b q h n => ok_fieldAddr rfl fo33_1 (at_Move_1 _) ((up i1 h n.1)).ptr, gdTF rfl rfl fun hp b q h n => ok_load rfl ty3 (Gd.get n.1 hp), gdTF rfl rfl fun hp b q h n => ok_eqI rfl (Gd.get n.1 hp) (cI rfl), gT [(19, some 12), (22, some 15)] rfl rfl fun hp _ _ h n => ok_pickOr rfl (Gd.get n.1 hp) (cB rfl) (fun hm => (Gd.get n.2.1 ⟨hp, hm⟩)), o1 [(15, some 8), (23, some 16)] rfl fun _ _ h n => ok_pickAnd rfl n.1 (Gd.get n.2.1) (cB rfl), cm 17 rfl rfl, gT [(1, none)] rfl rfl fun hp _ _ h n => ok_fieldAddr rfl fo33_3 (at_Move_3 _) ((up i1 h n.1)).ptr, gT [(26, some 19)] rfl rfl fun hp _ _ h n => ok_load rfl ty3 (Gd.get n.1 hp), gT [(27, some 20)] rfl rfl fun hp _ _ h n => ok_geq rfl (Gd.get n.1 hp) (cI rfl), o1 [(25, some 18), (28, some 21)] rfl fun _ _ h n => ok_pickAnd rfl n.1 (Gd.get n.2.1) (cB rfl), cm 22 rfl rfl, gT [(1, none)] rfl rfl fun hp _ _ h n => ok_fieldAddr rfl fo33_3 (at_Move_3 _) ((up i1 h n.1)).ptr, gT [(31, some 24)] rfl rfl fun hp _ _ h n => ok_load rfl ty3 (Gd.get n.1 hp), gT [(32, some 25)] rfl rfl fun hp _ _ h n => ok_leq rfl (Gd.get n.1 hp) (cI rfl), o1 [(30, some 23), (33, some 26)] rfl fun _ _ h n => ok_pickAnd rfl n.1 (Gd.get n.2.1) (cB rfl), cp 27 rfl rfl, trivial⟩ [⟨_, _⟩] (fun b q p => ⟨p.ou 28 2 rfl, trivial⟩) ?_
  rintro a k ⟨⟨hg, hs, hd⟩, i2, _⟩
  refine wp_ret ?_
  obtain rfl := Option.some.inj hr
  exact retC1 rfl hd hg i2
 rw [if_neg (by rw [hc179]; decide)] at hr
 refine stepL 2 (_ :: _ :: []) rfl ⟨hg, hs, hd⟩ (by kernel_rfl) ⟨o1 [(4, none)] rfl fun _ _ h n => ok_eqI rfl (up i4 h n.1) (cI rfl), cp 0 rfl rfl, trivial⟩ [⟨_, _⟩, ⟨_, _⟩, ⟨_, _⟩] (fun b q p => ⟨p.ke 1 rfl i1, p.ke 4 rfl i4, p.ou 1 35 rfl, trivial⟩) ?_
 rintro a k ⟨⟨hg, hs, hd⟩, i1, i4, i35, _⟩
 refine wp_cond_split (isBool i35) (fun hc176 => ?_) (fun hc176 => ?_)
 ·rw [if_pos hc176] at hr
  refine stepL 16 (_ :: _ :: _ :: _ :: ⟨some (IsV (m_.From != m_.To)), [(38, some 1), (40, some 3)]⟩ :: _ :: _ :: _ :: _ :: _ :: _ :: _ :: _ :: _ :: _ :: _ :: []) rfl ⟨hg, hs, hd⟩ (by kernel_rfl) ⟨o1 [(1, none)] rfl fun _ _ h n => ok_fieldAddr rfl fo33_1 (at_Move_1 _) ((up i1 h n.1)).ptr, o1 [(37, some 0)] rfl fun _ _ h n => ok_load rfl ty3 n.1, o1 [(1, none)] rfl fun _ _ h n => ok_fieldAddr rfl fo33_2 (at_Move_2 _) ((up i1 h n.1)).ptr, o1 [(39, some 2)] rfl fun _ _ h n => ok_load rfl ty3 n.1, ob1 rfl fun _ _ h n => ok_neI rfl n.1 n.2.1, cm 4 rfl rfl, gT [(1, none)] rfl rfl fun hp _ _ h n => ok_fieldAddr rfl fo33_3 (at_Move_3 _) ((up i1 h n.1)).ptr, gT [(43, some 6)] rfl rfl fun hp _ _ h n => ok_load rfl ty3 (Gd.get n.1 hp), gT [(44, some 7)] rfl rfl fun hp _ _ h n => ok_geq rfl (Gd.get n.1 hp) (cI rfl), o1 [(42, some 5), (45, some 8)] rfl fun _ _ h n => ok_pickAnd rfl n.1 (Gd.get n.2.1) (cB rfl), cm 9 rfl rfl, gT [(1, none)] rfl rfl fun hp _ _ h n => ok_fieldAddr rfl fo33_3 (at_Move_3 _) ((up i1 h n.1)).ptr, gT [(48, some 11)] rfl rfl fun hp _ _ h n => ok_load rfl ty3 (Gd.get n.1 hp), gT [(49, some 12)] rfl rfl fun hp _ _ h n => ok_leq rfl (Gd.get n.1 hp) (cI rfl), o1 [(47, some 10), (50, some 13)] rfl fun _ _ h n => ok_pickAnd rfl n.1 (Gd.get n.2.1) (cB rfl), cp 14 rfl rfl, trivial⟩ [⟨_, _⟩] (fun b q p => ⟨p.ou 15 2 rfl, trivial⟩) ?_
  rintro a k ⟨⟨hg, hs, hd⟩, i2, _⟩
  refine wp_ret ?_
  obtain rfl := Option.some.inj hr
  exact retC1 rfl hd hg i2
 rw [if_neg (by rw [hc176]; decide)] at hr
 refine wp_seq ?_
 refine stepL 2 (_ :: _ :: []) rfl ⟨hg, hs, hd⟩ (by kernel_rfl) ⟨o1 [(4, none)] rfl fun _ _ h n => ok_eqI rfl (up i4 h n.1) (cI rfl), cp 0 rfl rfl, trivial⟩ [⟨_, _⟩, ⟨_, _⟩, ⟨_, _⟩] (fun b q p => ⟨p.ke 1 rfl i1, p.ke 4 rfl i4, p.ou 1 52 rfl, trivial⟩) ?_
 rintro a k ⟨⟨hg, hs, hd⟩, i1, i4, i52, _⟩
 obtain ⟨s1, hs1, hr⟩ := bind_some hr
 refine cut (fun a' k' => Bs noF k0 68 a' k' ∧ (IsRef m_) (a'.get 1) k' ∧ (IsV s1) (a'.get 52) k' ∧ True) ?_ hQ ?_
 ·intro Q1 W1 w1
  replace hr := hs1
  clear hQ
  have hQ := W1
  refine wp_cond_split (isBool i52) (fun hc165 => ?_) (fun hc165 => ?_)
  ·rw [if_pos hc165] at hr
   refine wp_skip ?_
   obtain rfl := Option.some.inj hr
   exact w1 _ _ ⟨⟨hg, hs, hd⟩, i1, i52, trivial⟩
  rw [if_neg (by rw [hc165]; decide)] at hr
  refine cut (fun a' k' => Bs noF k0 68 a' k' ∧ (IsRef m_) (a'.get 1) k' ∧ (IsV (m_.Kind == 3)) (a'.get 52) k' ∧ True) ?_ hQ ?_
  ·intro Q2 W2 w2
   refine gS 2 (_ :: _ :: []) hs (by kernel_rfl) ⟨o1 [(4, none)] rfl fun _ _ h n => ok_eqI rfl (up i4 h n.1) (cI rfl), cp 0 rfl rfl, trivial⟩ W2 fun b q p => ?_
   exact tail_done (k := q) (w2 _ _ ⟨Bs.post ⟨hg, hs, hd⟩ p, p.ke 1 rfl i1, p.ou 1 52 rfl, trivial⟩)
  rintro a k ⟨⟨hg, hs, hd⟩, i1, i52, _⟩
  obtain rfl := Option.some.inj hr
  exact w1 _ _ ⟨⟨hg, hs, hd⟩, i1, i52, trivial⟩
 clear hs1
 rintro a k ⟨⟨hg, hs, hd⟩, i1, i52, _⟩
 refine wp_cond_split (isBool i52) (fun hc172 => ?_) (fun hc172 => ?_)
 ·rw [if_pos hc172] at hr
  refine stepL 14 (_ :: _ :: _ :: _ :: _ :: _ :: _ :: _ :: _ :: _ :: _ :: _ :: _ :: _ :: []) rfl ⟨hg, hs, hd⟩ (by kernel_rfl) ⟨o1 [(1, none)] rfl fun _ _ h n => ok_fieldAddr rfl fo33_2 (at_Move_2 _) ((up i1 h n.1)).ptr, o1 [(55, some 0)] rfl fun _ _ h n => ok_load rfl ty3 n.1, o1 [(56, some 1)] rfl fun _ _ h n => ok_eqI rfl n.1 (cI rfl), cm 2 rfl rfl, gT [(1, none)] rfl rfl fun hp _ _ h n => ok_fieldAddr rfl fo33_3 (at_Move_3 _) ((up i1 h n.1)).ptr, gT [(59, some 4)] rfl rfl fun hp _ _ h n => ok_load rfl ty3 (Gd.get n.1 hp), gT [(60, some 5)] rfl rfl fun hp _ _ h n => ok_geq rfl (Gd.get n.1 hp) (cI rfl), o1 [(58, some 3), (61, some 6)] rfl fun _ _ h n => ok_pickAnd rfl n.1 (Gd.get n.2.1) (cB rfl), cm 7 rfl rfl, gT [(1, none)] rfl rfl fun hp _ _ h n => ok_fieldAddr rfl fo33_3 (at_Move_3 _) ((up i1 h n.1)).ptr, gT [(64, some 9)] rfl rfl fun hp _ _ h n => ok_load rfl ty3 (Gd.get n.1 hp), gT [(65, some 10)] rfl rfl fun hp _ _ h n => ok_leq rfl (Gd.get n.1 hp) (cI rfl), o1 [(63, some 8), (66, some 11)] rfl fun _ _ h n => ok_pickAnd rfl n.1 (Gd.get n.2.1) (cB rfl), cp 12 rfl rfl, trivial⟩ [⟨_, _⟩] (fun b q p => ⟨p.ou 13 2 rfl, trivial⟩) ?_
  rintro a k ⟨⟨hg, hs, hd⟩, i2, _⟩
  refine wp_ret ?_
  obtain rfl := Option.some.inj hr
  exact retC1 rfl hd hg i2
 rw [if_neg (by rw [hc172]; decide)] at hr
 refine wp_skip ?_
 refine stepL 1 (⟨some (IsV false), []⟩ :: []) rfl ⟨hg, hs, hd⟩ (by kernel_rfl) ⟨ob1 rfl fun _ _ h n => ok_assign rfl (isV_bool.2 rfl), trivial⟩ [⟨_, _⟩] (fun b q p => ⟨p.ou 0 2 rfl, trivial⟩) ?_
 rintro a k ⟨⟨hg, hs, hd⟩, i2, _⟩
 refine wp_ret ?_
 obtain rfl := Option.some.inj hr
 exact retC1 rfl hd hg i2
def cValid (m_ : Move) : Option (Bool) :=
 if (m_.Kind == 0) then
  (within m_.To 1 1073741824).bind fun x1 =>
  (if x1 then
   (within m_.From 0 1).bind fun x2 =>
   some x2
  else
   some false).bind fun x3 =>
  (if x3 then
   (within m_.N 0 1073741824).bind fun x4 =>
   some x4
  else
   some false).bind fun x5 =>
  some x5
 else
  if (m_.Kind == 1) then
   (if (m_.From != m_.To) then
    (within m_.N 1 1073741824).bind fun x6 =>
    some x6
   else
    some false).bind fun x7 =>
   some x7
  else
   (if (m_.Kind == 2) then
    some (m_.Kind == 2)
   else
    some (m_.Kind == 3)).bind fun s1 =>
   if s1 then
    (if (m_.To == 0) then
     (within m_.N 1 1073741824).bind fun x8 =>
     some x8
    else
     some false).bind fun x9 =>
    some x9
   else
    some false
theorem cValid_ok {k0 : K} {v0 : Value} {m_ : Move} {r : Bool} (i0 : (IsV m_) v0 k0) (hr : cValid m_ = some r) :
  Calls Try.prog 28 #[v0] k0.w (Ret k0 (IsV r)) := by
 unfold cValid at hr
 refine Ret.ofC ?_
 refine enterK Try.func28 rfl Try.ntmps28 (show 1 ≤ 43 by decide) fun a k hk0 hs hd ha => ?_
 obtain ⟨e0, _⟩ := ha
 replace i0 : (IsV m_) (a.get 0) k := by rw [e0, hk0]; exact i0
 have hQ : Gb.LetsOut (bodyPost Try.prog Try.f28 (RetC noF k0 (IsV r))) := letsOutC
 have hg : Chg noF k0 k := by rw [hk0]; exact Chg.refl _ k0
 refine stepL 2 (⟨some (IsRef m_), [(0, none)]⟩ :: ⟨some (IsV false), []⟩ :: []) rfl ⟨hg, hs, hd⟩ (by kernel_rfl) ⟨ob1 rfl fun _ _ h n => ok_boxR rfl (up i0 h n.1), ob1 rfl fun _ _ h n => ok_assign rfl (isV_bool.2 rfl), trivial⟩ [⟨_, _⟩] (fun b q p => ⟨p.ou 0 1 rfl, trivial⟩) ?_
 rintro a k ⟨⟨hg, hs, hd⟩, i1, _⟩
 refine wp_seq ?_
 refine stepL 2 (_ :: _ :: []) rfl ⟨hg, hs, hd⟩ (by kernel_rfl) ⟨o1 [(1, none)] rfl fun _ _ h n => ok_fieldAddr rfl fo33_0 (at_Move_0 _) ((up i1 h n.1)).ptr, o1 [(3, some 0)] rfl fun _ _ h n => ok_load rfl ty3 n.1, trivial⟩ [⟨_, _⟩, ⟨_, _⟩] (fun b q p => ⟨p.ke 1 rfl i1, p.ou 1 4 rfl, trivial⟩) ?_
 rintro a k ⟨⟨hg, hs, hd⟩, i1, i4, _⟩
 refine wp_block ?_
 refine stepL 2 (_ :: _ :: []) rfl ⟨hg, hs, hd⟩ (by kernel_rfl) ⟨o1 [(4, none)] rfl fun _ _ h n => ok_eqI rfl (up i4 h n.1) (cI rfl), cp 0 rfl rfl, trivial⟩ [⟨_, _⟩, ⟨_, _⟩, ⟨_, _⟩] (fun b q p => ⟨p.ke 1 rfl i1, p.ke 4 rfl i4, p.ou 1 5 rfl, trivial⟩) ?_
 rintro a k ⟨⟨hg, hs, hd⟩, i1, i4, i5, _⟩
 refine wp_cond_split (isBool i5) (fun hc216 => ?_) (fun hc216 => ?_)
 ·rw [if_pos hc216] at hr
  refine wp_seq ?_
  obtain ⟨x1, hx1, hr⟩ := bind_some hr
  obtain ⟨x2, hx2, hr⟩ := bind_some hr
  obtain ⟨x3, hx3, hx2⟩ := ite_bind hx2
  obtain ⟨x4, hx4, hr⟩ := bind_some hr
  obtain ⟨x5, hx5, hx4⟩ := ite_bind hx4
  refine cut (fun a' k' => Bs noF k0 43 a' k' ∧ (IsV x4) (a'.get 2) k' ∧ True) ?_ hQ ?_
  ·intro Q1 W1 w1
   refine gS 14 (_ :: _ :: _ :: _ :: _ :: _ :: _ :: _ :: _ :: _ :: _ :: _ :: _ :: _ :: []) hs (by kernel_rfl) ⟨o1 [(1, none)] rfl fun _ _ h n => ok_fieldAddr rfl fo33_2 (at_Move_2 _) ((up i1 h n.1)).ptr, o1 [(7, some 0)] rfl fun _ _ h n => ok_load rfl ty3 n.1, o1 [(8, some 1)] rfl fun _ _ h n => ok_call rfl Try.call31 (within_ok n.1 (cI rfl) (cI rfl) hx1), cm 2 rfl rfl, gT [(1, none)] rfl rfl fun hp _ _ h n => ok_fieldAddr rfl fo33_1 (at_Move_1 _) ((up i1 h n.1)).ptr, gT [(11, some 4)] rfl rfl fun hp _ _ h n => ok_load rfl ty3 (Gd.get n.1 hp), gT [(12, some 5)] rfl rfl fun hp _ _ h n => ok_call rfl Try.call31 (within_ok (Gd.get n.1 hp) (cI rfl) (cI rfl) (hx3 hp)), o1 [(10, some 3), (13, some 6)] rfl fun _ _ h n => ok_pickM rfl n.1 hx2 (Gd.get n.2.1) (cB rfl), cm 7 rfl rfl, gT [(1, none)] rfl rfl fun hp _ _ h n => ok_fieldAddr rfl fo33_3 (at_Move_3 _) ((up i1 h n.1)).ptr, gT [(16, some 9)] rfl rfl fun hp _ _ h n => ok_load rfl ty3 (Gd.get n.1 hp), gT [(17, some 10)] rfl rfl fun hp _ _ h n => ok_call rfl Try.call31 (within_ok (Gd.get n.1 hp) (cI rfl) (cI rfl) (hx5 hp)), o1 [(15, some 8), (18, some 11)] rfl fun _ _ h n => ok_pickM rfl n.1 hx4 (Gd.get n.2.1) (cB rfl), cp 12 rfl rfl, trivial⟩ W1 fun b q p => ?_
   exact tail_done (k := q) (w1 _ _ ⟨Bs.post ⟨hg, hs, hd⟩ p, p.ou 13 2 rfl, trivial⟩)
  rintro a k ⟨⟨hg, hs, hd⟩, i2, _⟩
  refine wp_ret ?_
  obtain rfl := Option.some.inj hr
  exact retC1 rfl hd hg i2
 rw [if_neg (by rw [hc216]; decide)] at hr
 refine stepL 2 (_ :: _ :: []) rfl ⟨hg, hs, hd⟩ (by kernel_rfl) ⟨o1 [(4, none)] rfl fun _ _ h n => ok_eqI rfl (up i4 h n.1) (cI rfl), cp 0 rfl rfl, trivial⟩ [⟨_, _⟩, ⟨_, _⟩, ⟨_, _⟩] (fun b q p => ⟨p.ke 1 rfl i1, p.ke 4 rfl i4, p.ou 1 20 rfl, trivial⟩) ?_
 rintro a k ⟨⟨hg, hs, hd⟩, i1, i4, i20, _⟩
 refine wp_cond_split (isBool i20) (fun hc213 => ?_) (fun hc213 => ?_)
 ·rw [if_pos hc213] at hr
  refine wp_seq ?_
  obtain ⟨x6, hx6, hr⟩ := bind_some hr
  obtain ⟨x7, hx7, hx6⟩ := ite_bind hx6
  refine cut (fun a' k' => Bs noF k0 43 a' k' ∧ (IsV x6) (a'.get 2) k' ∧ True) ?_ hQ ?_
  ·intro Q2 W2 w2
   refine gS 11 (_ :: _ :: _ :: _ :: ⟨some (IsV (m_.From != m_.To)), [(23, some 1), (25, some 3)]⟩ :: _ :: _ :: _ :: _ :: _ :: _ :: []) hs (by kernel_rfl) ⟨o1 [(1, none)] rfl fun _ _ h n => ok_fieldAddr rfl fo33_1 (at_Move_1 _) ((up i1 h n.1)).ptr, o1 [(22, some 0)] rfl fun _ _ h n => ok_load rfl ty3 n.1, o1 [(1, none)] rfl fun _ _ h n => ok_fieldAddr rfl fo33_2 (at_Move_2 _) ((up i1 h n.1)).ptr, o1 [(24, some 2)] rfl fun _ _ h n => ok_load rfl ty3 n.1, ob1 rfl fun _ _ h n => ok_neI rfl n.1 n.2.1, cm 4 rfl rfl, gT [(1, none)] rfl rfl fun hp _ _ h n => ok_fieldAddr rfl fo33_3 (at_Move_3 _) ((up i1 h n.1)).ptr, gT [(28, some 6)] rfl rfl fun hp _ _ h n => ok_load rfl ty3 (Gd.get n.1 hp), gT [(29, some 7)] rfl rfl fun hp _ _ h n => ok_call rfl Try.call31 (within_ok (Gd.get n.1 hp) (cI rfl) (cI rfl) (hx7 hp)), o1 [(27, some 5), (30, some 8)] rfl fun _ _ h n => ok_pickM rfl n.1 hx6 (Gd.get n.2.1) (cB rfl), cp 9 rfl rfl, trivial⟩ W2 fun b q p => ?_
   exact tail_done (k := q) (w2 _ _ ⟨Bs.post ⟨hg, hs, hd⟩ p, p.ou 10 2 rfl, trivial⟩)
  rintro a k ⟨⟨hg, hs, hd⟩, i2, _⟩
  refine wp_ret ?_
  obtain rfl := Option.some.inj hr
  exact retC1 rfl hd hg i2
 rw [if_neg (by rw [hc213]; decide)] at hr
 refine wp_seq ?_
 refine stepL 2 (_ :: _ :: []) rfl ⟨hg, hs, hd⟩ (by kernel_rfl) ⟨o1 [(4, none)] rfl fun _ _ h n => ok_eqI rfl (up i4 h n.1) (cI rfl), cp 0 rfl rfl, trivial⟩ [⟨_, _⟩, ⟨_, _⟩, ⟨_, _⟩] (fun b q p => ⟨p.ke 1 rfl i1, p.ke 4 rfl i4, p.ou 1 32 rfl, trivial⟩) ?_
 rintro a k ⟨⟨hg, hs, hd⟩, i1, i4, i32, _⟩
 obtain ⟨s1, hs1, hr⟩ := bind_some hr
 refine cut (fun a' k' => Bs noF k0 43 a' k' ∧ (IsRef m_) (a'.get 1) k' ∧ (IsV s1) (a'.get 32) k' ∧ True) ?_ hQ ?_
 ·intro Q3 W3 w3
  replace hr := hs1
  clear hQ
  have hQ := W3
  refine wp_cond_split (isBool i32) (fun hc202 => ?_) (fun hc202 => ?_)
  ·rw [if_pos hc202] at hr
   refine wp_skip ?_
   obtain rfl := Option.some.inj hr
   exact w3 _ _ ⟨⟨hg, hs, hd⟩, i1, i32, trivial⟩
  rw [if_neg (by rw [hc202]; decide)] at hr
  refine cut (fun a' k' => Bs noF k0 43 a' k' ∧ (IsRef m_) (a'.get 1) k' ∧ (IsV (m_.Kind == 3)) (a'.get 32) k' ∧ True) ?_ hQ ?_
  ·intro Q4 W4 w4
   refine gS 2 (_ :: _ :: []) hs (by kernel_rfl) ⟨o1 [(4, none)] rfl fun _ _ h n => ok_eqI rfl (up i4 h n.1) (cI rfl), cp 0 rfl rfl, trivial⟩ W4 fun b q p => ?_
   exact tail_done (k := q) (w4 _ _ ⟨Bs.post ⟨hg, hs, hd⟩ p, p.ke 1 rfl i1, p.ou 1 32 rfl, trivial⟩)
  rintro a k ⟨⟨hg, hs, hd⟩, i1, i32, _⟩
  obtain rfl := Option.some.inj hr
  exact w3 _ _ ⟨⟨hg, hs, hd⟩, i1, i32, trivial⟩
 clear hs1
 rintro a k ⟨⟨hg, hs, hd⟩, i1, i32, _⟩
 refine wp_cond_split (isBool i32) (fun hc209 => ?_) (fun hc209 => ?_)
 ·rw [if_pos hc209] at hr
  refine wp_seq ?_
  obtain ⟨x8, hx8, hr⟩ := bind_some hr
  obtain ⟨x9, hx9, hx8⟩ := ite_bind hx8
  refine cut (fun a' k' => Bs noF k0 43 a' k' ∧ (IsV x8) (a'.get 2) k' ∧ True) ?_ hQ ?_
  ·intro Q5 W5 w5
   refine gS 9 (_ :: _ :: _ :: _ :: _ :: _ :: _ :: _ :: _ :: []) hs (by kernel_rfl) ⟨o1 [(1, none)] rfl fun _ _ h n => ok_fieldAddr rfl fo33_2 (at_Move_2 _) ((up i1 h n.1)).ptr, o1 [(35, some 0)] rfl fun _ _ h n => ok_load rfl ty3 n.1, o1 [(36, some 1)] rfl fun _ _ h n => ok_eqI rfl n.1 (cI rfl), cm 2 rfl rfl, gT [(1, none)] rfl rfl fun hp _ _ h n => ok_fieldAddr rfl fo33_3 (at_Move_3 _) ((up i1 h n.1)).ptr, gT [(39, some 4)] rfl rfl fun hp _ _ h n => ok_load rfl ty3 (Gd.get n.1 hp), gT [(40, some 5)] rfl rfl fun hp _ _ h n => ok_call rfl Try.call31 (within_ok (Gd.get n.1 hp) (cI rfl) (cI rfl) (hx9 hp)), o1 [(38, some 3), (41, some 6)] rfl fun _ _ h n => ok_pickM rfl n.1 hx8 (Gd.get n.2.1) (cB rfl), cp 7 rfl rfl, trivial⟩ W5 fun b q p => ?_
   exact tail_done (k := q) (w5 _ _ ⟨Bs.post ⟨hg, hs, hd⟩ p, p.ou 8 2 rfl, trivial⟩)
  rintro a k ⟨⟨hg, hs, hd⟩, i2, _⟩
  refine wp_ret ?_
  obtain rfl := Option.some.inj hr
  exact retC1 rfl hd hg i2
 rw [if_neg (by rw [hc209]; decide)] at hr
 refine wp_skip ?_
 refine stepL 1 (⟨some (IsV false), []⟩ :: []) rfl ⟨hg, hs, hd⟩ (by kernel_rfl) ⟨ob1 rfl fun _ _ h n => ok_assign rfl (isV_bool.2 rfl), trivial⟩ [⟨_, _⟩] (fun b q p => ⟨p.ou 0 2 rfl, trivial⟩) ?_
 rintro a k ⟨⟨hg, hs, hd⟩, i2, _⟩
 refine wp_ret ?_
 obtain rfl := Option.some.inj hr
 exact retC1 rfl hd hg i2
def cTotal_L0 (l_ : (List Account)) (s1 : Int × Int) : Option (Flow (Int × Int) (Int)) :=
 if (decide (s1.2 < (l_.length : Int))) then
  (getI l_ s1.2).bind fun x1 =>
  (addI s1.1 x1.Units).bind fun x2 =>
  (addI s1.2 1).bind fun x3 =>
  some (.go (x2, x3))
 else
  some (.ex 0 (s1.1, s1.2))
def cTotal (l_ : (List Account)) : Option (Int) :=
 (cRight l_).bind fun x1 =>
 if (!x1) then
  some 0
 else
  (iterL (cTotal_L0 l_) (l_.length + 1) (0, 0)).bind fun f1 => match f1 with
   | .go _ => none
   | .ex _ s1 =>
    some s1.1
   | .ret r1 => some r1
theorem cTotal_ok {k0 : K} {v0 : Value} {l_ : (List Account)} {r : Int} (i0 : (IsV l_) v0 k0) (hr : cTotal l_ = some r) :
  Calls Try.prog 21 #[v0] k0.w (Ret k0 (IsV r)) := by
 unfold cTotal at hr
 refine Ret.ofC ?_
 refine enterK Try.func21 rfl Try.ntmps21 (show 1 ≤ 21 by decide) fun a k hk0 hs hd ha => ?_
 obtain ⟨e0, _⟩ := ha
 replace i0 : (IsV l_) (a.get 0) k := by rw [e0, hk0]; exact i0
 have hQ : Gb.LetsOut (bodyPost Try.prog Try.f21 (RetC noF k0 (IsV r))) := letsOutC
 have hg : Chg noF k0 k := by rw [hk0]; exact Chg.refl _ k0
 refine stepL 1 (⟨some (IsI 0), []⟩ :: []) rfl ⟨hg, hs, hd⟩ (by kernel_rfl) ⟨aI rfl rfl, trivial⟩ [⟨_, _⟩] (fun b q p => ⟨p.ke 0 rfl i0, trivial⟩) ?_
 rintro a k ⟨⟨hg, hs, hd⟩, i0, _⟩
 refine wp_seq ?_
 refine wp_seq ?_
 obtain ⟨x1, hx1, hr⟩ := bind_some hr
 refine cut (fun a' k' => Bs noF k0 21 a' k' ∧ (IsV l_) (a'.get 0) k' ∧ (IsV (!x1)) (a'.get 8) k' ∧ True) ?_ hQ ?_
 ·intro Q1 W1 w1
  refine gS 3 (_ :: _ :: _ :: []) hs (by kernel_rfl) ⟨mu rfl i0, o1 [(6, some 0)] rfl fun _ _ h n => ok_call rfl Try.call17 (cRight_ok n.1 hx1), o1 [(7, some 1)] rfl fun _ _ h n => ok_not rfl n.1, trivial⟩ W1 fun b q p => ?_
  exact tail_done (k := q) (w1 _ _ ⟨Bs.post ⟨hg, hs, hd⟩ p, p.ke 0 rfl i0, p.ou 2 8 rfl, trivial⟩)
 rintro a k ⟨⟨hg, hs, hd⟩, i0, i8, _⟩
 refine wp_cond_split (isBool i8) (fun hc258 => ?_) (fun hc258 => ?_)
 ·rw [if_pos hc258] at hr
  refine stepL 1 (⟨some (IsI 0), []⟩ :: []) rfl ⟨hg, hs, hd⟩ (by kernel_rfl) ⟨aI rfl rfl, trivial⟩ [⟨_, _⟩] (fun b q p => ⟨p.ou 0 2 rfl, trivial⟩) ?_
  rintro a k ⟨⟨hg, hs, hd⟩, i2, _⟩
  refine wp_ret ?_
  obtain rfl := Option.some.inj hr
  exact retC1 rfl hd hg i2
 rw [if_neg (by rw [hc258]; decide)] at hr
 refine wp_skip ?_
 refine stepL 1 (⟨some (IsI 0), []⟩ :: []) rfl ⟨hg, hs, hd⟩ (by kernel_rfl) ⟨aI rfl rfl, trivial⟩ [⟨_, _⟩, ⟨_, _⟩] (fun b q p => ⟨p.ke 0 rfl i0, p.ou 0 3 rfl, trivial⟩) ?_
 rintro a k ⟨⟨hg, hs, hd⟩, i0, i3, _⟩
 refine wp_seq ?_
 refine stepL 3 (_ :: _ :: ⟨some (IsI 0), []⟩ :: []) rfl ⟨hg, hs, hd⟩ (by kernel_rfl) ⟨mu rfl i0, o1 [(9, some 0)] rfl fun _ _ h n => ok_len rfl rfl Try.underlying22 (IsV.rd n.1), ob1 rfl fun _ _ h n => ok_move rfl (cI rfl), trivial⟩ [⟨_, _⟩, ⟨_, _⟩, ⟨_, _⟩, ⟨_, _⟩] (fun b q p => ⟨p.ke 3 rfl i3, p.ou 0 9 rfl, p.ou 1 10 rfl, p.ou 2 11 rfl, trivial⟩) ?_
 rintro a k ⟨⟨hg, hs, hd⟩, i3, i9, i10, i11, _⟩
 refine wp_block ?_
 obtain ⟨f1, hf1, hr⟩ := bind_some hr
 refine cutFe f1 (fun s' c l => Bs noF k0 21 c l ∧ IsV s'.1 (c.get 3) l ∧ IsV l_ (c.get 9) l ∧ IsL l_ (c.get 10) l ∧ IsV s'.2 (c.get 11) l ∧ True) (fun i' s' c l => (i' = 0 ∧ Bs noF k0 21 c l ∧ IsV s'.1 (c.get 3) l ∧ True)) (fun r' c l => bodyPost Try.prog Try.f21 (RetC noF k0 (IsV r')) .ret c l.w) ?_ hQ ?_ ?_ ?_
 ·intro Q2 W2 hgo hex hret
  refine sim_loop ?_ _ _ _ _ _ hf1 ⟨⟨hg, hs, hd⟩, i3, i9, i10, i11, trivial⟩ Q2 W2 hgo hex hret
  clear hr hf1 hgo hex hret W2 hQ hg hs hd i10 i11 i3 i9
  intro s1 fl_ a k hr hS Q hQ hgo231 hex232 hret233
  obtain ⟨⟨hg, hs, hd⟩, i3, i9, i10, i11, _⟩ := hS
  unfold cTotal_L0 at hr
  refine stepL 1 (_ :: []) rfl ⟨hg, hs, hd⟩ (by kernel_rfl) ⟨o1 [(11, none), (10, none)] rfl fun _ _ h n => ok_lss rfl (up i11 h n.1) (up i10 h n.2.1), trivial⟩ [⟨_, _⟩, ⟨_, _⟩, ⟨_, _⟩, ⟨_, _⟩, ⟨_, _⟩] (fun b q p => ⟨p.ke 3 rfl i3, p.ke 9 rfl i9, p.ke 10 rfl i10, p.ke 11 rfl i11, p.ou 0 12 rfl, trivial⟩) ?_
  rintro a k ⟨⟨hg, hs, hd⟩, i3, i9, i10, i11, i12, _⟩
  refine wp_seq ?_
  refine wp_cond_split (isBool i12) (fun hc244 => ?_) (fun hc244 => ?_)
  ·rw [if_pos hc244] at hr
   refine wp_skip ?_
   refine wp_seq ?_
   refine wp_block ?_
   refine wp_seq ?_
   obtain ⟨x2, hx2, hr⟩ := bind_some hr
   refine cut (fun a' k' => Bs noF k0 21 a' k' ∧ (IsV s1.1) (a'.get 3) k' ∧ (IsRef x2) (a'.get 5) k' ∧ (IsV l_) (a'.get 9) k' ∧ (IsL l_) (a'.get 10) k' ∧ (IsV s1.2) (a'.get 11) k' ∧ True) ?_ hQ ?_
   ·intro Q3 W3 w2
    refine gS 3 (_ :: _ :: ⟨some (IsBox k.w.heap.size (⟨0, 0, false⟩ : Account)), []⟩ :: []) hs (by kernel_rfl) ⟨o1 [(9, none), (11, none)] rfl fun _ _ h n => ok_indexAddr rfl Try.underlying22 ty35 (IsV.rd (up i9 h n.1)) (up i11 h n.2.1) hx2, o1 [(13, some 0)] rfl fun _ _ h n => ok_load rfl ty35 n.1, ob1 rfl fun _ _ h n => ok_alloc _ h.size rfl z35, trivial⟩ W3 fun b q p => ?_
    have hgq := hg.then p.grow
    have hsb := p.size.trans hs
    have hdb := p.defers.trans hd
    have j3 := p.ke 3 rfl i3
    obtain ⟨b5, j5, x5, z5⟩ : (IsBox k.w.heap.size (⟨0, 0, false⟩ : Account)) (b.get 5) q := p.ou 2 5 rfl
    replace x5 : Lo k (Eq b5) := Lo.eq x5
    have y5 : Lo k0 (Eq b5) := x5.chg hg
    have j9 := p.ke 9 rfl i9
    have j10 := p.ke 10 rfl i10
    have j11 := p.ke 11 rfl i11
    have j14 : (IsV x2) (b.get 14) q := p.ou 1 14 rfl
    have hns := z5.nshF
    refine tail_storeB (i := 3) rfl rfl rfl rfl szf35 (Upd.self (α := Account)) j5 z5 j14 fun q2 hch hz => ?_
    replace hgq := hgq.step hch y5.wr
    have hle := hch.le hns
    replace j3 := Pers.pers hle j3
    replace j9 := Pers.pers hle j9
    replace j10 := Pers.pers hle j10
    replace j11 := Pers.pers hle j11
    replace j14 := Pers.pers hle j14
    replace z5 := hz
    clear hns hle hch
    obtain ⟨q, hqq⟩ : ∃ q, q = q2 := ⟨q2, rfl⟩
    subst hqq
    obtain ⟨q2, hsh, jn⟩ := z5.give
    replace j3 := Pers.pers hsh.le j3
    replace j9 := Pers.pers hsh.le j9
    replace j10 := Pers.pers hsh.le j10
    replace j11 := Pers.pers hsh.le j11
    rw [← j5] at jn
    replace j5 := jn
    replace hgq := hgq.hand hsh y5.wr
    rw [← hsh.w]
    clear hsh
    obtain ⟨q, hqq⟩ : ∃ q, q = q2 := ⟨q2, rfl⟩
    subst hqq
    exact tail_done (k := q) (w2 _ _ ⟨⟨hgq, hsb, hdb⟩, j3, j5, j9, j10, j11, trivial⟩)
   rintro a k ⟨⟨hg, hs, hd⟩, i3, i5, i9, i10, i11, _⟩
   obtain ⟨x3, hx3, hr⟩ := bind_some hr
   refine cut (fun a' k' => Bs noF k0 21 a' k' ∧ (IsV x3) (a'.get 3) k' ∧ (IsV l_) (a'.get 9) k' ∧ (IsL l_) (a'.get 10) k' ∧ (IsV s1.2) (a'.get 11) k' ∧ True) ?_ hQ ?_
   ·intro Q4 W4 w3
    refine gS 5 (_ :: _ :: _ :: _ :: _ :: []) hs (by kernel_rfl) ⟨mu rfl i3, o1 [(5, none)] rfl fun _ _ h n => ok_fieldAddr rfl fo35_1 (at_Account_1 _) ((up i5 h n.1)).ptr, o1 [(16, some 1)] rfl fun _ _ h n => ok_load rfl ty3 n.1, o1 [(15, some 0), (17, some 2)] rfl fun _ _ h n => ok_add rfl n.1 n.2.1 hx3, cp 3 rfl rfl, trivial⟩ W4 fun b q p => ?_
    exact tail_done (k := q) (w3 _ _ ⟨Bs.post ⟨hg, hs, hd⟩ p, p.ou 4 3 rfl, p.ke 9 rfl i9, p.ke 10 rfl i10, p.ke 11 rfl i11, trivial⟩)
   rintro a k ⟨⟨hg, hs, hd⟩, i3, i9, i10, i11, _⟩
   obtain ⟨x4, hx4, hr⟩ := bind_some hr
   refine cut (fun a' k' => Bs noF k0 21 a' k' ∧ (IsV x3) (a'.get 3) k' ∧ (IsV l_) (a'.get 9) k' ∧ (IsL l_) (a'.get 10) k' ∧ (IsV x4) (a'.get 11) k' ∧ True) ?_ hQ ?_
   ·intro Q5 W5 w4
    refine gS 2 (_ :: _ :: []) hs (by kernel_rfl) ⟨o1 [(11, none)] rfl fun _ _ h n => ok_add rfl (up i11 h n.1) (cI rfl) hx4, cm 0 rfl rfl, trivial⟩ W5 fun b q p => ?_
    exact tail_done (k := q) (w4 _ _ ⟨Bs.post ⟨hg, hs, hd⟩ p, p.ke 3 rfl i3, p.ke 9 rfl i9, p.ke 10 rfl i10, p.ou 1 11 rfl, trivial⟩)
   rintro a k ⟨⟨hg, hs, hd⟩, i3, i9, i10, i11, _⟩
   exact hgo231 _ _ _ (Option.some.inj hr).symm ⟨⟨hg, hs, hd⟩, i3, i9, i10, i11, trivial⟩
  rw [if_neg (by rw [hc244]; decide)] at hr
  refine wp_exit ?_
  exact hex232 _ _ _ _ (Option.some.inj hr).symm ⟨rfl, ⟨hg, hs, hd⟩, i3, trivial⟩
 ·rintro r1 a k rfl hR
  dsimp only at hr
  obtain rfl := Option.some.inj hr
  exact hR
 ·rintro _ _ _ rfl _
  simp at hr
 clear hf1
 rintro _ s2 a k rfl ⟨rfl, ⟨hg, hs, hd⟩, i3, _⟩
 dsimp only at hr
 refine stepL 2 (_ :: _ :: []) rfl ⟨hg, hs, hd⟩ (by kernel_rfl) ⟨mu rfl i3, cp 0 rfl rfl, trivial⟩ [⟨_, _⟩] (fun b q p => ⟨p.ou 1 2 rfl, trivial⟩) ?_
 rintro a k ⟨⟨hg, hs, hd⟩, i2, _⟩
 refine wp_ret ?_
 obtain rfl := Option.some.inj hr
 exact retC1 rfl hd hg i2
def few (l_ : (List Account)) (m_ : (List Move)) : Option (Bool) :=
 some ((decide ((l_.length : Int) ≤ 10)) && (decide ((m_.length : Int) ≤ 20)))
theorem few_ok {k0 : K} {v0 v1 : Value} {l_ : (List Account)} {m_ : (List Move)} {r : Bool} (i0 : (IsV l_) v0 k0) (i1 : (IsV m_) v1 k0) (hr : few l_ m_ = some r) :
  Calls Try.prog 9 #[v0, v1] k0.w (Ret k0 (IsV r)) := by
 unfold few at hr
 refine Ret.ofC ?_
 refine enterK Try.func9 rfl Try.ntmps9 (show 2 ≤ 13 by decide) fun a k hk0 hs hd ha => ?_
 obtain ⟨e0, e1, _⟩ := ha
 replace i0 : (IsV l_) (a.get 0) k := by rw [e0, hk0]; exact i0
 replace i1 : (IsV m_) (a.get 1) k := by rw [e1, hk0]; exact i1
 have hQ : Gb.LetsOut (bodyPost Try.prog Try.f9 (RetC noF k0 (IsV r))) := letsOutC
 have hg : Chg noF k0 k := by rw [hk0]; exact Chg.refl _ k0
 refine stepL 1 (⟨some (IsV false), []⟩ :: []) rfl ⟨hg, hs, hd⟩ (by kernel_rfl) ⟨ob1 rfl fun _ _ h n => ok_assign rfl (isV_bool.2 rfl), trivial⟩ [⟨_, _⟩, ⟨_, _⟩] (fun b q p => ⟨p.ke 0 rfl i0, p.ke 1 rfl i1, trivial⟩) ?_
 rintro a k ⟨⟨hg, hs, hd⟩, i0, i1, _⟩
 refine stepL 9 (_ :: _ :: _ :: _ :: _ :: _ :: _ :: _ :: _ :: []) rfl ⟨hg, hs, hd⟩ (by kernel_rfl) ⟨mu rfl i0, o1 [(5, some 0)] rfl fun _ _ h n => ok_len rfl rfl Try.underlying22 (IsV.rd n.1), o1 [(6, some 1)] rfl fun _ _ h n => ok_leq rfl n.1 (cI rfl), cm 2 rfl rfl, mT rfl rfl i1, gT [(9, some 4)] rfl rfl fun hp _ _ h n => ok_len rfl rfl Try.underlying23 (IsV.rd (Gd.get n.1 hp)), gT [(10, some 5)] rfl rfl fun hp _ _ h n => ok_leq rfl (Gd.get n.1 hp) (cI rfl), o1 [(8, some 3), (11, some 6)] rfl fun _ _ h n => ok_pickAnd rfl n.1 (Gd.get n.2.1) (cB rfl), cp 7 rfl rfl, trivial⟩ [⟨_, _⟩] (fun b q p => ⟨p.ou 8 4 rfl, trivial⟩) ?_
 rintro a k ⟨⟨hg, hs, hd⟩, i4, _⟩
 refine wp_ret ?_
 obtain rfl := Option.some.inj hr
 exact retC1 rfl hd hg i4
def lAdd_L0 (t_ : (List (Int × Int))) (origin_ : Int) (s1 : Int × Int) : Option (Flow (Int × Int) (Int)) :=
 if (decide (s1.2 < (t_.length : Int))) then
  (getI t_ s1.2).bind fun x1 =>
  (if ((x1.1 == origin_) || (origin_ == 0)) then
   (getI t_ s1.2).bind fun x2 =>
   (addI s1.1 x2.2).bind fun x3 =>
   some x3
  else
   some s1.1).bind fun s2 =>
  (addI s1.2 1).bind fun x4 =>
  some (.go (s2, x4))
 else
  some (.ex 0 (s1.1, s1.2))
def lAdd (t_ : (List (Int × Int))) (origin_ : Int) : Option (Int) :=
 (iterL (lAdd_L0 t_ origin_) (t_.length + 1) (0, 0)).bind fun f1 => match f1 with
  | .go _ => none
  | .ex _ s1 =>
   some s1.1
  | .ret r1 => some r1
theorem lAdd_ok {k0 : K} {v0 v1 : Value} {t_ : (List (Int × Int))} {origin_ : Int} {r : Int} (i0 : (IsV t_) v0 k0) (i1 : (IsV origin_) v1 k0) (hr : lAdd t_ origin_ = some r) :
  Calls Try.prog 12 #[v0, v1] k0.w (Ret k0 (IsV r)) := by
 unfold lAdd at hr
 refine Ret.ofC ?_
 refine enterK Try.func12 rfl Try.ntmps12 (show 2 ≤ 32 by decide) fun a k hk0 hs hd ha => ?_
 obtain ⟨e0, e1, _⟩ := ha
 replace i0 : (IsV t_) (a.get 0) k := by rw [e0, hk0]; exact i0
 replace i1 : (IsV origin_) (a.get 1) k := by rw [e1, hk0]; exact i1
 have hQ : Gb.LetsOut (bodyPost Try.prog Try.f12 (RetC noF k0 (IsV r))) := letsOutC
 have hg : Chg noF k0 k := by rw [hk0]; exact Chg.refl _ k0
 refine stepL 1 (⟨some (IsI 0), []⟩ :: []) rfl ⟨hg, hs, hd⟩ (by kernel_rfl) ⟨aI rfl rfl, trivial⟩ [⟨_, _⟩, ⟨_, _⟩] (fun b q p => ⟨p.ke 0 rfl i0, p.ke 1 rfl i1, trivial⟩) ?_
 rintro a k ⟨⟨hg, hs, hd⟩, i0, i1, _⟩
 refine stepL 1 (⟨some (IsI 0), []⟩ :: []) rfl ⟨hg, hs, hd⟩ (by kernel_rfl) ⟨aI rfl rfl, trivial⟩ [⟨_, _⟩, ⟨_, _⟩, ⟨_, _⟩] (fun b q p => ⟨p.ke 0 rfl i0, p.ke 1 rfl i1, p.ou 0 5 rfl, trivial⟩) ?_
 rintro a k ⟨⟨hg, hs, hd⟩, i0, i1, i5, _⟩
 refine wp_seq ?_
 refine stepL 1 (⟨some (IsI 0), []⟩ :: []) rfl ⟨hg, hs, hd⟩ (by kernel_rfl) ⟨aI rfl rfl, trivial⟩ [⟨_, _⟩, ⟨_, _⟩, ⟨_, _⟩, ⟨_, _⟩] (fun b q p => ⟨p.ke 0 rfl i0, p.ke 1 rfl i1, p.ke 5 rfl i5, p.ou 0 6 rfl, trivial⟩) ?_
 rintro a k ⟨⟨hg, hs, hd⟩, i0, i1, i5, i6, _⟩
 refine wp_block ?_
 obtain ⟨f1, hf1, hr⟩ := bind_some hr
 refine cutFe f1 (fun s' c l => Bs noF k0 32 c l ∧ IsV t_ (c.get 0) l ∧ IsV origin_ (c.get 1) l ∧ IsV s'.1 (c.get 5) l ∧ IsV s'.2 (c.get 6) l ∧ True) (fun i' s' c l => (i' = 0 ∧ Bs noF k0 32 c l ∧ IsV s'.1 (c.get 5) l ∧ True)) (fun r' c l => bodyPost Try.prog Try.f12 (RetC noF k0 (IsV r')) .ret c l.w) ?_ hQ ?_ ?_ ?_
 ·intro Q1 W1 hgo hex hret
  refine sim_loop ?_ _ _ _ _ _ hf1 ⟨⟨hg, hs, hd⟩, i0, i1, i5, i6, trivial⟩ Q1 W1 hgo hex hret
  clear hr hf1 hgo hex hret W1 hQ hg hs hd i0 i1 i5 i6
  intro s1 fl_ a k hr hS Q hQ hgo273 hex274 hret275
  obtain ⟨⟨hg, hs, hd⟩, i0, i1, i5, i6, _⟩ := hS
  unfold lAdd_L0 at hr
  refine wp_seq ?_
  refine stepL 4 (_ :: _ :: _ :: _ :: []) rfl ⟨hg, hs, hd⟩ (by kernel_rfl) ⟨mu rfl i6, mu rfl i0, o1 [(8, some 1)] rfl fun _ _ h n => ok_len rfl rfl Try.underlying29 (IsV.rd n.1), o1 [(7, some 0), (9, some 2)] rfl fun _ _ h n => ok_lss rfl n.1 n.2.1, trivial⟩ [⟨_, _⟩, ⟨_, _⟩, ⟨_, _⟩, ⟨_, _⟩, ⟨_, _⟩] (fun b q p => ⟨p.ke 0 rfl i0, p.ke 1 rfl i1, p.ke 5 rfl i5, p.ke 6 rfl i6, p.ou 3 10 rfl, trivial⟩) ?_
  rintro a k ⟨⟨hg, hs, hd⟩, i0, i1, i5, i6, i10, _⟩
  refine wp_cond_split (isBool i10) (fun hc290 => ?_) (fun hc290 => ?_)
  ·rw [if_pos hc290] at hr
   refine wp_skip ?_
   refine wp_seq ?_
   refine wp_block ?_
   refine wp_seq ?_
   obtain ⟨x1, hx1, hr⟩ := bind_some hr
   refine cut (fun a' k' => Bs noF k0 32 a' k' ∧ (IsV t_) (a'.get 0) k' ∧ (IsV origin_) (a'.get 1) k' ∧ (IsV s1.1) (a'.get 5) k' ∧ (IsV s1.2) (a'.get 6) k' ∧ (IsV ((x1.1 == origin_) || (origin_ == 0))) (a'.get 23) k' ∧ True) ?_ hQ ?_
   ·intro Q2 W2 w1
    refine gS 11 (_ :: _ :: _ :: ⟨some (IsPtr x1.1), [(15, some 2)]⟩ :: _ :: _ :: _ :: _ :: _ :: _ :: _ :: []) hs (by kernel_rfl) ⟨mu rfl i0, mu rfl i6, o1 [(13, some 0), (14, some 1)] rfl fun _ _ h n => ok_indexAddr rfl Try.underlying29 ty37 (IsV.rd n.1) n.2.1 hx1, ob1 rfl fun _ _ h n => ok_arrAddr (i := 0) rfl ao37 (by decide) (aat37_0 _) n.1 (cI rfl), o1 [(16, some 3)] rfl fun _ _ h n => ok_load rfl ty3 n.1, mu rfl i1, o1 [(17, some 4), (18, some 5)] rfl fun _ _ h n => ok_eqI rfl n.1 n.2.1, cm 6 rfl rfl, mF rfl rfl i1, gF [(21, some 8)] rfl rfl fun hp _ _ h n => ok_eqI rfl (Gd.get n.1 hp) (cI rfl), o1 [(20, some 7), (22, some 9)] rfl fun _ _ h n => ok_pickOr rfl n.1 (cB rfl) (Gd.get n.2.1), trivial⟩ W2 fun b q p => ?_
    exact tail_done (k := q) (w1 _ _ ⟨Bs.post ⟨hg, hs, hd⟩ p, p.ke 0 rfl i0, p.ke 1 rfl i1, p.ke 5 rfl i5, p.ke 6 rfl i6, p.ou 10 23 rfl, trivial⟩)
   rintro a k ⟨⟨hg, hs, hd⟩, i0, i1, i5, i6, i23, _⟩
   obtain ⟨s2, hs2, hr⟩ := bind_some hr
   refine cut (fun a' k' => Bs noF k0 32 a' k' ∧ (IsV t_) (a'.get 0) k' ∧ (IsV origin_) (a'.get 1) k' ∧ (IsV s2) (a'.get 5) k' ∧ (IsV s1.2) (a'.get 6) k' ∧ True) ?_ hQ ?_
   ·intro Q3 W3 w2
    replace hr := hs2
    clear hQ
    have hQ := W3
    refine wp_cond_split (isBool i23) (fun hc283 => ?_) (fun hc283 => ?_)
    ·rw [if_pos hc283] at hr
     obtain ⟨x2, hx2, hr⟩ := bind_some hr
     obtain ⟨x3, hx3, hr⟩ := bind_some hr
     refine cut (fun a' k' => Bs noF k0 32 a' k' ∧ (IsV t_) (a'.get 0) k' ∧ (IsV origin_) (a'.get 1) k' ∧ (IsV x3) (a'.get 5) k' ∧ (IsV s1.2) (a'.get 6) k' ∧ True) ?_ hQ ?_
     ·intro Q4 W4 w3
      refine gS 8 (_ :: _ :: _ :: _ :: ⟨some (IsPtr x2.2), [(27, some 3)]⟩ :: _ :: _ :: _ :: []) hs (by kernel_rfl) ⟨mu rfl i5, mu rfl i0, mu rfl i6, o1 [(25, some 1), (26, some 2)] rfl fun _ _ h n => ok_indexAddr rfl Try.underlying29 ty37 (IsV.rd n.1) n.2.1 hx2, ob1 rfl fun _ _ h n => ok_arrAddr (i := 1) rfl ao37 (by decide) (aat37_1 _) n.1 (cI rfl), o1 [(28, some 4)] rfl fun _ _ h n => ok_load rfl ty3 n.1, o1 [(24, some 0), (29, some 5)] rfl fun _ _ h n => ok_add rfl n.1 n.2.1 hx3, cp 6 rfl rfl, trivial⟩ W4 fun b q p => ?_
      exact tail_done (k := q) (w3 _ _ ⟨Bs.post ⟨hg, hs, hd⟩ p, p.ke 0 rfl i0, p.ke 1 rfl i1, p.ou 7 5 rfl, p.ke 6 rfl i6, trivial⟩)
     rintro a k ⟨⟨hg, hs, hd⟩, i0, i1, i5, i6, _⟩
     obtain rfl := Option.some.inj hr
     exact w2 _ _ ⟨⟨hg, hs, hd⟩, i0, i1, i5, i6, trivial⟩
    rw [if_neg (by rw [hc283]; decide)] at hr
    refine wp_skip ?_
    obtain rfl := Option.some.inj hr
    exact w2 _ _ ⟨⟨hg, hs, hd⟩, i0, i1, i5, i6, trivial⟩
   clear hs2
   rintro a k ⟨⟨hg, hs, hd⟩, i0, i1, i5, i6, _⟩
   obtain ⟨x4, hx4, hr⟩ := bind_some hr
   refine cut (fun a' k' => Bs noF k0 32 a' k' ∧ (IsV t_) (a'.get 0) k' ∧ (IsV origin_) (a'.get 1) k' ∧ (IsV s2) (a'.get 5) k' ∧ (IsV x4) (a'.get 6) k' ∧ True) ?_ hQ ?_
   ·intro Q5 W5 w4
    refine gS 3 (_ :: _ :: _ :: []) hs (by kernel_rfl) ⟨mu rfl i6, o1 [(11, some 0)] rfl fun _ _ h n => ok_add rfl n.1 (cI rfl) hx4, cp 1 rfl rfl, trivial⟩ W5 fun b q p => ?_
    exact tail_done (k := q) (w4 _ _ ⟨Bs.post ⟨hg, hs, hd⟩ p, p.ke 0 rfl i0, p.ke 1 rfl i1, p.ke 5 rfl i5, p.ou 2 6 rfl, trivial⟩)
   rintro a k ⟨⟨hg, hs, hd⟩, i0, i1, i5, i6, _⟩
   exact hgo273 _ _ _ (Option.some.inj hr).symm ⟨⟨hg, hs, hd⟩, i0, i1, i5, i6, trivial⟩
  rw [if_neg (by rw [hc290]; decide)] at hr
  refine wp_exit ?_
  exact hex274 _ _ _ _ (Option.some.inj hr).symm ⟨rfl, ⟨hg, hs, hd⟩, i5, trivial⟩
 ·rintro r1 a k rfl hR
  dsimp only at hr
  obtain rfl := Option.some.inj hr
  exact hR
 ·rintro _ _ _ rfl _
  simp at hr
 clear hf1
 rintro _ s3 a k rfl ⟨rfl, ⟨hg, hs, hd⟩, i5, _⟩
 dsimp only at hr
 refine stepL 2 (_ :: _ :: []) rfl ⟨hg, hs, hd⟩ (by kernel_rfl) ⟨mu rfl i5, cp 0 rfl rfl, trivial⟩ [⟨_, _⟩] (fun b q p => ⟨p.ou 1 4 rfl, trivial⟩) ?_
 rintro a k ⟨⟨hg, hs, hd⟩, i4, _⟩
 refine wp_ret ?_
 obtain rfl := Option.some.inj hr
 exact retC1 rfl hd hg i4
def rSame_L0 (a_ : (List Account)) (b_ : (List Account)) (s1 : Int) : Option (Flow (Int) (Bool)) :=
 if (decide (s1 < (a_.length : Int))) then
  (getI a_ s1).bind fun x1 =>
  (getI b_ s1).bind fun x2 =>
  if (!decide (x1 = x2)) then
   some (.ret false)
  else
   (addI s1 1).bind fun x3 =>
   some (.go x3)
 else
  some (.ex 0 s1)
def rSame (a_ : (List Account)) (b_ : (List Account)) : Option (Bool) :=
 if ((a_.length : Int) != (b_.length : Int)) then
  some false
 else
  (iterL (rSame_L0 a_ b_) (a_.length + b_.length + 1) 0).bind fun f1 => match f1 with
   | .go _ => none
   | .ex _ _ =>
    some true
   | .ret r1 => some r1
theorem rSame_ok {k0 : K} {v0 v1 : Value} {a_ : (List Account)} {b_ : (List Account)} {r : Bool} (i0 : (IsV a_) v0 k0) (i1 : (IsV b_) v1 k0) (hr : rSame a_ b_ = some r) :
  Calls Try.prog 14 #[v0, v1] k0.w (Ret k0 (IsV r)) := by
 unfold rSame at hr
 refine Ret.ofC ?_
 refine enterK Try.func14 rfl Try.ntmps14 (show 2 ≤ 26 by decide) fun a k hk0 hs hd ha => ?_
 obtain ⟨e0, e1, _⟩ := ha
 replace i0 : (IsV a_) (a.get 0) k := by rw [e0, hk0]; exact i0
 replace i1 : (IsV b_) (a.get 1) k := by rw [e1, hk0]; exact i1
 have hQ : Gb.LetsOut (bodyPost Try.prog Try.f14 (RetC noF k0 (IsV r))) := letsOutC
 have hg : Chg noF k0 k := by rw [hk0]; exact Chg.refl _ k0
 refine stepL 1 (⟨some (IsV false), []⟩ :: []) rfl ⟨hg, hs, hd⟩ (by kernel_rfl) ⟨ob1 rfl fun _ _ h n => ok_assign rfl (isV_bool.2 rfl), trivial⟩ [⟨_, _⟩, ⟨_, _⟩] (fun b q p => ⟨p.ke 0 rfl i0, p.ke 1 rfl i1, trivial⟩) ?_
 rintro a k ⟨⟨hg, hs, hd⟩, i0, i1, _⟩
 refine wp_seq ?_
 refine stepL 5 (_ :: _ :: _ :: _ :: ⟨some (IsV ((a_.length : Int) != (b_.length : Int))), [(7, some 1), (9, some 3)]⟩ :: []) rfl ⟨hg, hs, hd⟩ (by kernel_rfl) ⟨mu rfl i0, o1 [(6, some 0)] rfl fun _ _ h n => ok_len rfl rfl Try.underlying22 (IsV.rd n.1), mu rfl i1, o1 [(8, some 2)] rfl fun _ _ h n => ok_len rfl rfl Try.underlying22 (IsV.rd n.1), ob1 rfl fun _ _ h n => ok_neI rfl n.1 n.2.1, trivial⟩ [⟨_, _⟩, ⟨_, _⟩, ⟨_, _⟩] (fun b q p => ⟨p.ke 0 rfl i0, p.ke 1 rfl i1, p.ou 4 10 rfl, trivial⟩) ?_
 rintro a k ⟨⟨hg, hs, hd⟩, i0, i1, i10, _⟩
 refine wp_cond_split (isBool i10) (fun hc339 => ?_) (fun hc339 => ?_)
 ·rw [if_pos hc339] at hr
  refine stepL 1 (⟨some (IsV false), []⟩ :: []) rfl ⟨hg, hs, hd⟩ (by kernel_rfl) ⟨ob1 rfl fun _ _ h n => ok_assign rfl (isV_bool.2 rfl), trivial⟩ [⟨_, _⟩] (fun b q p => ⟨p.ou 0 4 rfl, trivial⟩) ?_
  rintro a k ⟨⟨hg, hs, hd⟩, i4, _⟩
  refine wp_ret ?_
  obtain rfl := Option.some.inj hr
  exact retC1 rfl hd hg i4
 rw [if_neg (by rw [hc339]; decide)] at hr
 refine wp_skip ?_
 refine wp_seq ?_
 refine stepL 1 (⟨some (IsI 0), []⟩ :: []) rfl ⟨hg, hs, hd⟩ (by kernel_rfl) ⟨aI rfl rfl, trivial⟩ [⟨_, _⟩, ⟨_, _⟩, ⟨_, _⟩] (fun b q p => ⟨p.ke 0 rfl i0, p.ke 1 rfl i1, p.ou 0 5 rfl, trivial⟩) ?_
 rintro a k ⟨⟨hg, hs, hd⟩, i0, i1, i5, _⟩
 refine wp_block ?_
 obtain ⟨f1, hf1, hr⟩ := bind_some hr
 refine cutFe f1 (fun s' c l => Bs noF k0 26 c l ∧ IsV a_ (c.get 0) l ∧ IsV b_ (c.get 1) l ∧ IsV s' (c.get 5) l ∧ True) (fun i' s' c l => (i' = 0 ∧ Bs noF k0 26 c l ∧ True)) (fun r' c l => bodyPost Try.prog Try.f14 (RetC noF k0 (IsV r')) .ret c l.w) ?_ hQ ?_ ?_ ?_
 ·intro Q1 W1 hgo hex hret
  refine sim_loop ?_ _ _ _ _ _ hf1 ⟨⟨hg, hs, hd⟩, i0, i1, i5, trivial⟩ Q1 W1 hgo hex hret
  clear hr hf1 hgo hex hret W1 hQ hg hs hd i0 i1 i5
  intro s1 fl_ a k hr hS Q hQ hgo313 hex314 hret315
  obtain ⟨⟨hg, hs, hd⟩, i0, i1, i5, _⟩ := hS
  unfold rSame_L0 at hr
  refine wp_seq ?_
  refine stepL 4 (_ :: _ :: _ :: _ :: []) rfl ⟨hg, hs, hd⟩ (by kernel_rfl) ⟨mu rfl i5, mu rfl i0, o1 [(12, some 1)] rfl fun _ _ h n => ok_len rfl rfl Try.underlying22 (IsV.rd n.1), o1 [(11, some 0), (13, some 2)] rfl fun _ _ h n => ok_lss rfl n.1 n.2.1, trivial⟩ [⟨_, _⟩, ⟨_, _⟩, ⟨_, _⟩, ⟨_, _⟩] (fun b q p => ⟨p.ke 0 rfl i0, p.ke 1 rfl i1, p.ke 5 rfl i5, p.ou 3 14 rfl, trivial⟩) ?_
  rintro a k ⟨⟨hg, hs, hd⟩, i0, i1, i5, i14, _⟩
  refine wp_cond_split (isBool i14) (fun hc327 => ?_) (fun hc327 => ?_)
  ·rw [if_pos hc327] at hr
   refine wp_skip ?_
   refine wp_seq ?_
   refine wp_block ?_
   refine wp_seq ?_
   obtain ⟨x1, hx1, hr⟩ := bind_some hr
   obtain ⟨x2, hx2, hr⟩ := bind_some hr
   refine cut (fun a' k' => Bs noF k0 26 a' k' ∧ (IsV a_) (a'.get 0) k' ∧ (IsV b_) (a'.get 1) k' ∧ (IsV s1) (a'.get 5) k' ∧ (IsV (!decide (x1 = x2))) (a'.get 25) k' ∧ True) ?_ hQ ?_
   ·intro Q2 W2 w1
    refine region (m := 9) (_ :: _ :: _ :: _ :: _ :: _ :: _ :: _ :: ⟨some (IsV (!decide (x1 = x2))), [(20, some 3), (24, some 7)]⟩ :: []) hmix hs (by kernel_rfl) ⟨mu rfl i0, mu rfl i5, o1 [(17, some 0), (18, some 1)] rfl fun _ _ h n => ok_indexAddr rfl Try.underlying22 ty35 (IsV.rd n.1) n.2.1 hx1, o1 [(19, some 2)] rfl fun _ _ h n => ok_load rfl ty35 n.1, mu rfl i1, mu rfl i5, o1 [(21, some 4), (22, some 5)] rfl fun _ _ h n => ok_indexAddr rfl Try.underlying22 ty35 (IsV.rd n.1) n.2.1 hx2, o1 [(23, some 6)] rfl fun _ _ h n => ok_load rfl ty35 n.1, ob1 rfl fun _ _ h n => ok_neA rfl eq35 n.1 n.2.1, trivial⟩ W2 fun b q p => ?_
    exact tail_done (k := q) (w1 _ _ ⟨Bs.post ⟨hg, hs, hd⟩ p, p.ke 0 rfl i0, p.ke 1 rfl i1, p.ke 5 rfl i5, p.ou 8 25 rfl, trivial⟩)
   rintro a k ⟨⟨hg, hs, hd⟩, i0, i1, i5, i25, _⟩
   refine wp_cond_split (isBool i25) (fun hc324 => ?_) (fun hc324 => ?_)
   ·rw [if_pos hc324] at hr
    refine stepL 1 (⟨some (IsV false), []⟩ :: []) rfl ⟨hg, hs, hd⟩ (by kernel_rfl) ⟨ob1 rfl fun _ _ h n => ok_assign rfl (isV_bool.2 rfl), trivial⟩ [⟨_, _⟩] (fun b q p => ⟨p.ou 0 4 rfl, trivial⟩) ?_
    rintro a k ⟨⟨hg, hs, hd⟩, i4, _⟩
    refine wp_ret ?_
    exact hret315 _ _ _ (Option.some.inj hr).symm (retC1 rfl hd hg i4)
   rw [if_neg (by rw [hc324]; decide)] at hr
   refine wp_skip ?_
   obtain ⟨x3, hx3, hr⟩ := bind_some hr
   refine cut (fun a' k' => Bs noF k0 26 a' k' ∧ (IsV a_) (a'.get 0) k' ∧ (IsV b_) (a'.get 1) k' ∧ (IsV x3) (a'.get 5) k' ∧ True) ?_ hQ ?_
   ·intro Q3 W3 w2
    refine gS 3 (_ :: _ :: _ :: []) hs (by kernel_rfl) ⟨mu rfl i5, o1 [(15, some 0)] rfl fun _ _ h n => ok_add rfl n.1 (cI rfl) hx3, cp 1 rfl rfl, trivial⟩ W3 fun b q p => ?_
    exact tail_done (k := q) (w2 _ _ ⟨Bs.post ⟨hg, hs, hd⟩ p, p.ke 0 rfl i0, p.ke 1 rfl i1, p.ou 2 5 rfl, trivial⟩)
   rintro a k ⟨⟨hg, hs, hd⟩, i0, i1, i5, _⟩
   exact hgo313 _ _ _ (Option.some.inj hr).symm ⟨⟨hg, hs, hd⟩, i0, i1, i5, trivial⟩
  rw [if_neg (by rw [hc327]; decide)] at hr
  refine wp_exit ?_
  exact hex314 _ _ _ _ (Option.some.inj hr).symm ⟨rfl, ⟨hg, hs, hd⟩, trivial⟩
 ·rintro r1 a k rfl hR
  dsimp only at hr
  obtain rfl := Option.some.inj hr
  exact hR
 ·rintro _ _ _ rfl _
  simp at hr
 clear hf1
 rintro _ s2 a k rfl ⟨rfl, ⟨hg, hs, hd⟩, _⟩
 dsimp only at hr
 refine stepL 1 (⟨some (IsV true), []⟩ :: []) rfl ⟨hg, hs, hd⟩ (by kernel_rfl) ⟨ob1 rfl fun _ _ h n => ok_assign rfl (isV_bool.2 rfl), trivial⟩ [⟨_, _⟩] (fun b q p => ⟨p.ou 0 4 rfl, trivial⟩) ?_
 rintro a k ⟨⟨hg, hs, hd⟩, i4, _⟩
 refine wp_ret ?_
 obtain rfl := Option.some.inj hr
 exact retC1 rfl hd hg i4
def rSameTrace_L0 (a_ : (List (Int × Int))) (b_ : (List (Int × Int))) (s1 : Int) : Option (Flow (Int) (Bool)) :=
 if (decide (s1 < (a_.length : Int))) then
  (getI a_ s1).bind fun x1 =>
  (getI b_ s1).bind fun x2 =>
  if (!decide (x1 = x2)) then
   some (.ret false)
  else
   (addI s1 1).bind fun x3 =>
   some (.go x3)
 else
  some (.ex 0 s1)
def rSameTrace (a_ : (List (Int × Int))) (b_ : (List (Int × Int))) : Option (Bool) :=
 if ((a_.length : Int) != (b_.length : Int)) then
  some false
 else
  (iterL (rSameTrace_L0 a_ b_) (a_.length + b_.length + 1) 0).bind fun f1 => match f1 with
   | .go _ => none
   | .ex _ _ =>
    some true
   | .ret r1 => some r1
theorem rSameTrace_ok {k0 : K} {v0 v1 : Value} {a_ : (List (Int × Int))} {b_ : (List (Int × Int))} {r : Bool} (i0 : (IsV a_) v0 k0) (i1 : (IsV b_) v1 k0) (hr : rSameTrace a_ b_ = some r) :
  Calls Try.prog 15 #[v0, v1] k0.w (Ret k0 (IsV r)) := by
 unfold rSameTrace at hr
 refine Ret.ofC ?_
 refine enterK Try.func15 rfl Try.ntmps15 (show 2 ≤ 26 by decide) fun a k hk0 hs hd ha => ?_
 obtain ⟨e0, e1, _⟩ := ha
 replace i0 : (IsV a_) (a.get 0) k := by rw [e0, hk0]; exact i0
 replace i1 : (IsV b_) (a.get 1) k := by rw [e1, hk0]; exact i1
 have hQ : Gb.LetsOut (bodyPost Try.prog Try.f15 (RetC noF k0 (IsV r))) := letsOutC
 have hg : Chg noF k0 k := by rw [hk0]; exact Chg.refl _ k0
 refine stepL 1 (⟨some (IsV false), []⟩ :: []) rfl ⟨hg, hs, hd⟩ (by kernel_rfl) ⟨ob1 rfl fun _ _ h n => ok_assign rfl (isV_bool.2 rfl), trivial⟩ [⟨_, _⟩, ⟨_, _⟩] (fun b q p => ⟨p.ke 0 rfl i0, p.ke 1 rfl i1, trivial⟩) ?_
 rintro a k ⟨⟨hg, hs, hd⟩, i0, i1, _⟩
 refine wp_seq ?_
 refine stepL 5 (_ :: _ :: _ :: _ :: ⟨some (IsV ((a_.length : Int) != (b_.length : Int))), [(7, some 1), (9, some 3)]⟩ :: []) rfl ⟨hg, hs, hd⟩ (by kernel_rfl) ⟨mu rfl i0, o1 [(6, some 0)] rfl fun _ _ h n => ok_len rfl rfl Try.underlying29 (IsV.rd n.1), mu rfl i1, o1 [(8, some 2)] rfl fun _ _ h n => ok_len rfl rfl Try.underlying29 (IsV.rd n.1), ob1 rfl fun _ _ h n => ok_neI rfl n.1 n.2.1, trivial⟩ [⟨_, _⟩, ⟨_, _⟩, ⟨_, _⟩] (fun b q p => ⟨p.ke 0 rfl i0, p.ke 1 rfl i1, p.ou 4 10 rfl, trivial⟩) ?_
 rintro a k ⟨⟨hg, hs, hd⟩, i0, i1, i10, _⟩
 refine wp_cond_split (isBool i10) (fun hc377 => ?_) (fun hc377 => ?_)
 ·rw [if_pos hc377] at hr
  refine stepL 1 (⟨some (IsV false), []⟩ :: []) rfl ⟨hg, hs, hd⟩ (by kernel_rfl) ⟨ob1 rfl fun _ _ h n => ok_assign rfl (isV_bool.2 rfl), trivial⟩ [⟨_, _⟩] (fun b q p => ⟨p.ou 0 4 rfl, trivial⟩) ?_
  rintro a k ⟨⟨hg, hs, hd⟩, i4, _⟩
  refine wp_ret ?_
  obtain rfl := Option.some.inj hr
  exact retC1 rfl hd hg i4
 rw [if_neg (by rw [hc377]; decide)] at hr
 refine wp_skip ?_
 refine wp_seq ?_
 refine stepL 1 (⟨some (IsI 0), []⟩ :: []) rfl ⟨hg, hs, hd⟩ (by kernel_rfl) ⟨aI rfl rfl, trivial⟩ [⟨_, _⟩, ⟨_, _⟩, ⟨_, _⟩] (fun b q p => ⟨p.ke 0 rfl i0, p.ke 1 rfl i1, p.ou 0 5 rfl, trivial⟩) ?_
 rintro a k ⟨⟨hg, hs, hd⟩, i0, i1, i5, _⟩
 refine wp_block ?_
 obtain ⟨f1, hf1, hr⟩ := bind_some hr
 refine cutFe f1 (fun s' c l => Bs noF k0 26 c l ∧ IsV a_ (c.get 0) l ∧ IsV b_ (c.get 1) l ∧ IsV s' (c.get 5) l ∧ True) (fun i' s' c l => (i' = 0 ∧ Bs noF k0 26 c l ∧ True)) (fun r' c l => bodyPost Try.prog Try.f15 (RetC noF k0 (IsV r')) .ret c l.w) ?_ hQ ?_ ?_ ?_
 ·intro Q1 W1 hgo hex hret
  refine sim_loop ?_ _ _ _ _ _ hf1 ⟨⟨hg, hs, hd⟩, i0, i1, i5, trivial⟩ Q1 W1 hgo hex hret
  clear hr hf1 hgo hex hret W1 hQ hg hs hd i0 i1 i5
  intro s1 fl_ a k hr hS Q hQ hgo351 hex352 hret353
  obtain ⟨⟨hg, hs, hd⟩, i0, i1, i5, _⟩ := hS
  unfold rSameTrace_L0 at hr
  refine wp_seq ?_
  refine stepL 4 (_ :: _ :: _ :: _ :: []) rfl ⟨hg, hs, hd⟩ (by kernel_rfl) ⟨mu rfl i5, mu rfl i0, o1 [(12, some 1)] rfl fun _ _ h n => ok_len rfl rfl Try.underlying29 (IsV.rd n.1), o1 [(11, some 0), (13, some 2)] rfl fun _ _ h n => ok_lss rfl n.1 n.2.1, trivial⟩ [⟨_, _⟩, ⟨_, _⟩, ⟨_, _⟩, ⟨_, _⟩] (fun b q p => ⟨p.ke 0 rfl i0, p.ke 1 rfl i1, p.ke 5 rfl i5, p.ou 3 14 rfl, trivial⟩) ?_
  rintro a k ⟨⟨hg, hs, hd⟩, i0, i1, i5, i14, _⟩
  refine wp_cond_split (isBool i14) (fun hc365 => ?_) (fun hc365 => ?_)
  ·rw [if_pos hc365] at hr
   refine wp_skip ?_
   refine wp_seq ?_
   refine wp_block ?_
   refine wp_seq ?_
   obtain ⟨x1, hx1, hr⟩ := bind_some hr
   obtain ⟨x2, hx2, hr⟩ := bind_some hr
   refine cut (fun a' k' => Bs noF k0 26 a' k' ∧ (IsV a_) (a'.get 0) k' ∧ (IsV b_) (a'.get 1) k' ∧ (IsV s1) (a'.get 5) k' ∧ (IsV (!decide (x1 = x2))) (a'.get 25) k' ∧ True) ?_ hQ ?_
   ·intro Q2 W2 w1
    refine region (m := 9) (_ :: _ :: _ :: _ :: _ :: _ :: _ :: _ :: ⟨some (IsV (!decide (x1 = x2))), [(20, some 3), (24, some 7)]⟩ :: []) hmix hs (by kernel_rfl) ⟨mu rfl i0, mu rfl i5, o1 [(17, some 0), (18, some 1)] rfl fun _ _ h n => ok_indexAddr rfl Try.underlying29 ty37 (IsV.rd n.1) n.2.1 hx1, o1 [(19, some 2)] rfl fun _ _ h n => ok_load rfl ty37 n.1, mu rfl i1, mu rfl i5, o1 [(21, some 4), (22, some 5)] rfl fun _ _ h n => ok_indexAddr rfl Try.underlying29 ty37 (IsV.rd n.1) n.2.1 hx2, o1 [(23, some 6)] rfl fun _ _ h n => ok_load rfl ty37 n.1, ob1 rfl fun _ _ h n => ok_neA rfl eq37 n.1 n.2.1, trivial⟩ W2 fun b q p => ?_
    exact tail_done (k := q) (w1 _ _ ⟨Bs.post ⟨hg, hs, hd⟩ p, p.ke 0 rfl i0, p.ke 1 rfl i1, p.ke 5 rfl i5, p.ou 8 25 rfl, trivial⟩)
   rintro a k ⟨⟨hg, hs, hd⟩, i0, i1, i5, i25, _⟩
   refine wp_cond_split (isBool i25) (fun hc362 => ?_) (fun hc362 => ?_)
   ·rw [if_pos hc362] at hr
    refine stepL 1 (⟨some (IsV false), []⟩ :: []) rfl ⟨hg, hs, hd⟩ (by kernel_rfl) ⟨ob1 rfl fun _ _ h n => ok_assign rfl (isV_bool.2 rfl), trivial⟩ [⟨_, _⟩] (fun b q p => ⟨p.ou 0 4 rfl, trivial⟩) ?_
    rintro a k ⟨⟨hg, hs, hd⟩, i4, _⟩
    refine wp_ret ?_
    exact hret353 _ _ _ (Option.some.inj hr).symm (retC1 rfl hd hg i4)
   rw [if_neg (by rw [hc362]; decide)] at hr
   refine wp_skip ?_
   obtain ⟨x3, hx3, hr⟩ := bind_some hr
   refine cut (fun a' k' => Bs noF k0 26 a' k' ∧ (IsV a_) (a'.get 0) k' ∧ (IsV b_) (a'.get 1) k' ∧ (IsV x3) (a'.get 5) k' ∧ True) ?_ hQ ?_
   ·intro Q3 W3 w2
    refine gS 3 (_ :: _ :: _ :: []) hs (by kernel_rfl) ⟨mu rfl i5, o1 [(15, some 0)] rfl fun _ _ h n => ok_add rfl n.1 (cI rfl) hx3, cp 1 rfl rfl, trivial⟩ W3 fun b q p => ?_
    exact tail_done (k := q) (w2 _ _ ⟨Bs.post ⟨hg, hs, hd⟩ p, p.ke 0 rfl i0, p.ke 1 rfl i1, p.ou 2 5 rfl, trivial⟩)
   rintro a k ⟨⟨hg, hs, hd⟩, i0, i1, i5, _⟩
   exact hgo351 _ _ _ (Option.some.inj hr).symm ⟨⟨hg, hs, hd⟩, i0, i1, i5, trivial⟩
  rw [if_neg (by rw [hc365]; decide)] at hr
  refine wp_exit ?_
  exact hex352 _ _ _ _ (Option.some.inj hr).symm ⟨rfl, ⟨hg, hs, hd⟩, trivial⟩
 ·rintro r1 a k rfl hR
  dsimp only at hr
  obtain rfl := Option.some.inj hr
  exact hR
 ·rintro _ _ _ rfl _
  simp at hr
 clear hf1
 rintro _ s2 a k rfl ⟨rfl, ⟨hg, hs, hd⟩, _⟩
 dsimp only at hr
 refine stepL 1 (⟨some (IsV true), []⟩ :: []) rfl ⟨hg, hs, hd⟩ (by kernel_rfl) ⟨ob1 rfl fun _ _ h n => ok_assign rfl (isV_bool.2 rfl), trivial⟩ [⟨_, _⟩] (fun b q p => ⟨p.ou 0 4 rfl, trivial⟩) ?_
 rintro a k ⟨⟨hg, hs, hd⟩, i4, _⟩
 refine wp_ret ?_
 obtain rfl := Option.some.inj hr
 exact retC1 rfl hd hg i4
end Go.Proofs.Ytbanncpkgbiklaa
