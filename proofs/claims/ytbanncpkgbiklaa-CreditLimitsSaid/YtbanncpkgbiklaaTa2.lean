/- What the functions of credit compute, part 2 -/
import Derived.Test.YtbanncpkgbiklaaTa1
namespace Go.Proofs.Ytbanncpkgbiklaa
open Go.Gb
section
open Go.Proofs Go.RowKit Go.Lib
set_option linter.unusedVariables false
set_option linter.unusedSimpArgs false
set_option maxHeartbeats 4000000 in
set_option maxRecDepth 100000 in
theorem ins_shift (b off n c i vb voff m vc : Nat) (e' : TypeId) (cur : Array Value) (cs vs : List Value) (w : World) (hz : (Try.prog.info? 35).map (·.size) = some 3)
    (hi : i < n) (hm : 0 < m) (hroom : n + m ≤ c) (hc63 : c ≤ 9223372036854775807) (hvb : vb ≠ b)
    (hg : w.heap[b]? = some (.cells cur e' (0, 0))) (hfit : off + c * 3 ≤ cur.size) (hcl : cs.length = (n - i) * 3) (hvl : vs.length = m * 3)
    (hcs : ∀ j v, cs[j]? = some v → w.cell? ⟨b, off + i * 3 + j, none⟩ = some v)
    (hvs : ∀ j v, vs[j]? = some v → w.cell? ⟨vb, voff + j, none⟩ = some v) (h1c : ∀ v ∈ cs, v.oneCell' = true) (h1v : ∀ v ∈ vs, v.oneCell' = true)
    (hov : ∀ lb cb, (callFunc 37 #[.slice (some ⟨vb, voff, none⟩) m vc, .slice (some ⟨b, off + (i + m) * 3, none⟩) lb cb]).run Try.prog w = .ok (.value (.bool false)) w) :
    Calls Try.prog 36 #[.slice (some ⟨b, off, none⟩) n c, .int .i64 i, .slice (some ⟨vb, voff, none⟩) m vc] w fun e w' =>
      e = .returned (.slice (some ⟨b, off, none⟩) (n + m) c) ∧ ∃ cur', w' = (w.drew.setRow b (cur.toList.take (off + (i + m) * 3) ++ cs ++ cur.toList.drop (off + (i + m) * 3 + cs.length)).toArray).setRow b cur' ∧
        cur'.toList = (cur.toList.take (off + (i + m) * 3) ++ cs ++ cur.toList.drop (off + (i + m) * 3 + cs.length)).take (off + i * 3) ++ vs ++ (cur.toList.take (off + (i + m) * 3) ++ cs ++ cur.toList.drop (off + (i + m) * 3 + cs.length)).drop (off + i * 3 + vs.length) := by
  have mixed : Try.prog.follows .mixedOrders = true := by kernel_rfl
  have hz1 : ¬ ((m : Int) = 0) := by omega
  have hz2 : ¬ ((i : Int) = (n : Int)) := by omega
  have hw1 : IntKind.i64.wrap ((i : Int) + (m : Int)) = (i : Int) + (m : Int) := by rw [IntKind.wrap_i64]; omega
  have hb1 : (0 : Int) ≤ (i : Int) + (m : Int) := by omega
  have hin : i ≤ n := by omega
  have htn : ((i : Int) + (m : Int)).toNat = i + m := by omega
  have hb2 : ¬ (c = i + m) := by omega
  have hb3 : (i : Int) ≤ (n : Int) + (m : Int) := by omega
  have hb4 : ¬ (c = i) := by omega
  have hgd : w.drew.heap[b]? = some (.cells cur e' (0, 0)) := hg
  have hadd : ∀ (x y j : Nat), (⟨x, y, none⟩ : Addr).add j = ⟨x, y + j, none⟩ := fun x y j => by unfold Addr.add; split <;> simp_all
  have hcp1 : ∀ ty dc sc, (Builtin.copy_ #[22, 22] ty #[.slice (some ⟨b, off + (i + m) * 3, none⟩) (n + m - (i + m)) dc, .slice (some ⟨b, off + i * 3, none⟩) (n + m - i) sc]).run Try.prog w.drew = _ := fun ty dc sc =>
    run_copy_raw (e := 35) (z := 3) Try.underlying22 hz hgd (cs := cs) (by rw [hcl, show Nat.min (n + m - i) (n + m - (i + m)) = n - i from by simp only [Nat.min_def]; split <;> omega]) (fun j v hj => by rw [hadd]; exact hcs j v hj) (by omega) h1c
  obtain ⟨W1, hW1⟩ : ∃ W1, W1 = w.drew.setRow b (cur.toList.take (off + (i + m) * 3) ++ cs ++ cur.toList.drop (off + (i + m) * 3 + cs.length)).toArray := ⟨_, rfl⟩
  have hg1 : W1.heap[b]? = some (.cells (cur.toList.take (off + (i + m) * 3) ++ cs ++ cur.toList.drop (off + (i + m) * 3 + cs.length)).toArray e' (0, 0)) := by
    rw [hW1]; exact setRow_heap w.drew b cur _ e' _ hgd
  have hcp2 : ∀ ty dc, (Builtin.copy_ #[22, 22] ty #[.slice (some ⟨b, off + i * 3, none⟩) (n + m - i) dc, .slice (some ⟨vb, voff, none⟩) m vc]).run Try.prog W1 = _ := fun ty dc =>
    run_copy_raw (e := 35) (z := 3) Try.underlying22 hz hg1 (cs := vs) (by rw [hvl, show Nat.min m (n + m - i) = m from by simp only [Nat.min_def]; split <;> omega]) (fun j v hj => by
      rw [hadd, hW1]
      have := hvs j v hj
      unfold World.cell? at this ⊢
      rw [setRow_other w.drew b vb _ hvb]
      exact this) (by simp only [List.size_toArray, List.length_append, List.length_take, List.length_drop, Array.length_toList]; omega) h1v
  rw [← hW1] at hcp1
  rw [← hW1]
  clear hW1
  go_enter Try.func36, Try.ntmps36
  go_wp2_with (simp only [hov])
  go_region_law_o (refine step_copy_runI rfl _ _ 22 22 rfl _ _ (by simp [Act.eval, Act.put]) (by simp [Act.eval, Act.put]) (hcp1 _ _ _) ?_)
  go_wp2_with (at_builtin; refine wpList_copy_runI _ rfl _ _ 22 22 rfl _ _ rfl rfl (hcp2 _ _) ?_)
  go_ret
  exact ⟨rfl, _, rfl, by simp [hcl, hvl]⟩
set_option maxHeartbeats 4000000 in
set_option maxRecDepth 100000 in
theorem ins_grow (b off n c i vb voff m vc : Nat) (cs vs : List Value) (w : World) (i0 : TypeInfo) (zv : Value) (hi0 : Try.prog.info? 35 = some i0) (hz0 : i0.zero = some zv) (hzs : i0.size = 3) (hzc : zv.cells.size = 3) (hby : i0.bytes ≤ 65536)
    (hi : i < n) (hm : 0 < m) (hnc : n ≤ c) (hroom : c < n + m) (hbig : n + m ≤ 1073741824) (hbw : b < w.heap.size) (hvw : vb < w.heap.size)
    (hcl : cs.length = n * 3) (hvl : vs.length = m * 3)
    (hcs : ∀ j v, cs[j]? = some v → w.cell? ⟨b, off + j, none⟩ = some v)
    (hvs : ∀ j v, vs[j]? = some v → w.cell? ⟨vb, voff + j, none⟩ = some v) (h1c : ∀ v ∈ cs, v.oneCell' = true) (h1v : ∀ v ∈ vs, v.oneCell' = true) :
    Calls Try.prog 36 #[.slice (some ⟨b, off, none⟩) n c, .int .i64 i, .slice (some ⟨vb, voff, none⟩) m vc] w fun e w' =>
      ∃ G ROW X2 X3, n + m ≤ G ∧ G ≤ maxLen ∧ e = .returned (.slice (some ⟨w.heap.size, 0, none⟩) (n + m) G) ∧ ROW.toList.take (i * 3) = cs.take (i * 3) ∧ ROW.size = G * 3 ∧
        w' = ((w.drew.alloc (.cells ROW 35)).setRow w.heap.size X2).drew.setRow w.heap.size X3 ∧
        X2.toList = ROW.toList.take (i * 3) ++ vs ++ ROW.toList.drop (i * 3 + m * 3) ∧ X3.toList = X2.toList.take ((i + m) * 3) ++ cs.drop (i * 3) ++ X2.toList.drop ((i + m) * 3 + (n - i) * 3) := by
  have mixed : Try.prog.follows .mixedOrders = true := by kernel_rfl
  have hz : (Try.prog.info? 35).map (·.size) = some 3 := by rw [hi0]; simp [hzs]
  have hz1 : ¬ ((m : Int) = 0) := by omega
  have hz2 : ¬ ((i : Int) = (n : Int)) := by omega
  have hz3 : (c : Int) < (n : Int) + (m : Int) := by omega
  have hadd : ∀ (x y j : Nat), (⟨x, y, none⟩ : Addr).add j = ⟨x, y + j, none⟩ := fun x y j => by unfold Addr.add; split <;> simp_all
  have hkk : (n : Int) + (m : Int) - (i : Int) = ((n + m - i : Nat) : Int) := by omega
  have hik : i + (n + m - i) = n + m := by omega
  have hold : (Builtin.firstCells i0.size i (.slice (some ⟨b, off, none⟩) i c)).run Try.prog w.drew = .ok (cs.take (i * 3)).toArray w.drew := by
    rw [hzs]
    exact run_firstCells_some w.drew 3 i ⟨b, off, none⟩ i c (cs.take (i * 3)) (by rw [List.length_take]; omega) (fun j v hj => by
      rw [hadd]
      rw [List.getElem?_take] at hj
      split at hj
      · exact hcs j v hj
      · cases hj)
  have hrz : ∀ ty, (Builtin.append_ #[22, 3] ty #[.slice (some ⟨b, off, none⟩) i c, .int .i64 ((n : Int) + (m : Int) - (i : Int))]).run Try.prog w =
      .ok (.slice (some ⟨w.heap.size, 0, none⟩) (n + m) (grownCap w (n + m) c 35)) (w.drew.alloc (.cells ((cs.take (i * 3)).toArray ++ Builtin.zeroCells zv.cells (n + m - i) ++ Builtin.zeroCells zv.cells (grownCap w (n + m) c 35 - (n + m))) 35)) := fun ty => by
    have h := Lib.run_append_grow_zeros w 22 3 ty 35 i0 zv .i64 .i64 Try.underlying22 Try.underlying3 hi0 hz0 (some ⟨b, off, none⟩) i c (cs.take (i * 3)) hold (n + m - i) (by omega) (by omega) (by omega) (by omega)
      (by have : (n + m - i) * i0.bytes ≤ 1073741824 * 65536 := Nat.mul_le_mul (by omega) hby
          omega) (by rw [hik]; exact growslice_fits hroom (by
          have : (n + m) * i0.bytes ≤ 1073741824 * 65536 := Nat.mul_le_mul hbig hby
          omega))
    rw [hik] at h
    rw [hkk]
    exact h
  have hGn : n + m ≤ grownCap w (n + m) c 35 := grownCap_ge w _ _ _
  have hGm : grownCap w (n + m) c 35 ≤ maxLen := grownCap_le_maxLen w (n + m) c 35 (by unfold maxLen; omega)
  obtain ⟨G, hG⟩ : ∃ G, G = grownCap w (n + m) c 35 := ⟨_, rfl⟩
  rw [← hG] at hrz hGn hGm
  obtain ⟨ROW, hROW⟩ : ∃ ROW : Array Value, ROW = (cs.take (i * 3)).toArray ++ Builtin.zeroCells zv.cells (n + m - i) ++ Builtin.zeroCells zv.cells (G - (n + m)) := ⟨_, rfl⟩
  rw [← hROW] at hrz
  have hRs : ROW.size = G * 3 := by
    rw [hROW]
    simp only [Array.size_append, List.size_toArray, size_zeroCells, hzc, List.length_take, hcl]
    omega
  have hRt : ROW.toList.take (i * 3) = cs.take (i * 3) := by
    rw [hROW]
    simp only [Array.toList_append, List.append_assoc]
    rw [List.take_append_of_le_length (by simp; omega), List.take_of_length_le (by simp; omega)]
  obtain ⟨W1, hW1⟩ : ∃ W1, W1 = w.drew.alloc (.cells ROW 35) := ⟨_, rfl⟩
  rw [← hW1] at hrz
  have hg1 : W1.heap[w.heap.size]? = some (.cells ROW 35 (0, 0)) := by rw [hW1]; exact heap_alloc_new w.drew _
  have hold1 : ∀ x, x < w.heap.size → W1.heap[x]? = w.heap[x]? := fun x hx => by rw [hW1]; exact (World.grownBy_alloc w.drew _ none).block x hx (by simp)
  have hcpA : ∀ ty dc, (Builtin.copy_ #[22, 22] ty #[.slice (some ⟨w.heap.size, i * 3, none⟩) (n + m - i) dc, .slice (some ⟨vb, voff, none⟩) m vc]).run Try.prog W1 = _ := fun ty dc =>
    run_copy_raw (e := 35) (z := 3) Try.underlying22 hz hg1 (cs := vs) (by rw [hvl, show Nat.min m (n + m - i) = m from by simp only [Nat.min_def]; split <;> omega]) (fun j v hj => by
      rw [hadd]
      have := hvs j v hj
      unfold World.cell? at this ⊢
      simp only [hold1 vb hvw]
      exact this) (by omega) h1v
  obtain ⟨X2, hX2⟩ : ∃ X2, X2 = (ROW.toList.take (i * 3) ++ vs ++ ROW.toList.drop (i * 3 + vs.length)).toArray := ⟨_, rfl⟩
  rw [← hX2] at hcpA
  have hX2s : X2.size = G * 3 := by rw [hX2]; simp [hRs, hvl]; omega
  obtain ⟨W2, hW2⟩ : ∃ W2, W2 = W1.setRow w.heap.size X2 := ⟨_, rfl⟩
  rw [← hW2] at hcpA
  have hg2 : W2.drew.heap[w.heap.size]? = some (.cells X2 35 (0, 0)) := by rw [hW2]; exact setRow_heap W1 w.heap.size ROW _ 35 _ hg1
  have hcpB : ∀ ty dc sc, (Builtin.copy_ #[22, 22] ty #[.slice (some ⟨w.heap.size, (i + m) * 3, none⟩) (n + m - (i + m)) dc, .slice (some ⟨b, off + i * 3, none⟩) (n - i) sc]).run Try.prog W2.drew = _ := fun ty dc sc =>
    run_copy_raw (e := 35) (z := 3) Try.underlying22 hz hg2 (cs := cs.drop (i * 3)) (by rw [List.length_drop, hcl, show Nat.min (n - i) (n + m - (i + m)) = n - i from by simp only [Nat.min_def]; split <;> omega, Nat.sub_mul]) (fun j v hj => by
      rw [hadd]
      rw [List.getElem?_drop] at hj
      have := hcs _ v hj
      rw [← Nat.add_assoc] at this
      unfold World.cell? at this ⊢
      have hne : b ≠ w.heap.size := by omega
      have h2 : W2.drew.heap[b]? = w.heap[b]? := by rw [hW2]; exact (setRow_other W1 w.heap.size b _ hne).trans (hold1 b hbw)
      simp only [h2]
      exact this) (by rw [List.length_drop, hcl, hX2s]; have : (n + m) * 3 ≤ G * 3 := Nat.mul_le_mul_right 3 hGn
                      omega) (fun v hv => h1c v (List.mem_of_mem_drop hv))
  obtain ⟨X3, hX3⟩ : ∃ X3, X3 = (X2.toList.take ((i + m) * 3) ++ cs.drop (i * 3) ++ X2.toList.drop ((i + m) * 3 + (cs.drop (i * 3)).length)).toArray := ⟨_, rfl⟩
  rw [← hX3] at hcpB
  have hfin : ∃ (Y2 Y3 : Array Value), Y2 = X2 ∧ Y3 = X3 ∧ W2.drew.setRow w.heap.size X3 = ((w.drew.alloc (.cells ROW 35)).setRow w.heap.size Y2).drew.setRow w.heap.size Y3 ∧
      Y2.toList = ROW.toList.take (i * 3) ++ vs ++ ROW.toList.drop (i * 3 + m * 3) ∧ Y3.toList = Y2.toList.take ((i + m) * 3) ++ cs.drop (i * 3) ++ Y2.toList.drop ((i + m) * 3 + (n - i) * 3) :=
    ⟨X2, X3, rfl, rfl, by rw [hW2, hW1], by rw [hX2, hvl], by rw [hX3]; simp only [List.length_drop, hcl, Nat.sub_mul]⟩
  clear hX3 hX2 hW2 hW1 hROW hG hkk hik hold
  have hG63 : G ≤ 9223372036854775807 := by unfold maxLen at hGm; omega
  have hGi : ¬ (G = i) := by omega
  have hGim : ¬ (G = i + m) := by omega
  have hb1 : (0 : Int) ≤ (i : Int) + (m : Int) := by omega
  have htn : ((i : Int) + (m : Int)).toNat = i + m := by omega
  have hin : i ≤ n := by omega
  have hb3 : (i : Int) ≤ (n : Int) := by omega
  have hb4 : ¬ (c = i) := by omega
  have hw0 : IntKind.i64.wrap ((n : Int) + (m : Int)) = (n : Int) + (m : Int) := by rw [IntKind.wrap_i64]; omega
  have hw1 : IntKind.i64.wrap ((i : Int) + (m : Int)) = (i : Int) + (m : Int) := by rw [IntKind.wrap_i64]; omega
  have hw2 : IntKind.i64.wrap ((n : Int) + (m : Int) - (i : Int)) = (n : Int) + (m : Int) - (i : Int) := by rw [IntKind.wrap_i64]; omega
  go_enter Try.func36, Try.ntmps36
  go_wp2_with (first
    | (at_builtin; refine Lib.wpList_append_run _ rfl _ _ _ _ rfl _ _ rfl rfl _ _ (hrz _) ?_)
    | (at_builtin; refine wpList_copy_runI _ rfl _ _ 22 22 rfl _ _ rfl rfl (hcpA _ _) ?_))
  go_region_law_o (refine step_copy_runI rfl _ _ 22 22 rfl _ _ (by simp [Act.eval, Act.put]) (by simp [Act.eval, Act.put]) (hcpB _ _ _) ?_)
  go_wp2
  go_ret
  obtain ⟨Y2, Y3, rfl, rfl, e1, e2, e3⟩ := hfin
  exact ⟨G, ROW, Y2, Y3, hGn, hGm, rfl, hRt, hRs, e1, e2, e3⟩
set_option maxHeartbeats 4000000 in
set_option maxRecDepth 100000 in
theorem ins_end (base : Option Addr) (n c : Nat) (base2 : Option Addr) (m vc : Nat) (w w' : World) (v' : Value) (hm : 0 < m) (hnc : n ≤ c) (hb : base = none → c = 0)
    (hrun : (Builtin.append_ #[22, 22] 22 #[.slice base n c, .slice base2 m vc]).run Try.prog w = .ok v' w') :
    Calls Try.prog 36 #[.slice base n c, .int .i64 n, .slice base2 m vc] w fun e w2 => e = .returned v' ∧ w2 = w' := by
  have hz1 : ¬ ((m : Int) = 0) := by omega
  have hzn : n ≤ n := Nat.le_refl n
  go_enter Try.func36, Try.ntmps36
  cases base with
  | none =>
    have hc0 := hb rfl
    subst hc0
    have hn0 : n = 0 := by omega
    subst hn0
    go_wp2_with (at_builtin; refine Lib.wpList_append_run _ rfl _ _ _ _ rfl _ _ rfl rfl _ _ hrun ?_)
    go_ret
    exact ⟨rfl, rfl⟩
  | some a =>
    obtain ⟨ab, ao, asp⟩ := a
    go_wp2_with (at_builtin; refine Lib.wpList_append_run _ rfl _ _ _ _ rfl _ _ rfl rfl _ _ hrun ?_)
    all_goals (go_ret; exact ⟨rfl, rfl⟩)
def insertA (xs : List Account) (i : Int) (ys : List Account) : Option (List Account) :=
  if 0 ≤ i ∧ i ≤ xs.length ∧ 0 < ys.length ∧ xs.length + ys.length ≤ 1073741824 then some (xs.take i.toNat ++ ys ++ xs.drop i.toNat) else none
theorem sz35 : Enc.sz Account = 3 := rfl
theorem insertA_ok {k0 : K} {v0 v1 v2 : Value} {xs ys : List Account} {i : Int} {r : List Account} (i0 : IsOwn 0 35 xs v0 k0) (i1 : IsV i v1 k0) (i2 : IsOwn 0 35 ys v2 k0) (d02 : Apart (obF v0) (obF v2)) (hr : insertA xs i ys = some r) :
    Calls Try.prog 36 #[v0, v1, v2] k0.w (RetC (obF v0) k0 (fun v k => IsOwn 0 35 r v k ∧ Wr (obF v0) k0 (obF v))) := by
  obtain ⟨⟨h0, hin, hm, hbig⟩, rfl⟩ := of_ite hr
  rw [isV_int.1 i1]
  obtain ⟨I, rfl⟩ : ∃ I : Nat, i = (I : Int) := ⟨i.toNat, by omega⟩
  have hI : I ≤ xs.length := by omega
  rw [Int.toNat_natCast]
  obtain ⟨i0i, zv, hi0, hz0, hsz0, hzc, hpos, hby⟩ := eo35
  have hz : (Try.prog.info? 35).map (·.size) = some 3 := by rw [hi0]; simp [hsz0, sz35]
  have hrd := IsOwn.rd i2
  rcases i2 with ⟨_, rfl⟩ | ⟨_, _, rfl⟩ | ⟨vb, voff, vc, cur2, vs, rfl, _, hvo, hvh, hvc, hv0, hvm, hvs, hvcells, hvr⟩
  · simp at hm
  · simp at hm
  rcases Nat.lt_or_ge I xs.length with hlt | hge
  · rcases i0 with ⟨_, rfl⟩ | ⟨_, _, rfl⟩ | ⟨b, off, cap, cur, cs, rfl, _, ho, hh, hc, hc0, hcm, hcs, hcells, hrep⟩
    · simp at hlt
    · simp at hlt
    have hcl := hrep.len
    have hvl := hvr.len
    have hvbb : vb ≠ b := fun e => d02 b (by simp [obF, ob, Nat.ne_of_gt hc0]) (by simp [obF, ob, Nat.ne_of_gt hv0, e])
    have hbw : b < k0.w.heap.size := (Array.getElem?_eq_some_iff.1 hh).1
    have hvw : vb < k0.w.heap.size := (Array.getElem?_eq_some_iff.1 hvh).1
    have hcat : CellsAt k0.w ⟨b, off, none⟩ cs := by
      have := cellsAt_row (n := xs.length * Enc.sz Account) (off := off) hh (by have := Nat.mul_le_mul_right (Enc.sz Account) hc; omega)
      rwa [hcells] at this
    have hvat : CellsAt k0.w ⟨vb, voff, none⟩ vs := by
      have := cellsAt_row (n := ys.length * Enc.sz Account) (off := voff) hvh (by have := Nat.mul_le_mul_right (Enc.sz Account) hvc; omega)
      rwa [hvcells] at this
    have hadd : ∀ (x y j : Nat), (⟨x, y, none⟩ : Addr).add j = ⟨x, y + j, none⟩ := fun x y j => by unfold Addr.add; split <;> simp_all
    have hcc : ∀ j v, cs[j]? = some v → k0.w.cell? ⟨b, off + j, none⟩ = some v := fun j v hj => by rw [← hadd]; exact hcat.cell j v hj
    have hvv : ∀ j v, vs[j]? = some v → k0.w.cell? ⟨vb, voff + j, none⟩ = some v := fun j v hj => by rw [← hadd]; exact hvat.cell j v hj
    rw [sz35] at hcl hvl hcs hvs hcells hvcells
    have hnew : RepL k0 (cs.take (I * 3) ++ vs ++ cs.drop (I * 3)) (xs.take I ++ ys ++ xs.drop I) := ((RepL.take I hrep).append hvr).append (RepL.drop I hrep)
    have hlen : (xs.take I ++ ys ++ xs.drop I).length = xs.length + ys.length := by simp; omega
    by_cases hroom : xs.length + ys.length ≤ cap
    · have hov : ∀ lb cb, (callFunc 37 #[.slice (some ⟨vb, voff, none⟩) ys.length vc, .slice (some ⟨b, off + (I + ys.length) * 3, none⟩) lb cb]).run Try.prog k0.w = .ok (.value (.bool false)) k0.w := fun lb cb => by
        rw [run_callFunc_extern (P := Try.prog) (f := 37) rfl (by kernel_rfl) (by kernel_rfl) (by kernel_rfl) (e := Extern.SlicesOverlaps.overlaps #[22, 22] #[4]) (by kernel_rfl),
          Lib.run_overlaps_apart k0.w 22 4 35 Try.underlying22 3 (fun w => Go.Gb.run_sizeOf hz) ⟨vb, voff, none⟩ ⟨b, off + (I + ys.length) * 3, none⟩ ys.length vc lb cb hvbb 35 35 cur2.size cur.size
            (by simp [World.shape?, hvh]) (by simp [World.shape?, hh]) (by omega) (by simp [World.frozen?, hvh]) (by simp [World.frozen?, hvh])]
        rfl
      refine Calls.mono (ins_shift b off xs.length cap I vb voff ys.length vc 35 cur (cs.drop (I * 3)) vs k0.w hz hlt hm hroom (by unfold maxLen at hcm; omega) hvbb hh hcs (by rw [List.length_drop, hcl, Nat.sub_mul]) hvl
        (fun j v hj => by rw [List.getElem?_drop] at hj; rw [Nat.add_assoc]; exact hcc _ v hj) hvv (fun u hu => hrep.one u (List.mem_of_mem_drop hu)) hvr.one hov) fun e w' he => ?_
      obtain ⟨rfl, X3, hw', hX3⟩ := he
      have hblk : ∀ x, x ≠ b → w'.heap[x]? = k0.w.heap[x]? := fun x hx => by
        rw [hw']
        exact (setRow_other _ _ _ _ hx).trans (setRow_other k0.w.drew _ _ _ hx)
      have hsz : w'.heap.size = k0.w.heap.size := by rw [hw']; simp
      have hrow : w'.heap[b]? = some (.cells X3 35 (0, 0)) := by
        rw [hw']
        exact setRow_heap _ _ _ X3 35 _ (setRow_heap k0.w.drew _ cur _ 35 _ hh)
      have hcul : cur.toList.length = cur.size := by simp
      have hX3t : (X3.toList.drop off).take ((xs.length + ys.length) * 3) = cs.take (I * 3) ++ vs ++ cs.drop (I * 3) := by
        have hA : (cur.toList.take (off + (I + ys.length) * 3) ++ cs.drop (I * 3) ++ cur.toList.drop (off + (I + ys.length) * 3 + (cs.drop (I * 3)).length)).take (off + I * 3) = cur.toList.take (off + I * 3) := by
          rw [List.append_assoc, List.take_append_of_le_length (by simp only [List.length_take, hcul]; omega), List.take_take, Nat.min_eq_left (by omega)]
        have hB : (cur.toList.take (off + (I + ys.length) * 3) ++ cs.drop (I * 3) ++ cur.toList.drop (off + (I + ys.length) * 3 + (cs.drop (I * 3)).length)).drop (off + I * 3 + vs.length) =
            cs.drop (I * 3) ++ cur.toList.drop (off + (I + ys.length) * 3 + (cs.drop (I * 3)).length) := by
          rw [List.append_assoc]
          exact List.drop_left' (by simp only [List.length_take, hcul, hvl]; omega)
        rw [hX3, hA, hB, List.append_assoc, List.drop_append_of_le_length (by simp only [List.length_take, hcul]; omega), List.drop_take, Nat.add_sub_cancel_left]
        have hC : (cur.toList.drop off).take (I * 3) = cs.take (I * 3) := by
          rw [← hcells, List.take_take, Nat.min_eq_left (by omega)]
        rw [hC, ← List.append_assoc, ← List.append_assoc]
        exact List.take_left' (by simp only [List.length_append, List.length_take, List.length_drop, hcl, hvl]; omega)
      have hX3l : X3.size = cur.size := by
        have : X3.toList.length = cur.size := by rw [hX3]; simp only [List.length_append, List.length_take, List.length_drop, hcul, hcl, hvl]; omega
        simpa using this
      let k' : K := ⟨w', k0.sh, fun x hx => by have := k0.lt x hx; omega⟩
      have hle : Le k0 k' := ⟨fun x hx => hblk x (fun e => ho (e ▸ hx)), fun x hx => hx⟩
      refine ⟨k', rfl, ⟨by rw [show k'.w = w' from rfl, hw']; rfl, by rw [show k'.w = w' from rfl, hw']; rfl, by rw [show k'.w = w' from rfl, hw']; rfl, by show _ ≤ w'.heap.size; omega, fun x hx hF => hblk x (fun e => hF (by simp [obF, ob, Nat.ne_of_gt hc0, e])), fun _ h => h, fun _ _ h => .inl h, ?_⟩, .inr (.inr ⟨b, off, cap, X3, _, by rw [hlen], Nat.zero_le _, ho, hrow, by rw [hlen]; exact hroom, hc0, hcm, ?_, rfl, ?_⟩), ?_⟩
      · show k0.w.drawn ≤ w'.drawn
        rw [hw']
        exact Nat.le_succ _
      · rw [sz35, hX3l]; exact hcs
      · rw [hlen, sz35, hX3t]
        exact hnew.mono hle
      · intro x hx
        refine .inl ?_
        simp only [obF, ob] at hx ⊢
        exact hx
    · refine Calls.mono (ins_grow b off xs.length cap I vb voff ys.length vc cs vs k0.w i0i zv hi0 hz0 (by rw [hsz0]; rfl) (by rw [hzc]; rfl) hby hlt hm hc (by omega) hbig hbw hvw hcl hvl hcc hvv hrep.one hvr.one) fun e w' he => ?_
      obtain ⟨G, ROW, X2, X3, hG, hGm, rfl, hRt, hRs, hw', hX2, hX3⟩ := he
      have hsz : w'.heap.size = k0.w.heap.size + 1 := by rw [hw']; simp
      have hblk : ∀ x, x < k0.w.heap.size → w'.heap[x]? = k0.w.heap[x]? := fun x hx => by
        rw [hw']
        exact ((setRow_other _ _ _ _ (by omega)).trans (setRow_other (k0.w.drew.alloc (.cells ROW 35)) _ _ _ (by omega))).trans ((World.grownBy_alloc k0.w.drew _ none).block x hx (by simp))
      have hrow : w'.heap[k0.w.heap.size]? = some (.cells X3 35 (0, 0)) := by
        rw [hw']
        exact setRow_heap _ _ X2 _ 35 _ (setRow_heap (k0.w.drew.alloc (.cells ROW 35)) _ ROW X2 35 _ (heap_alloc_new k0.w.drew _))
      have hRl : ROW.toList.length = G * 3 := by simpa using hRs
      have hX2l : X2.toList.length = G * 3 := by rw [hX2]; simp only [List.length_append, List.length_take, List.length_drop, hRl, hvl]; omega
      have hX2t : X2.toList.take ((I + ys.length) * 3) = cs.take (I * 3) ++ vs := by
        rw [hX2, hRt]
        exact List.take_left' (by simp only [List.length_append, List.length_take, hcl, hvl]; omega)
      have hX3t : X3.toList.take ((xs.length + ys.length) * 3) = cs.take (I * 3) ++ vs ++ cs.drop (I * 3) := by
        rw [hX3, hX2t]
        exact List.take_left' (by simp only [List.length_append, List.length_take, List.length_drop, hcl, hvl]; omega)
      have hX3l : X3.size = G * 3 := by
        have : X3.toList.length = G * 3 := by rw [hX3]; simp only [List.length_append, List.length_take, List.length_drop, hX2l, hcl]; omega
        simpa using this
      let k' : K := ⟨w', k0.sh, fun x hx => by have := k0.lt x hx; omega⟩
      have hle : Le k0 k' := ⟨fun x hx => hblk x (k0.lt x hx), fun x hx => hx⟩
      refine ⟨k', rfl, ⟨by rw [show k'.w = w' from rfl, hw']; rfl, by rw [show k'.w = w' from rfl, hw']; rfl, by rw [show k'.w = w' from rfl, hw']; rfl, by show _ ≤ w'.heap.size; omega, fun x hx _ => hblk x hx, fun _ h => h, fun _ _ h => .inl h, ?_⟩, .inr (.inr ⟨k0.w.heap.size, 0, G, X3, _, by rw [hlen], Nat.zero_le _, fun hs => Nat.lt_irrefl _ (k0.lt _ hs), hrow, by rw [hlen]; exact hG, by omega, hGm, ?_, rfl, ?_⟩), ?_⟩
      · show k0.w.drawn ≤ w'.drawn
        rw [hw']
        exact Nat.le_trans (Nat.le_succ _) (Nat.le_succ _)
      · rw [sz35, hX3l]; omega
      · rw [hlen, sz35, List.drop_zero, hX3t]
        exact hnew.mono hle
      · intro x hx
        refine .inr ?_
        simp only [obF, ob] at hx
        split at hx
        · simp at hx
        · simp at hx; omega
  · have hIe : I = xs.length := by omega
    subst hIe
    obtain ⟨v', k', hrun, hg, hown, hob⟩ := run_append (P := Try.prog) (t := 22) (ty := 22) (e := 35) (B := 0) Try.underlying22 ⟨i0i, zv, hi0, hz0, hsz0, hzc, hpos, hby⟩ (Nat.zero_le _) i0 hrd (show appI xs ys = some (xs ++ ys) from if_pos hbig)
    have hv0s : ∃ base c, v0 = .slice base xs.length c ∧ xs.length ≤ c ∧ (base = none → c = 0) := by
      rcases i0 with ⟨rfl, rfl⟩ | ⟨ad, rfl, rfl⟩ | ⟨b, off, cap, cur, cs, rfl, _, _, _, hc, _⟩
      · exact ⟨none, 0, rfl, Nat.le_refl _, fun _ => rfl⟩
      · exact ⟨some ad, 0, rfl, Nat.le_refl _, fun _ => rfl⟩
      · exact ⟨_, cap, rfl, hc, fun h => by simp at h⟩
    obtain ⟨base, c, rfl, hnc, hb0⟩ := hv0s
    refine Calls.mono (ins_end base xs.length c _ ys.length vc k0.w k'.w v' hm hnc hb0 hrun) fun e w' he => ?_
    obtain ⟨rfl, rfl⟩ := he
    refine ⟨k', rfl, hg.chg, ?_, fun x hx => ?_⟩
    · simpa using hown
    · exact (hob x hx).imp id id
end

abbrev PM := GMap Int (List (Int × Int))
def PM.at (m : PM) (n : Int) : List (Int × Int) := (getK m.l n).getD []
abbrev kI : Int → Value := KeyV.kv
theorem zero29 : ∀ w, (zeroValue 29).run Try.prog w = .ok nilS w := fun w => Try.zeroValue29 w

def cPut (m : PM) (lot origin n : Int) : Option PM :=
  if (n == 0) then some m else
  (if (decide (0 < ((m.at lot).length : Int))) then
    (subI ((m.at lot).length : Int) 1).bind fun x1 =>
    (getI (m.at lot) x1).bind fun x2 =>
    some (x2.1 == origin)
  else some false).bind fun x3 =>
  if x3 then
    (subI ((m.at lot).length : Int) 1).bind fun x4 =>
    (getI (m.at lot) x4).bind fun x5 =>
    (addI x5.2 n).bind fun x6 =>
    (getI (m.at lot) x4).bind fun x7 =>
    some ⟨backK m.l lot ((m.at lot).set x4.toNat (x7.1, x6))⟩
  else
    (appI (m.at lot) [(origin, n)]).bind fun x8 =>
    some ⟨setK m.l lot x8⟩

theorem retT {R : FP → Pred} {F G : FP} {k0 k : K} {u : Value} {fn : Func} {a : Act} (hr : fn.results = #[]) (hd : a.defers = []) (hg : Chg F k0 k) (h : R G u k) (hG : ∀ c, G c → F c ∨ k0.w.heap.size ≤ c) :
    bodyPost Try.prog fn (RetC F k0 (fun _ => Turned R u k0 F)) .ret a k.w :=
  ⟨hd, .tuple #[], by simp [results, hr], k, rfl, hg, G, h, hG⟩

theorem cPut_ok {k0 : K} {F0 : FP} {v0 v1 v2 v3 : Value} {m : PM} {lot origin n_ : Int} {r : PM} (i0 : SlR kI 37 m.l F0 v0 k0) (i1 : (IsV lot) v1 k0) (i2 : (IsV origin) v2 k0) (i3 : (IsV n_) v3 k0) (hr : cPut m lot origin n_ = some r) :
    Calls Try.prog 26 #[v0, v1, v2, v3] k0.w (RetC F0 k0 (fun _ => Turned (SlR kI 37 r.l) v0 k0 F0)) := by
  unfold cPut at hr
  refine enterK Try.func26 rfl Try.ntmps26 (show 4 ≤ 49 by decide) fun a k hk0 hs hd ha => ?_
  obtain ⟨e0, e1, e2, e3, _⟩ := ha
  replace i0 : SlR kI 37 m.l F0 v0 k := by rw [hk0]; exact i0
  replace i1 : (IsV lot) (a.get 1) k := by rw [e1, hk0]; exact i1
  replace i2 : (IsV origin) (a.get 2) k := by rw [e2, hk0]; exact i2
  replace i3 : (IsV n_) (a.get 3) k := by rw [e3, hk0]; exact i3
  have hQ : Gb.LetsOut (bodyPost Try.prog Try.f26 (RetC F0 k0 (fun _ => Turned (SlR kI 37 r.l) v0 k0 F0))) := letsOutC
  have hg : Chg F0 k0 k := by rw [hk0]; exact Chg.refl _ k0
  obtain ⟨bm, u8, G8, hv, hH, i8, hA, hF⟩ := i0.focus lot
  have hGs : Wr F0 k0 G8 := fun c hc => .inl (hF c (.inl hc))
  have n8 : Wr F0 k0 (obF u8) := fun c hc => .inl (hF c (.inr hc))
  have e8 := e0
  rw [hv] at e0
  replace i8 : IsOwn 0 37 (m.at lot) u8 k := i8
  generalize hl : m.at lot = l_ at hr i8
  refine wp_seq ?_
  refine cut (fun a' k' => Chg F0 k0 k' ∧ a'.tmps.size = 49 ∧ a'.defers = [] ∧ a'.get 0 = .map (some bm) ∧ SlR kI 37 m.l F0 v0 k' ∧ HoleR kI 37 m.l lot bm u8 G8 v0 k' ∧ (IsV lot) (a'.get 1) k' ∧ (IsV origin) (a'.get 2) k' ∧ (IsV n_) (a'.get 3) k' ∧ a'.get 8 = u8 ∧ IsOwn 0 37 l_ u8 k' ∧ True) ?_ hQ ?_
  · intro Q1 hQ1 hp
    refine regionS (a0 := a) (k0 := k) (n := 49) (m := 4) (⟨some (Is (.map (some bm))), [(0, none)]⟩ :: ⟨some (IsV lot), [(1, none)]⟩ :: ⟨some (Is u8), [(9, some 0), (10, some 1)]⟩ :: ⟨some (Is u8), [(11, some 2)]⟩ :: []) hs (by kernel_rfl)
      ⟨⟨inferInstance, fun b q hk hn => ok_move rfl (show b.get 0 = _ from hn.1.trans e0), rfl⟩, ⟨inferInstance, fun b q hk hn => ok_move rfl (up i1 hk hn.1), rfl⟩,
       ⟨inferInstance, fun b q hk hn => ok_lookupH rfl key3 Try.underlying49 zero29 hn.1 (isV_int.1 hn.2.1) (Rsc.grow hH hk), rfl⟩, ⟨inferInstance, fun b q hk hn => ok_assign rfl hn.1, rfl⟩, trivial⟩ hQ1 fun b q p => ?_
    exact tail_done (k := q) (hp _ _ ⟨hg.then p.grow, p.size.trans hs, p.defers.trans hd, (p.old 0 rfl).trans e0, Rsc.grow i0 p.grow, Rsc.grow hH p.grow, keep p 1 rfl i1, keep p 2 rfl i2, keep p 3 rfl i3, out p 3 8 _ rfl rfl rfl, Mono.mono p.grow i8, trivial⟩)
  · clear i0 hH i1 i2 i3 i8 hg hs hd e0 e1 e2 e3 e8
    rintro a k ⟨hg, hs, hd, e0, i0, hH, i1, i2, i3, e8, i8, _⟩
    replace i8 : IsOwn 0 37 l_ (a.get 8) k := by rw [e8]; exact i8
    refine wp_block ?_
    refine wp_seq ?_
    refine cut (fun a' k' => Chg F0 k0 k' ∧ a'.tmps.size = 49 ∧ a'.defers = [] ∧ a'.get 0 = .map (some bm) ∧ SlR kI 37 m.l F0 v0 k' ∧ HoleR kI 37 m.l lot bm u8 G8 v0 k' ∧ (IsV lot) (a'.get 1) k' ∧ (IsV origin) (a'.get 2) k' ∧ (IsV n_) (a'.get 3) k' ∧ a'.get 8 = u8 ∧ IsOwn 0 37 l_ (a'.get 8) k' ∧ (IsV (n_ == 0)) (a'.get 20) k' ∧ True) ?_ hQ ?_
    · intro Q22 hQQ22 hp
      refine regionS (a0 := a) (k0 := k) (n := 49) (m := 3) (⟨some (IsV n_), [(3, none)]⟩ :: ⟨some (IsV (n_ == 0)), [(21, some 0)]⟩ :: ⟨some (IsV (n_ == 0)), [(22, some 1)]⟩ :: []) hs (by kernel_rfl) ⟨⟨inferInstance, fun b q hk hn => ok_move rfl (up i3 hk hn.1), rfl⟩, ⟨inferInstance, fun b q hk hn => ok_eqI rfl hn.1 (isV_int.2 rfl), rfl⟩, ⟨inferInstance, fun b q hk hn => ok_assign rfl hn.1, rfl⟩, trivial⟩ hQQ22 fun b q p => ?_
      exact tail_done (k := q) (hp _ _ ⟨hg.then p.grow, p.size.trans hs, p.defers.trans hd, (p.old 0 rfl).trans e0, Rsc.grow i0 p.grow, Rsc.grow hH p.grow, keep p 1 rfl i1, keep p 2 rfl i2, keep p 3 rfl i3, (p.old 8 rfl).trans e8, keep p 8 rfl i8, out p 2 20 _ rfl rfl rfl, trivial⟩)
    · clear i0 hH i1 i2 i3 i8 hg hs hd e0 e8
      rintro a k ⟨hg, hs, hd, e0, i0, hH, i1, i2, i3, e8, i8, i20, _⟩
      refine wp_cond_split (isBool i20) (fun hc20 => ?_) (fun hc20 => ?_)
      · rw [if_pos hc20] at hr
        refine wp_skip ?_
        obtain rfl := Option.some.inj hr
        exact retT (R := SlR kI 37 m.l) rfl hd hg i0 (fun c hc => .inl hc)
      · rw [if_neg (by rw [hc20]; decide)] at hr
        clear i0
        refine wp_seq ?_
        obtain ⟨x3, hx3, hr⟩ := bind_some hr
        refine cut (fun a' k' => Chg F0 k0 k' ∧ a'.tmps.size = 49 ∧ a'.defers = [] ∧ a'.get 0 = .map (some bm) ∧ HoleR kI 37 m.l lot bm u8 G8 v0 k' ∧ (IsV lot) (a'.get 1) k' ∧ (IsV origin) (a'.get 2) k' ∧ (IsV n_) (a'.get 3) k' ∧ a'.get 8 = u8 ∧ IsOwn 0 37 l_ (a'.get 8) k' ∧ (IsV x3) (a'.get 23) k' ∧ True) ?_ hQ ?_
        · intro Q15 hQQ15 hp
          rcases Bool.eq_false_or_eq_true (decide (0 < (l_.length : Int))) with hm17 | hm17
          · have ht18 := hx3
            rw [if_pos hm17] at ht18
            obtain ⟨x4_7, hx4_7, ht18⟩ := bind_some ht18
            obtain ⟨x4_8, hx4_8, ht18⟩ := bind_some ht18
            refine regionS (a0 := a) (k0 := k) (n := 49) (m := 15) (⟨some (OwnAt (a.get 8) 0 37 l_), [(8, none)]⟩ :: ⟨some (IsV (α := Int) (l_.length : Int)), [(24, some 0)]⟩ :: ⟨some (IsV (decide (0 < (l_.length : Int)))), [(25, some 1)]⟩ :: ⟨some (IsV (decide (0 < (l_.length : Int)))), [(26, some 2)]⟩ :: ⟨some (OwnAt (a.get 8) 0 37 l_), [(8, none)]⟩ :: ⟨some (OwnAt (a.get 8) 0 37 l_), [(8, none)]⟩ :: ⟨some (IsV (α := Int) (l_.length : Int)), [(29, some 5)]⟩ :: ⟨some (IsV x4_7), [(30, some 6)]⟩ :: ⟨some (IsPtr x4_8), [(28, some 4), (31, some 7)]⟩ :: ⟨some (IsPtr x4_8.1), [(32, some 8)]⟩ :: ⟨some (IsV x4_8.1), [(33, some 9)]⟩ :: ⟨some (IsV origin), [(2, none)]⟩ :: ⟨some (IsV (x4_8.1 == origin)), [(34, some 10), (35, some 11)]⟩ :: ⟨some (IsV x3), [(27, some 3), (36, some 12)]⟩ :: ⟨some (IsV x3), [(37, some 13)]⟩ :: []) hs (by kernel_rfl) ⟨⟨inferInstance, fun b q hk hn => ok_moveOA (.inl rfl) ⟨hn.1, up i8 hk hn.1⟩, rfl⟩, ⟨inferInstance, fun b q hk hn => ok_len rfl rfl Try.underlying29 (IsOwn.rd (hn.1).2), rfl⟩, ⟨inferInstance, fun b q hk hn => ok_gtr rfl hn.1 (isV_int.2 rfl), rfl⟩, ⟨inferInstance, fun b q hk hn => ok_move rfl hn.1, rfl⟩, ⟨inferInstance, fun b q hk hn => ok_moveOA (.inl rfl) ⟨hn.1, up i8 hk hn.1⟩, guardT hm17⟩, ⟨inferInstance, fun b q hk hn => ok_moveOA (.inl rfl) ⟨hn.1, up i8 hk hn.1⟩, guardT hm17⟩, ⟨inferInstance, fun b q hk hn => ok_len rfl rfl Try.underlying29 (IsOwn.rd (hn.1).2), guardT hm17⟩, ⟨inferInstance, fun b q hk hn => ok_sub rfl hn.1 (isV_int.2 rfl) hx4_7, guardT hm17⟩, ⟨inferInstance, fun b q hk hn => ok_indexAddr rfl Try.underlying29 ty37 (IsOwn.rd (hn.1).2) hn.2.1 hx4_8, guardT hm17⟩, ⟨inferInstance, fun b q hk hn => ok_arrAddr (i := 0) rfl ao37 (by decide) (aat37_0 _) hn.1 (isV_int.2 rfl), guardT hm17⟩, ⟨inferInstance, fun b q hk hn => ok_load rfl ty3 hn.1, guardT hm17⟩, ⟨inferInstance, fun b q hk hn => ok_move rfl (up i2 hk hn.1), guardT hm17⟩, ⟨inferInstance, fun b q hk hn => ok_eqI rfl hn.1 hn.2.1, guardT hm17⟩, ⟨inferInstance, fun b q hk hn => ok_cast (Option.some.inj ht18) (ok_pick_t rfl hn.1 hm17 hn.2.1), rfl⟩, ⟨inferInstance, fun b q hk hn => ok_assign rfl hn.1, rfl⟩, trivial⟩ hQQ15 fun b q p => ?_
            exact tail_done (k := q) (hp _ _ ⟨hg.then p.grow, p.size.trans hs, p.defers.trans hd, (p.old 0 rfl).trans e0, Rsc.grow hH p.grow, keep p 1 rfl i1, keep p 2 rfl i2, keep p 3 rfl i3, (p.old 8 rfl).trans e8, keep p 8 rfl i8, out p 14 23 _ rfl rfl rfl, trivial⟩)
          · have ht18 := hx3
            rw [if_neg (by rw [hm17]; decide)] at ht18
            refine regionS (a0 := a) (k0 := k) (n := 49) (m := 15) (⟨some (OwnAt (a.get 8) 0 37 l_), [(8, none)]⟩ :: ⟨some (IsV (α := Int) (l_.length : Int)), [(24, some 0)]⟩ :: ⟨some (IsV (decide (0 < (l_.length : Int)))), [(25, some 1)]⟩ :: ⟨some (IsV (decide (0 < (l_.length : Int)))), [(26, some 2)]⟩ :: ⟨none, []⟩ :: ⟨none, []⟩ :: ⟨none, []⟩ :: ⟨none, []⟩ :: ⟨none, []⟩ :: ⟨none, []⟩ :: ⟨none, []⟩ :: ⟨none, []⟩ :: ⟨none, []⟩ :: ⟨some (IsV x3), [(27, some 3), (36, some 12)]⟩ :: ⟨some (IsV x3), [(37, some 13)]⟩ :: []) hs (by kernel_rfl) ⟨⟨inferInstance, fun b q hk hn => ok_moveOA (.inl rfl) ⟨hn.1, up i8 hk hn.1⟩, rfl⟩, ⟨inferInstance, fun b q hk hn => ok_len rfl rfl Try.underlying29 (IsOwn.rd (hn.1).2), rfl⟩, ⟨inferInstance, fun b q hk hn => ok_gtr rfl hn.1 (isV_int.2 rfl), rfl⟩, ⟨inferInstance, fun b q hk hn => ok_move rfl hn.1, rfl⟩, guardF hm17, guardF hm17, guardF hm17, guardF hm17, guardF hm17, guardF hm17, guardF hm17, guardF hm17, guardF hm17, ⟨inferInstance, fun b q hk hn => ok_cast (Option.some.inj ht18) (ok_pick_f rfl hn.1 hm17 (isV_bool.2 rfl)), rfl⟩, ⟨inferInstance, fun b q hk hn => ok_assign rfl hn.1, rfl⟩, trivial⟩ hQQ15 fun b q p => ?_
            exact tail_done (k := q) (hp _ _ ⟨hg.then p.grow, p.size.trans hs, p.defers.trans hd, (p.old 0 rfl).trans e0, Rsc.grow hH p.grow, keep p 1 rfl i1, keep p 2 rfl i2, keep p 3 rfl i3, (p.old 8 rfl).trans e8, keep p 8 rfl i8, out p 14 23 _ rfl rfl rfl, trivial⟩)
        · clear hH i1 i2 i3 i8 hg hs hd e0 e8 i20
          rintro a k ⟨hg, hs, hd, e0, hH, i1, i2, i3, e8, i8, i23, _⟩
          have n8' : Wr F0 k0 (obF (a.get 8)) := by rw [e8]; exact n8
          refine wp_cond_split (isBool i23) (fun hc13 => ?_) (fun hc13 => ?_)
          · rw [if_pos hc13] at hr
            obtain ⟨x7_3, hx7_3, hr⟩ := bind_some hr
            obtain ⟨x7_4, hx7_4, hr⟩ := bind_some hr
            obtain ⟨x7_8, hx7_8, hr⟩ := bind_some hr
            obtain ⟨x7_9, hx7_9, hr⟩ := bind_some hr
            obtain rfl := Option.some.inj hr
            refine region (a0 := a) (k0 := k) (n := 49) (m := 11) (⟨some (OwnAt (a.get 8) 0 37 l_), [(8, none)]⟩ :: ⟨some (OwnAt (a.get 8) 0 37 l_), [(8, none)]⟩ :: ⟨some (IsV (α := Int) (l_.length : Int)), [(39, some 1)]⟩ :: ⟨some (IsV x7_3), [(40, some 2)]⟩ :: ⟨some (IsPtr x7_4), [(38, some 0), (41, some 3)]⟩ :: ⟨some (IsPtr x7_4.2), [(42, some 4)]⟩ :: ⟨some (IsV x7_4.2), [(43, some 5)]⟩ :: ⟨some (IsV n_), [(3, none)]⟩ :: ⟨some (IsV x7_8), [(44, some 6), (45, some 7)]⟩ :: ⟨some (IsAdrO (a.get 8) ((x7_3).toNat * Enc.sz (Int × Int))), [(38, some 0), (41, some 3)]⟩ :: ⟨some (IsAdrO (a.get 8) ((x7_3).toNat * Enc.sz (Int × Int) + 1 * Enc.sz Int)), [(47, some 9)]⟩ :: []) hmix hs (by kernel_rfl) ⟨⟨inferInstance, fun b q hk hn => ok_moveOA (.inl rfl) ⟨hn.1, up i8 hk hn.1⟩, rfl⟩, ⟨inferInstance, fun b q hk hn => ok_moveOA (.inl rfl) ⟨hn.1, up i8 hk hn.1⟩, rfl⟩, ⟨inferInstance, fun b q hk hn => ok_len rfl rfl Try.underlying29 (IsOwn.rd (hn.1).2), rfl⟩, ⟨inferInstance, fun b q hk hn => ok_sub rfl hn.1 (isV_int.2 rfl) hx7_3, rfl⟩, ⟨inferInstance, fun b q hk hn => ok_indexAddr rfl Try.underlying29 ty37 (IsOwn.rd (hn.1).2) hn.2.1 hx7_4, rfl⟩, ⟨inferInstance, fun b q hk hn => ok_arrAddr (i := 1) rfl ao37 (by decide) (aat37_1 _) hn.1 (isV_int.2 rfl), rfl⟩, ⟨inferInstance, fun b q hk hn => ok_load rfl ty3 hn.1, rfl⟩, ⟨inferInstance, fun b q hk hn => ok_move rfl (up i3 hk hn.1), rfl⟩, ⟨inferInstance, fun b q hk hn => ok_add rfl hn.1 hn.2.1 hx7_8, rfl⟩, ⟨inferInstance, fun b q hk hn => ok_indexO rfl Try.underlying29 ty37 hn.1 hn.2.1 hx7_9, rfl⟩, ⟨inferInstance, fun b q hk hn => ok_arrAdrO (i := 1) rfl ao37 (by decide) hn.1 (isV_int.2 rfl), rfl⟩, trivial⟩ hQ fun b q p => ?_
            have hgq := hg.then p.grow
            have hdb := p.defers.trans hd
            have j8 := keep p 8 rfl i8
            have y8 : Wr F0 k0 (obF (b.get 8)) := by rw [p.old 8 rfl]; exact n8'
            have j46 : (IsV x7_8) (b.get 46) q := out p 8 46 _ rfl rfl rfl
            have j48 : IsAdrO (a.get 8) ((x7_3).toNat * Enc.sz (Int × Int) + 1 * Enc.sz Int) (b.get 48) q := out p 10 48 _ rfl rfl rfl
            have eo : b.get 8 = a.get 8 := p.old 8 rfl
            have hns := j8.nshF
            have hHq := Rsc.grow hH p.grow
            refine tail_storeS (i := 11) (u := b.get 8) (m := (x7_3).toNat) (off := 0 + 1 * Enc.sz Int) rfl rfl rfl rfl szf3 upd_I37_1 (by rw [eo]; exact j48) j8 (getI_spec hx7_9).2.1 j46 fun q2 hch hz => ?_
            have e8b : b.get 8 = u8 := eo.trans e8
            rw [e8b] at hz hch hns y8
            have hH2 := Rsc.keep hHq hch hA hns
            obtain ⟨G, hS, hG⟩ := hH2.close hz hA
            exact tail_done (k := q2) (retT (R := SlR kI 37 _) rfl hdb (hgq.step hch y8) hS (fun c hc => .inl (hF c (hG c hc))))
          · rw [if_neg (by rw [hc13]; decide)] at hr
            obtain ⟨x10_7, hx10_7, hr⟩ := bind_some hr
            obtain rfl := Option.some.inj hr
            refine regionS (a0 := a) (k0 := k) (n := 49) (m := 7) (⟨some (Is (.map (some bm))), [(0, none)]⟩ :: ⟨some (IsV lot), [(1, none)]⟩ :: ⟨some (OwnAt (a.get 8) 0 37 l_), [(8, none)]⟩ :: ⟨some (IsV origin), [(2, none)]⟩ :: ⟨some (IsV n_), [(3, none)]⟩ :: ⟨some (IsV ((origin, n_) : (Int × Int))), [(15, some 3), (16, some 4)]⟩ :: ⟨some (IsV ([((origin, n_) : (Int × Int))])), [(17, some 5)]⟩ :: []) hs (by kernel_rfl) ⟨⟨inferInstance, fun b q hk hn => ok_move rfl (show b.get 0 = _ from hn.1.trans e0), rfl⟩, ⟨inferInstance, fun b q hk hn => ok_move rfl (up i1 hk hn.1), rfl⟩, ⟨inferInstance, fun b q hk hn => ok_moveOA (.inl rfl) ⟨hn.1, up i8 hk hn.1⟩, rfl⟩, ⟨inferInstance, fun b q hk hn => ok_move rfl (up i2 hk hn.1), rfl⟩, ⟨inferInstance, fun b q hk hn => ok_move rfl (up i3 hk hn.1), rfl⟩, ⟨inferInstance, fun b q hk hn => ok_build rfl (bld37_0_1 hn.1 hn.2.1), rfl⟩, ⟨inferInstance, fun b q hk hn => ok_buildSlice rfl Try.underlying29 eo37 rfl (by decide) (by decide) ⟨rfl, hn.1, trivial⟩, rfl⟩, trivial⟩ hQ fun b q p => ?_
            have hgq := hg.then p.grow
            have hsb := p.size.trans hs
            have hdb := p.defers.trans hd
            have e14 : b.get 14 = a.get 8 := (out p 2 14 _ rfl rfl rfl).1
            have j14 : IsOwn 0 37 l_ (b.get 14) q := (out p 2 14 _ rfl rfl rfl).2
            have y14 : Wr F0 k0 (obF (b.get 14)) := by rw [e14]; exact n8'
            have j12 : b.get 12 = .map (some bm) := out p 0 12 _ rfl rfl rfl
            have j13 : (IsV lot) (b.get 13) q := out p 1 13 _ rfl rfl rfl
            have j18 : (IsV ([((origin, n_) : (Int × Int))])) (b.get 18) q := out p 6 18 _ rfl rfl rfl
            have hns := j14.nshF
            have hHq := Rsc.grow hH p.grow
            have hA14 : Apart G8 (obF (b.get 14)) := by rw [e14, e8]; exact hA
            have hsub14 : ∀ c, obF (b.get 14) c → F0 c := fun c hc => by rw [e14, e8] at hc; exact hF c (.inr hc)
            refine tail_appendS (i := 7) (d := 19) rfl rfl rfl rfl (by rw [hsb]; decide) (e := 37) Try.underlying29 eo37 j14 (IsV.rd j18) hx10_7 fun b2 q2 hsz hdf hoth hch hown hob => ?_
            have hH2 := Rsc.keep hHq hch hA14 hns
            have hA2 : Apart G8 (obF (b2.get 19)) := Apart.app hA14 (Rsc.lt hHq) hob
            have hgq2 := hgq.step hch y14
            refine tail_putK (i := 8) (w := b2.get 19) rfl rfl rfl rfl key3 Try.underlying49 ((hoth 12 (by decide)).trans j12) (by rw [show b2.eval (.tmp 13) = b2.get 13 from rfl, hoth 13 (by decide)]; exact isV_int.1 j13) rfl hH2 hown hA2 fun q3 hch3 hS => ?_
            refine tail_done (k := q3) (retT (R := SlR kI 37 _) rfl (hdf.trans hdb) (hgq2.step hch3 hGs) hS ?_)
            intro c hc
            rcases hc with hc | hc
            · exact .inl (hF c (.inl hc))
            · rcases hob c hc with h | h
              · exact .inl (hsub14 c h)
              · exact .inr (Nat.le_trans hgq.size h)

def cTake_L (frm to : Int) (s : Int × PM) : Option (Flow (Int × PM) Unit) :=
  if (decide (0 < s.1)) then
    (getI (s.2.at frm) 0).bind fun x1 =>
    (if (min s.1 x1.2 == x1.2) then
      (sliceI (s.2.at frm) 1 ((s.2.at frm).length : Int)).bind fun x2 =>
      some ⟨setK s.2.l frm x2⟩
    else
      (getI (s.2.at frm) 0).bind fun x3 =>
      (subI x3.2 (min s.1 x1.2)).bind fun x4 =>
      some ⟨backK s.2.l frm ((s.2.at frm).set (0 : Int).toNat (x3.1, x4))⟩).bind fun (m1 : PM) =>
    (cPut m1 to x1.1 (min s.1 x1.2)).bind fun m2 =>
    (subI s.1 (min s.1 x1.2)).bind fun x5 =>
    some (.go (x5, m2))
  else some (.ex 0 s)
def cTake (m : PM) (frm to n : Int) : Option PM :=
  (iterL (cTake_L frm to) ((m.at frm).length + 2) (n, m)).bind fun f => match f with
  | .go _ => none
  | .ex _ s => some s.2
  | .ret _ => none

theorem cTake_ok {k0 : K} {F0 : FP} {v0 v1 v2 v3 : Value} {m : PM} {frm to n_ : Int} {r : PM} (i0 : SlR kI 37 m.l F0 v0 k0) (i1 : (IsV frm) v1 k0) (i2 : (IsV to) v2 k0) (i3 : (IsV n_) v3 k0) (hr : cTake m frm to n_ = some r) :
    Calls Try.prog 27 #[v0, v1, v2, v3] k0.w (RetC F0 k0 (fun _ => Turned (SlR kI 37 r.l) v0 k0 F0)) := by
  unfold cTake at hr
  refine enterK Try.func27 rfl Try.ntmps27 (show 4 ≤ 50 by decide) fun a k hk0 hs hd ha => ?_
  obtain ⟨e0, e1, e2, e3, _⟩ := ha
  have hX : Turned (SlR kI 37 m.l) v0 k0 F0 k := ⟨F0, by rw [hk0]; exact i0, fun c hc => .inl hc⟩
  replace i1 : (IsV frm) (a.get 1) k := by rw [e1, hk0]; exact i1
  replace i2 : (IsV to) (a.get 2) k := by rw [e2, hk0]; exact i2
  replace i3 : (IsV n_) (a.get 3) k := by rw [e3, hk0]; exact i3
  have hQ : Gb.LetsOut (bodyPost Try.prog Try.f27 (RetC F0 k0 (fun _ => Turned (SlR kI 37 r.l) v0 k0 F0))) := letsOutC
  have hg : Chg F0 k0 k := by rw [hk0]; exact Chg.refl _ k0
  obtain ⟨bm, u8, G8, hv, hH, i8, hA, hF⟩ := i0.focus frm
  rw [hv] at e0
  clear i0 u8 G8 hH i8 hA hF
  refine wp_block ?_
  obtain ⟨f1, hf1, hr⟩ := bind_some hr
  refine cutF f1 (fun s' a' k' => Chg F0 k0 k' ∧ a'.tmps.size = 50 ∧ a'.defers = [] ∧ a'.get 0 = .map (some bm) ∧ Turned (SlR kI 37 s'.2.l) v0 k0 F0 k' ∧ (IsV frm) (a'.get 1) k' ∧ (IsV to) (a'.get 2) k' ∧ (IsV s'.1) (a'.get 3) k') (fun i' s' a' k' => (i' = 0 ∧ Chg F0 k0 k' ∧ a'.defers = [] ∧ Turned (SlR kI 37 s'.2.l) v0 k0 F0 k')) (fun r' a' k' => False) ?_ hQ ?_ ?_ ?_
  · intro Q5 hQQ5 hgo hex hret
    refine sim_loop ?_ _ _ _ _ _ hf1 ⟨hg, hs, hd, e0, hX, i1, i2, i3⟩ Q5 hQQ5 hgo hex hret
    clear hr hf1 hgo hex hret hQQ5 hQ hd hg hs hX e0 i1 i2 i3 e1 e2 e3
    intro s fl_ a k hr hS Q hQ hgo hex hret
    obtain ⟨hg, hs, hd, e0, hX, i1, i2, i3⟩ := hS
    obtain ⟨n, m⟩ := s
    unfold cTake_L at hr
    simp only at hr i3 hX
    refine wp_seq ?_
    refine wp_seq ?_
    refine cut (fun a' k' => Chg F0 k0 k' ∧ a'.tmps.size = 50 ∧ a'.defers = [] ∧ a'.get 0 = .map (some bm) ∧ Turned (SlR kI 37 m.l) v0 k0 F0 k' ∧ (IsV frm) (a'.get 1) k' ∧ (IsV to) (a'.get 2) k' ∧ (IsV n) (a'.get 3) k' ∧ (IsV (decide (0 < n))) (a'.get 11) k') ?_ hQ ?_
    · intro Q1 hQ1 hp
      obtain ⟨G, hS, hG⟩ := hX
      refine regionS (a0 := a) (k0 := k) (n := 50) (m := 2) (⟨some (IsV n), [(3, none)]⟩ :: ⟨some (IsV (decide (0 < n))), [(10, some 0)]⟩ :: []) hs (by kernel_rfl)
        ⟨⟨inferInstance, fun b q hk hn => ok_move rfl (up i3 hk hn.1), rfl⟩, ⟨inferInstance, fun b q hk hn => ok_gtr rfl hn.1 (isV_int.2 rfl), rfl⟩, trivial⟩ hQ1 fun b q p => ?_
      exact tail_done (k := q) (hp _ _ ⟨hg.then p.grow, p.size.trans hs, p.defers.trans hd, (p.old 0 rfl).trans e0, ⟨G, Rsc.grow hS p.grow, hG⟩, keep p 1 rfl i1, keep p 2 rfl i2, keep p 3 rfl i3, out p 1 11 _ rfl rfl rfl⟩)
    · clear hg hs hd e0 hX i1 i2 i3
      rintro a k ⟨hg, hs, hd, e0, hX, i1, i2, i3, i11⟩
      refine wp_cond_split (isBool i11) (fun hc => ?_) (fun hc => ?_)
      · rw [if_pos hc] at hr
        refine wp_skip ?_
        refine wp_block ?_
        obtain ⟨x1, hx1, hr⟩ := bind_some hr
        refine wp_seq ?_
        refine cut (fun a' k' => Chg F0 k0 k' ∧ a'.tmps.size = 50 ∧ a'.defers = [] ∧ a'.get 0 = .map (some bm) ∧ Turned (SlR kI 37 m.l) v0 k0 F0 k' ∧ (IsV frm) (a'.get 1) k' ∧ (IsV to) (a'.get 2) k' ∧ (IsV n) (a'.get 3) k' ∧ IsRef x1 (a'.get 8) k') ?_ hQ ?_
        · intro Q1 hQ1 hp
          obtain ⟨G, hS, hG⟩ := hX
          obtain ⟨bm', u8, G8, hv', hH, i8, hA, hF⟩ := hS.focus frm
          obtain rfl : bm = bm' := by rw [hv] at hv'; simpa using hv'
          replace i8 : IsOwn 0 37 (m.at frm) u8 k := i8
          refine regionS (a0 := a) (k0 := k) (n := 50) (m := 6) (⟨some (Is (.map (some bm))), [(0, none)]⟩ :: ⟨some (IsV frm), [(1, none)]⟩ :: ⟨some (Is u8), [(12, some 0), (13, some 1)]⟩ :: ⟨some (IsPtr x1), [(14, some 2)]⟩ :: ⟨some (IsV x1), [(15, some 3)]⟩ :: ⟨some (IsBox k.w.heap.size ((0, 0) : Int × Int)), []⟩ :: []) hs (by kernel_rfl)
            ⟨⟨inferInstance, fun b q hk hn => ok_move rfl (show b.get 0 = _ from hn.1.trans e0), rfl⟩, ⟨inferInstance, fun b q hk hn => ok_move rfl (up i1 hk hn.1), rfl⟩,
             ⟨inferInstance, fun b q hk hn => ok_lookupH rfl key3 Try.underlying49 zero29 hn.1 (isV_int.1 hn.2.1) (Rsc.grow hH hk), rfl⟩,
             ⟨inferInstance, fun b q hk hn => ok_indexAddr rfl Try.underlying29 ty37 (by rw [show b.eval (.tmp 14) = u8 from hn.1]; exact (Mono.mono hk i8 : IsOwn 0 37 _ u8 q).rd) (isV_int.2 rfl) hx1, rfl⟩,
             ⟨inferInstance, fun b q hk hn => ok_load rfl ty37 hn.1, rfl⟩, ⟨inferInstance, fun b q hk hn => ok_alloc _ hk.size rfl z37, rfl⟩, trivial⟩ hQ1 fun b q p => ?_
          obtain ⟨b8, j8, x8, z8⟩ : IsBox k.w.heap.size ((0, 0) : Int × Int) (b.get 8) q := out p 5 8 _ rfl rfl rfl
          have j16 : IsV x1 (b.get 16) q := out p 4 16 _ rfl rfl rfl
          have hgq := hg.then p.grow
          have hdb := p.defers.trans hd
          have j0 := (p.old 0 rfl).trans e0
          have j1 := keep p 1 rfl i1
          have j2 := keep p 2 rfl i2
          have j3 := keep p 3 rfl i3
          have hSq := Rsc.grow hS p.grow
          have hns := z8.nshF
          have hlo : Lo k (Eq b8) := Lo.eq x8
          have hap : Apart G (Eq b8) := Apart.new (Rsc.lt hS) hlo
          refine tail_storeB (i := 6) rfl rfl rfl rfl szf37 (Upd.self (α := Int × Int)) j8 z8 j16 fun q2 hch hz => ?_
          have hSq2 := Rsc.keep hSq hch hap hns
          obtain ⟨q3, hsh, jn⟩ := hz.give
          have hgq2 := (hgq.step hch (hlo.chg hg).wr).hand hsh (hlo.chg hg).wr
          have hle := hch.le hns
          rw [← hsh.w]
          exact tail_done (k := q3) (hp _ _ ⟨hgq2, p.size.trans hs, hdb, j0, ⟨G, Rsc.handed hSq2 hsh hap, hG⟩, Pers.pers hsh.le (Pers.pers hle j1), Pers.pers hsh.le (Pers.pers hle j2), Pers.pers hsh.le (Pers.pers hle j3), by rw [j8]; exact jn⟩)
        · clear hg hs hd e0 hX i1 i2 i3 i11
          rintro a k ⟨hg, hs, hd, e0, hX, i1, i2, i3, i8⟩
          refine wp_seq ?_
          refine cut (fun a' k' => Chg F0 k0 k' ∧ a'.tmps.size = 50 ∧ a'.defers = [] ∧ a'.get 0 = .map (some bm) ∧ Turned (SlR kI 37 m.l) v0 k0 F0 k' ∧ (IsV frm) (a'.get 1) k' ∧ (IsV to) (a'.get 2) k' ∧ (IsV n) (a'.get 3) k' ∧ IsRef x1 (a'.get 8) k' ∧ IsV (min n x1.2) (a'.get 9) k') ?_ hQ ?_
          · intro Q1 hQ1 hp
            obtain ⟨G, hS, hG⟩ := hX
            refine regionS (a0 := a) (k0 := k) (n := 50) (m := 5) (⟨some (IsV n), [(3, none)]⟩ :: ⟨some (IsPtr x1.2), [(8, none)]⟩ :: ⟨some (IsV x1.2), [(18, some 1)]⟩ :: ⟨some (IsV (min n x1.2)), [(17, some 0), (19, some 2)]⟩ :: ⟨some (IsV (min n x1.2)), [(20, some 3)]⟩ :: []) hs (by kernel_rfl)
              ⟨⟨inferInstance, fun b q hk hn => ok_move rfl (up i3 hk hn.1), rfl⟩, ⟨inferInstance, fun b q hk hn => ok_arrAddr (i := 1) rfl ao37 (by decide) (aat37_1 _) (up i8 hk hn.1).ptr (isV_int.2 rfl), rfl⟩,
               ⟨inferInstance, fun b q hk hn => ok_load rfl ty3 hn.1, rfl⟩, ⟨inferInstance, fun b q hk hn => ok_min2 rfl hn.1 hn.2.1, rfl⟩, ⟨inferInstance, fun b q hk hn => ok_assign rfl hn.1, rfl⟩, trivial⟩ hQ1 fun b q p => ?_
            exact tail_done (k := q) (hp _ _ ⟨hg.then p.grow, p.size.trans hs, p.defers.trans hd, (p.old 0 rfl).trans e0, ⟨G, Rsc.grow hS p.grow, hG⟩, keep p 1 rfl i1, keep p 2 rfl i2, keep p 3 rfl i3, keep p 8 rfl i8, out p 4 9 _ rfl rfl rfl⟩)
          · clear hg hs hd e0 hX i1 i2 i3 i8
            rintro a k ⟨hg, hs, hd, e0, hX, i1, i2, i3, i8, i9⟩
            generalize min n x1.2 = kk at hr i9
            refine wp_seq ?_
            refine wp_seq ?_
            refine cut (fun a' k' => Chg F0 k0 k' ∧ a'.tmps.size = 50 ∧ a'.defers = [] ∧ a'.get 0 = .map (some bm) ∧ Turned (SlR kI 37 m.l) v0 k0 F0 k' ∧ (IsV frm) (a'.get 1) k' ∧ (IsV to) (a'.get 2) k' ∧ (IsV n) (a'.get 3) k' ∧ IsRef x1 (a'.get 8) k' ∧ IsV kk (a'.get 9) k' ∧ IsV (kk == x1.2) (a'.get 24) k') ?_ hQ ?_
            · intro Q1 hQ1 hp
              obtain ⟨G, hS, hG⟩ := hX
              refine regionS (a0 := a) (k0 := k) (n := 50) (m := 4) (⟨some (IsV kk), [(9, none)]⟩ :: ⟨some (IsPtr x1.2), [(8, none)]⟩ :: ⟨some (IsV x1.2), [(22, some 1)]⟩ :: ⟨some (IsV (kk == x1.2)), [(21, some 0), (23, some 2)]⟩ :: []) hs (by kernel_rfl)
                ⟨⟨inferInstance, fun b q hk hn => ok_move rfl (up i9 hk hn.1), rfl⟩, ⟨inferInstance, fun b q hk hn => ok_arrAddr (i := 1) rfl ao37 (by decide) (aat37_1 _) (up i8 hk hn.1).ptr (isV_int.2 rfl), rfl⟩,
                 ⟨inferInstance, fun b q hk hn => ok_load rfl ty3 hn.1, rfl⟩, ⟨inferInstance, fun b q hk hn => ok_eqI rfl hn.1 hn.2.1, rfl⟩, trivial⟩ hQ1 fun b q p => ?_
              exact tail_done (k := q) (hp _ _ ⟨hg.then p.grow, p.size.trans hs, p.defers.trans hd, (p.old 0 rfl).trans e0, ⟨G, Rsc.grow hS p.grow, hG⟩, keep p 1 rfl i1, keep p 2 rfl i2, keep p 3 rfl i3, keep p 8 rfl i8, keep p 9 rfl i9, out p 3 24 _ rfl rfl rfl⟩)
            · clear hg hs hd e0 hX i1 i2 i3 i8 i9
              rintro a k ⟨hg, hs, hd, e0, hX, i1, i2, i3, i8, i9, i24⟩
              obtain ⟨m1, hm1, hr⟩ := bind_some hr
              refine cut (fun a' k' => Chg F0 k0 k' ∧ a'.tmps.size = 50 ∧ a'.defers = [] ∧ a'.get 0 = .map (some bm) ∧ Turned (SlR kI 37 m1.l) v0 k0 F0 k' ∧ (IsV frm) (a'.get 1) k' ∧ (IsV to) (a'.get 2) k' ∧ (IsV n) (a'.get 3) k' ∧ IsRef x1 (a'.get 8) k' ∧ IsV kk (a'.get 9) k') ?_ hQ ?_
              · intro Q1 hQ1 hp
                obtain ⟨G, hS, hG⟩ := hX
                obtain ⟨bm', u8, G8, hv', hH, j8, hA, hF⟩ := hS.focus frm
                obtain rfl : bm = bm' := by rw [hv] at hv'; simpa using hv'
                replace j8 : IsOwn 0 37 (m.at frm) u8 k := j8
                have hGs : Wr F0 k0 G8 := fun c hc => hG c (hF c (.inl hc))
                have n8 : Wr F0 k0 (obF u8) := fun c hc => hG c (hF c (.inr hc))
                refine wp_cond_split (isBool i24) (fun hc2 => ?_) (fun hc2 => ?_)
                · rw [if_pos hc2] at hm1
                  obtain ⟨x2, hx2, hm1⟩ := bind_some hm1
                  obtain rfl := Option.some.inj hm1
                  refine regionS (a0 := a) (k0 := k) (n := 50) (m := 6) (⟨some (Is (.map (some bm))), [(0, none)]⟩ :: ⟨some (IsV frm), [(1, none)]⟩ :: ⟨some (Is (.map (some bm))), [(0, none)]⟩ :: ⟨some (IsV frm), [(1, none)]⟩ :: ⟨some (OwnAt u8 0 37 (m.at frm)), [(27, some 2), (28, some 3)]⟩ :: ⟨some (OwnSub u8 0 37 x2), [(29, some 4)]⟩ :: []) hs (by kernel_rfl)
                    ⟨⟨inferInstance, fun b q hk hn => ok_move rfl (show b.get 0 = _ from hn.1.trans e0), rfl⟩, ⟨inferInstance, fun b q hk hn => ok_move rfl (up i1 hk hn.1), rfl⟩,
                     ⟨inferInstance, fun b q hk hn => ok_move rfl (show b.get 0 = _ from hn.1.trans e0), rfl⟩, ⟨inferInstance, fun b q hk hn => ok_move rfl (up i1 hk hn.1), rfl⟩,
                     ⟨inferInstance, fun b q hk hn => does_imp (ok_lookupH rfl key3 Try.underlying49 zero29 hn.1 (isV_int.1 hn.2.1) (Rsc.grow hH hk)) (fun v k2 hg2 hv2 => ⟨hv2, by rw [show v = u8 from hv2]; exact Mono.mono (hk.trans hg2) j8⟩), rfl⟩,
                     ⟨inferInstance, fun b q hk hn => ok_sliceO_lo rfl Try.underlying29 szf37 hn.1 (isV_int.2 rfl) hx2, rfl⟩, trivial⟩ hQ1 fun b q p => ?_
                  obtain ⟨j30, s30⟩ : OwnSub u8 0 37 x2 (b.get 30) q := out p 5 30 _ rfl rfl rfl
                  have j25 : b.get 25 = .map (some bm) := out p 0 25 _ rfl rfl rfl
                  have j26 : IsV frm (b.get 26) q := out p 1 26 _ rfl rfl rfl
                  have hgq := hg.then p.grow
                  have hHq := Rsc.grow hH p.grow
                  have l1 := keep p 1 rfl i1
                  have l2 := keep p 2 rfl i2
                  have l3 := keep p 3 rfl i3
                  have l8 := keep p 8 rfl i8
                  have l9 := keep p 9 rfl i9
                  refine tail_putK (i := 6) (w := b.get 30) rfl rfl rfl rfl key3 Try.underlying49 j25 (isV_int.1 j26) rfl hHq j30 (fun c hc h => hA c hc (s30 c h)) fun q3 hch3 hS3 => ?_
                  have hle := hch3.le (Rsc.nsh hHq)
                  exact tail_done (k := q3) (hp _ _ ⟨hgq.step hch3 hGs, p.size.trans hs, p.defers.trans hd, (p.old 0 rfl).trans e0, ⟨_, hS3, fun c hc => hc.elim (fun h => hGs c h) (fun h => n8 c (s30 c h))⟩, Pers.pers hle l1, Pers.pers hle l2, Pers.pers hle l3, Pers.pers hle l8, Pers.pers hle l9⟩)
                · rw [if_neg (by rw [hc2]; decide)] at hm1
                  obtain ⟨x3, hx3, hm1⟩ := bind_some hm1
                  obtain ⟨x4, hx4, hm1⟩ := bind_some hm1
                  obtain rfl := Option.some.inj hm1
                  refine region (a0 := a) (k0 := k) (n := 50) (m := 10) (⟨some (Is (.map (some bm))), [(0, none)]⟩ :: ⟨some (IsV frm), [(1, none)]⟩ :: ⟨some (OwnAt u8 0 37 (m.at frm)), [(31, some 0), (32, some 1)]⟩ :: ⟨some (IsPtr x3), [(33, some 2)]⟩ :: ⟨some (IsPtr x3.2), [(34, some 3)]⟩ :: ⟨some (IsV x3.2), [(35, some 4)]⟩ :: ⟨some (IsV kk), [(9, none)]⟩ :: ⟨some (IsV x4), [(36, some 5), (37, some 6)]⟩ ::
                      ⟨some (IsAdrO u8 ((0 : Int).toNat * Enc.sz (Int × Int))), [(33, some 2)]⟩ :: ⟨some (IsAdrO u8 ((0 : Int).toNat * Enc.sz (Int × Int) + 1 * Enc.sz Int)), [(39, some 8)]⟩ :: []) hmix hs (by kernel_rfl)
                    ⟨⟨inferInstance, fun b q hk hn => ok_move rfl (show b.get 0 = _ from hn.1.trans e0), rfl⟩, ⟨inferInstance, fun b q hk hn => ok_move rfl (up i1 hk hn.1), rfl⟩,
                     ⟨inferInstance, fun b q hk hn => does_imp (ok_lookupH rfl key3 Try.underlying49 zero29 hn.1 (isV_int.1 hn.2.1) (Rsc.grow hH hk)) (fun v k2 hg2 hv2 => ⟨hv2, by rw [show v = u8 from hv2]; exact Mono.mono (hk.trans hg2) j8⟩), rfl⟩,
                     ⟨inferInstance, fun b q hk hn => ok_indexAddr rfl Try.underlying29 ty37 (IsOwn.rd (hn.1).2) (isV_int.2 rfl) hx3, rfl⟩,
                     ⟨inferInstance, fun b q hk hn => ok_arrAddr (i := 1) rfl ao37 (by decide) (aat37_1 _) hn.1 (isV_int.2 rfl), rfl⟩,
                     ⟨inferInstance, fun b q hk hn => ok_load rfl ty3 hn.1, rfl⟩, ⟨inferInstance, fun b q hk hn => ok_move rfl (up i9 hk hn.1), rfl⟩, ⟨inferInstance, fun b q hk hn => ok_sub rfl hn.1 hn.2.1 hx4, rfl⟩,
                     ⟨inferInstance, fun b q hk hn => ok_indexO rfl Try.underlying29 ty37 hn.1 (isV_int.2 rfl) hx3, rfl⟩, ⟨inferInstance, fun b q hk hn => ok_arrAdrO (i := 1) rfl ao37 (by decide) hn.1 (isV_int.2 rfl), rfl⟩, trivial⟩ hQ1 fun b q p => ?_
                  have j38 : (IsV x4) (b.get 38) q := out p 7 38 _ rfl rfl rfl
                  have j40 : IsAdrO u8 ((0 : Int).toNat * Enc.sz (Int × Int) + 1 * Enc.sz Int) (b.get 40) q := out p 9 40 _ rfl rfl rfl
                  have hgq := hg.then p.grow
                  have hHq := Rsc.grow hH p.grow
                  have l1 := keep p 1 rfl i1
                  have l2 := keep p 2 rfl i2
                  have l3 := keep p 3 rfl i3
                  have l8 := keep p 8 rfl i8
                  have l9 := keep p 9 rfl i9
                  have j8q : IsOwn 0 37 (m.at frm) u8 q := Mono.mono p.grow j8
                  have hns := j8q.nshF
                  refine tail_storeS (i := 10) (u := u8) (m := (0 : Int).toNat) (off := 0 + 1 * Enc.sz Int) rfl rfl rfl rfl szf3 upd_I37_1 j40 j8q (getI_spec hx3).2.1 j38 fun q2 hch hz => ?_
                  have hle := hch.le hns
                  have hH2 := Rsc.keep hHq hch hA hns
                  obtain ⟨G', hS', hG'⟩ := hH2.close hz hA
                  exact tail_done (k := q2) (hp _ _ ⟨hgq.step hch n8, p.size.trans hs, p.defers.trans hd, (p.old 0 rfl).trans e0, ⟨G', hS', fun c hc => hG c (hF c (hG' c hc))⟩, Pers.pers hle l1, Pers.pers hle l2, Pers.pers hle l3, Pers.pers hle l8, Pers.pers hle l9⟩)
              · clear hg hs hd e0 hX i1 i2 i3 i8 i9 i24
                rintro a k ⟨hg, hs, hd, e0, hX, i1, i2, i3, i8, i9⟩
                obtain ⟨m2, hm2, hr⟩ := bind_some hr
                refine wp_seq ?_
                refine cut (fun a' k' => Chg F0 k0 k' ∧ a'.tmps.size = 50 ∧ a'.defers = [] ∧ a'.get 0 = .map (some bm) ∧ Turned (SlR kI 37 m2.l) v0 k0 F0 k' ∧ (IsV frm) (a'.get 1) k' ∧ (IsV to) (a'.get 2) k' ∧ (IsV n) (a'.get 3) k' ∧ IsV kk (a'.get 9) k') ?_ hQ ?_
                · intro Q1 hQ1 hp
                  obtain ⟨G, hS, hG⟩ := hX
                  refine regionS (a0 := a) (k0 := k) (n := 50) (m := 5) (⟨some (Is (.map (some bm))), [(0, none)]⟩ :: ⟨some (IsV to), [(2, none)]⟩ :: ⟨some (IsPtr x1.1), [(8, none)]⟩ :: ⟨some (IsV x1.1), [(43, some 2)]⟩ :: ⟨some (IsV kk), [(9, none)]⟩ :: []) hs (by kernel_rfl)
                    ⟨⟨inferInstance, fun b q hk hn => ok_move rfl (show b.get 0 = _ from hn.1.trans e0), rfl⟩, ⟨inferInstance, fun b q hk hn => ok_move rfl (up i2 hk hn.1), rfl⟩,
                     ⟨inferInstance, fun b q hk hn => ok_arrAddr (i := 0) rfl ao37 (by decide) (aat37_0 _) (up i8 hk hn.1).ptr (isV_int.2 rfl), rfl⟩, ⟨inferInstance, fun b q hk hn => ok_load rfl ty3 hn.1, rfl⟩,
                     ⟨inferInstance, fun b q hk hn => ok_move rfl (up i9 hk hn.1), rfl⟩, trivial⟩ hQ1 fun b q p => ?_
                  have j41 : b.get 41 = .map (some bm) := out p 0 41 _ rfl rfl rfl
                  have j42 : IsV to (b.get 42) q := out p 1 42 _ rfl rfl rfl
                  have j44 : IsV x1.1 (b.get 44) q := out p 3 44 _ rfl rfl rfl
                  have j45 : IsV kk (b.get 45) q := out p 4 45 _ rfl rfl rfl
                  have hgq := hg.then p.grow
                  have hsb := p.size.trans hs
                  have hSq := Rsc.grow hS p.grow
                  have hns := Rsc.nsh hSq
                  have l1 := keep p 1 rfl i1
                  have l2 := keep p 2 rfl i2
                  have l3 := keep p 3 rfl i3
                  have l9 := keep p 9 rfl i9
                  have e41 : b.get 41 = v0 := j41.trans hv.symm
                  refine tail_call (F := G) (i := 5) (d := 46) (R := fun _ => Turned (SlR kI 37 m2.l) v0 q G) rfl rfl rfl rfl (by rw [hsb]; decide) Try.call26 hQ1 ?_ fun b2 q2 hsz hdf hoth hch hres => ?_
                  · have := cPut_ok (k0 := q) hSq j42 j44 j45 hm2
                    rw [← e41] at this ⊢
                    exact this
                  · have hle := hch.le hns
                    obtain ⟨G2, hS2, hG2⟩ := hres
                    refine tail_done (k := q2) (hp _ _ ⟨hgq.step hch hG, hsz.trans hsb, hdf.trans (p.defers.trans hd), (hoth 0 (by decide)).trans ((p.old 0 rfl).trans e0), ⟨G2, hS2, fun c hc => (hG2 c hc).elim (hG c) (fun h => .inr (Nat.le_trans hgq.size h))⟩, ?_, ?_, ?_, ?_⟩)
                    · rw [hoth 1 (by decide)]; exact Pers.pers hle l1
                    · rw [hoth 2 (by decide)]; exact Pers.pers hle l2
                    · rw [hoth 3 (by decide)]; exact Pers.pers hle l3
                    · rw [hoth 9 (by decide)]; exact Pers.pers hle l9
                · clear hg hs hd e0 hX i1 i2 i3 i8 i9
                  rintro a k ⟨hg, hs, hd, e0, hX, i1, i2, i3, i9⟩
                  obtain ⟨x5, hx5, hr⟩ := bind_some hr
                  obtain ⟨G, hS, hG⟩ := hX
                  refine regionS (a0 := a) (k0 := k) (n := 50) (m := 4) (⟨some (IsV n), [(3, none)]⟩ :: ⟨some (IsV kk), [(9, none)]⟩ :: ⟨some (IsV x5), [(47, some 0), (48, some 1)]⟩ :: ⟨some (IsV x5), [(49, some 2)]⟩ :: []) hs (by kernel_rfl)
                    ⟨⟨inferInstance, fun b q hk hn => ok_move rfl (up i3 hk hn.1), rfl⟩, ⟨inferInstance, fun b q hk hn => ok_move rfl (up i9 hk hn.1), rfl⟩, ⟨inferInstance, fun b q hk hn => ok_sub rfl hn.1 hn.2.1 hx5, rfl⟩, ⟨inferInstance, fun b q hk hn => ok_assign rfl hn.1, rfl⟩, trivial⟩ hQ fun b q p => ?_
                  exact tail_done (k := q) (hgo _ _ _ (Option.some.inj hr).symm ⟨hg.then p.grow, p.size.trans hs, p.defers.trans hd, (p.old 0 rfl).trans e0, ⟨G, Rsc.grow hS p.grow, hG⟩, keep p 1 rfl i1, keep p 2 rfl i2, out p 3 3 _ rfl rfl rfl⟩)
      · rw [if_neg (by rw [hc]; decide)] at hr
        refine wp_exit ?_
        exact hex _ _ _ _ (Option.some.inj hr).symm ⟨rfl, hg, hd, hX⟩
  · rintro _ _ _ rfl _
    simp at hr
  · clear hf1
    rintro _ s a k rfl ⟨rfl, hg, hd, hX⟩
    dsimp only at hr
    obtain rfl := Option.some.inj hr
    obtain ⟨G, hS, hG⟩ := hX
    exact inBlock_exit (retT (R := SlR kI 37 s.2.l) rfl hd hg hS hG)
  · rintro _ _ _ _ h
    exact h.elim

def within (n_ : Int) (lo : Int) (hi_ : Int) : Option (Bool) :=
  some ((decide (lo ≤ n_)) && (decide (n_ ≤ hi_)))
theorem within_ok {k0 : K} {v0 v1 v2 : Value} {n_ : Int} {lo : Int} {hi_ : Int} {r : Bool} (i0 : (IsV n_) v0 k0) (i1 : (IsV lo) v1 k0) (i2 : (IsV hi_) v2 k0) (hr : within n_ lo hi_ = some r) :
    Calls Try.prog 31 #[v0, v1, v2] k0.w (Ret k0 (IsV r)) := by
  unfold within at hr
  refine Ret.ofC ?_
  refine enterK Try.func31 rfl Try.ntmps31 (show 3 ≤ 15 by decide) fun a k hk0 hs hd ha => ?_
  obtain ⟨e0, e1, e2, _⟩ := ha
  replace i0 : (IsV n_) (a.get 0) k := by rw [e0, hk0]; exact i0
  replace i1 : (IsV lo) (a.get 1) k := by rw [e1, hk0]; exact i1
  replace i2 : (IsV hi_) (a.get 2) k := by rw [e2, hk0]; exact i2
  have hQ : Gb.LetsOut (bodyPost Try.prog Try.f31 (RetC noF k0 (IsV r))) := letsOutC
  have hg : Chg noF k0 k := by rw [hk0]; exact Chg.refl _ k0
  refine wp_seq ?_
  refine cut (fun a' k' => Chg noF k0 k' ∧ a'.tmps.size = 15 ∧ a'.defers = [] ∧ (IsV n_) (a'.get 0) k' ∧ (IsV lo) (a'.get 1) k' ∧ (IsV hi_) (a'.get 2) k' ∧ True) ?_ hQ ?_
  · intro Q8 hQQ8 hp9
    refine regionS (a0 := a) (k0 := k) (n := 15) (m := 1) (⟨some (IsV false), []⟩ :: []) hs (by kernel_rfl) ⟨⟨inferInstance, fun b q hk hn => ok_assign rfl (isV_bool.2 rfl), rfl⟩, trivial⟩ hQQ8 fun b q p => ?_
    have hgq := hg.then p.grow
    have hsb := p.size.trans hs
    have hdb := p.defers.trans hd
    have j0 := keep p 0 rfl i0
    have j1 := keep p 1 rfl i1
    have j2 := keep p 2 rfl i2
    exact tail_done (k := q) (hp9 _ _ ⟨hgq, hsb, hdb, j0, j1, j2, trivial⟩)
  · rintro a k ⟨hg, hs, hd, i0, i1, i2, _⟩
    refine wp_seq ?_
    refine cut (fun a' k' => Chg noF k0 k' ∧ a'.tmps.size = 15 ∧ a'.defers = [] ∧ (IsV ((decide (lo ≤ n_)) && (decide (n_ ≤ hi_)))) (a'.get 6) k' ∧ True) ?_ hQ ?_
    · intro Q3 hQQ3 hp4
      rcases Bool.eq_false_or_eq_true (decide (lo ≤ n_)) with hm5 | hm5
      · refine regionS (a0 := a) (k0 := k) (n := 15) (m := 9) (⟨some (IsV lo), [(1, none)]⟩ :: ⟨some (IsV n_), [(0, none)]⟩ :: ⟨some (IsV (decide (lo ≤ n_))), [(7, some 0), (8, some 1)]⟩ :: ⟨some (IsV (decide (lo ≤ n_))), [(9, some 2)]⟩ :: ⟨some (IsV n_), [(0, none)]⟩ :: ⟨some (IsV hi_), [(2, none)]⟩ :: ⟨some (IsV (decide (n_ ≤ hi_))), [(11, some 4), (12, some 5)]⟩ :: ⟨some (IsV ((decide (lo ≤ n_)) && (decide (n_ ≤ hi_)))), [(10, some 3), (13, some 6)]⟩ :: ⟨some (IsV ((decide (lo ≤ n_)) && (decide (n_ ≤ hi_)))), [(14, some 7)]⟩ :: []) hs (by kernel_rfl) ⟨⟨inferInstance, fun b q hk hn => ok_move rfl (up i1 hk hn.1), rfl⟩, ⟨inferInstance, fun b q hk hn => ok_move rfl (up i0 hk hn.1), rfl⟩, ⟨inferInstance, fun b q hk hn => ok_leq rfl hn.1 hn.2.1, rfl⟩, ⟨inferInstance, fun b q hk hn => ok_move rfl hn.1, rfl⟩, ⟨inferInstance, fun b q hk hn => ok_move rfl (up i0 hk hn.1), guardT hm5⟩, ⟨inferInstance, fun b q hk hn => ok_move rfl (up i2 hk hn.1), guardT hm5⟩, ⟨inferInstance, fun b q hk hn => ok_leq rfl hn.1 hn.2.1, guardT hm5⟩, ⟨inferInstance, fun b q hk hn => ok_cast (and_t hm5) (ok_pick_t rfl hn.1 hm5 hn.2.1), rfl⟩, ⟨inferInstance, fun b q hk hn => ok_assign rfl hn.1, rfl⟩, trivial⟩ hQQ3 fun b q p => ?_
        have hgq := hg.then p.grow
        have hsb := p.size.trans hs
        have hdb := p.defers.trans hd
        have j6 : (IsV ((decide (lo ≤ n_)) && (decide (n_ ≤ hi_)))) (b.get 6) q := out p 8 6 _ rfl rfl rfl
        exact tail_done (k := q) (hp4 _ _ ⟨hgq, hsb, hdb, j6, trivial⟩)
      · have hk7 : ((decide (lo ≤ n_)) && (decide (n_ ≤ hi_))) = false := (and_f hm5).symm
        refine regionS (a0 := a) (k0 := k) (n := 15) (m := 9) (⟨some (IsV lo), [(1, none)]⟩ :: ⟨some (IsV n_), [(0, none)]⟩ :: ⟨some (IsV (decide (lo ≤ n_))), [(7, some 0), (8, some 1)]⟩ :: ⟨some (IsV (decide (lo ≤ n_))), [(9, some 2)]⟩ :: ⟨none, []⟩ :: ⟨none, []⟩ :: ⟨none, []⟩ :: ⟨some (IsV ((decide (lo ≤ n_)) && (decide (n_ ≤ hi_)))), [(10, some 3), (13, some 6)]⟩ :: ⟨some (IsV ((decide (lo ≤ n_)) && (decide (n_ ≤ hi_)))), [(14, some 7)]⟩ :: []) hs (by kernel_rfl) ⟨⟨inferInstance, fun b q hk hn => ok_move rfl (up i1 hk hn.1), rfl⟩, ⟨inferInstance, fun b q hk hn => ok_move rfl (up i0 hk hn.1), rfl⟩, ⟨inferInstance, fun b q hk hn => ok_leq rfl hn.1 hn.2.1, rfl⟩, ⟨inferInstance, fun b q hk hn => ok_move rfl hn.1, rfl⟩, guardF hm5, guardF hm5, guardF hm5, ⟨inferInstance, fun b q hk hn => ok_cast (and_f hm5) (ok_pick_f rfl hn.1 hm5 (isV_bool.2 rfl)), rfl⟩, ⟨inferInstance, fun b q hk hn => ok_assign rfl hn.1, rfl⟩, trivial⟩ hQQ3 fun b q p => ?_
        have hgq := hg.then p.grow
        have hsb := p.size.trans hs
        have hdb := p.defers.trans hd
        have j6 : (IsV ((decide (lo ≤ n_)) && (decide (n_ ≤ hi_)))) (b.get 6) q := out p 8 6 _ rfl rfl rfl
        exact tail_done (k := q) (hp4 _ _ ⟨hgq, hsb, hdb, j6, trivial⟩)
    · rintro a k ⟨hg, hs, hd, i6, _⟩
      refine wp_ret ?_
      obtain rfl := Option.some.inj hr
      exact retC1 rfl hd hg i6
def cRight_L0 (l_ : (List Account)) (s12 : Int) : Option (Flow (Int) (Bool)) :=
  if (decide (s12 < (l_.length : Int))) then
    (getI l_ s12).bind fun x17_1 =>
    (within x17_1.Lot 1 1073741824).bind fun x18_2 =>
    (if (!x18_2) then
      some true
    else
      (within x17_1.Units 0 1073741824).bind fun x18_7 =>
      some (!x18_7)).bind fun x18_9 =>
    (if x18_9 then
      some true
    else
      (if (decide (0 < s12)) then
        (subI s12 1).bind fun x18_16 =>
        (getI l_ x18_16).bind fun x18_17 =>
        some (decide (x17_1.Lot ≤ x18_17.Lot))
      else
        some false).bind fun x18_23 =>
      some x18_23).bind fun x18_24 =>
    if x18_24 then
      some (.ret false)
    else
      (addI s12 1).bind fun x22_0 =>
      some (.go x22_0)
  else
    some (.ex 0 s12)
def cRight (l_ : (List Account)) : Option (Bool) :=
  (iterL (cRight_L0 l_) (l_.length + 1) 0).bind fun f45 => match f45 with
    | .go _ => none
    | .ex _ _ =>
      some (decide ((l_.length : Int) ≤ 20000))
    | .ret r50 => some r50
theorem cRight_ok {k0 : K} {v0 : Value} {l_ : (List Account)} {r : Bool} (i0 : (IsV l_) v0 k0) (hr : cRight l_ = some r) :
    Calls Try.prog 17 #[v0] k0.w (Ret k0 (IsV r)) := by
  unfold cRight at hr
  refine Ret.ofC ?_
  refine enterK Try.func17 rfl Try.ntmps17 (show 1 ≤ 41 by decide) fun a k hk0 hs hd ha => ?_
  obtain ⟨e0, _⟩ := ha
  replace i0 : (IsV l_) (a.get 0) k := by rw [e0, hk0]; exact i0
  have hQ : Gb.LetsOut (bodyPost Try.prog Try.f17 (RetC noF k0 (IsV r))) := letsOutC
  have hg : Chg noF k0 k := by rw [hk0]; exact Chg.refl _ k0
  refine wp_seq ?_
  refine cut (fun a' k' => Chg noF k0 k' ∧ a'.tmps.size = 41 ∧ a'.defers = [] ∧ (IsV l_) (a'.get 0) k' ∧ True) ?_ hQ ?_
  · intro Q54 hQQ54 hp55
    refine regionS (a0 := a) (k0 := k) (n := 41) (m := 1) (⟨some (IsV false), []⟩ :: []) hs (by kernel_rfl) ⟨⟨inferInstance, fun b q hk hn => ok_assign rfl (isV_bool.2 rfl), rfl⟩, trivial⟩ hQQ54 fun b q p => ?_
    have hgq := hg.then p.grow
    have hsb := p.size.trans hs
    have hdb := p.defers.trans hd
    have j0 := keep p 0 rfl i0
    exact tail_done (k := q) (hp55 _ _ ⟨hgq, hsb, hdb, j0, trivial⟩)
  · rintro a k ⟨hg, hs, hd, i0, _⟩
    refine wp_seq ?_
    refine wp_seq ?_
    refine cut (fun a' k' => Chg noF k0 k' ∧ a'.tmps.size = 41 ∧ a'.defers = [] ∧ (IsV l_) (a'.get 0) k' ∧ (IsV l_) (a'.get 5) k' ∧ (IsV (α := Int) (l_.length : Int)) (a'.get 6) k' ∧ (IsV (α := Int) 0) (a'.get 7) k' ∧ True) ?_ hQ ?_
    · intro Q52 hQQ52 hp53
      refine regionS (a0 := a) (k0 := k) (n := 41) (m := 3) (⟨some (IsV l_), [(0, none)]⟩ :: ⟨some (IsV (α := Int) (l_.length : Int)), [(5, some 0)]⟩ :: ⟨some (IsV (α := Int) 0), []⟩ :: []) hs (by kernel_rfl) ⟨⟨inferInstance, fun b q hk hn => ok_move rfl (up i0 hk hn.1), rfl⟩, ⟨inferInstance, fun b q hk hn => ok_len rfl rfl Try.underlying22 (IsV.rd hn.1), rfl⟩, ⟨inferInstance, fun b q hk hn => ok_move rfl (isV_int.2 rfl), rfl⟩, trivial⟩ hQQ52 fun b q p => ?_
      have hgq := hg.then p.grow
      have hsb := p.size.trans hs
      have hdb := p.defers.trans hd
      have j0 := keep p 0 rfl i0
      have j5 : (IsV l_) (b.get 5) q := out p 0 5 _ rfl rfl rfl
      have j6 : (IsV (α := Int) (l_.length : Int)) (b.get 6) q := out p 1 6 _ rfl rfl rfl
      have j7 : (IsV (α := Int) 0) (b.get 7) q := out p 2 7 _ rfl rfl rfl
      exact tail_done (k := q) (hp53 _ _ ⟨hgq, hsb, hdb, j0, j5, j6, j7, trivial⟩)
    · rintro a k ⟨hg, hs, hd, i0, i5, i6, i7, _⟩
      refine wp_block ?_
      obtain ⟨f45, hf45, hr⟩ := bind_some hr
      refine cutF f45 (fun s' a' k' => Chg noF k0 k' ∧ a'.tmps.size = 41 ∧ a'.defers = [] ∧ (IsV l_) (a'.get 0) k' ∧ (IsV l_) (a'.get 5) k' ∧ (IsV (α := Int) (l_.length : Int)) (a'.get 6) k' ∧ (IsV s') (a'.get 7) k' ∧ True) (fun i' s' a' k' => (i' = 0 ∧ Chg noF k0 k' ∧ a'.tmps.size = 41 ∧ a'.defers = [] ∧ (IsV l_) (a'.get 0) k' ∧ True)) (fun r' a' k' => bodyPost Try.prog Try.f17 (RetC noF k0 (IsV r')) .ret a' k'.w) ?_ hQ ?_ ?_ ?_
      · intro Q51 hQQ51 hgo hex hret
        refine sim_loop ?_ _ _ _ _ _ hf45 ⟨hg, hs, hd, i0, i5, i6, i7, trivial⟩ Q51 hQQ51 hgo hex hret
        clear hr hf45 hgo hex hret hQQ51 hQ hd hg hs i0 i5 i6 i7
        intro s12 fl_ a k hr hS Q hQ hgo13 hex14 hret15
        obtain ⟨hg, hs, hd, i0, i5, i6, i7, _⟩ := hS
        unfold cRight_L0 at hr
        refine wp_seq ?_
        refine cut (fun a' k' => Chg noF k0 k' ∧ a'.tmps.size = 41 ∧ a'.defers = [] ∧ (IsV l_) (a'.get 0) k' ∧ (IsV l_) (a'.get 5) k' ∧ (IsV (α := Int) (l_.length : Int)) (a'.get 6) k' ∧ (IsV s12) (a'.get 7) k' ∧ (IsV (decide (s12 < (l_.length : Int)))) (a'.get 8) k' ∧ True) ?_ hQ ?_
        · intro Q43 hQQ43 hp44
          refine regionS (a0 := a) (k0 := k) (n := 41) (m := 1) (⟨some (IsV (decide (s12 < (l_.length : Int)))), [(7, none), (6, none)]⟩ :: []) hs (by kernel_rfl) ⟨⟨inferInstance, fun b q hk hn => ok_lss rfl (up i7 hk hn.1) (up i6 hk hn.2.1), rfl⟩, trivial⟩ hQQ43 fun b q p => ?_
          have hgq := hg.then p.grow
          have hsb := p.size.trans hs
          have hdb := p.defers.trans hd
          have j0 := keep p 0 rfl i0
          have j5 := keep p 5 rfl i5
          have j6 := keep p 6 rfl i6
          have j7 := keep p 7 rfl i7
          have j8 : (IsV (decide (s12 < (l_.length : Int)))) (b.get 8) q := out p 0 8 _ rfl rfl rfl
          exact tail_done (k := q) (hp44 _ _ ⟨hgq, hsb, hdb, j0, j5, j6, j7, j8, trivial⟩)
        · rintro a k ⟨hg, hs, hd, i0, i5, i6, i7, i8, _⟩
          refine wp_seq ?_
          refine wp_cond_split (isBool i8) (fun hc42 => ?_) (fun hc42 => ?_)
          · rw [if_pos hc42] at hr
            refine wp_skip ?_
            refine wp_seq ?_
            refine wp_block ?_
            refine wp_seq ?_
            obtain ⟨x17_1, hx17_1, hr⟩ := bind_some hr
            refine cut (fun a' k' => Chg noF k0 k' ∧ a'.tmps.size = 41 ∧ a'.defers = [] ∧ (IsV l_) (a'.get 0) k' ∧ (IsV s12) (a'.get 3) k' ∧ (IsRef x17_1) (a'.get 4) k' ∧ (IsV l_) (a'.get 5) k' ∧ (IsV (α := Int) (l_.length : Int)) (a'.get 6) k' ∧ (IsV s12) (a'.get 7) k' ∧ True) ?_ hQ ?_
            · intro Q40 hQQ40 hp41
              refine regionS (a0 := a) (k0 := k) (n := 41) (m := 5) (⟨some (IsV s12), [(7, none)]⟩ :: ⟨some (IsPtr x17_1), [(5, none), (7, none)]⟩ :: ⟨some (IsV x17_1), [(10, some 1)]⟩ :: ⟨some (IsBox k.w.heap.size (⟨0, 0, false⟩ : Account)), []⟩ :: ⟨some (IsV s12), [(9, some 0)]⟩ :: []) hs (by kernel_rfl) ⟨⟨inferInstance, fun b q hk hn => ok_move rfl (up i7 hk hn.1), rfl⟩, ⟨inferInstance, fun b q hk hn => ok_indexAddr rfl Try.underlying22 ty35 (IsV.rd (up i5 hk hn.1)) (up i7 hk hn.2.1) hx17_1, rfl⟩, ⟨inferInstance, fun b q hk hn => ok_load rfl ty35 hn.1, rfl⟩, ⟨inferInstance, fun b q hk hn => ok_alloc _ hk.size rfl z35, rfl⟩, ⟨inferInstance, fun b q hk hn => ok_assign rfl hn.1, rfl⟩, trivial⟩ hQQ40 fun b q p => ?_
              have hgq := hg.then p.grow
              have hsb := p.size.trans hs
              have hdb := p.defers.trans hd
              have j0 := keep p 0 rfl i0
              have j3 : (IsV s12) (b.get 3) q := out p 4 3 _ rfl rfl rfl
              obtain ⟨b4, j4, x4, z4⟩ : (IsBox k.w.heap.size (⟨0, 0, false⟩ : Account)) (b.get 4) q := out p 3 4 _ rfl rfl rfl
              replace x4 : Lo k (Eq b4) := Lo.eq x4
              have y4 : Lo k0 (Eq b4) := x4.chg hg
              have j5 := keep p 5 rfl i5
              have j6 := keep p 6 rfl i6
              have j7 := keep p 7 rfl i7
              have j11 : (IsV x17_1) (b.get 11) q := out p 2 11 _ rfl rfl rfl
              have hns := z4.nshF
              refine tail_storeB (i := 5) rfl rfl rfl rfl szf35 (Upd.self (α := Account)) j4 z4 j11 fun q2 hch hz => ?_
              replace hgq := hgq.step hch y4.wr
              have hle := hch.le hns
              replace j0 := Pers.pers hle j0
              replace j3 := Pers.pers hle j3
              replace j5 := Pers.pers hle j5
              replace j6 := Pers.pers hle j6
              replace j7 := Pers.pers hle j7
              replace j11 := Pers.pers hle j11
              replace z4 := hz
              clear hns hle hch
              obtain ⟨q, hqq⟩ : ∃ q, q = q2 := ⟨q2, rfl⟩
              subst hqq
              obtain ⟨q2, hsh, jn⟩ := z4.give
              replace j0 := Pers.pers hsh.le j0
              replace j3 := Pers.pers hsh.le j3
              replace j5 := Pers.pers hsh.le j5
              replace j6 := Pers.pers hsh.le j6
              replace j7 := Pers.pers hsh.le j7
              rw [← j4] at jn
              replace j4 := jn
              replace hgq := hgq.hand hsh y4.wr
              rw [← hsh.w]
              clear hsh
              obtain ⟨q, hqq⟩ : ∃ q, q = q2 := ⟨q2, rfl⟩
              subst hqq
              exact tail_done (k := q) (hp41 _ _ ⟨hgq, hsb, hdb, j0, j3, j4, j5, j6, j7, trivial⟩)
            · rintro a k ⟨hg, hs, hd, i0, i3, i4, i5, i6, i7, _⟩
              refine wp_seq ?_
              obtain ⟨x18_2, hx18_2, hr⟩ := bind_some hr
              obtain ⟨x18_9, hx18_9, hr⟩ := bind_some hr
              obtain ⟨x18_24, hx18_24, hr⟩ := bind_some hr
              refine cut (fun a' k' => Chg noF k0 k' ∧ a'.tmps.size = 41 ∧ a'.defers = [] ∧ (IsV l_) (a'.get 0) k' ∧ (IsV l_) (a'.get 5) k' ∧ (IsV (α := Int) (l_.length : Int)) (a'.get 6) k' ∧ (IsV s12) (a'.get 7) k' ∧ (IsV x18_24) (a'.get 36) k' ∧ True) ?_ hQ ?_
              · intro Q26 hQQ26 hp27
                rcases Bool.eq_false_or_eq_true (!x18_2) with hm28 | hm28
                · have ht29 := hx18_9
                  rw [if_pos hm28] at ht29
                  have hk30 : x18_9 = true := (Option.some.inj ht29).symm
                  have hm31 := hk30
                  have ht32 := hx18_24
                  rw [if_pos hm31] at ht32
                  have hk33 : x18_24 = true := (Option.some.inj ht32).symm
                  refine region (a0 := a) (k0 := k) (n := 41) (m := 25) (⟨some (IsPtr x17_1.Lot), [(4, none)]⟩ :: ⟨some (IsV x17_1.Lot), [(12, some 0)]⟩ :: ⟨some (IsV x18_2), [(13, some 1)]⟩ :: ⟨some (IsV (!x18_2)), [(14, some 2)]⟩ :: ⟨some (IsV (!x18_2)), [(15, some 3)]⟩ :: ⟨none, []⟩ :: ⟨none, []⟩ :: ⟨none, []⟩ :: ⟨none, []⟩ :: ⟨some (IsV x18_9), [(16, some 4), (20, some 8)]⟩ :: ⟨some (IsV x18_9), [(21, some 9)]⟩ :: ⟨none, []⟩ :: ⟨none, []⟩ :: ⟨none, []⟩ :: ⟨none, []⟩ :: ⟨none, []⟩ :: ⟨none, []⟩ :: ⟨none, []⟩ :: ⟨none, []⟩ :: ⟨none, []⟩ :: ⟨none, []⟩ :: ⟨none, []⟩ :: ⟨none, []⟩ :: ⟨none, []⟩ :: ⟨some (IsV x18_24), [(22, some 10), (35, some 23)]⟩ :: []) hmix hs (by kernel_rfl) ⟨⟨inferInstance, fun b q hk hn => ok_fieldAddr rfl fo35_0 (at_Account_0 _) ((up i4 hk hn.1)).ptr, rfl⟩, ⟨inferInstance, fun b q hk hn => ok_load rfl ty3 hn.1, rfl⟩, ⟨inferInstance, fun b q hk hn => ok_call rfl Try.call31 (within_ok hn.1 (isV_int.2 rfl) (isV_int.2 rfl) hx18_2), rfl⟩, ⟨inferInstance, fun b q hk hn => ok_not rfl hn.1, rfl⟩, ⟨inferInstance, fun b q hk hn => ok_move rfl hn.1, rfl⟩, guardT hm28, guardT hm28, guardT hm28, guardT hm28, ⟨inferInstance, fun b q hk hn => ok_cast (Option.some.inj ht29) (ok_pick_t rfl hn.1 hm28 (isV_bool.2 rfl)), rfl⟩, ⟨inferInstance, fun b q hk hn => ok_move rfl hn.1, rfl⟩, guardT hm31, guardT hm31, guardT hm31, rfl, rfl, rfl, rfl, rfl, rfl, rfl, rfl, rfl, guardT hm31, ⟨inferInstance, fun b q hk hn => ok_cast (Option.some.inj ht32) (ok_pick_t rfl hn.1 hm31 (isV_bool.2 rfl)), rfl⟩, trivial⟩ hQQ26 fun b q p => ?_
                  have hgq := hg.then p.grow
                  have hsb := p.size.trans hs
                  have hdb := p.defers.trans hd
                  have j0 := keep p 0 rfl i0
                  have j5 := keep p 5 rfl i5
                  have j6 := keep p 6 rfl i6
                  have j7 := keep p 7 rfl i7
                  have j36 : (IsV x18_24) (b.get 36) q := out p 24 36 _ rfl rfl rfl
                  exact tail_done (k := q) (hp27 _ _ ⟨hgq, hsb, hdb, j0, j5, j6, j7, j36, trivial⟩)
                · have ht29 := hx18_9
                  rw [if_neg (by rw [hm28]; decide)] at ht29
                  obtain ⟨x18_7, hx18_7, ht29⟩ := bind_some ht29
                  rcases Bool.eq_false_or_eq_true x18_9 with hm34 | hm34
                  · have ht35 := hx18_24
                    rw [if_pos hm34] at ht35
                    have hk36 : x18_24 = true := (Option.some.inj ht35).symm
                    refine region (a0 := a) (k0 := k) (n := 41) (m := 25) (⟨some (IsPtr x17_1.Lot), [(4, none)]⟩ :: ⟨some (IsV x17_1.Lot), [(12, some 0)]⟩ :: ⟨some (IsV x18_2), [(13, some 1)]⟩ :: ⟨some (IsV (!x18_2)), [(14, some 2)]⟩ :: ⟨some (IsV (!x18_2)), [(15, some 3)]⟩ :: ⟨some (IsPtr x17_1.Units), [(4, none)]⟩ :: ⟨some (IsV x17_1.Units), [(17, some 5)]⟩ :: ⟨some (IsV x18_7), [(18, some 6)]⟩ :: ⟨some (IsV (!x18_7)), [(19, some 7)]⟩ :: ⟨some (IsV x18_9), [(16, some 4), (20, some 8)]⟩ :: ⟨some (IsV x18_9), [(21, some 9)]⟩ :: ⟨none, []⟩ :: ⟨none, []⟩ :: ⟨none, []⟩ :: ⟨none, []⟩ :: ⟨none, []⟩ :: ⟨none, []⟩ :: ⟨none, []⟩ :: ⟨none, []⟩ :: ⟨none, []⟩ :: ⟨none, []⟩ :: ⟨none, []⟩ :: ⟨none, []⟩ :: ⟨none, []⟩ :: ⟨some (IsV x18_24), [(22, some 10), (35, some 23)]⟩ :: []) hmix hs (by kernel_rfl) ⟨⟨inferInstance, fun b q hk hn => ok_fieldAddr rfl fo35_0 (at_Account_0 _) ((up i4 hk hn.1)).ptr, rfl⟩, ⟨inferInstance, fun b q hk hn => ok_load rfl ty3 hn.1, rfl⟩, ⟨inferInstance, fun b q hk hn => ok_call rfl Try.call31 (within_ok hn.1 (isV_int.2 rfl) (isV_int.2 rfl) hx18_2), rfl⟩, ⟨inferInstance, fun b q hk hn => ok_not rfl hn.1, rfl⟩, ⟨inferInstance, fun b q hk hn => ok_move rfl hn.1, rfl⟩, ⟨inferInstance, fun b q hk hn => ok_fieldAddr rfl fo35_1 (at_Account_1 _) ((up i4 hk hn.1)).ptr, guardF hm28⟩, ⟨inferInstance, fun b q hk hn => ok_load rfl ty3 hn.1, guardF hm28⟩, ⟨inferInstance, fun b q hk hn => ok_call rfl Try.call31 (within_ok hn.1 (isV_int.2 rfl) (isV_int.2 rfl) hx18_7), guardF hm28⟩, ⟨inferInstance, fun b q hk hn => ok_not rfl hn.1, guardF hm28⟩, ⟨inferInstance, fun b q hk hn => ok_cast (Option.some.inj ht29) (ok_pick_f rfl hn.1 hm28 hn.2.1), rfl⟩, ⟨inferInstance, fun b q hk hn => ok_move rfl hn.1, rfl⟩, guardT hm34, guardT hm34, guardT hm34, rfl, rfl, rfl, rfl, rfl, rfl, rfl, rfl, rfl, guardT hm34, ⟨inferInstance, fun b q hk hn => ok_cast (Option.some.inj ht35) (ok_pick_t rfl hn.1 hm34 (isV_bool.2 rfl)), rfl⟩, trivial⟩ hQQ26 fun b q p => ?_
                    have hgq := hg.then p.grow
                    have hsb := p.size.trans hs
                    have hdb := p.defers.trans hd
                    have j0 := keep p 0 rfl i0
                    have j5 := keep p 5 rfl i5
                    have j6 := keep p 6 rfl i6
                    have j7 := keep p 7 rfl i7
                    have j36 : (IsV x18_24) (b.get 36) q := out p 24 36 _ rfl rfl rfl
                    exact tail_done (k := q) (hp27 _ _ ⟨hgq, hsb, hdb, j0, j5, j6, j7, j36, trivial⟩)
                  · have ht35 := hx18_24
                    rw [if_neg (by rw [hm34]; decide)] at ht35
                    obtain ⟨x18_23, hx18_23, ht35⟩ := bind_some ht35
                    rcases Bool.eq_false_or_eq_true (decide (0 < s12)) with hm37 | hm37
                    · have ht38 := hx18_23
                      rw [if_pos hm37] at ht38
                      obtain ⟨x18_16, hx18_16, ht38⟩ := bind_some ht38
                      obtain ⟨x18_17, hx18_17, ht38⟩ := bind_some ht38
                      refine region (a0 := a) (k0 := k) (n := 41) (m := 25) (⟨some (IsPtr x17_1.Lot), [(4, none)]⟩ :: ⟨some (IsV x17_1.Lot), [(12, some 0)]⟩ :: ⟨some (IsV x18_2), [(13, some 1)]⟩ :: ⟨some (IsV (!x18_2)), [(14, some 2)]⟩ :: ⟨some (IsV (!x18_2)), [(15, some 3)]⟩ :: ⟨some (IsPtr x17_1.Units), [(4, none)]⟩ :: ⟨some (IsV x17_1.Units), [(17, some 5)]⟩ :: ⟨some (IsV x18_7), [(18, some 6)]⟩ :: ⟨some (IsV (!x18_7)), [(19, some 7)]⟩ :: ⟨some (IsV x18_9), [(16, some 4), (20, some 8)]⟩ :: ⟨some (IsV x18_9), [(21, some 9)]⟩ :: ⟨some (IsV s12), [(3, none)]⟩ :: ⟨some (IsV (decide (0 < s12))), [(23, some 11)]⟩ :: ⟨some (IsV (decide (0 < s12))), [(24, some 12)]⟩ :: ⟨some (IsV l_), [(0, none)]⟩ :: ⟨some (IsV s12), [(3, none)]⟩ :: ⟨some (IsV x18_16), [(27, some 15)]⟩ :: ⟨some (IsPtr x18_17), [(26, some 14), (28, some 16)]⟩ :: ⟨some (IsPtr x18_17.Lot), [(29, some 17)]⟩ :: ⟨some (IsV x18_17.Lot), [(30, some 18)]⟩ :: ⟨some (IsPtr x17_1.Lot), [(4, none)]⟩ :: ⟨some (IsV x17_1.Lot), [(32, some 20)]⟩ :: ⟨some (IsV (decide (x17_1.Lot ≤ x18_17.Lot))), [(31, some 19), (33, some 21)]⟩ :: ⟨some (IsV x18_23), [(25, some 13), (34, some 22)]⟩ :: ⟨some (IsV x18_24), [(22, some 10), (35, some 23)]⟩ :: []) hmix hs (by kernel_rfl) ⟨⟨inferInstance, fun b q hk hn => ok_fieldAddr rfl fo35_0 (at_Account_0 _) ((up i4 hk hn.1)).ptr, rfl⟩, ⟨inferInstance, fun b q hk hn => ok_load rfl ty3 hn.1, rfl⟩, ⟨inferInstance, fun b q hk hn => ok_call rfl Try.call31 (within_ok hn.1 (isV_int.2 rfl) (isV_int.2 rfl) hx18_2), rfl⟩, ⟨inferInstance, fun b q hk hn => ok_not rfl hn.1, rfl⟩, ⟨inferInstance, fun b q hk hn => ok_move rfl hn.1, rfl⟩, ⟨inferInstance, fun b q hk hn => ok_fieldAddr rfl fo35_1 (at_Account_1 _) ((up i4 hk hn.1)).ptr, guardF hm28⟩, ⟨inferInstance, fun b q hk hn => ok_load rfl ty3 hn.1, guardF hm28⟩, ⟨inferInstance, fun b q hk hn => ok_call rfl Try.call31 (within_ok hn.1 (isV_int.2 rfl) (isV_int.2 rfl) hx18_7), guardF hm28⟩, ⟨inferInstance, fun b q hk hn => ok_not rfl hn.1, guardF hm28⟩, ⟨inferInstance, fun b q hk hn => ok_cast (Option.some.inj ht29) (ok_pick_f rfl hn.1 hm28 hn.2.1), rfl⟩, ⟨inferInstance, fun b q hk hn => ok_move rfl hn.1, rfl⟩, ⟨inferInstance, fun b q hk hn => ok_move rfl (up i3 hk hn.1), guardF hm34⟩, ⟨inferInstance, fun b q hk hn => ok_gtr rfl hn.1 (isV_int.2 rfl), guardF hm34⟩, ⟨inferInstance, fun b q hk hn => ok_move rfl hn.1, guardF hm34⟩, ⟨inferInstance, fun b q hk hn => ok_move rfl (up i0 hk hn.1), guardT hm37⟩, ⟨inferInstance, fun b q hk hn => ok_move rfl (up i3 hk hn.1), guardT hm37⟩, ⟨inferInstance, fun b q hk hn => ok_sub rfl hn.1 (isV_int.2 rfl) hx18_16, guardT hm37⟩, ⟨inferInstance, fun b q hk hn => ok_indexAddr rfl Try.underlying22 ty35 (IsV.rd hn.1) hn.2.1 hx18_17, guardT hm37⟩, ⟨inferInstance, fun b q hk hn => ok_fieldAddr rfl fo35_0 (at_Account_0 _) hn.1, guardT hm37⟩, ⟨inferInstance, fun b q hk hn => ok_load rfl ty3 hn.1, guardT hm37⟩, ⟨inferInstance, fun b q hk hn => ok_fieldAddr rfl fo35_0 (at_Account_0 _) ((up i4 hk hn.1)).ptr, guardT hm37⟩, ⟨inferInstance, fun b q hk hn => ok_load rfl ty3 hn.1, guardT hm37⟩, ⟨inferInstance, fun b q hk hn => ok_geq rfl hn.1 hn.2.1, guardT hm37⟩, ⟨inferInstance, fun b q hk hn => ok_cast (Option.some.inj ht38) (ok_pick_t rfl hn.1 hm37 hn.2.1), guardF hm34⟩, ⟨inferInstance, fun b q hk hn => ok_cast (Option.some.inj ht35) (ok_pick_f rfl hn.1 hm34 hn.2.1), rfl⟩, trivial⟩ hQQ26 fun b q p => ?_
                      have hgq := hg.then p.grow
                      have hsb := p.size.trans hs
                      have hdb := p.defers.trans hd
                      have j0 := keep p 0 rfl i0
                      have j5 := keep p 5 rfl i5
                      have j6 := keep p 6 rfl i6
                      have j7 := keep p 7 rfl i7
                      have j36 : (IsV x18_24) (b.get 36) q := out p 24 36 _ rfl rfl rfl
                      exact tail_done (k := q) (hp27 _ _ ⟨hgq, hsb, hdb, j0, j5, j6, j7, j36, trivial⟩)
                    · have ht38 := hx18_23
                      rw [if_neg (by rw [hm37]; decide)] at ht38
                      have hk39 : x18_23 = false := (Option.some.inj ht38).symm
                      refine region (a0 := a) (k0 := k) (n := 41) (m := 25) (⟨some (IsPtr x17_1.Lot), [(4, none)]⟩ :: ⟨some (IsV x17_1.Lot), [(12, some 0)]⟩ :: ⟨some (IsV x18_2), [(13, some 1)]⟩ :: ⟨some (IsV (!x18_2)), [(14, some 2)]⟩ :: ⟨some (IsV (!x18_2)), [(15, some 3)]⟩ :: ⟨some (IsPtr x17_1.Units), [(4, none)]⟩ :: ⟨some (IsV x17_1.Units), [(17, some 5)]⟩ :: ⟨some (IsV x18_7), [(18, some 6)]⟩ :: ⟨some (IsV (!x18_7)), [(19, some 7)]⟩ :: ⟨some (IsV x18_9), [(16, some 4), (20, some 8)]⟩ :: ⟨some (IsV x18_9), [(21, some 9)]⟩ :: ⟨some (IsV s12), [(3, none)]⟩ :: ⟨some (IsV (decide (0 < s12))), [(23, some 11)]⟩ :: ⟨some (IsV (decide (0 < s12))), [(24, some 12)]⟩ :: ⟨none, []⟩ :: ⟨none, []⟩ :: ⟨none, []⟩ :: ⟨none, []⟩ :: ⟨none, []⟩ :: ⟨none, []⟩ :: ⟨none, []⟩ :: ⟨none, []⟩ :: ⟨none, []⟩ :: ⟨some (IsV x18_23), [(25, some 13), (34, some 22)]⟩ :: ⟨some (IsV x18_24), [(22, some 10), (35, some 23)]⟩ :: []) hmix hs (by kernel_rfl) ⟨⟨inferInstance, fun b q hk hn => ok_fieldAddr rfl fo35_0 (at_Account_0 _) ((up i4 hk hn.1)).ptr, rfl⟩, ⟨inferInstance, fun b q hk hn => ok_load rfl ty3 hn.1, rfl⟩, ⟨inferInstance, fun b q hk hn => ok_call rfl Try.call31 (within_ok hn.1 (isV_int.2 rfl) (isV_int.2 rfl) hx18_2), rfl⟩, ⟨inferInstance, fun b q hk hn => ok_not rfl hn.1, rfl⟩, ⟨inferInstance, fun b q hk hn => ok_move rfl hn.1, rfl⟩, ⟨inferInstance, fun b q hk hn => ok_fieldAddr rfl fo35_1 (at_Account_1 _) ((up i4 hk hn.1)).ptr, guardF hm28⟩, ⟨inferInstance, fun b q hk hn => ok_load rfl ty3 hn.1, guardF hm28⟩, ⟨inferInstance, fun b q hk hn => ok_call rfl Try.call31 (within_ok hn.1 (isV_int.2 rfl) (isV_int.2 rfl) hx18_7), guardF hm28⟩, ⟨inferInstance, fun b q hk hn => ok_not rfl hn.1, guardF hm28⟩, ⟨inferInstance, fun b q hk hn => ok_cast (Option.some.inj ht29) (ok_pick_f rfl hn.1 hm28 hn.2.1), rfl⟩, ⟨inferInstance, fun b q hk hn => ok_move rfl hn.1, rfl⟩, ⟨inferInstance, fun b q hk hn => ok_move rfl (up i3 hk hn.1), guardF hm34⟩, ⟨inferInstance, fun b q hk hn => ok_gtr rfl hn.1 (isV_int.2 rfl), guardF hm34⟩, ⟨inferInstance, fun b q hk hn => ok_move rfl hn.1, guardF hm34⟩, guardF hm37, guardF hm37, guardF hm37, guardF hm37, guardF hm37, guardF hm37, guardF hm37, guardF hm37, guardF hm37, ⟨inferInstance, fun b q hk hn => ok_cast (Option.some.inj ht38) (ok_pick_f rfl hn.1 hm37 (isV_bool.2 rfl)), guardF hm34⟩, ⟨inferInstance, fun b q hk hn => ok_cast (Option.some.inj ht35) (ok_pick_f rfl hn.1 hm34 hn.2.1), rfl⟩, trivial⟩ hQQ26 fun b q p => ?_
                      have hgq := hg.then p.grow
                      have hsb := p.size.trans hs
                      have hdb := p.defers.trans hd
                      have j0 := keep p 0 rfl i0
                      have j5 := keep p 5 rfl i5
                      have j6 := keep p 6 rfl i6
                      have j7 := keep p 7 rfl i7
                      have j36 : (IsV x18_24) (b.get 36) q := out p 24 36 _ rfl rfl rfl
                      exact tail_done (k := q) (hp27 _ _ ⟨hgq, hsb, hdb, j0, j5, j6, j7, j36, trivial⟩)
              · rintro a k ⟨hg, hs, hd, i0, i5, i6, i7, i36, _⟩
                refine wp_cond_split (isBool i36) (fun hc25 => ?_) (fun hc25 => ?_)
                · rw [if_pos hc25] at hr
                  refine wp_seq ?_
                  refine cut (fun a' k' => Chg noF k0 k' ∧ a'.tmps.size = 41 ∧ a'.defers = [] ∧ (IsV false) (a'.get 2) k' ∧ True) ?_ hQ ?_
                  · intro Q20 hQQ20 hp21
                    refine regionS (a0 := a) (k0 := k) (n := 41) (m := 1) (⟨some (IsV false), []⟩ :: []) hs (by kernel_rfl) ⟨⟨inferInstance, fun b q hk hn => ok_assign rfl (isV_bool.2 rfl), rfl⟩, trivial⟩ hQQ20 fun b q p => ?_
                    have hgq := hg.then p.grow
                    have hsb := p.size.trans hs
                    have hdb := p.defers.trans hd
                    have j2 : (IsV false) (b.get 2) q := out p 0 2 _ rfl rfl rfl
                    exact tail_done (k := q) (hp21 _ _ ⟨hgq, hsb, hdb, j2, trivial⟩)
                  · rintro a k ⟨hg, hs, hd, i2, _⟩
                    refine wp_ret ?_
                    exact hret15 _ _ _ (Option.some.inj hr).symm (retC1 rfl hd hg i2)
                · rw [if_neg (by rw [hc25]; decide)] at hr
                  refine wp_skip ?_
                  obtain ⟨x22_0, hx22_0, hr⟩ := bind_some hr
                  refine cut (fun a' k' => Chg noF k0 k' ∧ a'.tmps.size = 41 ∧ a'.defers = [] ∧ (IsV l_) (a'.get 0) k' ∧ (IsV l_) (a'.get 5) k' ∧ (IsV (α := Int) (l_.length : Int)) (a'.get 6) k' ∧ (IsV x22_0) (a'.get 7) k' ∧ True) ?_ hQ ?_
                  · intro Q23 hQQ23 hp24
                    refine regionS (a0 := a) (k0 := k) (n := 41) (m := 2) (⟨some (IsV x22_0), [(7, none)]⟩ :: ⟨some (IsV x22_0), [(37, some 0)]⟩ :: []) hs (by kernel_rfl) ⟨⟨inferInstance, fun b q hk hn => ok_add rfl (up i7 hk hn.1) (isV_int.2 rfl) hx22_0, rfl⟩, ⟨inferInstance, fun b q hk hn => ok_move rfl hn.1, rfl⟩, trivial⟩ hQQ23 fun b q p => ?_
                    have hgq := hg.then p.grow
                    have hsb := p.size.trans hs
                    have hdb := p.defers.trans hd
                    have j0 := keep p 0 rfl i0
                    have j5 := keep p 5 rfl i5
                    have j6 := keep p 6 rfl i6
                    have j7 : (IsV x22_0) (b.get 7) q := out p 1 7 _ rfl rfl rfl
                    exact tail_done (k := q) (hp24 _ _ ⟨hgq, hsb, hdb, j0, j5, j6, j7, trivial⟩)
                  · rintro a k ⟨hg, hs, hd, i0, i5, i6, i7, _⟩
                    exact hgo13 _ _ _ (Option.some.inj hr).symm ⟨hg, hs, hd, i0, i5, i6, i7, trivial⟩
          · rw [if_neg (by rw [hc42]; decide)] at hr
            refine wp_exit ?_
            exact hex14 _ _ _ _ (Option.some.inj hr).symm ⟨rfl, hg, hs, hd, i0, trivial⟩
      · rintro _ _ _ rfl _
        simp at hr
      · clear hf45
        rintro _ s46 a k rfl ⟨rfl, hg, hs, hd, i0, _⟩
        dsimp only at hr
        refine wp_seq ?_
        refine cut (fun a' k' => Chg noF k0 k' ∧ a'.tmps.size = 41 ∧ a'.defers = [] ∧ (IsV (decide ((l_.length : Int) ≤ 20000))) (a'.get 2) k' ∧ True) ?_ hQ ?_
        · intro Q48 hQQ48 hp49
          refine regionS (a0 := a) (k0 := k) (n := 41) (m := 4) (⟨some (IsV l_), [(0, none)]⟩ :: ⟨some (IsV (α := Int) (l_.length : Int)), [(38, some 0)]⟩ :: ⟨some (IsV (decide ((l_.length : Int) ≤ 20000))), [(39, some 1)]⟩ :: ⟨some (IsV (decide ((l_.length : Int) ≤ 20000))), [(40, some 2)]⟩ :: []) hs (by kernel_rfl) ⟨⟨inferInstance, fun b q hk hn => ok_move rfl (up i0 hk hn.1), rfl⟩, ⟨inferInstance, fun b q hk hn => ok_len rfl rfl Try.underlying22 (IsV.rd hn.1), rfl⟩, ⟨inferInstance, fun b q hk hn => ok_leq rfl hn.1 (isV_int.2 rfl), rfl⟩, ⟨inferInstance, fun b q hk hn => ok_assign rfl hn.1, rfl⟩, trivial⟩ hQQ48 fun b q p => ?_
          have hgq := hg.then p.grow
          have hsb := p.size.trans hs
          have hdb := p.defers.trans hd
          have j2 : (IsV (decide ((l_.length : Int) ≤ 20000))) (b.get 2) q := out p 3 2 _ rfl rfl rfl
          exact tail_done (k := q) (hp49 _ _ ⟨hgq, hsb, hdb, j2, trivial⟩)
        · rintro a k ⟨hg, hs, hd, i2, _⟩
          refine wp_ret ?_
          obtain rfl := Option.some.inj hr
          exact retC1 rfl hd hg i2
      · rintro r50 a k rfl hR
        dsimp only at hr
        obtain rfl := Option.some.inj hr
        exact hR
def cValid (m_ : Move) : Option (Bool) :=
  if (m_.Kind == 0) then
    (within m_.To 1 1073741824).bind fun x59_2 =>
    (if x59_2 then
      (within m_.From 0 1).bind fun x59_6 =>
      some x59_6
    else
      some false).bind fun x59_7 =>
    (if x59_7 then
      (within m_.N 0 1073741824).bind fun x59_11 =>
      some x59_11
    else
      some false).bind fun x59_12 =>
    some x59_12
  else
    if (m_.Kind == 1) then
      (if (m_.From != m_.To) then
        (within m_.N 1 1073741824).bind fun x72_8 =>
        some x72_8
      else
        some false).bind fun x72_9 =>
      some x72_9
    else
      (if (m_.Kind == 2) then
        some (m_.Kind == 2)
      else
        some (m_.Kind == 3)).bind fun s79 =>
      if s79 then
        (if (m_.To == 0) then
          (within m_.N 1 1073741824).bind fun x85_6 =>
          some x85_6
        else
          some false).bind fun x85_7 =>
        some x85_7
      else
        some false
theorem cValid_ok {k0 : K} {v0 : Value} {m_ : Move} {r : Bool} (i0 : (IsV m_) v0 k0) (hr : cValid m_ = some r) :
    Calls Try.prog 28 #[v0] k0.w (Ret k0 (IsV r)) := by
  unfold cValid at hr
  refine Ret.ofC ?_
  refine enterK Try.func28 rfl Try.ntmps28 (show 1 ≤ 43 by decide) fun a k hk0 hs hd ha => ?_
  obtain ⟨e0, _⟩ := ha
  replace i0 : (IsV m_) (a.get 0) k := by rw [e0, hk0]; exact i0
  have hQ : Gb.LetsOut (bodyPost Try.prog Try.f28 (RetC noF k0 (IsV r))) := letsOutC
  have hg : Chg noF k0 k := by rw [hk0]; exact Chg.refl _ k0
  refine wp_seq ?_
  refine cut (fun a' k' => Chg noF k0 k' ∧ a'.tmps.size = 43 ∧ a'.defers = [] ∧ (IsRef m_) (a'.get 1) k' ∧ True) ?_ hQ ?_
  · intro Q106 hQQ106 hp107
    refine regionS (a0 := a) (k0 := k) (n := 43) (m := 2) (⟨some (IsBox k.w.heap.size m_), [(0, none)]⟩ :: ⟨some (IsV false), []⟩ :: []) hs (by kernel_rfl) ⟨⟨inferInstance, fun b q hk hn => ok_box _ hk.size rfl (up i0 hk hn.1), rfl⟩, ⟨inferInstance, fun b q hk hn => ok_assign rfl (isV_bool.2 rfl), rfl⟩, trivial⟩ hQQ106 fun b q p => ?_
    have hgq := hg.then p.grow
    have hsb := p.size.trans hs
    have hdb := p.defers.trans hd
    obtain ⟨b1, j1, x1, z1⟩ : (IsBox k.w.heap.size m_) (b.get 1) q := out p 0 1 _ rfl rfl rfl
    replace x1 : Lo k (Eq b1) := Lo.eq x1
    have y1 : Lo k0 (Eq b1) := x1.chg hg
    obtain ⟨q2, hsh, jn⟩ := z1.give
    rw [← j1] at jn
    replace j1 := jn
    replace hgq := hgq.hand hsh y1.wr
    rw [← hsh.w]
    clear hsh
    obtain ⟨q, hqq⟩ : ∃ q, q = q2 := ⟨q2, rfl⟩
    subst hqq
    exact tail_done (k := q) (hp107 _ _ ⟨hgq, hsb, hdb, j1, trivial⟩)
  · rintro a k ⟨hg, hs, hd, i1, _⟩
    refine wp_seq ?_
    refine wp_seq ?_
    refine cut (fun a' k' => Chg noF k0 k' ∧ a'.tmps.size = 43 ∧ a'.defers = [] ∧ (IsRef m_) (a'.get 1) k' ∧ (IsV m_.Kind) (a'.get 4) k' ∧ True) ?_ hQ ?_
    · intro Q104 hQQ104 hp105
      refine regionS (a0 := a) (k0 := k) (n := 43) (m := 2) (⟨some (IsPtr m_.Kind), [(1, none)]⟩ :: ⟨some (IsV m_.Kind), [(3, some 0)]⟩ :: []) hs (by kernel_rfl) ⟨⟨inferInstance, fun b q hk hn => ok_fieldAddr rfl fo33_0 (at_Move_0 _) ((up i1 hk hn.1)).ptr, rfl⟩, ⟨inferInstance, fun b q hk hn => ok_load rfl ty3 hn.1, rfl⟩, trivial⟩ hQQ104 fun b q p => ?_
      have hgq := hg.then p.grow
      have hsb := p.size.trans hs
      have hdb := p.defers.trans hd
      have j1 := keep p 1 rfl i1
      have j4 : (IsV m_.Kind) (b.get 4) q := out p 1 4 _ rfl rfl rfl
      exact tail_done (k := q) (hp105 _ _ ⟨hgq, hsb, hdb, j1, j4, trivial⟩)
    · rintro a k ⟨hg, hs, hd, i1, i4, _⟩
      refine wp_block ?_
      refine wp_seq ?_
      refine cut (fun a' k' => Chg noF k0 k' ∧ a'.tmps.size = 43 ∧ a'.defers = [] ∧ (IsRef m_) (a'.get 1) k' ∧ (IsV m_.Kind) (a'.get 4) k' ∧ (IsV (m_.Kind == 0)) (a'.get 5) k' ∧ True) ?_ hQ ?_
      · intro Q102 hQQ102 hp103
        refine regionS (a0 := a) (k0 := k) (n := 43) (m := 2) (⟨some (IsV (m_.Kind == 0)), [(4, none)]⟩ :: ⟨some (IsV (m_.Kind == 0)), [(6, some 0)]⟩ :: []) hs (by kernel_rfl) ⟨⟨inferInstance, fun b q hk hn => ok_eqI rfl (up i4 hk hn.1) (isV_int.2 rfl), rfl⟩, ⟨inferInstance, fun b q hk hn => ok_assign rfl hn.1, rfl⟩, trivial⟩ hQQ102 fun b q p => ?_
        have hgq := hg.then p.grow
        have hsb := p.size.trans hs
        have hdb := p.defers.trans hd
        have j1 := keep p 1 rfl i1
        have j4 := keep p 4 rfl i4
        have j5 : (IsV (m_.Kind == 0)) (b.get 5) q := out p 1 5 _ rfl rfl rfl
        exact tail_done (k := q) (hp103 _ _ ⟨hgq, hsb, hdb, j1, j4, j5, trivial⟩)
      · rintro a k ⟨hg, hs, hd, i1, i4, i5, _⟩
        refine wp_cond_split (isBool i5) (fun hc101 => ?_) (fun hc101 => ?_)
        · rw [if_pos hc101] at hr
          refine wp_seq ?_
          obtain ⟨x59_2, hx59_2, hr⟩ := bind_some hr
          obtain ⟨x59_7, hx59_7, hr⟩ := bind_some hr
          obtain ⟨x59_12, hx59_12, hr⟩ := bind_some hr
          refine cut (fun a' k' => Chg noF k0 k' ∧ a'.tmps.size = 43 ∧ a'.defers = [] ∧ (IsV x59_12) (a'.get 2) k' ∧ True) ?_ hQ ?_
          · intro Q60 hQQ60 hp61
            rcases Bool.eq_false_or_eq_true x59_2 with hm62 | hm62
            · have ht63 := hx59_7
              rw [if_pos hm62] at ht63
              obtain ⟨x59_6, hx59_6, ht63⟩ := bind_some ht63
              rcases Bool.eq_false_or_eq_true x59_7 with hm64 | hm64
              · have ht65 := hx59_12
                rw [if_pos hm64] at ht65
                obtain ⟨x59_11, hx59_11, ht65⟩ := bind_some ht65
                refine regionS (a0 := a) (k0 := k) (n := 43) (m := 14) (⟨some (IsPtr m_.To), [(1, none)]⟩ :: ⟨some (IsV m_.To), [(7, some 0)]⟩ :: ⟨some (IsV x59_2), [(8, some 1)]⟩ :: ⟨some (IsV x59_2), [(9, some 2)]⟩ :: ⟨some (IsPtr m_.From), [(1, none)]⟩ :: ⟨some (IsV m_.From), [(11, some 4)]⟩ :: ⟨some (IsV x59_6), [(12, some 5)]⟩ :: ⟨some (IsV x59_7), [(10, some 3), (13, some 6)]⟩ :: ⟨some (IsV x59_7), [(14, some 7)]⟩ :: ⟨some (IsPtr m_.N), [(1, none)]⟩ :: ⟨some (IsV m_.N), [(16, some 9)]⟩ :: ⟨some (IsV x59_11), [(17, some 10)]⟩ :: ⟨some (IsV x59_12), [(15, some 8), (18, some 11)]⟩ :: ⟨some (IsV x59_12), [(19, some 12)]⟩ :: []) hs (by kernel_rfl) ⟨⟨inferInstance, fun b q hk hn => ok_fieldAddr rfl fo33_2 (at_Move_2 _) ((up i1 hk hn.1)).ptr, rfl⟩, ⟨inferInstance, fun b q hk hn => ok_load rfl ty3 hn.1, rfl⟩, ⟨inferInstance, fun b q hk hn => ok_call rfl Try.call31 (within_ok hn.1 (isV_int.2 rfl) (isV_int.2 rfl) hx59_2), rfl⟩, ⟨inferInstance, fun b q hk hn => ok_move rfl hn.1, rfl⟩, ⟨inferInstance, fun b q hk hn => ok_fieldAddr rfl fo33_1 (at_Move_1 _) ((up i1 hk hn.1)).ptr, guardT hm62⟩, ⟨inferInstance, fun b q hk hn => ok_load rfl ty3 hn.1, guardT hm62⟩, ⟨inferInstance, fun b q hk hn => ok_call rfl Try.call31 (within_ok hn.1 (isV_int.2 rfl) (isV_int.2 rfl) hx59_6), guardT hm62⟩, ⟨inferInstance, fun b q hk hn => ok_cast (Option.some.inj ht63) (ok_pick_t rfl hn.1 hm62 hn.2.1), rfl⟩, ⟨inferInstance, fun b q hk hn => ok_move rfl hn.1, rfl⟩, ⟨inferInstance, fun b q hk hn => ok_fieldAddr rfl fo33_3 (at_Move_3 _) ((up i1 hk hn.1)).ptr, guardT hm64⟩, ⟨inferInstance, fun b q hk hn => ok_load rfl ty3 hn.1, guardT hm64⟩, ⟨inferInstance, fun b q hk hn => ok_call rfl Try.call31 (within_ok hn.1 (isV_int.2 rfl) (isV_int.2 rfl) hx59_11), guardT hm64⟩, ⟨inferInstance, fun b q hk hn => ok_cast (Option.some.inj ht65) (ok_pick_t rfl hn.1 hm64 hn.2.1), rfl⟩, ⟨inferInstance, fun b q hk hn => ok_assign rfl hn.1, rfl⟩, trivial⟩ hQQ60 fun b q p => ?_
                have hgq := hg.then p.grow
                have hsb := p.size.trans hs
                have hdb := p.defers.trans hd
                have j2 : (IsV x59_12) (b.get 2) q := out p 13 2 _ rfl rfl rfl
                exact tail_done (k := q) (hp61 _ _ ⟨hgq, hsb, hdb, j2, trivial⟩)
              · have ht65 := hx59_12
                rw [if_neg (by rw [hm64]; decide)] at ht65
                have hk66 : x59_12 = false := (Option.some.inj ht65).symm
                refine regionS (a0 := a) (k0 := k) (n := 43) (m := 14) (⟨some (IsPtr m_.To), [(1, none)]⟩ :: ⟨some (IsV m_.To), [(7, some 0)]⟩ :: ⟨some (IsV x59_2), [(8, some 1)]⟩ :: ⟨some (IsV x59_2), [(9, some 2)]⟩ :: ⟨some (IsPtr m_.From), [(1, none)]⟩ :: ⟨some (IsV m_.From), [(11, some 4)]⟩ :: ⟨some (IsV x59_6), [(12, some 5)]⟩ :: ⟨some (IsV x59_7), [(10, some 3), (13, some 6)]⟩ :: ⟨some (IsV x59_7), [(14, some 7)]⟩ :: ⟨none, []⟩ :: ⟨none, []⟩ :: ⟨none, []⟩ :: ⟨some (IsV x59_12), [(15, some 8), (18, some 11)]⟩ :: ⟨some (IsV x59_12), [(19, some 12)]⟩ :: []) hs (by kernel_rfl) ⟨⟨inferInstance, fun b q hk hn => ok_fieldAddr rfl fo33_2 (at_Move_2 _) ((up i1 hk hn.1)).ptr, rfl⟩, ⟨inferInstance, fun b q hk hn => ok_load rfl ty3 hn.1, rfl⟩, ⟨inferInstance, fun b q hk hn => ok_call rfl Try.call31 (within_ok hn.1 (isV_int.2 rfl) (isV_int.2 rfl) hx59_2), rfl⟩, ⟨inferInstance, fun b q hk hn => ok_move rfl hn.1, rfl⟩, ⟨inferInstance, fun b q hk hn => ok_fieldAddr rfl fo33_1 (at_Move_1 _) ((up i1 hk hn.1)).ptr, guardT hm62⟩, ⟨inferInstance, fun b q hk hn => ok_load rfl ty3 hn.1, guardT hm62⟩, ⟨inferInstance, fun b q hk hn => ok_call rfl Try.call31 (within_ok hn.1 (isV_int.2 rfl) (isV_int.2 rfl) hx59_6), guardT hm62⟩, ⟨inferInstance, fun b q hk hn => ok_cast (Option.some.inj ht63) (ok_pick_t rfl hn.1 hm62 hn.2.1), rfl⟩, ⟨inferInstance, fun b q hk hn => ok_move rfl hn.1, rfl⟩, guardF hm64, guardF hm64, guardF hm64, ⟨inferInstance, fun b q hk hn => ok_cast (Option.some.inj ht65) (ok_pick_f rfl hn.1 hm64 (isV_bool.2 rfl)), rfl⟩, ⟨inferInstance, fun b q hk hn => ok_assign rfl hn.1, rfl⟩, trivial⟩ hQQ60 fun b q p => ?_
                have hgq := hg.then p.grow
                have hsb := p.size.trans hs
                have hdb := p.defers.trans hd
                have j2 : (IsV x59_12) (b.get 2) q := out p 13 2 _ rfl rfl rfl
                exact tail_done (k := q) (hp61 _ _ ⟨hgq, hsb, hdb, j2, trivial⟩)
            · have ht63 := hx59_7
              rw [if_neg (by rw [hm62]; decide)] at ht63
              have hk67 : x59_7 = false := (Option.some.inj ht63).symm
              have hm68 := hk67
              have ht69 := hx59_12
              rw [if_neg (by rw [hm68]; decide)] at ht69
              have hk70 : x59_12 = false := (Option.some.inj ht69).symm
              refine regionS (a0 := a) (k0 := k) (n := 43) (m := 14) (⟨some (IsPtr m_.To), [(1, none)]⟩ :: ⟨some (IsV m_.To), [(7, some 0)]⟩ :: ⟨some (IsV x59_2), [(8, some 1)]⟩ :: ⟨some (IsV x59_2), [(9, some 2)]⟩ :: ⟨none, []⟩ :: ⟨none, []⟩ :: ⟨none, []⟩ :: ⟨some (IsV x59_7), [(10, some 3), (13, some 6)]⟩ :: ⟨some (IsV x59_7), [(14, some 7)]⟩ :: ⟨none, []⟩ :: ⟨none, []⟩ :: ⟨none, []⟩ :: ⟨some (IsV x59_12), [(15, some 8), (18, some 11)]⟩ :: ⟨some (IsV x59_12), [(19, some 12)]⟩ :: []) hs (by kernel_rfl) ⟨⟨inferInstance, fun b q hk hn => ok_fieldAddr rfl fo33_2 (at_Move_2 _) ((up i1 hk hn.1)).ptr, rfl⟩, ⟨inferInstance, fun b q hk hn => ok_load rfl ty3 hn.1, rfl⟩, ⟨inferInstance, fun b q hk hn => ok_call rfl Try.call31 (within_ok hn.1 (isV_int.2 rfl) (isV_int.2 rfl) hx59_2), rfl⟩, ⟨inferInstance, fun b q hk hn => ok_move rfl hn.1, rfl⟩, guardF hm62, guardF hm62, guardF hm62, ⟨inferInstance, fun b q hk hn => ok_cast (Option.some.inj ht63) (ok_pick_f rfl hn.1 hm62 (isV_bool.2 rfl)), rfl⟩, ⟨inferInstance, fun b q hk hn => ok_move rfl hn.1, rfl⟩, guardF hm68, guardF hm68, guardF hm68, ⟨inferInstance, fun b q hk hn => ok_cast (Option.some.inj ht69) (ok_pick_f rfl hn.1 hm68 (isV_bool.2 rfl)), rfl⟩, ⟨inferInstance, fun b q hk hn => ok_assign rfl hn.1, rfl⟩, trivial⟩ hQQ60 fun b q p => ?_
              have hgq := hg.then p.grow
              have hsb := p.size.trans hs
              have hdb := p.defers.trans hd
              have j2 : (IsV x59_12) (b.get 2) q := out p 13 2 _ rfl rfl rfl
              exact tail_done (k := q) (hp61 _ _ ⟨hgq, hsb, hdb, j2, trivial⟩)
          · rintro a k ⟨hg, hs, hd, i2, _⟩
            refine wp_ret ?_
            obtain rfl := Option.some.inj hr
            exact retC1 rfl hd hg i2
        · rw [if_neg (by rw [hc101]; decide)] at hr
          refine wp_seq ?_
          refine cut (fun a' k' => Chg noF k0 k' ∧ a'.tmps.size = 43 ∧ a'.defers = [] ∧ (IsRef m_) (a'.get 1) k' ∧ (IsV m_.Kind) (a'.get 4) k' ∧ (IsV (m_.Kind == 1)) (a'.get 20) k' ∧ True) ?_ hQ ?_
          · intro Q99 hQQ99 hp100
            refine regionS (a0 := a) (k0 := k) (n := 43) (m := 2) (⟨some (IsV (m_.Kind == 1)), [(4, none)]⟩ :: ⟨some (IsV (m_.Kind == 1)), [(21, some 0)]⟩ :: []) hs (by kernel_rfl) ⟨⟨inferInstance, fun b q hk hn => ok_eqI rfl (up i4 hk hn.1) (isV_int.2 rfl), rfl⟩, ⟨inferInstance, fun b q hk hn => ok_assign rfl hn.1, rfl⟩, trivial⟩ hQQ99 fun b q p => ?_
            have hgq := hg.then p.grow
            have hsb := p.size.trans hs
            have hdb := p.defers.trans hd
            have j1 := keep p 1 rfl i1
            have j4 := keep p 4 rfl i4
            have j20 : (IsV (m_.Kind == 1)) (b.get 20) q := out p 1 20 _ rfl rfl rfl
            exact tail_done (k := q) (hp100 _ _ ⟨hgq, hsb, hdb, j1, j4, j20, trivial⟩)
          · rintro a k ⟨hg, hs, hd, i1, i4, i20, _⟩
            refine wp_cond_split (isBool i20) (fun hc98 => ?_) (fun hc98 => ?_)
            · rw [if_pos hc98] at hr
              refine wp_seq ?_
              obtain ⟨x72_9, hx72_9, hr⟩ := bind_some hr
              refine cut (fun a' k' => Chg noF k0 k' ∧ a'.tmps.size = 43 ∧ a'.defers = [] ∧ (IsV x72_9) (a'.get 2) k' ∧ True) ?_ hQ ?_
              · intro Q73 hQQ73 hp74
                rcases Bool.eq_false_or_eq_true (m_.From != m_.To) with hm75 | hm75
                · have ht76 := hx72_9
                  rw [if_pos hm75] at ht76
                  obtain ⟨x72_8, hx72_8, ht76⟩ := bind_some ht76
                  refine regionS (a0 := a) (k0 := k) (n := 43) (m := 11) (⟨some (IsPtr m_.From), [(1, none)]⟩ :: ⟨some (IsV m_.From), [(22, some 0)]⟩ :: ⟨some (IsPtr m_.To), [(1, none)]⟩ :: ⟨some (IsV m_.To), [(24, some 2)]⟩ :: ⟨some (IsV (m_.From != m_.To)), [(23, some 1), (25, some 3)]⟩ :: ⟨some (IsV (m_.From != m_.To)), [(26, some 4)]⟩ :: ⟨some (IsPtr m_.N), [(1, none)]⟩ :: ⟨some (IsV m_.N), [(28, some 6)]⟩ :: ⟨some (IsV x72_8), [(29, some 7)]⟩ :: ⟨some (IsV x72_9), [(27, some 5), (30, some 8)]⟩ :: ⟨some (IsV x72_9), [(31, some 9)]⟩ :: []) hs (by kernel_rfl) ⟨⟨inferInstance, fun b q hk hn => ok_fieldAddr rfl fo33_1 (at_Move_1 _) ((up i1 hk hn.1)).ptr, rfl⟩, ⟨inferInstance, fun b q hk hn => ok_load rfl ty3 hn.1, rfl⟩, ⟨inferInstance, fun b q hk hn => ok_fieldAddr rfl fo33_2 (at_Move_2 _) ((up i1 hk hn.1)).ptr, rfl⟩, ⟨inferInstance, fun b q hk hn => ok_load rfl ty3 hn.1, rfl⟩, ⟨inferInstance, fun b q hk hn => ok_neI rfl hn.1 hn.2.1, rfl⟩, ⟨inferInstance, fun b q hk hn => ok_move rfl hn.1, rfl⟩, ⟨inferInstance, fun b q hk hn => ok_fieldAddr rfl fo33_3 (at_Move_3 _) ((up i1 hk hn.1)).ptr, guardT hm75⟩, ⟨inferInstance, fun b q hk hn => ok_load rfl ty3 hn.1, guardT hm75⟩, ⟨inferInstance, fun b q hk hn => ok_call rfl Try.call31 (within_ok hn.1 (isV_int.2 rfl) (isV_int.2 rfl) hx72_8), guardT hm75⟩, ⟨inferInstance, fun b q hk hn => ok_cast (Option.some.inj ht76) (ok_pick_t rfl hn.1 hm75 hn.2.1), rfl⟩, ⟨inferInstance, fun b q hk hn => ok_assign rfl hn.1, rfl⟩, trivial⟩ hQQ73 fun b q p => ?_
                  have hgq := hg.then p.grow
                  have hsb := p.size.trans hs
                  have hdb := p.defers.trans hd
                  have j2 : (IsV x72_9) (b.get 2) q := out p 10 2 _ rfl rfl rfl
                  exact tail_done (k := q) (hp74 _ _ ⟨hgq, hsb, hdb, j2, trivial⟩)
                · have ht76 := hx72_9
                  rw [if_neg (by rw [hm75]; decide)] at ht76
                  have hk77 : x72_9 = false := (Option.some.inj ht76).symm
                  refine regionS (a0 := a) (k0 := k) (n := 43) (m := 11) (⟨some (IsPtr m_.From), [(1, none)]⟩ :: ⟨some (IsV m_.From), [(22, some 0)]⟩ :: ⟨some (IsPtr m_.To), [(1, none)]⟩ :: ⟨some (IsV m_.To), [(24, some 2)]⟩ :: ⟨some (IsV (m_.From != m_.To)), [(23, some 1), (25, some 3)]⟩ :: ⟨some (IsV (m_.From != m_.To)), [(26, some 4)]⟩ :: ⟨none, []⟩ :: ⟨none, []⟩ :: ⟨none, []⟩ :: ⟨some (IsV x72_9), [(27, some 5), (30, some 8)]⟩ :: ⟨some (IsV x72_9), [(31, some 9)]⟩ :: []) hs (by kernel_rfl) ⟨⟨inferInstance, fun b q hk hn => ok_fieldAddr rfl fo33_1 (at_Move_1 _) ((up i1 hk hn.1)).ptr, rfl⟩, ⟨inferInstance, fun b q hk hn => ok_load rfl ty3 hn.1, rfl⟩, ⟨inferInstance, fun b q hk hn => ok_fieldAddr rfl fo33_2 (at_Move_2 _) ((up i1 hk hn.1)).ptr, rfl⟩, ⟨inferInstance, fun b q hk hn => ok_load rfl ty3 hn.1, rfl⟩, ⟨inferInstance, fun b q hk hn => ok_neI rfl hn.1 hn.2.1, rfl⟩, ⟨inferInstance, fun b q hk hn => ok_move rfl hn.1, rfl⟩, guardF hm75, guardF hm75, guardF hm75, ⟨inferInstance, fun b q hk hn => ok_cast (Option.some.inj ht76) (ok_pick_f rfl hn.1 hm75 (isV_bool.2 rfl)), rfl⟩, ⟨inferInstance, fun b q hk hn => ok_assign rfl hn.1, rfl⟩, trivial⟩ hQQ73 fun b q p => ?_
                  have hgq := hg.then p.grow
                  have hsb := p.size.trans hs
                  have hdb := p.defers.trans hd
                  have j2 : (IsV x72_9) (b.get 2) q := out p 10 2 _ rfl rfl rfl
                  exact tail_done (k := q) (hp74 _ _ ⟨hgq, hsb, hdb, j2, trivial⟩)
              · rintro a k ⟨hg, hs, hd, i2, _⟩
                refine wp_ret ?_
                obtain rfl := Option.some.inj hr
                exact retC1 rfl hd hg i2
            · rw [if_neg (by rw [hc98]; decide)] at hr
              refine wp_seq ?_
              refine wp_seq ?_
              refine cut (fun a' k' => Chg noF k0 k' ∧ a'.tmps.size = 43 ∧ a'.defers = [] ∧ (IsRef m_) (a'.get 1) k' ∧ (IsV m_.Kind) (a'.get 4) k' ∧ (IsV (m_.Kind == 2)) (a'.get 32) k' ∧ True) ?_ hQ ?_
              · intro Q96 hQQ96 hp97
                refine regionS (a0 := a) (k0 := k) (n := 43) (m := 2) (⟨some (IsV (m_.Kind == 2)), [(4, none)]⟩ :: ⟨some (IsV (m_.Kind == 2)), [(33, some 0)]⟩ :: []) hs (by kernel_rfl) ⟨⟨inferInstance, fun b q hk hn => ok_eqI rfl (up i4 hk hn.1) (isV_int.2 rfl), rfl⟩, ⟨inferInstance, fun b q hk hn => ok_assign rfl hn.1, rfl⟩, trivial⟩ hQQ96 fun b q p => ?_
                have hgq := hg.then p.grow
                have hsb := p.size.trans hs
                have hdb := p.defers.trans hd
                have j1 := keep p 1 rfl i1
                have j4 := keep p 4 rfl i4
                have j32 : (IsV (m_.Kind == 2)) (b.get 32) q := out p 1 32 _ rfl rfl rfl
                exact tail_done (k := q) (hp97 _ _ ⟨hgq, hsb, hdb, j1, j4, j32, trivial⟩)
              · rintro a k ⟨hg, hs, hd, i1, i4, i32, _⟩
                obtain ⟨s79, hs79, hr⟩ := bind_some hr
                refine cut (fun a' k' => Chg noF k0 k' ∧ a'.tmps.size = 43 ∧ a'.defers = [] ∧ (IsRef m_) (a'.get 1) k' ∧ (IsV s79) (a'.get 32) k' ∧ True) ?_ hQ ?_
                · intro Q95 hQQ95 hp80
                  replace hr := hs79
                  clear hQ
                  have hQ := hQQ95
                  refine wp_cond_split (isBool i32) (fun hc84 => ?_) (fun hc84 => ?_)
                  · rw [if_pos hc84] at hr
                    refine wp_skip ?_
                    obtain rfl := Option.some.inj hr
                    exact hp80 _ _ ⟨hg, hs, hd, i1, i32, trivial⟩
                  · rw [if_neg (by rw [hc84]; decide)] at hr
                    refine cut (fun a' k' => Chg noF k0 k' ∧ a'.tmps.size = 43 ∧ a'.defers = [] ∧ (IsRef m_) (a'.get 1) k' ∧ (IsV (m_.Kind == 3)) (a'.get 32) k' ∧ True) ?_ hQ ?_
                    · intro Q82 hQQ82 hp83
                      refine regionS (a0 := a) (k0 := k) (n := 43) (m := 2) (⟨some (IsV (m_.Kind == 3)), [(4, none)]⟩ :: ⟨some (IsV (m_.Kind == 3)), [(34, some 0)]⟩ :: []) hs (by kernel_rfl) ⟨⟨inferInstance, fun b q hk hn => ok_eqI rfl (up i4 hk hn.1) (isV_int.2 rfl), rfl⟩, ⟨inferInstance, fun b q hk hn => ok_assign rfl hn.1, rfl⟩, trivial⟩ hQQ82 fun b q p => ?_
                      have hgq := hg.then p.grow
                      have hsb := p.size.trans hs
                      have hdb := p.defers.trans hd
                      have j1 := keep p 1 rfl i1
                      have j32 : (IsV (m_.Kind == 3)) (b.get 32) q := out p 1 32 _ rfl rfl rfl
                      exact tail_done (k := q) (hp83 _ _ ⟨hgq, hsb, hdb, j1, j32, trivial⟩)
                    · rintro a k ⟨hg, hs, hd, i1, i32, _⟩
                      obtain rfl := Option.some.inj hr
                      exact hp80 _ _ ⟨hg, hs, hd, i1, i32, trivial⟩
                · clear hs79
                  rintro a k ⟨hg, hs, hd, i1, i32, _⟩
                  refine wp_cond_split (isBool i32) (fun hc94 => ?_) (fun hc94 => ?_)
                  · rw [if_pos hc94] at hr
                    refine wp_seq ?_
                    obtain ⟨x85_7, hx85_7, hr⟩ := bind_some hr
                    refine cut (fun a' k' => Chg noF k0 k' ∧ a'.tmps.size = 43 ∧ a'.defers = [] ∧ (IsV x85_7) (a'.get 2) k' ∧ True) ?_ hQ ?_
                    · intro Q86 hQQ86 hp87
                      rcases Bool.eq_false_or_eq_true (m_.To == 0) with hm88 | hm88
                      · have ht89 := hx85_7
                        rw [if_pos hm88] at ht89
                        obtain ⟨x85_6, hx85_6, ht89⟩ := bind_some ht89
                        refine regionS (a0 := a) (k0 := k) (n := 43) (m := 9) (⟨some (IsPtr m_.To), [(1, none)]⟩ :: ⟨some (IsV m_.To), [(35, some 0)]⟩ :: ⟨some (IsV (m_.To == 0)), [(36, some 1)]⟩ :: ⟨some (IsV (m_.To == 0)), [(37, some 2)]⟩ :: ⟨some (IsPtr m_.N), [(1, none)]⟩ :: ⟨some (IsV m_.N), [(39, some 4)]⟩ :: ⟨some (IsV x85_6), [(40, some 5)]⟩ :: ⟨some (IsV x85_7), [(38, some 3), (41, some 6)]⟩ :: ⟨some (IsV x85_7), [(42, some 7)]⟩ :: []) hs (by kernel_rfl) ⟨⟨inferInstance, fun b q hk hn => ok_fieldAddr rfl fo33_2 (at_Move_2 _) ((up i1 hk hn.1)).ptr, rfl⟩, ⟨inferInstance, fun b q hk hn => ok_load rfl ty3 hn.1, rfl⟩, ⟨inferInstance, fun b q hk hn => ok_eqI rfl hn.1 (isV_int.2 rfl), rfl⟩, ⟨inferInstance, fun b q hk hn => ok_move rfl hn.1, rfl⟩, ⟨inferInstance, fun b q hk hn => ok_fieldAddr rfl fo33_3 (at_Move_3 _) ((up i1 hk hn.1)).ptr, guardT hm88⟩, ⟨inferInstance, fun b q hk hn => ok_load rfl ty3 hn.1, guardT hm88⟩, ⟨inferInstance, fun b q hk hn => ok_call rfl Try.call31 (within_ok hn.1 (isV_int.2 rfl) (isV_int.2 rfl) hx85_6), guardT hm88⟩, ⟨inferInstance, fun b q hk hn => ok_cast (Option.some.inj ht89) (ok_pick_t rfl hn.1 hm88 hn.2.1), rfl⟩, ⟨inferInstance, fun b q hk hn => ok_assign rfl hn.1, rfl⟩, trivial⟩ hQQ86 fun b q p => ?_
                        have hgq := hg.then p.grow
                        have hsb := p.size.trans hs
                        have hdb := p.defers.trans hd
                        have j2 : (IsV x85_7) (b.get 2) q := out p 8 2 _ rfl rfl rfl
                        exact tail_done (k := q) (hp87 _ _ ⟨hgq, hsb, hdb, j2, trivial⟩)
                      · have ht89 := hx85_7
                        rw [if_neg (by rw [hm88]; decide)] at ht89
                        have hk90 : x85_7 = false := (Option.some.inj ht89).symm
                        refine regionS (a0 := a) (k0 := k) (n := 43) (m := 9) (⟨some (IsPtr m_.To), [(1, none)]⟩ :: ⟨some (IsV m_.To), [(35, some 0)]⟩ :: ⟨some (IsV (m_.To == 0)), [(36, some 1)]⟩ :: ⟨some (IsV (m_.To == 0)), [(37, some 2)]⟩ :: ⟨none, []⟩ :: ⟨none, []⟩ :: ⟨none, []⟩ :: ⟨some (IsV x85_7), [(38, some 3), (41, some 6)]⟩ :: ⟨some (IsV x85_7), [(42, some 7)]⟩ :: []) hs (by kernel_rfl) ⟨⟨inferInstance, fun b q hk hn => ok_fieldAddr rfl fo33_2 (at_Move_2 _) ((up i1 hk hn.1)).ptr, rfl⟩, ⟨inferInstance, fun b q hk hn => ok_load rfl ty3 hn.1, rfl⟩, ⟨inferInstance, fun b q hk hn => ok_eqI rfl hn.1 (isV_int.2 rfl), rfl⟩, ⟨inferInstance, fun b q hk hn => ok_move rfl hn.1, rfl⟩, guardF hm88, guardF hm88, guardF hm88, ⟨inferInstance, fun b q hk hn => ok_cast (Option.some.inj ht89) (ok_pick_f rfl hn.1 hm88 (isV_bool.2 rfl)), rfl⟩, ⟨inferInstance, fun b q hk hn => ok_assign rfl hn.1, rfl⟩, trivial⟩ hQQ86 fun b q p => ?_
                        have hgq := hg.then p.grow
                        have hsb := p.size.trans hs
                        have hdb := p.defers.trans hd
                        have j2 : (IsV x85_7) (b.get 2) q := out p 8 2 _ rfl rfl rfl
                        exact tail_done (k := q) (hp87 _ _ ⟨hgq, hsb, hdb, j2, trivial⟩)
                    · rintro a k ⟨hg, hs, hd, i2, _⟩
                      refine wp_ret ?_
                      obtain rfl := Option.some.inj hr
                      exact retC1 rfl hd hg i2
                  · rw [if_neg (by rw [hc94]; decide)] at hr
                    refine wp_skip ?_
                    refine wp_seq ?_
                    refine cut (fun a' k' => Chg noF k0 k' ∧ a'.tmps.size = 43 ∧ a'.defers = [] ∧ (IsV false) (a'.get 2) k' ∧ True) ?_ hQ ?_
                    · intro Q92 hQQ92 hp93
                      refine regionS (a0 := a) (k0 := k) (n := 43) (m := 1) (⟨some (IsV false), []⟩ :: []) hs (by kernel_rfl) ⟨⟨inferInstance, fun b q hk hn => ok_assign rfl (isV_bool.2 rfl), rfl⟩, trivial⟩ hQQ92 fun b q p => ?_
                      have hgq := hg.then p.grow
                      have hsb := p.size.trans hs
                      have hdb := p.defers.trans hd
                      have j2 : (IsV false) (b.get 2) q := out p 0 2 _ rfl rfl rfl
                      exact tail_done (k := q) (hp93 _ _ ⟨hgq, hsb, hdb, j2, trivial⟩)
                    · rintro a k ⟨hg, hs, hd, i2, _⟩
                      refine wp_ret ?_
                      obtain rfl := Option.some.inj hr
                      exact retC1 rfl hd hg i2
def cTotal_L0 (l_ : (List Account)) (s115 : Int × Int) : Option (Flow (Int × Int) (Int)) :=
  if (decide (s115.2 < (l_.length : Int))) then
    (getI l_ s115.2).bind fun x120_0 =>
    (addI s115.1 x120_0.Units).bind fun x121_3 =>
    (addI s115.2 1).bind fun x122_0 =>
    some (.go (x121_3, x122_0))
  else
    some (.ex 0 (s115.1, s115.2))
def cTotal (l_ : (List Account)) : Option (Int) :=
  (cRight l_).bind fun x109_1 =>
  if (!x109_1) then
    some 0
  else
    (iterL (cTotal_L0 l_) (l_.length + 1) (0, 0)).bind fun f132 => match f132 with
      | .go _ => none
      | .ex _ s133 =>
        some s133.1
      | .ret r137 => some r137
theorem cTotal_ok {k0 : K} {v0 : Value} {l_ : (List Account)} {r : Int} (i0 : (IsV l_) v0 k0) (hr : cTotal l_ = some r) :
    Calls Try.prog 21 #[v0] k0.w (Ret k0 (IsV r)) := by
  unfold cTotal at hr
  refine Ret.ofC ?_
  refine enterK Try.func21 rfl Try.ntmps21 (show 1 ≤ 21 by decide) fun a k hk0 hs hd ha => ?_
  obtain ⟨e0, _⟩ := ha
  replace i0 : (IsV l_) (a.get 0) k := by rw [e0, hk0]; exact i0
  have hQ : Gb.LetsOut (bodyPost Try.prog Try.f21 (RetC noF k0 (IsV r))) := letsOutC
  have hg : Chg noF k0 k := by rw [hk0]; exact Chg.refl _ k0
  refine wp_seq ?_
  refine cut (fun a' k' => Chg noF k0 k' ∧ a'.tmps.size = 21 ∧ a'.defers = [] ∧ (IsV l_) (a'.get 0) k' ∧ True) ?_ hQ ?_
  · intro Q146 hQQ146 hp147
    refine regionS (a0 := a) (k0 := k) (n := 21) (m := 1) (⟨some (IsV (α := Int) 0), []⟩ :: []) hs (by kernel_rfl) ⟨⟨inferInstance, fun b q hk hn => ok_assign rfl (isV_int.2 rfl), rfl⟩, trivial⟩ hQQ146 fun b q p => ?_
    have hgq := hg.then p.grow
    have hsb := p.size.trans hs
    have hdb := p.defers.trans hd
    have j0 := keep p 0 rfl i0
    exact tail_done (k := q) (hp147 _ _ ⟨hgq, hsb, hdb, j0, trivial⟩)
  · rintro a k ⟨hg, hs, hd, i0, _⟩
    refine wp_seq ?_
    refine wp_seq ?_
    obtain ⟨x109_1, hx109_1, hr⟩ := bind_some hr
    refine cut (fun a' k' => Chg noF k0 k' ∧ a'.tmps.size = 21 ∧ a'.defers = [] ∧ (IsV l_) (a'.get 0) k' ∧ (IsV (!x109_1)) (a'.get 8) k' ∧ True) ?_ hQ ?_
    · intro Q144 hQQ144 hp145
      refine regionS (a0 := a) (k0 := k) (n := 21) (m := 3) (⟨some (IsV l_), [(0, none)]⟩ :: ⟨some (IsV x109_1), [(6, some 0)]⟩ :: ⟨some (IsV (!x109_1)), [(7, some 1)]⟩ :: []) hs (by kernel_rfl) ⟨⟨inferInstance, fun b q hk hn => ok_move rfl (up i0 hk hn.1), rfl⟩, ⟨inferInstance, fun b q hk hn => ok_call rfl Try.call17 (cRight_ok hn.1 hx109_1), rfl⟩, ⟨inferInstance, fun b q hk hn => ok_not rfl hn.1, rfl⟩, trivial⟩ hQQ144 fun b q p => ?_
      have hgq := hg.then p.grow
      have hsb := p.size.trans hs
      have hdb := p.defers.trans hd
      have j0 := keep p 0 rfl i0
      have j8 : (IsV (!x109_1)) (b.get 8) q := out p 2 8 _ rfl rfl rfl
      exact tail_done (k := q) (hp145 _ _ ⟨hgq, hsb, hdb, j0, j8, trivial⟩)
    · rintro a k ⟨hg, hs, hd, i0, i8, _⟩
      refine wp_cond_split (isBool i8) (fun hc143 => ?_) (fun hc143 => ?_)
      · rw [if_pos hc143] at hr
        refine wp_seq ?_
        refine cut (fun a' k' => Chg noF k0 k' ∧ a'.tmps.size = 21 ∧ a'.defers = [] ∧ (IsV (α := Int) 0) (a'.get 2) k' ∧ True) ?_ hQ ?_
        · intro Q111 hQQ111 hp112
          refine regionS (a0 := a) (k0 := k) (n := 21) (m := 1) (⟨some (IsV (α := Int) 0), []⟩ :: []) hs (by kernel_rfl) ⟨⟨inferInstance, fun b q hk hn => ok_assign rfl (isV_int.2 rfl), rfl⟩, trivial⟩ hQQ111 fun b q p => ?_
          have hgq := hg.then p.grow
          have hsb := p.size.trans hs
          have hdb := p.defers.trans hd
          have j2 : (IsV (α := Int) 0) (b.get 2) q := out p 0 2 _ rfl rfl rfl
          exact tail_done (k := q) (hp112 _ _ ⟨hgq, hsb, hdb, j2, trivial⟩)
        · rintro a k ⟨hg, hs, hd, i2, _⟩
          refine wp_ret ?_
          obtain rfl := Option.some.inj hr
          exact retC1 rfl hd hg i2
      · rw [if_neg (by rw [hc143]; decide)] at hr
        refine wp_skip ?_
        refine wp_seq ?_
        refine cut (fun a' k' => Chg noF k0 k' ∧ a'.tmps.size = 21 ∧ a'.defers = [] ∧ (IsV l_) (a'.get 0) k' ∧ (IsV (α := Int) 0) (a'.get 3) k' ∧ True) ?_ hQ ?_
        · intro Q141 hQQ141 hp142
          refine regionS (a0 := a) (k0 := k) (n := 21) (m := 1) (⟨some (IsV (α := Int) 0), []⟩ :: []) hs (by kernel_rfl) ⟨⟨inferInstance, fun b q hk hn => ok_assign rfl (isV_int.2 rfl), rfl⟩, trivial⟩ hQQ141 fun b q p => ?_
          have hgq := hg.then p.grow
          have hsb := p.size.trans hs
          have hdb := p.defers.trans hd
          have j0 := keep p 0 rfl i0
          have j3 : (IsV (α := Int) 0) (b.get 3) q := out p 0 3 _ rfl rfl rfl
          exact tail_done (k := q) (hp142 _ _ ⟨hgq, hsb, hdb, j0, j3, trivial⟩)
        · rintro a k ⟨hg, hs, hd, i0, i3, _⟩
          refine wp_seq ?_
          refine wp_seq ?_
          refine cut (fun a' k' => Chg noF k0 k' ∧ a'.tmps.size = 21 ∧ a'.defers = [] ∧ (IsV (α := Int) 0) (a'.get 3) k' ∧ (IsV l_) (a'.get 9) k' ∧ (IsV (α := Int) (l_.length : Int)) (a'.get 10) k' ∧ (IsV (α := Int) 0) (a'.get 11) k' ∧ True) ?_ hQ ?_
          · intro Q139 hQQ139 hp140
            refine regionS (a0 := a) (k0 := k) (n := 21) (m := 3) (⟨some (IsV l_), [(0, none)]⟩ :: ⟨some (IsV (α := Int) (l_.length : Int)), [(9, some 0)]⟩ :: ⟨some (IsV (α := Int) 0), []⟩ :: []) hs (by kernel_rfl) ⟨⟨inferInstance, fun b q hk hn => ok_move rfl (up i0 hk hn.1), rfl⟩, ⟨inferInstance, fun b q hk hn => ok_len rfl rfl Try.underlying22 (IsV.rd hn.1), rfl⟩, ⟨inferInstance, fun b q hk hn => ok_move rfl (isV_int.2 rfl), rfl⟩, trivial⟩ hQQ139 fun b q p => ?_
            have hgq := hg.then p.grow
            have hsb := p.size.trans hs
            have hdb := p.defers.trans hd
            have j3 := keep p 3 rfl i3
            have j9 : (IsV l_) (b.get 9) q := out p 0 9 _ rfl rfl rfl
            have j10 : (IsV (α := Int) (l_.length : Int)) (b.get 10) q := out p 1 10 _ rfl rfl rfl
            have j11 : (IsV (α := Int) 0) (b.get 11) q := out p 2 11 _ rfl rfl rfl
            exact tail_done (k := q) (hp140 _ _ ⟨hgq, hsb, hdb, j3, j9, j10, j11, trivial⟩)
          · rintro a k ⟨hg, hs, hd, i3, i9, i10, i11, _⟩
            refine wp_block ?_
            obtain ⟨f132, hf132, hr⟩ := bind_some hr
            refine cutF f132 (fun s' a' k' => Chg noF k0 k' ∧ a'.tmps.size = 21 ∧ a'.defers = [] ∧ (IsV s'.1) (a'.get 3) k' ∧ (IsV l_) (a'.get 9) k' ∧ (IsV (α := Int) (l_.length : Int)) (a'.get 10) k' ∧ (IsV s'.2) (a'.get 11) k' ∧ True) (fun i' s' a' k' => (i' = 0 ∧ Chg noF k0 k' ∧ a'.tmps.size = 21 ∧ a'.defers = [] ∧ (IsV s'.1) (a'.get 3) k' ∧ True)) (fun r' a' k' => bodyPost Try.prog Try.f21 (RetC noF k0 (IsV r')) .ret a' k'.w) ?_ hQ ?_ ?_ ?_
            · intro Q138 hQQ138 hgo hex hret
              refine sim_loop ?_ _ _ _ _ _ hf132 ⟨hg, hs, hd, i3, i9, i10, i11, trivial⟩ Q138 hQQ138 hgo hex hret
              clear hr hf132 hgo hex hret hQQ138 hQ hd hg hs i10 i11 i3 i9
              intro s115 fl_ a k hr hS Q hQ hgo116 hex117 hret118
              obtain ⟨hg, hs, hd, i3, i9, i10, i11, _⟩ := hS
              unfold cTotal_L0 at hr
              refine wp_seq ?_
              refine cut (fun a' k' => Chg noF k0 k' ∧ a'.tmps.size = 21 ∧ a'.defers = [] ∧ (IsV s115.1) (a'.get 3) k' ∧ (IsV l_) (a'.get 9) k' ∧ (IsV (α := Int) (l_.length : Int)) (a'.get 10) k' ∧ (IsV s115.2) (a'.get 11) k' ∧ (IsV (decide (s115.2 < (l_.length : Int)))) (a'.get 12) k' ∧ True) ?_ hQ ?_
              · intro Q130 hQQ130 hp131
                refine regionS (a0 := a) (k0 := k) (n := 21) (m := 1) (⟨some (IsV (decide (s115.2 < (l_.length : Int)))), [(11, none), (10, none)]⟩ :: []) hs (by kernel_rfl) ⟨⟨inferInstance, fun b q hk hn => ok_lss rfl (up i11 hk hn.1) (up i10 hk hn.2.1), rfl⟩, trivial⟩ hQQ130 fun b q p => ?_
                have hgq := hg.then p.grow
                have hsb := p.size.trans hs
                have hdb := p.defers.trans hd
                have j3 := keep p 3 rfl i3
                have j9 := keep p 9 rfl i9
                have j10 := keep p 10 rfl i10
                have j11 := keep p 11 rfl i11
                have j12 : (IsV (decide (s115.2 < (l_.length : Int)))) (b.get 12) q := out p 0 12 _ rfl rfl rfl
                exact tail_done (k := q) (hp131 _ _ ⟨hgq, hsb, hdb, j3, j9, j10, j11, j12, trivial⟩)
              · rintro a k ⟨hg, hs, hd, i3, i9, i10, i11, i12, _⟩
                refine wp_seq ?_
                refine wp_cond_split (isBool i12) (fun hc129 => ?_) (fun hc129 => ?_)
                · rw [if_pos hc129] at hr
                  refine wp_skip ?_
                  refine wp_seq ?_
                  refine wp_block ?_
                  refine wp_seq ?_
                  obtain ⟨x120_0, hx120_0, hr⟩ := bind_some hr
                  refine cut (fun a' k' => Chg noF k0 k' ∧ a'.tmps.size = 21 ∧ a'.defers = [] ∧ (IsV s115.1) (a'.get 3) k' ∧ (IsRef x120_0) (a'.get 5) k' ∧ (IsV l_) (a'.get 9) k' ∧ (IsV (α := Int) (l_.length : Int)) (a'.get 10) k' ∧ (IsV s115.2) (a'.get 11) k' ∧ True) ?_ hQ ?_
                  · intro Q127 hQQ127 hp128
                    refine regionS (a0 := a) (k0 := k) (n := 21) (m := 3) (⟨some (IsPtr x120_0), [(9, none), (11, none)]⟩ :: ⟨some (IsV x120_0), [(13, some 0)]⟩ :: ⟨some (IsBox k.w.heap.size (⟨0, 0, false⟩ : Account)), []⟩ :: []) hs (by kernel_rfl) ⟨⟨inferInstance, fun b q hk hn => ok_indexAddr rfl Try.underlying22 ty35 (IsV.rd (up i9 hk hn.1)) (up i11 hk hn.2.1) hx120_0, rfl⟩, ⟨inferInstance, fun b q hk hn => ok_load rfl ty35 hn.1, rfl⟩, ⟨inferInstance, fun b q hk hn => ok_alloc _ hk.size rfl z35, rfl⟩, trivial⟩ hQQ127 fun b q p => ?_
                    have hgq := hg.then p.grow
                    have hsb := p.size.trans hs
                    have hdb := p.defers.trans hd
                    have j3 := keep p 3 rfl i3
                    obtain ⟨b5, j5, x5, z5⟩ : (IsBox k.w.heap.size (⟨0, 0, false⟩ : Account)) (b.get 5) q := out p 2 5 _ rfl rfl rfl
                    replace x5 : Lo k (Eq b5) := Lo.eq x5
                    have y5 : Lo k0 (Eq b5) := x5.chg hg
                    have j9 := keep p 9 rfl i9
                    have j10 := keep p 10 rfl i10
                    have j11 := keep p 11 rfl i11
                    have j14 : (IsV x120_0) (b.get 14) q := out p 1 14 _ rfl rfl rfl
                    have hns := z5.nshF
                    refine tail_storeB (i := 3) rfl rfl rfl rfl szf35 (Upd.self (α := Account)) j5 z5 j14 fun q2 hch hz => ?_
                    replace hgq := hgq.step hch y5.wr
                    have hle := hch.le hns
                    replace j3 := Pers.pers hle j3
                    replace j9 := Pers.pers hle j9
                    replace j10 := Pers.pers hle j10
                    replace j11 := Pers.pers hle j11
                    replace j14 := Pers.pers hle j14
                    replace z5 := hz
                    clear hns hle hch
                    obtain ⟨q, hqq⟩ : ∃ q, q = q2 := ⟨q2, rfl⟩
                    subst hqq
                    obtain ⟨q2, hsh, jn⟩ := z5.give
                    replace j3 := Pers.pers hsh.le j3
                    replace j9 := Pers.pers hsh.le j9
                    replace j10 := Pers.pers hsh.le j10
                    replace j11 := Pers.pers hsh.le j11
                    rw [← j5] at jn
                    replace j5 := jn
                    replace hgq := hgq.hand hsh y5.wr
                    rw [← hsh.w]
                    clear hsh
                    obtain ⟨q, hqq⟩ : ∃ q, q = q2 := ⟨q2, rfl⟩
                    subst hqq
                    exact tail_done (k := q) (hp128 _ _ ⟨hgq, hsb, hdb, j3, j5, j9, j10, j11, trivial⟩)
                  · rintro a k ⟨hg, hs, hd, i3, i5, i9, i10, i11, _⟩
                    obtain ⟨x121_3, hx121_3, hr⟩ := bind_some hr
                    refine cut (fun a' k' => Chg noF k0 k' ∧ a'.tmps.size = 21 ∧ a'.defers = [] ∧ (IsV x121_3) (a'.get 3) k' ∧ (IsV l_) (a'.get 9) k' ∧ (IsV (α := Int) (l_.length : Int)) (a'.get 10) k' ∧ (IsV s115.2) (a'.get 11) k' ∧ True) ?_ hQ ?_
                    · intro Q125 hQQ125 hp126
                      refine regionS (a0 := a) (k0 := k) (n := 21) (m := 5) (⟨some (IsV s115.1), [(3, none)]⟩ :: ⟨some (IsPtr x120_0.Units), [(5, none)]⟩ :: ⟨some (IsV x120_0.Units), [(16, some 1)]⟩ :: ⟨some (IsV x121_3), [(15, some 0), (17, some 2)]⟩ :: ⟨some (IsV x121_3), [(18, some 3)]⟩ :: []) hs (by kernel_rfl) ⟨⟨inferInstance, fun b q hk hn => ok_move rfl (up i3 hk hn.1), rfl⟩, ⟨inferInstance, fun b q hk hn => ok_fieldAddr rfl fo35_1 (at_Account_1 _) ((up i5 hk hn.1)).ptr, rfl⟩, ⟨inferInstance, fun b q hk hn => ok_load rfl ty3 hn.1, rfl⟩, ⟨inferInstance, fun b q hk hn => ok_add rfl hn.1 hn.2.1 hx121_3, rfl⟩, ⟨inferInstance, fun b q hk hn => ok_assign rfl hn.1, rfl⟩, trivial⟩ hQQ125 fun b q p => ?_
                      have hgq := hg.then p.grow
                      have hsb := p.size.trans hs
                      have hdb := p.defers.trans hd
                      have j3 : (IsV x121_3) (b.get 3) q := out p 4 3 _ rfl rfl rfl
                      have j9 := keep p 9 rfl i9
                      have j10 := keep p 10 rfl i10
                      have j11 := keep p 11 rfl i11
                      exact tail_done (k := q) (hp126 _ _ ⟨hgq, hsb, hdb, j3, j9, j10, j11, trivial⟩)
                    · rintro a k ⟨hg, hs, hd, i3, i9, i10, i11, _⟩
                      obtain ⟨x122_0, hx122_0, hr⟩ := bind_some hr
                      refine cut (fun a' k' => Chg noF k0 k' ∧ a'.tmps.size = 21 ∧ a'.defers = [] ∧ (IsV x121_3) (a'.get 3) k' ∧ (IsV l_) (a'.get 9) k' ∧ (IsV (α := Int) (l_.length : Int)) (a'.get 10) k' ∧ (IsV x122_0) (a'.get 11) k' ∧ True) ?_ hQ ?_
                      · intro Q123 hQQ123 hp124
                        refine regionS (a0 := a) (k0 := k) (n := 21) (m := 2) (⟨some (IsV x122_0), [(11, none)]⟩ :: ⟨some (IsV x122_0), [(19, some 0)]⟩ :: []) hs (by kernel_rfl) ⟨⟨inferInstance, fun b q hk hn => ok_add rfl (up i11 hk hn.1) (isV_int.2 rfl) hx122_0, rfl⟩, ⟨inferInstance, fun b q hk hn => ok_move rfl hn.1, rfl⟩, trivial⟩ hQQ123 fun b q p => ?_
                        have hgq := hg.then p.grow
                        have hsb := p.size.trans hs
                        have hdb := p.defers.trans hd
                        have j3 := keep p 3 rfl i3
                        have j9 := keep p 9 rfl i9
                        have j10 := keep p 10 rfl i10
                        have j11 : (IsV x122_0) (b.get 11) q := out p 1 11 _ rfl rfl rfl
                        exact tail_done (k := q) (hp124 _ _ ⟨hgq, hsb, hdb, j3, j9, j10, j11, trivial⟩)
                      · rintro a k ⟨hg, hs, hd, i3, i9, i10, i11, _⟩
                        exact hgo116 _ _ _ (Option.some.inj hr).symm ⟨hg, hs, hd, i3, i9, i10, i11, trivial⟩
                · rw [if_neg (by rw [hc129]; decide)] at hr
                  refine wp_exit ?_
                  exact hex117 _ _ _ _ (Option.some.inj hr).symm ⟨rfl, hg, hs, hd, i3, trivial⟩
            · rintro _ _ _ rfl _
              simp at hr
            · clear hf132
              rintro _ s133 a k rfl ⟨rfl, hg, hs, hd, i3, _⟩
              dsimp only at hr
              refine wp_seq ?_
              refine cut (fun a' k' => Chg noF k0 k' ∧ a'.tmps.size = 21 ∧ a'.defers = [] ∧ (IsV s133.1) (a'.get 2) k' ∧ True) ?_ hQ ?_
              · intro Q135 hQQ135 hp136
                refine regionS (a0 := a) (k0 := k) (n := 21) (m := 2) (⟨some (IsV s133.1), [(3, none)]⟩ :: ⟨some (IsV s133.1), [(20, some 0)]⟩ :: []) hs (by kernel_rfl) ⟨⟨inferInstance, fun b q hk hn => ok_move rfl (up i3 hk hn.1), rfl⟩, ⟨inferInstance, fun b q hk hn => ok_assign rfl hn.1, rfl⟩, trivial⟩ hQQ135 fun b q p => ?_
                have hgq := hg.then p.grow
                have hsb := p.size.trans hs
                have hdb := p.defers.trans hd
                have j2 : (IsV s133.1) (b.get 2) q := out p 1 2 _ rfl rfl rfl
                exact tail_done (k := q) (hp136 _ _ ⟨hgq, hsb, hdb, j2, trivial⟩)
              · rintro a k ⟨hg, hs, hd, i2, _⟩
                refine wp_ret ?_
                obtain rfl := Option.some.inj hr
                exact retC1 rfl hd hg i2
            · rintro r137 a k rfl hR
              dsimp only at hr
              obtain rfl := Option.some.inj hr
              exact hR
def few (l_ : (List Account)) (m_ : (List Move)) : Option (Bool) :=
  some ((decide ((l_.length : Int) ≤ 10)) && (decide ((m_.length : Int) ≤ 20)))
theorem few_ok {k0 : K} {v0 v1 : Value} {l_ : (List Account)} {m_ : (List Move)} {r : Bool} (i0 : (IsV l_) v0 k0) (i1 : (IsV m_) v1 k0) (hr : few l_ m_ = some r) :
    Calls Try.prog 9 #[v0, v1] k0.w (Ret k0 (IsV r)) := by
  unfold few at hr
  refine Ret.ofC ?_
  refine enterK Try.func9 rfl Try.ntmps9 (show 2 ≤ 13 by decide) fun a k hk0 hs hd ha => ?_
  obtain ⟨e0, e1, _⟩ := ha
  replace i0 : (IsV l_) (a.get 0) k := by rw [e0, hk0]; exact i0
  replace i1 : (IsV m_) (a.get 1) k := by rw [e1, hk0]; exact i1
  have hQ : Gb.LetsOut (bodyPost Try.prog Try.f9 (RetC noF k0 (IsV r))) := letsOutC
  have hg : Chg noF k0 k := by rw [hk0]; exact Chg.refl _ k0
  refine wp_seq ?_
  refine cut (fun a' k' => Chg noF k0 k' ∧ a'.tmps.size = 13 ∧ a'.defers = [] ∧ (IsV l_) (a'.get 0) k' ∧ (IsV m_) (a'.get 1) k' ∧ True) ?_ hQ ?_
  · intro Q155 hQQ155 hp156
    refine regionS (a0 := a) (k0 := k) (n := 13) (m := 1) (⟨some (IsV false), []⟩ :: []) hs (by kernel_rfl) ⟨⟨inferInstance, fun b q hk hn => ok_assign rfl (isV_bool.2 rfl), rfl⟩, trivial⟩ hQQ155 fun b q p => ?_
    have hgq := hg.then p.grow
    have hsb := p.size.trans hs
    have hdb := p.defers.trans hd
    have j0 := keep p 0 rfl i0
    have j1 := keep p 1 rfl i1
    exact tail_done (k := q) (hp156 _ _ ⟨hgq, hsb, hdb, j0, j1, trivial⟩)
  · rintro a k ⟨hg, hs, hd, i0, i1, _⟩
    refine wp_seq ?_
    refine cut (fun a' k' => Chg noF k0 k' ∧ a'.tmps.size = 13 ∧ a'.defers = [] ∧ (IsV ((decide ((l_.length : Int) ≤ 10)) && (decide ((m_.length : Int) ≤ 20)))) (a'.get 4) k' ∧ True) ?_ hQ ?_
    · intro Q150 hQQ150 hp151
      rcases Bool.eq_false_or_eq_true (decide ((l_.length : Int) ≤ 10)) with hm152 | hm152
      · refine regionS (a0 := a) (k0 := k) (n := 13) (m := 9) (⟨some (IsV l_), [(0, none)]⟩ :: ⟨some (IsV (α := Int) (l_.length : Int)), [(5, some 0)]⟩ :: ⟨some (IsV (decide ((l_.length : Int) ≤ 10))), [(6, some 1)]⟩ :: ⟨some (IsV (decide ((l_.length : Int) ≤ 10))), [(7, some 2)]⟩ :: ⟨some (IsV m_), [(1, none)]⟩ :: ⟨some (IsV (α := Int) (m_.length : Int)), [(9, some 4)]⟩ :: ⟨some (IsV (decide ((m_.length : Int) ≤ 20))), [(10, some 5)]⟩ :: ⟨some (IsV ((decide ((l_.length : Int) ≤ 10)) && (decide ((m_.length : Int) ≤ 20)))), [(8, some 3), (11, some 6)]⟩ :: ⟨some (IsV ((decide ((l_.length : Int) ≤ 10)) && (decide ((m_.length : Int) ≤ 20)))), [(12, some 7)]⟩ :: []) hs (by kernel_rfl) ⟨⟨inferInstance, fun b q hk hn => ok_move rfl (up i0 hk hn.1), rfl⟩, ⟨inferInstance, fun b q hk hn => ok_len rfl rfl Try.underlying22 (IsV.rd hn.1), rfl⟩, ⟨inferInstance, fun b q hk hn => ok_leq rfl hn.1 (isV_int.2 rfl), rfl⟩, ⟨inferInstance, fun b q hk hn => ok_move rfl hn.1, rfl⟩, ⟨inferInstance, fun b q hk hn => ok_move rfl (up i1 hk hn.1), guardT hm152⟩, ⟨inferInstance, fun b q hk hn => ok_len rfl rfl Try.underlying23 (IsV.rd hn.1), guardT hm152⟩, ⟨inferInstance, fun b q hk hn => ok_leq rfl hn.1 (isV_int.2 rfl), guardT hm152⟩, ⟨inferInstance, fun b q hk hn => ok_cast (and_t hm152) (ok_pick_t rfl hn.1 hm152 hn.2.1), rfl⟩, ⟨inferInstance, fun b q hk hn => ok_assign rfl hn.1, rfl⟩, trivial⟩ hQQ150 fun b q p => ?_
        have hgq := hg.then p.grow
        have hsb := p.size.trans hs
        have hdb := p.defers.trans hd
        have j4 : (IsV ((decide ((l_.length : Int) ≤ 10)) && (decide ((m_.length : Int) ≤ 20)))) (b.get 4) q := out p 8 4 _ rfl rfl rfl
        exact tail_done (k := q) (hp151 _ _ ⟨hgq, hsb, hdb, j4, trivial⟩)
      · have hk154 : ((decide ((l_.length : Int) ≤ 10)) && (decide ((m_.length : Int) ≤ 20))) = false := (and_f hm152).symm
        refine regionS (a0 := a) (k0 := k) (n := 13) (m := 9) (⟨some (IsV l_), [(0, none)]⟩ :: ⟨some (IsV (α := Int) (l_.length : Int)), [(5, some 0)]⟩ :: ⟨some (IsV (decide ((l_.length : Int) ≤ 10))), [(6, some 1)]⟩ :: ⟨some (IsV (decide ((l_.length : Int) ≤ 10))), [(7, some 2)]⟩ :: ⟨none, []⟩ :: ⟨none, []⟩ :: ⟨none, []⟩ :: ⟨some (IsV ((decide ((l_.length : Int) ≤ 10)) && (decide ((m_.length : Int) ≤ 20)))), [(8, some 3), (11, some 6)]⟩ :: ⟨some (IsV ((decide ((l_.length : Int) ≤ 10)) && (decide ((m_.length : Int) ≤ 20)))), [(12, some 7)]⟩ :: []) hs (by kernel_rfl) ⟨⟨inferInstance, fun b q hk hn => ok_move rfl (up i0 hk hn.1), rfl⟩, ⟨inferInstance, fun b q hk hn => ok_len rfl rfl Try.underlying22 (IsV.rd hn.1), rfl⟩, ⟨inferInstance, fun b q hk hn => ok_leq rfl hn.1 (isV_int.2 rfl), rfl⟩, ⟨inferInstance, fun b q hk hn => ok_move rfl hn.1, rfl⟩, guardF hm152, guardF hm152, guardF hm152, ⟨inferInstance, fun b q hk hn => ok_cast (and_f hm152) (ok_pick_f rfl hn.1 hm152 (isV_bool.2 rfl)), rfl⟩, ⟨inferInstance, fun b q hk hn => ok_assign rfl hn.1, rfl⟩, trivial⟩ hQQ150 fun b q p => ?_
        have hgq := hg.then p.grow
        have hsb := p.size.trans hs
        have hdb := p.defers.trans hd
        have j4 : (IsV ((decide ((l_.length : Int) ≤ 10)) && (decide ((m_.length : Int) ≤ 20)))) (b.get 4) q := out p 8 4 _ rfl rfl rfl
        exact tail_done (k := q) (hp151 _ _ ⟨hgq, hsb, hdb, j4, trivial⟩)
    · rintro a k ⟨hg, hs, hd, i4, _⟩
      refine wp_ret ?_
      obtain rfl := Option.some.inj hr
      exact retC1 rfl hd hg i4
def rSameTrace_L0 (a_ : (List (Int × Int))) (b_ : (List (Int × Int))) (s163 : Int) : Option (Flow (Int) (Bool)) :=
  if (decide (s163 < (a_.length : Int))) then
    (getI a_ s163).bind fun x168_2 =>
    (getI b_ s163).bind fun x168_6 =>
    if (!decide (x168_2 = x168_6)) then
      some (.ret false)
    else
      (addI s163 1).bind fun x172_1 =>
      some (.go x172_1)
  else
    some (.ex 0 s163)
def rSameTrace (a_ : (List (Int × Int))) (b_ : (List (Int × Int))) : Option (Bool) :=
  if ((a_.length : Int) != (b_.length : Int)) then
    some false
  else
    (iterL (rSameTrace_L0 a_ b_) (a_.length + b_.length + 1) 0).bind fun f181 => match f181 with
      | .go _ => none
      | .ex _ _ =>
        some true
      | .ret r186 => some r186
theorem rSameTrace_ok {k0 : K} {v0 v1 : Value} {a_ : (List (Int × Int))} {b_ : (List (Int × Int))} {r : Bool} (i0 : (IsV a_) v0 k0) (i1 : (IsV b_) v1 k0) (hr : rSameTrace a_ b_ = some r) :
    Calls Try.prog 15 #[v0, v1] k0.w (Ret k0 (IsV r)) := by
  unfold rSameTrace at hr
  refine Ret.ofC ?_
  refine enterK Try.func15 rfl Try.ntmps15 (show 2 ≤ 26 by decide) fun a k hk0 hs hd ha => ?_
  obtain ⟨e0, e1, _⟩ := ha
  replace i0 : (IsV a_) (a.get 0) k := by rw [e0, hk0]; exact i0
  replace i1 : (IsV b_) (a.get 1) k := by rw [e1, hk0]; exact i1
  have hQ : Gb.LetsOut (bodyPost Try.prog Try.f15 (RetC noF k0 (IsV r))) := letsOutC
  have hg : Chg noF k0 k := by rw [hk0]; exact Chg.refl _ k0
  refine wp_seq ?_
  refine cut (fun a' k' => Chg noF k0 k' ∧ a'.tmps.size = 26 ∧ a'.defers = [] ∧ (IsV a_) (a'.get 0) k' ∧ (IsV b_) (a'.get 1) k' ∧ True) ?_ hQ ?_
  · intro Q193 hQQ193 hp194
    refine regionS (a0 := a) (k0 := k) (n := 26) (m := 1) (⟨some (IsV false), []⟩ :: []) hs (by kernel_rfl) ⟨⟨inferInstance, fun b q hk hn => ok_assign rfl (isV_bool.2 rfl), rfl⟩, trivial⟩ hQQ193 fun b q p => ?_
    have hgq := hg.then p.grow
    have hsb := p.size.trans hs
    have hdb := p.defers.trans hd
    have j0 := keep p 0 rfl i0
    have j1 := keep p 1 rfl i1
    exact tail_done (k := q) (hp194 _ _ ⟨hgq, hsb, hdb, j0, j1, trivial⟩)
  · rintro a k ⟨hg, hs, hd, i0, i1, _⟩
    refine wp_seq ?_
    refine wp_seq ?_
    refine cut (fun a' k' => Chg noF k0 k' ∧ a'.tmps.size = 26 ∧ a'.defers = [] ∧ (IsV a_) (a'.get 0) k' ∧ (IsV b_) (a'.get 1) k' ∧ (IsV ((a_.length : Int) != (b_.length : Int))) (a'.get 10) k' ∧ True) ?_ hQ ?_
    · intro Q191 hQQ191 hp192
      refine regionS (a0 := a) (k0 := k) (n := 26) (m := 5) (⟨some (IsV a_), [(0, none)]⟩ :: ⟨some (IsV (α := Int) (a_.length : Int)), [(6, some 0)]⟩ :: ⟨some (IsV b_), [(1, none)]⟩ :: ⟨some (IsV (α := Int) (b_.length : Int)), [(8, some 2)]⟩ :: ⟨some (IsV ((a_.length : Int) != (b_.length : Int))), [(7, some 1), (9, some 3)]⟩ :: []) hs (by kernel_rfl) ⟨⟨inferInstance, fun b q hk hn => ok_move rfl (up i0 hk hn.1), rfl⟩, ⟨inferInstance, fun b q hk hn => ok_len rfl rfl Try.underlying29 (IsV.rd hn.1), rfl⟩, ⟨inferInstance, fun b q hk hn => ok_move rfl (up i1 hk hn.1), rfl⟩, ⟨inferInstance, fun b q hk hn => ok_len rfl rfl Try.underlying29 (IsV.rd hn.1), rfl⟩, ⟨inferInstance, fun b q hk hn => ok_neI rfl hn.1 hn.2.1, rfl⟩, trivial⟩ hQQ191 fun b q p => ?_
      have hgq := hg.then p.grow
      have hsb := p.size.trans hs
      have hdb := p.defers.trans hd
      have j0 := keep p 0 rfl i0
      have j1 := keep p 1 rfl i1
      have j10 : (IsV ((a_.length : Int) != (b_.length : Int))) (b.get 10) q := out p 4 10 _ rfl rfl rfl
      exact tail_done (k := q) (hp192 _ _ ⟨hgq, hsb, hdb, j0, j1, j10, trivial⟩)
    · rintro a k ⟨hg, hs, hd, i0, i1, i10, _⟩
      refine wp_cond_split (isBool i10) (fun hc190 => ?_) (fun hc190 => ?_)
      · rw [if_pos hc190] at hr
        refine wp_seq ?_
        refine cut (fun a' k' => Chg noF k0 k' ∧ a'.tmps.size = 26 ∧ a'.defers = [] ∧ (IsV false) (a'.get 4) k' ∧ True) ?_ hQ ?_
        · intro Q160 hQQ160 hp161
          refine regionS (a0 := a) (k0 := k) (n := 26) (m := 1) (⟨some (IsV false), []⟩ :: []) hs (by kernel_rfl) ⟨⟨inferInstance, fun b q hk hn => ok_assign rfl (isV_bool.2 rfl), rfl⟩, trivial⟩ hQQ160 fun b q p => ?_
          have hgq := hg.then p.grow
          have hsb := p.size.trans hs
          have hdb := p.defers.trans hd
          have j4 : (IsV false) (b.get 4) q := out p 0 4 _ rfl rfl rfl
          exact tail_done (k := q) (hp161 _ _ ⟨hgq, hsb, hdb, j4, trivial⟩)
        · rintro a k ⟨hg, hs, hd, i4, _⟩
          refine wp_ret ?_
          obtain rfl := Option.some.inj hr
          exact retC1 rfl hd hg i4
      · rw [if_neg (by rw [hc190]; decide)] at hr
        refine wp_skip ?_
        refine wp_seq ?_
        refine wp_seq ?_
        refine cut (fun a' k' => Chg noF k0 k' ∧ a'.tmps.size = 26 ∧ a'.defers = [] ∧ (IsV a_) (a'.get 0) k' ∧ (IsV b_) (a'.get 1) k' ∧ (IsV (α := Int) 0) (a'.get 5) k' ∧ True) ?_ hQ ?_
        · intro Q188 hQQ188 hp189
          refine regionS (a0 := a) (k0 := k) (n := 26) (m := 1) (⟨some (IsV (α := Int) 0), []⟩ :: []) hs (by kernel_rfl) ⟨⟨inferInstance, fun b q hk hn => ok_assign rfl (isV_int.2 rfl), rfl⟩, trivial⟩ hQQ188 fun b q p => ?_
          have hgq := hg.then p.grow
          have hsb := p.size.trans hs
          have hdb := p.defers.trans hd
          have j0 := keep p 0 rfl i0
          have j1 := keep p 1 rfl i1
          have j5 : (IsV (α := Int) 0) (b.get 5) q := out p 0 5 _ rfl rfl rfl
          exact tail_done (k := q) (hp189 _ _ ⟨hgq, hsb, hdb, j0, j1, j5, trivial⟩)
        · rintro a k ⟨hg, hs, hd, i0, i1, i5, _⟩
          refine wp_block ?_
          obtain ⟨f181, hf181, hr⟩ := bind_some hr
          refine cutF f181 (fun s' a' k' => Chg noF k0 k' ∧ a'.tmps.size = 26 ∧ a'.defers = [] ∧ (IsV a_) (a'.get 0) k' ∧ (IsV b_) (a'.get 1) k' ∧ (IsV s') (a'.get 5) k' ∧ True) (fun i' s' a' k' => (i' = 0 ∧ Chg noF k0 k' ∧ a'.tmps.size = 26 ∧ a'.defers = [] ∧ True)) (fun r' a' k' => bodyPost Try.prog Try.f15 (RetC noF k0 (IsV r')) .ret a' k'.w) ?_ hQ ?_ ?_ ?_
          · intro Q187 hQQ187 hgo hex hret
            refine sim_loop ?_ _ _ _ _ _ hf181 ⟨hg, hs, hd, i0, i1, i5, trivial⟩ Q187 hQQ187 hgo hex hret
            clear hr hf181 hgo hex hret hQQ187 hQ hd hg hs i0 i1 i5
            intro s163 fl_ a k hr hS Q hQ hgo164 hex165 hret166
            obtain ⟨hg, hs, hd, i0, i1, i5, _⟩ := hS
            unfold rSameTrace_L0 at hr
            refine wp_seq ?_
            refine wp_seq ?_
            refine cut (fun a' k' => Chg noF k0 k' ∧ a'.tmps.size = 26 ∧ a'.defers = [] ∧ (IsV a_) (a'.get 0) k' ∧ (IsV b_) (a'.get 1) k' ∧ (IsV s163) (a'.get 5) k' ∧ (IsV (decide (s163 < (a_.length : Int)))) (a'.get 14) k' ∧ True) ?_ hQ ?_
            · intro Q179 hQQ179 hp180
              refine regionS (a0 := a) (k0 := k) (n := 26) (m := 4) (⟨some (IsV s163), [(5, none)]⟩ :: ⟨some (IsV a_), [(0, none)]⟩ :: ⟨some (IsV (α := Int) (a_.length : Int)), [(12, some 1)]⟩ :: ⟨some (IsV (decide (s163 < (a_.length : Int)))), [(11, some 0), (13, some 2)]⟩ :: []) hs (by kernel_rfl) ⟨⟨inferInstance, fun b q hk hn => ok_move rfl (up i5 hk hn.1), rfl⟩, ⟨inferInstance, fun b q hk hn => ok_move rfl (up i0 hk hn.1), rfl⟩, ⟨inferInstance, fun b q hk hn => ok_len rfl rfl Try.underlying29 (IsV.rd hn.1), rfl⟩, ⟨inferInstance, fun b q hk hn => ok_lss rfl hn.1 hn.2.1, rfl⟩, trivial⟩ hQQ179 fun b q p => ?_
              have hgq := hg.then p.grow
              have hsb := p.size.trans hs
              have hdb := p.defers.trans hd
              have j0 := keep p 0 rfl i0
              have j1 := keep p 1 rfl i1
              have j5 := keep p 5 rfl i5
              have j14 : (IsV (decide (s163 < (a_.length : Int)))) (b.get 14) q := out p 3 14 _ rfl rfl rfl
              exact tail_done (k := q) (hp180 _ _ ⟨hgq, hsb, hdb, j0, j1, j5, j14, trivial⟩)
            · rintro a k ⟨hg, hs, hd, i0, i1, i5, i14, _⟩
              refine wp_cond_split (isBool i14) (fun hc178 => ?_) (fun hc178 => ?_)
              · rw [if_pos hc178] at hr
                refine wp_skip ?_
                refine wp_seq ?_
                refine wp_block ?_
                refine wp_seq ?_
                obtain ⟨x168_2, hx168_2, hr⟩ := bind_some hr
                obtain ⟨x168_6, hx168_6, hr⟩ := bind_some hr
                refine cut (fun a' k' => Chg noF k0 k' ∧ a'.tmps.size = 26 ∧ a'.defers = [] ∧ (IsV a_) (a'.get 0) k' ∧ (IsV b_) (a'.get 1) k' ∧ (IsV s163) (a'.get 5) k' ∧ (IsV (!decide (x168_2 = x168_6))) (a'.get 25) k' ∧ True) ?_ hQ ?_
                · intro Q176 hQQ176 hp177
                  refine region (a0 := a) (k0 := k) (n := 26) (m := 9) (⟨some (IsV a_), [(0, none)]⟩ :: ⟨some (IsV s163), [(5, none)]⟩ :: ⟨some (IsPtr x168_2), [(17, some 0), (18, some 1)]⟩ :: ⟨some (IsV x168_2), [(19, some 2)]⟩ :: ⟨some (IsV b_), [(1, none)]⟩ :: ⟨some (IsV s163), [(5, none)]⟩ :: ⟨some (IsPtr x168_6), [(21, some 4), (22, some 5)]⟩ :: ⟨some (IsV x168_6), [(23, some 6)]⟩ :: ⟨some (IsV (!decide (x168_2 = x168_6))), [(20, some 3), (24, some 7)]⟩ :: []) hmix hs (by kernel_rfl) ⟨⟨inferInstance, fun b q hk hn => ok_move rfl (up i0 hk hn.1), rfl⟩, ⟨inferInstance, fun b q hk hn => ok_move rfl (up i5 hk hn.1), rfl⟩, ⟨inferInstance, fun b q hk hn => ok_indexAddr rfl Try.underlying29 ty37 (IsV.rd hn.1) hn.2.1 hx168_2, rfl⟩, ⟨inferInstance, fun b q hk hn => ok_load rfl ty37 hn.1, rfl⟩, ⟨inferInstance, fun b q hk hn => ok_move rfl (up i1 hk hn.1), rfl⟩, ⟨inferInstance, fun b q hk hn => ok_move rfl (up i5 hk hn.1), rfl⟩, ⟨inferInstance, fun b q hk hn => ok_indexAddr rfl Try.underlying29 ty37 (IsV.rd hn.1) hn.2.1 hx168_6, rfl⟩, ⟨inferInstance, fun b q hk hn => ok_load rfl ty37 hn.1, rfl⟩, ⟨inferInstance, fun b q hk hn => ok_neA rfl eq37 hn.1 hn.2.1, rfl⟩, trivial⟩ hQQ176 fun b q p => ?_
                  have hgq := hg.then p.grow
                  have hsb := p.size.trans hs
                  have hdb := p.defers.trans hd
                  have j0 := keep p 0 rfl i0
                  have j1 := keep p 1 rfl i1
                  have j5 := keep p 5 rfl i5
                  have j25 : (IsV (!decide (x168_2 = x168_6))) (b.get 25) q := out p 8 25 _ rfl rfl rfl
                  exact tail_done (k := q) (hp177 _ _ ⟨hgq, hsb, hdb, j0, j1, j5, j25, trivial⟩)
                · rintro a k ⟨hg, hs, hd, i0, i1, i5, i25, _⟩
                  refine wp_cond_split (isBool i25) (fun hc175 => ?_) (fun hc175 => ?_)
                  · rw [if_pos hc175] at hr
                    refine wp_seq ?_
                    refine cut (fun a' k' => Chg noF k0 k' ∧ a'.tmps.size = 26 ∧ a'.defers = [] ∧ (IsV false) (a'.get 4) k' ∧ True) ?_ hQ ?_
                    · intro Q170 hQQ170 hp171
                      refine regionS (a0 := a) (k0 := k) (n := 26) (m := 1) (⟨some (IsV false), []⟩ :: []) hs (by kernel_rfl) ⟨⟨inferInstance, fun b q hk hn => ok_assign rfl (isV_bool.2 rfl), rfl⟩, trivial⟩ hQQ170 fun b q p => ?_
                      have hgq := hg.then p.grow
                      have hsb := p.size.trans hs
                      have hdb := p.defers.trans hd
                      have j4 : (IsV false) (b.get 4) q := out p 0 4 _ rfl rfl rfl
                      exact tail_done (k := q) (hp171 _ _ ⟨hgq, hsb, hdb, j4, trivial⟩)
                    · rintro a k ⟨hg, hs, hd, i4, _⟩
                      refine wp_ret ?_
                      exact hret166 _ _ _ (Option.some.inj hr).symm (retC1 rfl hd hg i4)
                  · rw [if_neg (by rw [hc175]; decide)] at hr
                    refine wp_skip ?_
                    obtain ⟨x172_1, hx172_1, hr⟩ := bind_some hr
                    refine cut (fun a' k' => Chg noF k0 k' ∧ a'.tmps.size = 26 ∧ a'.defers = [] ∧ (IsV a_) (a'.get 0) k' ∧ (IsV b_) (a'.get 1) k' ∧ (IsV x172_1) (a'.get 5) k' ∧ True) ?_ hQ ?_
                    · intro Q173 hQQ173 hp174
                      refine regionS (a0 := a) (k0 := k) (n := 26) (m := 3) (⟨some (IsV s163), [(5, none)]⟩ :: ⟨some (IsV x172_1), [(15, some 0)]⟩ :: ⟨some (IsV x172_1), [(16, some 1)]⟩ :: []) hs (by kernel_rfl) ⟨⟨inferInstance, fun b q hk hn => ok_move rfl (up i5 hk hn.1), rfl⟩, ⟨inferInstance, fun b q hk hn => ok_add rfl hn.1 (isV_int.2 rfl) hx172_1, rfl⟩, ⟨inferInstance, fun b q hk hn => ok_assign rfl hn.1, rfl⟩, trivial⟩ hQQ173 fun b q p => ?_
                      have hgq := hg.then p.grow
                      have hsb := p.size.trans hs
                      have hdb := p.defers.trans hd
                      have j0 := keep p 0 rfl i0
                      have j1 := keep p 1 rfl i1
                      have j5 : (IsV x172_1) (b.get 5) q := out p 2 5 _ rfl rfl rfl
                      exact tail_done (k := q) (hp174 _ _ ⟨hgq, hsb, hdb, j0, j1, j5, trivial⟩)
                    · rintro a k ⟨hg, hs, hd, i0, i1, i5, _⟩
                      exact hgo164 _ _ _ (Option.some.inj hr).symm ⟨hg, hs, hd, i0, i1, i5, trivial⟩
              · rw [if_neg (by rw [hc178]; decide)] at hr
                refine wp_exit ?_
                exact hex165 _ _ _ _ (Option.some.inj hr).symm ⟨rfl, hg, hs, hd, trivial⟩
          · rintro _ _ _ rfl _
            simp at hr
          · clear hf181
            rintro _ s182 a k rfl ⟨rfl, hg, hs, hd, _⟩
            dsimp only at hr
            refine wp_seq ?_
            refine cut (fun a' k' => Chg noF k0 k' ∧ a'.tmps.size = 26 ∧ a'.defers = [] ∧ (IsV true) (a'.get 4) k' ∧ True) ?_ hQ ?_
            · intro Q184 hQQ184 hp185
              refine regionS (a0 := a) (k0 := k) (n := 26) (m := 1) (⟨some (IsV true), []⟩ :: []) hs (by kernel_rfl) ⟨⟨inferInstance, fun b q hk hn => ok_assign rfl (isV_bool.2 rfl), rfl⟩, trivial⟩ hQQ184 fun b q p => ?_
              have hgq := hg.then p.grow
              have hsb := p.size.trans hs
              have hdb := p.defers.trans hd
              have j4 : (IsV true) (b.get 4) q := out p 0 4 _ rfl rfl rfl
              exact tail_done (k := q) (hp185 _ _ ⟨hgq, hsb, hdb, j4, trivial⟩)
            · rintro a k ⟨hg, hs, hd, i4, _⟩
              refine wp_ret ?_
              obtain rfl := Option.some.inj hr
              exact retC1 rfl hd hg i4
          · rintro r186 a k rfl hR
            dsimp only at hr
            obtain rfl := Option.some.inj hr
            exact hR
def clone (s_ : (List Account)) : Option ((List Account)) :=
  (appI [] s_).bind fun x200_2 =>
  some x200_2
theorem clone_okO {k0 : K} {v0 : Value} {s_ : (List Account)} {r : (List Account)} (i0 : (IsV s_) v0 k0) (hr : clone s_ = some r) :
    Calls Try.prog 25 #[v0] k0.w (Ret k0 (IsOwn k0.w.heap.size 35 r)) := by
  unfold clone at hr
  refine Ret.ofC ?_
  refine enterK Try.func25 rfl Try.ntmps25 (show 1 ≤ 8 by decide) fun a k hk0 hs hd ha => ?_
  obtain ⟨e0, _⟩ := ha
  replace i0 : (IsV s_) (a.get 0) k := by rw [e0, hk0]; exact i0
  have hQ : Gb.LetsOut (bodyPost Try.prog Try.f25 (RetC noF k0 (IsOwn k0.w.heap.size 35 r))) := letsOutC
  have hg : Chg noF k0 k := by rw [hk0]; exact Chg.refl _ k0
  refine wp_seq ?_
  refine cut (fun a' k' => Chg noF k0 k' ∧ a'.tmps.size = 8 ∧ a'.defers = [] ∧ (IsV s_) (a'.get 0) k' ∧ True) ?_ hQ ?_
  · intro Q206 hQQ206 hp207
    refine regionS (a0 := a) (k0 := k) (n := 8) (m := 1) (⟨some IsE0, []⟩ :: []) hs (by kernel_rfl) ⟨⟨inferInstance, fun b q hk hn => ok_assign rfl isE0_nil, rfl⟩, trivial⟩ hQQ206 fun b q p => ?_
    have hgq := hg.then p.grow
    have hsb := p.size.trans hs
    have hdb := p.defers.trans hd
    have j0 := keep p 0 rfl i0
    exact tail_done (k := q) (hp207 _ _ ⟨hgq, hsb, hdb, j0, trivial⟩)
  · rintro a k ⟨hg, hs, hd, i0, _⟩
    refine wp_seq ?_
    refine wp_seq ?_
    refine cut (fun a' k' => Chg noF k0 k' ∧ a'.tmps.size = 8 ∧ a'.defers = [] ∧ (IsV s_) (a'.get 0) k' ∧ (IsNT s_) (a'.get 4) k' ∧ True) ?_ hQ ?_
    · intro Q204 hQQ204 hp205
      refine regionS (a0 := a) (k0 := k) (n := 8) (m := 2) (⟨some (IsV s_), [(0, none)]⟩ :: ⟨some (IsNT s_), [(3, some 0)]⟩ :: []) hs (by kernel_rfl) ⟨⟨inferInstance, fun b q hk hn => ok_move rfl (up i0 hk hn.1), rfl⟩, ⟨inferInstance, fun b q hk hn => ok_eqNil rfl Try.underlying22 (IsV.rd hn.1), rfl⟩, trivial⟩ hQQ204 fun b q p => ?_
      have hgq := hg.then p.grow
      have hsb := p.size.trans hs
      have hdb := p.defers.trans hd
      have j0 := keep p 0 rfl i0
      have j4 : (IsNT s_) (b.get 4) q := out p 1 4 _ rfl rfl rfl
      exact tail_done (k := q) (hp205 _ _ ⟨hgq, hsb, hdb, j0, j4, trivial⟩)
    · rintro a k ⟨hg, hs, hd, i0, i4, _⟩
      obtain ⟨bb, hbb, hnil⟩ := i4
      refine wp_cond_split hbb (fun hc203 => ?_) (fun hc203 => ?_)
      · replace hr : some ([] : List Account) = some r := by rw [hnil hc203] at hr; simpa [appI] using hr
        refine wp_seq ?_
        refine cut (fun a' k' => Chg noF k0 k' ∧ a'.tmps.size = 8 ∧ a'.defers = [] ∧ IsOwn 0 35 ([] : List Account) (a'.get 2) k' ∧ Lo k0 (obF (a'.get 2)) ∧ True) ?_ hQ ?_
        · intro Q198 hQQ198 hp199
          refine regionS (a0 := a) (k0 := k) (n := 8) (m := 1) (⟨some IsE0, []⟩ :: []) hs (by kernel_rfl) ⟨⟨inferInstance, fun b q hk hn => ok_assign rfl isE0_nil, rfl⟩, trivial⟩ hQQ198 fun b q p => ?_
          have hgq := hg.then p.grow
          have hsb := p.size.trans hs
          have hdb := p.defers.trans hd
          have j2 : IsE0 (b.get 2) q := out p 0 2 _ rfl rfl rfl
          have y2 : Lo k0 (obF (b.get 2)) := j2.lo
          replace j2 : IsOwn 0 35 ([] : List Account) (b.get 2) q := j2.own0
          exact tail_done (k := q) (hp199 _ _ ⟨hgq, hsb, hdb, j2, y2, trivial⟩)
        · rintro a k ⟨hg, hs, hd, i2, n2, _⟩
          refine wp_ret ?_
          obtain rfl := Option.some.inj hr
          exact retC1 rfl hd hg (show ResOk _ _ _ (.tmp 2) _ from IsOwn.raise (k0 := k0) i2 n2)
      · skip
        refine wp_skip ?_
        refine wp_seq ?_
        obtain ⟨x200_2, hx200_2, hr⟩ := bind_some hr
        refine cut (fun a' k' => Chg noF k0 k' ∧ a'.tmps.size = 8 ∧ a'.defers = [] ∧ IsOwn 0 35 x200_2 (a'.get 2) k' ∧ Lo k0 (obF (a'.get 2)) ∧ True) ?_ hQ ?_
        · intro Q201 hQQ201 hp202
          refine regionS (a0 := a) (k0 := k) (n := 8) (m := 4) (⟨some IsE0, []⟩ :: ⟨some (IsV s_), [(0, none)]⟩ :: ⟨some (IsOwn k.w.heap.size 35 x200_2), [(5, some 0), (6, some 1)]⟩ :: ⟨some (IsOwn k.w.heap.size 35 x200_2), [(7, some 2)]⟩ :: []) hs (by kernel_rfl) ⟨⟨inferInstance, fun b q hk hn => ok_buildSlice0 rfl Try.underlying22 eo35, rfl⟩, ⟨inferInstance, fun b q hk hn => ok_move rfl (up i0 hk hn.1), rfl⟩, ⟨inferInstance, fun b q hk hn => ok_append0 rfl Try.underlying22 eo35 hk.size hn.1 (IsV.rd hn.2.1) hx200_2, rfl⟩, ⟨inferInstance, fun b q hk hn => ok_assign rfl hn.1, rfl⟩, trivial⟩ hQQ201 fun b q p => ?_
          have hgq := hg.then p.grow
          have hsb := p.size.trans hs
          have hdb := p.defers.trans hd
          have j2 : (IsOwn k.w.heap.size 35 x200_2) (b.get 2) q := out p 3 2 _ rfl rfl rfl
          have x2 : Lo k (obF (b.get 2)) := j2.loF
          have y2 := x2.chg hg
          replace j2 := j2.weaken (Nat.zero_le _)
          exact tail_done (k := q) (hp202 _ _ ⟨hgq, hsb, hdb, j2, y2, trivial⟩)
        · rintro a k ⟨hg, hs, hd, i2, n2, _⟩
          refine wp_ret ?_
          obtain rfl := Option.some.inj hr
          exact retC1 rfl hd hg (show ResOk _ _ _ (.tmp 2) _ from IsOwn.raise (k0 := k0) i2 n2)
theorem clone_ok {k0 : K} {v0 : Value} {s_ : (List Account)} {r : (List Account)} (i0 : (IsV s_) v0 k0) (hr : clone s_ = some r) :
    Calls Try.prog 25 #[v0] k0.w (Ret k0 (IsV r)) :=
  ret_give (clone_okO i0 hr)
def cFind_L0 (l_ : (List Account)) (lot : Int) (s210 : Int) : Option (Flow (Int) ((Option Int))) :=
  if (decide (s210 < (l_.length : Int))) then
    (getI l_ s210).bind fun x216_2 =>
    if (x216_2.Lot == lot) then
      (getI l_ s210).bind fun x217_2 =>
      some (.ret (some s210))
    else
      (addI s210 1).bind fun x220_0 =>
      some (.go x220_0)
  else
    some (.ex 0 s210)
def cFind (l_ : (List Account)) (lot : Int) : Option ((Option Int)) :=
  (iterL (cFind_L0 l_ lot) (l_.length + 1) 0).bind fun f231 => match f231 with
    | .go _ => none
    | .ex _ _ =>
      some none
    | .ret r236 => some r236
theorem cFind_ok {k0 : K} {v0 v1 : Value} {l_ : (List Account)} {lot : Int} {r : (Option Int)} (i0 : (IsV l_) v0 k0) (i1 : (IsV lot) v1 k0) (hr : cFind l_ lot = some r) :
    Calls Try.prog 30 #[v0, v1] k0.w (Ret k0 (IsEP v0 (Enc.sz Account) r)) := by
  unfold cFind at hr
  refine Ret.ofC ?_
  refine enterK Try.func30 rfl Try.ntmps30 (show 2 ≤ 22 by decide) fun a k hk0 hs hd ha => ?_
  obtain ⟨e0, e1, _⟩ := ha
  replace i0 : (IsV l_) (a.get 0) k := by rw [e0, hk0]; exact i0
  replace i1 : (IsV lot) (a.get 1) k := by rw [e1, hk0]; exact i1
  have q0 := e0
  have hQ : Gb.LetsOut (bodyPost Try.prog Try.f30 (RetC noF k0 (IsEP v0 (Enc.sz Account) r))) := letsOutC
  have hg : Chg noF k0 k := by rw [hk0]; exact Chg.refl _ k0
  refine wp_seq ?_
  refine cut (fun a' k' => Chg noF k0 k' ∧ a'.tmps.size = 22 ∧ a'.defers = [] ∧ a'.get 0 = v0 ∧ (IsV l_) (a'.get 0) k' ∧ (IsV lot) (a'.get 1) k' ∧ True) ?_ hQ ?_
  · intro Q240 hQQ240 hp241
    refine regionS (a0 := a) (k0 := k) (n := 22) (m := 1) (⟨some (IsEP v0 (Enc.sz Account) none), []⟩ :: []) hs (by kernel_rfl) ⟨⟨inferInstance, fun b q hk hn => ok_assign rfl (show IsEP _ _ none _ _ from rfl), rfl⟩, trivial⟩ hQQ240 fun b q p => ?_
    have hgq := hg.then p.grow
    have hsb := p.size.trans hs
    have hdb := p.defers.trans hd
    have j0 := keep p 0 rfl i0
    have j1 := keep p 1 rfl i1
    have qb0 := (p.old 0 rfl).trans q0
    exact tail_done (k := q) (hp241 _ _ ⟨hgq, hsb, hdb, qb0, j0, j1, trivial⟩)
  · rintro a k ⟨hg, hs, hd, q0, i0, i1, _⟩
    refine wp_seq ?_
    refine wp_seq ?_
    refine cut (fun a' k' => Chg noF k0 k' ∧ a'.tmps.size = 22 ∧ a'.defers = [] ∧ a'.get 0 = v0 ∧ (IsV l_) (a'.get 0) k' ∧ (IsV lot) (a'.get 1) k' ∧ (IsV (α := Int) (l_.length : Int)) (a'.get 7) k' ∧ (IsV (α := Int) 0) (a'.get 8) k' ∧ True) ?_ hQ ?_
    · intro Q238 hQQ238 hp239
      refine regionS (a0 := a) (k0 := k) (n := 22) (m := 3) (⟨some (IsV l_), [(0, none)]⟩ :: ⟨some (IsV (α := Int) (l_.length : Int)), [(6, some 0)]⟩ :: ⟨some (IsV (α := Int) 0), []⟩ :: []) hs (by kernel_rfl) ⟨⟨inferInstance, fun b q hk hn => ok_move rfl (up i0 hk hn.1), rfl⟩, ⟨inferInstance, fun b q hk hn => ok_len rfl rfl Try.underlying22 (IsV.rd hn.1), rfl⟩, ⟨inferInstance, fun b q hk hn => ok_move rfl (isV_int.2 rfl), rfl⟩, trivial⟩ hQQ238 fun b q p => ?_
      have hgq := hg.then p.grow
      have hsb := p.size.trans hs
      have hdb := p.defers.trans hd
      have j0 := keep p 0 rfl i0
      have j1 := keep p 1 rfl i1
      have j7 : (IsV (α := Int) (l_.length : Int)) (b.get 7) q := out p 1 7 _ rfl rfl rfl
      have j8 : (IsV (α := Int) 0) (b.get 8) q := out p 2 8 _ rfl rfl rfl
      have qb0 := (p.old 0 rfl).trans q0
      exact tail_done (k := q) (hp239 _ _ ⟨hgq, hsb, hdb, qb0, j0, j1, j7, j8, trivial⟩)
    · rintro a k ⟨hg, hs, hd, q0, i0, i1, i7, i8, _⟩
      refine wp_block ?_
      obtain ⟨f231, hf231, hr⟩ := bind_some hr
      refine cutF f231 (fun s' a' k' => Chg noF k0 k' ∧ a'.tmps.size = 22 ∧ a'.defers = [] ∧ a'.get 0 = v0 ∧ (IsV l_) (a'.get 0) k' ∧ (IsV lot) (a'.get 1) k' ∧ (IsV (α := Int) (l_.length : Int)) (a'.get 7) k' ∧ (IsV s') (a'.get 8) k' ∧ True) (fun i' s' a' k' => (i' = 0 ∧ Chg noF k0 k' ∧ a'.tmps.size = 22 ∧ a'.defers = [] ∧ True)) (fun r' a' k' => bodyPost Try.prog Try.f30 (RetC noF k0 (IsEP v0 (Enc.sz Account) r')) .ret a' k'.w) ?_ hQ ?_ ?_ ?_
      · intro Q237 hQQ237 hgo hex hret
        refine sim_loop ?_ _ _ _ _ _ hf231 ⟨hg, hs, hd, q0, i0, i1, i7, i8, trivial⟩ Q237 hQQ237 hgo hex hret
        clear hr hf231 hgo hex hret hQQ237 hQ hd hg hs i0 i1 i7 i8 q0
        intro s210 fl_ a k hr hS Q hQ hgo211 hex212 hret213
        obtain ⟨hg, hs, hd, q0, i0, i1, i7, i8, _⟩ := hS
        unfold cFind_L0 at hr
        refine wp_seq ?_
        refine cut (fun a' k' => Chg noF k0 k' ∧ a'.tmps.size = 22 ∧ a'.defers = [] ∧ a'.get 0 = v0 ∧ (IsV l_) (a'.get 0) k' ∧ (IsV lot) (a'.get 1) k' ∧ (IsV (α := Int) (l_.length : Int)) (a'.get 7) k' ∧ (IsV s210) (a'.get 8) k' ∧ (IsV (decide (s210 < (l_.length : Int)))) (a'.get 9) k' ∧ True) ?_ hQ ?_
        · intro Q229 hQQ229 hp230
          refine regionS (a0 := a) (k0 := k) (n := 22) (m := 1) (⟨some (IsV (decide (s210 < (l_.length : Int)))), [(8, none), (7, none)]⟩ :: []) hs (by kernel_rfl) ⟨⟨inferInstance, fun b q hk hn => ok_lss rfl (up i8 hk hn.1) (up i7 hk hn.2.1), rfl⟩, trivial⟩ hQQ229 fun b q p => ?_
          have hgq := hg.then p.grow
          have hsb := p.size.trans hs
          have hdb := p.defers.trans hd
          have j0 := keep p 0 rfl i0
          have j1 := keep p 1 rfl i1
          have j7 := keep p 7 rfl i7
          have j8 := keep p 8 rfl i8
          have j9 : (IsV (decide (s210 < (l_.length : Int)))) (b.get 9) q := out p 0 9 _ rfl rfl rfl
          have qb0 := (p.old 0 rfl).trans q0
          exact tail_done (k := q) (hp230 _ _ ⟨hgq, hsb, hdb, qb0, j0, j1, j7, j8, j9, trivial⟩)
        · rintro a k ⟨hg, hs, hd, q0, i0, i1, i7, i8, i9, _⟩
          refine wp_seq ?_
          refine wp_cond_split (isBool i9) (fun hc228 => ?_) (fun hc228 => ?_)
          · rw [if_pos hc228] at hr
            refine wp_skip ?_
            refine wp_seq ?_
            refine wp_block ?_
            refine wp_seq ?_
            refine cut (fun a' k' => Chg noF k0 k' ∧ a'.tmps.size = 22 ∧ a'.defers = [] ∧ a'.get 0 = v0 ∧ (IsV l_) (a'.get 0) k' ∧ (IsV lot) (a'.get 1) k' ∧ (IsV s210) (a'.get 5) k' ∧ (IsV (α := Int) (l_.length : Int)) (a'.get 7) k' ∧ (IsV s210) (a'.get 8) k' ∧ True) ?_ hQ ?_
            · intro Q226 hQQ226 hp227
              refine regionS (a0 := a) (k0 := k) (n := 22) (m := 2) (⟨some (IsV s210), [(8, none)]⟩ :: ⟨some (IsV s210), [(10, some 0)]⟩ :: []) hs (by kernel_rfl) ⟨⟨inferInstance, fun b q hk hn => ok_move rfl (up i8 hk hn.1), rfl⟩, ⟨inferInstance, fun b q hk hn => ok_assign rfl hn.1, rfl⟩, trivial⟩ hQQ226 fun b q p => ?_
              have hgq := hg.then p.grow
              have hsb := p.size.trans hs
              have hdb := p.defers.trans hd
              have j0 := keep p 0 rfl i0
              have j1 := keep p 1 rfl i1
              have j5 : (IsV s210) (b.get 5) q := out p 1 5 _ rfl rfl rfl
              have j7 := keep p 7 rfl i7
              have j8 := keep p 8 rfl i8
              have qb0 := (p.old 0 rfl).trans q0
              exact tail_done (k := q) (hp227 _ _ ⟨hgq, hsb, hdb, qb0, j0, j1, j5, j7, j8, trivial⟩)
            · rintro a k ⟨hg, hs, hd, q0, i0, i1, i5, i7, i8, _⟩
              refine wp_seq ?_
              obtain ⟨x216_2, hx216_2, hr⟩ := bind_some hr
              refine cut (fun a' k' => Chg noF k0 k' ∧ a'.tmps.size = 22 ∧ a'.defers = [] ∧ a'.get 0 = v0 ∧ (IsV l_) (a'.get 0) k' ∧ (IsV lot) (a'.get 1) k' ∧ (IsV s210) (a'.get 5) k' ∧ (IsV (α := Int) (l_.length : Int)) (a'.get 7) k' ∧ (IsV s210) (a'.get 8) k' ∧ (IsV (x216_2.Lot == lot)) (a'.get 17) k' ∧ True) ?_ hQ ?_
              · intro Q224 hQQ224 hp225
                refine regionS (a0 := a) (k0 := k) (n := 22) (m := 7) (⟨some (IsV l_), [(0, none)]⟩ :: ⟨some (IsV s210), [(5, none)]⟩ :: ⟨some (IsPtr x216_2), [(11, some 0), (12, some 1)]⟩ :: ⟨some (IsPtr x216_2.Lot), [(13, some 2)]⟩ :: ⟨some (IsV x216_2.Lot), [(14, some 3)]⟩ :: ⟨some (IsV lot), [(1, none)]⟩ :: ⟨some (IsV (x216_2.Lot == lot)), [(15, some 4), (16, some 5)]⟩ :: []) hs (by kernel_rfl) ⟨⟨inferInstance, fun b q hk hn => ok_move rfl (up i0 hk hn.1), rfl⟩, ⟨inferInstance, fun b q hk hn => ok_move rfl (up i5 hk hn.1), rfl⟩, ⟨inferInstance, fun b q hk hn => ok_indexAddr rfl Try.underlying22 ty35 (IsV.rd hn.1) hn.2.1 hx216_2, rfl⟩, ⟨inferInstance, fun b q hk hn => ok_fieldAddr rfl fo35_0 (at_Account_0 _) hn.1, rfl⟩, ⟨inferInstance, fun b q hk hn => ok_load rfl ty3 hn.1, rfl⟩, ⟨inferInstance, fun b q hk hn => ok_move rfl (up i1 hk hn.1), rfl⟩, ⟨inferInstance, fun b q hk hn => ok_eqI rfl hn.1 hn.2.1, rfl⟩, trivial⟩ hQQ224 fun b q p => ?_
                have hgq := hg.then p.grow
                have hsb := p.size.trans hs
                have hdb := p.defers.trans hd
                have j0 := keep p 0 rfl i0
                have j1 := keep p 1 rfl i1
                have j5 := keep p 5 rfl i5
                have j7 := keep p 7 rfl i7
                have j8 := keep p 8 rfl i8
                have j17 : (IsV (x216_2.Lot == lot)) (b.get 17) q := out p 6 17 _ rfl rfl rfl
                have qb0 := (p.old 0 rfl).trans q0
                exact tail_done (k := q) (hp225 _ _ ⟨hgq, hsb, hdb, qb0, j0, j1, j5, j7, j8, j17, trivial⟩)
              · rintro a k ⟨hg, hs, hd, q0, i0, i1, i5, i7, i8, i17, _⟩
                refine wp_cond_split (isBool i17) (fun hc223 => ?_) (fun hc223 => ?_)
                · rw [if_pos hc223] at hr
                  refine wp_seq ?_
                  obtain ⟨x217_2, hx217_2, hr⟩ := bind_some hr
                  refine cut (fun a' k' => Chg noF k0 k' ∧ a'.tmps.size = 22 ∧ a'.defers = [] ∧ (IsEP v0 (Enc.sz Account) (some s210)) (a'.get 4) k' ∧ True) ?_ hQ ?_
                  · intro Q218 hQQ218 hp219
                    refine regionS (a0 := a) (k0 := k) (n := 22) (m := 4) (⟨some (VAt v0 l_), [(0, none)]⟩ :: ⟨some (IsV s210), [(5, none)]⟩ :: ⟨some (IsEP v0 (Enc.sz Account) (some s210)), [(18, some 0), (19, some 1)]⟩ :: ⟨some (IsEP v0 (Enc.sz Account) (some s210)), [(20, some 2)]⟩ :: []) hs (by kernel_rfl) ⟨⟨inferInstance, fun b q hk hn => ok_moveVA (.inl rfl) ⟨(hn.1).trans q0, up i0 hk hn.1⟩, rfl⟩, ⟨inferInstance, fun b q hk hn => ok_move rfl (up i5 hk hn.1), rfl⟩, ⟨inferInstance, fun b q hk hn => ok_indexEV rfl Try.underlying22 ty35 hn.1 hn.2.1 hx217_2, rfl⟩, ⟨inferInstance, fun b q hk hn => ok_assign rfl hn.1, rfl⟩, trivial⟩ hQQ218 fun b q p => ?_
                    have hgq := hg.then p.grow
                    have hsb := p.size.trans hs
                    have hdb := p.defers.trans hd
                    have j4 : (IsEP v0 (Enc.sz Account) (some s210)) (b.get 4) q := out p 3 4 _ rfl rfl rfl
                    exact tail_done (k := q) (hp219 _ _ ⟨hgq, hsb, hdb, j4, trivial⟩)
                  · rintro a k ⟨hg, hs, hd, i4, _⟩
                    refine wp_ret ?_
                    exact hret213 _ _ _ (Option.some.inj hr).symm (retC1 rfl hd hg i4)
                · rw [if_neg (by rw [hc223]; decide)] at hr
                  refine wp_skip ?_
                  obtain ⟨x220_0, hx220_0, hr⟩ := bind_some hr
                  refine cut (fun a' k' => Chg noF k0 k' ∧ a'.tmps.size = 22 ∧ a'.defers = [] ∧ a'.get 0 = v0 ∧ (IsV l_) (a'.get 0) k' ∧ (IsV lot) (a'.get 1) k' ∧ (IsV (α := Int) (l_.length : Int)) (a'.get 7) k' ∧ (IsV x220_0) (a'.get 8) k' ∧ True) ?_ hQ ?_
                  · intro Q221 hQQ221 hp222
                    refine regionS (a0 := a) (k0 := k) (n := 22) (m := 2) (⟨some (IsV x220_0), [(8, none)]⟩ :: ⟨some (IsV x220_0), [(21, some 0)]⟩ :: []) hs (by kernel_rfl) ⟨⟨inferInstance, fun b q hk hn => ok_add rfl (up i8 hk hn.1) (isV_int.2 rfl) hx220_0, rfl⟩, ⟨inferInstance, fun b q hk hn => ok_move rfl hn.1, rfl⟩, trivial⟩ hQQ221 fun b q p => ?_
                    have hgq := hg.then p.grow
                    have hsb := p.size.trans hs
                    have hdb := p.defers.trans hd
                    have j0 := keep p 0 rfl i0
                    have j1 := keep p 1 rfl i1
                    have j7 := keep p 7 rfl i7
                    have j8 : (IsV x220_0) (b.get 8) q := out p 1 8 _ rfl rfl rfl
                    have qb0 := (p.old 0 rfl).trans q0
                    exact tail_done (k := q) (hp222 _ _ ⟨hgq, hsb, hdb, qb0, j0, j1, j7, j8, trivial⟩)
                  · rintro a k ⟨hg, hs, hd, q0, i0, i1, i7, i8, _⟩
                    exact hgo211 _ _ _ (Option.some.inj hr).symm ⟨hg, hs, hd, q0, i0, i1, i7, i8, trivial⟩
          · rw [if_neg (by rw [hc228]; decide)] at hr
            refine wp_exit ?_
            exact hex212 _ _ _ _ (Option.some.inj hr).symm ⟨rfl, hg, hs, hd, trivial⟩
      · rintro _ _ _ rfl _
        simp at hr
      · clear hf231
        rintro _ s232 a k rfl ⟨rfl, hg, hs, hd, _⟩
        dsimp only at hr
        refine wp_seq ?_
        refine cut (fun a' k' => Chg noF k0 k' ∧ a'.tmps.size = 22 ∧ a'.defers = [] ∧ (IsEP v0 (Enc.sz Account) none) (a'.get 4) k' ∧ True) ?_ hQ ?_
        · intro Q234 hQQ234 hp235
          refine regionS (a0 := a) (k0 := k) (n := 22) (m := 1) (⟨some (IsEP v0 (Enc.sz Account) none), []⟩ :: []) hs (by kernel_rfl) ⟨⟨inferInstance, fun b q hk hn => ok_assign rfl (show IsEP _ _ none _ _ from rfl), rfl⟩, trivial⟩ hQQ234 fun b q p => ?_
          have hgq := hg.then p.grow
          have hsb := p.size.trans hs
          have hdb := p.defers.trans hd
          have j4 : (IsEP v0 (Enc.sz Account) none) (b.get 4) q := out p 0 4 _ rfl rfl rfl
          exact tail_done (k := q) (hp235 _ _ ⟨hgq, hsb, hdb, j4, trivial⟩)
        · rintro a k ⟨hg, hs, hd, i4, _⟩
          refine wp_ret ?_
          obtain rfl := Option.some.inj hr
          exact retC1 rfl hd hg i4
      · rintro r236 a k rfl hR
        dsimp only at hr
        obtain rfl := Option.some.inj hr
        exact hR
def cUnits (l_ : (List Account)) (lot : Int) : Option (Int) :=
  (cFind l_ lot).bind fun x243_2 =>
  if (x243_2.isSome) then
    (atI l_ x243_2).bind fun x245_1 =>
    some x245_1.Units
  else
    some 0
theorem cUnits_ok {k0 : K} {v0 v1 : Value} {l_ : (List Account)} {lot : Int} {r : Int} (i0 : (IsV l_) v0 k0) (i1 : (IsV lot) v1 k0) (hr : cUnits l_ lot = some r) :
    Calls Try.prog 19 #[v0, v1] k0.w (Ret k0 (IsV r)) := by
  unfold cUnits at hr
  refine Ret.ofC ?_
  refine enterK Try.func19 rfl Try.ntmps19 (show 2 ≤ 15 by decide) fun a k hk0 hs hd ha => ?_
  obtain ⟨e0, e1, _⟩ := ha
  replace i0 : (IsV l_) (a.get 0) k := by rw [e0, hk0]; exact i0
  replace i1 : (IsV lot) (a.get 1) k := by rw [e1, hk0]; exact i1
  have q0 := e0
  have hQ : Gb.LetsOut (bodyPost Try.prog Try.f19 (RetC noF k0 (IsV r))) := letsOutC
  have hg : Chg noF k0 k := by rw [hk0]; exact Chg.refl _ k0
  refine wp_seq ?_
  refine cut (fun a' k' => Chg noF k0 k' ∧ a'.tmps.size = 15 ∧ a'.defers = [] ∧ a'.get 0 = v0 ∧ (IsV l_) (a'.get 0) k' ∧ (IsV lot) (a'.get 1) k' ∧ True) ?_ hQ ?_
  · intro Q256 hQQ256 hp257
    refine regionS (a0 := a) (k0 := k) (n := 15) (m := 1) (⟨some (IsV (α := Int) 0), []⟩ :: []) hs (by kernel_rfl) ⟨⟨inferInstance, fun b q hk hn => ok_assign rfl (isV_int.2 rfl), rfl⟩, trivial⟩ hQQ256 fun b q p => ?_
    have hgq := hg.then p.grow
    have hsb := p.size.trans hs
    have hdb := p.defers.trans hd
    have j0 := keep p 0 rfl i0
    have j1 := keep p 1 rfl i1
    have qb0 := (p.old 0 rfl).trans q0
    exact tail_done (k := q) (hp257 _ _ ⟨hgq, hsb, hdb, qb0, j0, j1, trivial⟩)
  · rintro a k ⟨hg, hs, hd, q0, i0, i1, _⟩
    refine wp_seq ?_
    refine wp_seq ?_
    obtain ⟨x243_2, hx243_2, hr⟩ := bind_some hr
    refine cut (fun a' k' => Chg noF k0 k' ∧ a'.tmps.size = 15 ∧ a'.defers = [] ∧ a'.get 0 = v0 ∧ (IsV l_) (a'.get 0) k' ∧ (IsEP v0 (Enc.sz Account) x243_2) (a'.get 5) k' ∧ True) ?_ hQ ?_
    · intro Q254 hQQ254 hp255
      refine regionS (a0 := a) (k0 := k) (n := 15) (m := 4) (⟨some (VAt v0 l_), [(0, none)]⟩ :: ⟨some (IsV lot), [(1, none)]⟩ :: ⟨some (IsEP v0 (Enc.sz Account) x243_2), [(6, some 0), (7, some 1)]⟩ :: ⟨some (IsEP v0 (Enc.sz Account) x243_2), [(8, some 2)]⟩ :: []) hs (by kernel_rfl) ⟨⟨inferInstance, fun b q hk hn => ok_moveVA (.inl rfl) ⟨(hn.1).trans q0, up i0 hk hn.1⟩, rfl⟩, ⟨inferInstance, fun b q hk hn => ok_move rfl (up i1 hk hn.1), rfl⟩, ⟨inferInstance, fun b q hk hn => ok_call rfl Try.call30 (ret_ep (cFind_ok (hn.1).2 hn.2.1 hx243_2) (hn.1).1), rfl⟩, ⟨inferInstance, fun b q hk hn => ok_assign rfl hn.1, rfl⟩, trivial⟩ hQQ254 fun b q p => ?_
      have hgq := hg.then p.grow
      have hsb := p.size.trans hs
      have hdb := p.defers.trans hd
      have j0 := keep p 0 rfl i0
      have j5 : (IsEP v0 (Enc.sz Account) x243_2) (b.get 5) q := out p 3 5 _ rfl rfl rfl
      have qb0 := (p.old 0 rfl).trans q0
      exact tail_done (k := q) (hp255 _ _ ⟨hgq, hsb, hdb, qb0, j0, j5, trivial⟩)
    · rintro a k ⟨hg, hs, hd, q0, i0, i5, _⟩
      refine wp_seq ?_
      refine cut (fun a' k' => Chg noF k0 k' ∧ a'.tmps.size = 15 ∧ a'.defers = [] ∧ a'.get 0 = v0 ∧ (IsV l_) (a'.get 0) k' ∧ (IsEP v0 (Enc.sz Account) x243_2) (a'.get 5) k' ∧ (IsV (x243_2.isSome)) (a'.get 10) k' ∧ True) ?_ hQ ?_
      · intro Q252 hQQ252 hp253
        refine regionS (a0 := a) (k0 := k) (n := 15) (m := 2) (⟨some (IsEP v0 (Enc.sz Account) x243_2), [(5, none)]⟩ :: ⟨some (IsV (x243_2.isSome)), [(9, some 0)]⟩ :: []) hs (by kernel_rfl) ⟨⟨inferInstance, fun b q hk hn => ok_move rfl (up i5 hk hn.1), rfl⟩, ⟨inferInstance, fun b q hk hn => ok_neEP rfl Try.underlying52 hn.1, rfl⟩, trivial⟩ hQQ252 fun b q p => ?_
        have hgq := hg.then p.grow
        have hsb := p.size.trans hs
        have hdb := p.defers.trans hd
        have j0 := keep p 0 rfl i0
        have j5 := keep p 5 rfl i5
        have j10 : (IsV (x243_2.isSome)) (b.get 10) q := out p 1 10 _ rfl rfl rfl
        have qb0 := (p.old 0 rfl).trans q0
        exact tail_done (k := q) (hp253 _ _ ⟨hgq, hsb, hdb, qb0, j0, j5, j10, trivial⟩)
      · rintro a k ⟨hg, hs, hd, q0, i0, i5, i10, _⟩
        refine wp_cond_split (isBool i10) (fun hc251 => ?_) (fun hc251 => ?_)
        · rw [if_pos hc251] at hr
          refine wp_seq ?_
          obtain ⟨x245_1, hx245_1, hr⟩ := bind_some hr
          refine cut (fun a' k' => Chg noF k0 k' ∧ a'.tmps.size = 15 ∧ a'.defers = [] ∧ (IsV x245_1.Units) (a'.get 4) k' ∧ True) ?_ hQ ?_
          · intro Q246 hQQ246 hp247
            refine regionS (a0 := a) (k0 := k) (n := 15) (m := 5) (⟨some (IsEP v0 (Enc.sz Account) x243_2), [(5, none)]⟩ :: ⟨some (IsPtr x245_1), [(11, some 0)]⟩ :: ⟨some (IsPtr x245_1.Units), [(12, some 1)]⟩ :: ⟨some (IsV x245_1.Units), [(13, some 2)]⟩ :: ⟨some (IsV x245_1.Units), [(14, some 3)]⟩ :: []) hs (by kernel_rfl) ⟨⟨inferInstance, fun b q hk hn => ok_move rfl (up i5 hk hn.1), rfl⟩, ⟨inferInstance, fun b q hk hn => ok_nilCheckP rfl hn.1 (rdV i0 hk q0) hx245_1, rfl⟩, ⟨inferInstance, fun b q hk hn => ok_fieldAddr rfl fo35_1 (at_Account_1 _) hn.1, rfl⟩, ⟨inferInstance, fun b q hk hn => ok_load rfl ty3 hn.1, rfl⟩, ⟨inferInstance, fun b q hk hn => ok_assign rfl hn.1, rfl⟩, trivial⟩ hQQ246 fun b q p => ?_
            have hgq := hg.then p.grow
            have hsb := p.size.trans hs
            have hdb := p.defers.trans hd
            have j4 : (IsV x245_1.Units) (b.get 4) q := out p 4 4 _ rfl rfl rfl
            exact tail_done (k := q) (hp247 _ _ ⟨hgq, hsb, hdb, j4, trivial⟩)
          · rintro a k ⟨hg, hs, hd, i4, _⟩
            refine wp_ret ?_
            obtain rfl := Option.some.inj hr
            exact retC1 rfl hd hg i4
        · rw [if_neg (by rw [hc251]; decide)] at hr
          refine wp_skip ?_
          refine wp_seq ?_
          refine cut (fun a' k' => Chg noF k0 k' ∧ a'.tmps.size = 15 ∧ a'.defers = [] ∧ (IsV (α := Int) 0) (a'.get 4) k' ∧ True) ?_ hQ ?_
          · intro Q249 hQQ249 hp250
            refine regionS (a0 := a) (k0 := k) (n := 15) (m := 1) (⟨some (IsV (α := Int) 0), []⟩ :: []) hs (by kernel_rfl) ⟨⟨inferInstance, fun b q hk hn => ok_assign rfl (isV_int.2 rfl), rfl⟩, trivial⟩ hQQ249 fun b q p => ?_
            have hgq := hg.then p.grow
            have hsb := p.size.trans hs
            have hdb := p.defers.trans hd
            have j4 : (IsV (α := Int) 0) (b.get 4) q := out p 0 4 _ rfl rfl rfl
            exact tail_done (k := q) (hp250 _ _ ⟨hgq, hsb, hdb, j4, trivial⟩)
          · rintro a k ⟨hg, hs, hd, i4, _⟩
            refine wp_ret ?_
            obtain rfl := Option.some.inj hr
            exact retC1 rfl hd hg i4
def cOpen_L0 (l_ : (List Account)) (m_ : Move) (s269 : Int) : Option (Flow (Int) ((List Account) × Int)) :=
  (if (decide (s269 < (l_.length : Int))) then
    (getI l_ s269).bind fun x273_7 =>
    some (decide (x273_7.Lot < m_.To))
  else
    some false).bind fun x273_13 =>
  if x273_13 then
    (addI s269 1).bind fun x274_1 =>
    some (.go x274_1)
  else
    some (.ex 0 s269)
def cOpen (l_ : (List Account)) (m_ : Move) : Option ((List Account) × Int) :=
  (cFind l_ m_.To).bind fun x260_3 =>
  if (x260_3.isSome) then
    some (([] : List Account), 5)
  else
    if (decide (20000 ≤ (l_.length : Int))) then
      some (([] : List Account), 6)
    else
      (iterL (cOpen_L0 l_ m_) (l_.length + 1) 0).bind fun f283 => match f283 with
        | .go _ => none
        | .ex _ s284 =>
          (insertA l_ s284 ([(⟨m_.To, m_.N, (m_.From == 1)⟩ : Account)])).bind fun x285_11 =>
          some (x285_11, 0)
        | .ret r289 => some r289
theorem cOpen_ok {k0 : K} {v0 v1 : Value} {l_ : (List Account)} {m_ : Move} {r : (List Account) × Int} (i0 : (IsOwn 0 35 l_) v0 k0) (i1 : (IsV m_) v1 k0) (hr : cOpen l_ m_ = some r) :
    Calls Try.prog 29 #[v0, v1] k0.w (RetC (obF v0) k0 (IsTup2 (IsV r.1) (IsV r.2))) := by
  unfold cOpen at hr
  refine enterK Try.func29 rfl Try.ntmps29 (show 2 ≤ 43 by decide) fun a k hk0 hs hd ha => ?_
  obtain ⟨e0, e1, _⟩ := ha
  replace i0 : (IsOwn 0 35 l_) (a.get 0) k := by rw [e0, hk0]; exact i0
  replace i1 : (IsV m_) (a.get 1) k := by rw [e1, hk0]; exact i1
  have n0 : Wr (obF v0) k0 (obF (a.get 0)) := fun b h => .inl (by rwa [e0] at h)
  have hQ : Gb.LetsOut (bodyPost Try.prog Try.f29 (RetC (obF v0) k0 (IsTup2 (IsV r.1) (IsV r.2)))) := letsOutC
  have hg : Chg (obF v0) k0 k := by rw [hk0]; exact Chg.refl _ k0
  refine wp_seq ?_
  refine cut (fun a' k' => Chg (obF v0) k0 k' ∧ a'.tmps.size = 43 ∧ a'.defers = [] ∧ IsOwn 0 35 l_ (a'.get 0) k' ∧ Wr (obF v0) k0 (obF (a'.get 0)) ∧ (IsRef m_) (a'.get 3) k' ∧ True) ?_ hQ ?_
  · intro Q299 hQQ299 hp300
    refine regionS (a0 := a) (k0 := k) (n := 43) (m := 3) (⟨some (IsBox k.w.heap.size m_), [(1, none)]⟩ :: ⟨some IsE0, []⟩ :: ⟨some (IsV (α := Int) 0), []⟩ :: []) hs (by kernel_rfl) ⟨⟨inferInstance, fun b q hk hn => ok_box _ hk.size rfl (up i1 hk hn.1), rfl⟩, ⟨inferInstance, fun b q hk hn => ok_assign rfl isE0_nil, rfl⟩, ⟨inferInstance, fun b q hk hn => ok_assign rfl (isV_int.2 rfl), rfl⟩, trivial⟩ hQQ299 fun b q p => ?_
    have hgq := hg.then p.grow
    have hsb := p.size.trans hs
    have hdb := p.defers.trans hd
    have j0 := keep p 0 rfl i0
    have y0 : Wr (obF v0) k0 (obF (b.get 0)) := by rw [p.old 0 rfl]; exact n0
    obtain ⟨b3, j3, x3, z3⟩ : (IsBox k.w.heap.size m_) (b.get 3) q := out p 0 3 _ rfl rfl rfl
    replace x3 : Lo k (Eq b3) := Lo.eq x3
    have y3 : Lo k0 (Eq b3) := x3.chg hg
    have w0_3 : Apart (obF (b.get 0)) (Eq b3) := Apart.new (by rw [p.old 0 rfl]; exact i0.ltF) x3
    obtain ⟨q2, hsh, jn⟩ := z3.give
    replace j0 := j0.handed hsh w0_3
    rw [← j3] at jn
    replace j3 := jn
    replace hgq := hgq.hand hsh y3.wr
    rw [← hsh.w]
    clear hsh
    obtain ⟨q, hqq⟩ : ∃ q, q = q2 := ⟨q2, rfl⟩
    subst hqq
    exact tail_done (k := q) (hp300 _ _ ⟨hgq, hsb, hdb, j0, y0, j3, trivial⟩)
  · rintro a k ⟨hg, hs, hd, i0, n0, i3, _⟩
    refine wp_seq ?_
    refine wp_seq ?_
    obtain ⟨u259, q0⟩ : ∃ u, a.get 0 = u := ⟨_, rfl⟩
    obtain ⟨x260_3, hx260_3, hr⟩ := bind_some hr
    refine cut (fun a' k' => Chg (obF v0) k0 k' ∧ a'.tmps.size = 43 ∧ a'.defers = [] ∧ a'.get 0 = u259 ∧ IsOwn 0 35 l_ (a'.get 0) k' ∧ Wr (obF v0) k0 (obF (a'.get 0)) ∧ (IsRef m_) (a'.get 3) k' ∧ (IsV (x260_3.isSome)) (a'.get 11) k' ∧ True) ?_ hQ ?_
    · intro Q297 hQQ297 hp298
      refine regionS (a0 := a) (k0 := k) (n := 43) (m := 5) (⟨some (OwnAt (a.get 0) 0 35 l_), [(0, none)]⟩ :: ⟨some (IsPtr m_.To), [(3, none)]⟩ :: ⟨some (IsV m_.To), [(8, some 1)]⟩ :: ⟨some (IsEP u259 (Enc.sz Account) x260_3), [(7, some 0), (9, some 2)]⟩ :: ⟨some (IsV (x260_3.isSome)), [(10, some 3)]⟩ :: []) hs (by kernel_rfl) ⟨⟨inferInstance, fun b q hk hn => ok_moveOA (.inl rfl) ⟨hn.1, up i0 hk hn.1⟩, rfl⟩, ⟨inferInstance, fun b q hk hn => ok_fieldAddr rfl fo33_2 (at_Move_2 _) ((up i3 hk hn.1)).ptr, rfl⟩, ⟨inferInstance, fun b q hk hn => ok_load rfl ty3 hn.1, rfl⟩, ⟨inferInstance, fun b q hk hn => ok_call rfl Try.call30 (ret_ep (by obtain ⟨kb9, hb9, hv9⟩ := IsOwn.give (hn.1).2; exact borrow hb9 (cFind_ok hv9 (Pers.pers hb9.le hn.2.1) hx260_3)) ((hn.1).1.trans q0)), rfl⟩, ⟨inferInstance, fun b q hk hn => ok_neEP rfl Try.underlying52 hn.1, rfl⟩, trivial⟩ hQQ297 fun b q p => ?_
      have hgq := hg.then p.grow
      have hsb := p.size.trans hs
      have hdb := p.defers.trans hd
      have j0 := keep p 0 rfl i0
      have y0 : Wr (obF v0) k0 (obF (b.get 0)) := by rw [p.old 0 rfl]; exact n0
      have j3 := keep p 3 rfl i3
      have j11 : (IsV (x260_3.isSome)) (b.get 11) q := out p 4 11 _ rfl rfl rfl
      have qb0 := (p.old 0 rfl).trans q0
      exact tail_done (k := q) (hp298 _ _ ⟨hgq, hsb, hdb, qb0, j0, y0, j3, j11, trivial⟩)
    · rintro a k ⟨hg, hs, hd, q0, i0, n0, i3, i11, _⟩
      refine wp_cond_split (isBool i11) (fun hc296 => ?_) (fun hc296 => ?_)
      · rw [if_pos hc296] at hr
        refine wp_seq ?_
        refine cut (fun a' k' => Chg (obF v0) k0 k' ∧ a'.tmps.size = 43 ∧ a'.defers = [] ∧ (IsV ([] : List Account)) (a'.get 4) k' ∧ (IsV (α := Int) 5) (a'.get 5) k' ∧ True) ?_ hQ ?_
        · intro Q262 hQQ262 hp263
          refine regionS (a0 := a) (k0 := k) (n := 43) (m := 2) (⟨some IsE0, []⟩ :: ⟨some (IsV (α := Int) 5), []⟩ :: []) hs (by kernel_rfl) ⟨⟨inferInstance, fun b q hk hn => ok_assign rfl isE0_nil, rfl⟩, ⟨inferInstance, fun b q hk hn => ok_assign rfl (isV_int.2 rfl), rfl⟩, trivial⟩ hQQ262 fun b q p => ?_
          have hgq := hg.then p.grow
          have hsb := p.size.trans hs
          have hdb := p.defers.trans hd
          have j4 : IsE0 (b.get 4) q := out p 0 4 _ rfl rfl rfl
          have j5 : (IsV (α := Int) 5) (b.get 5) q := out p 1 5 _ rfl rfl rfl
          replace j4 : IsV ([] : List Account) (b.get 4) q := j4.isV
          exact tail_done (k := q) (hp263 _ _ ⟨hgq, hsb, hdb, j4, j5, trivial⟩)
        · rintro a k ⟨hg, hs, hd, i4, i5, _⟩
          refine wp_ret ?_
          obtain rfl := Option.some.inj hr
          exact retC2 rfl hd hg i4 i5
      · rw [if_neg (by rw [hc296]; decide)] at hr
        refine wp_skip ?_
        refine wp_seq ?_
        refine wp_seq ?_
        refine cut (fun a' k' => Chg (obF v0) k0 k' ∧ a'.tmps.size = 43 ∧ a'.defers = [] ∧ a'.get 0 = u259 ∧ IsOwn 0 35 l_ (a'.get 0) k' ∧ Wr (obF v0) k0 (obF (a'.get 0)) ∧ (IsRef m_) (a'.get 3) k' ∧ (IsV (decide (20000 ≤ (l_.length : Int)))) (a'.get 14) k' ∧ True) ?_ hQ ?_
        · intro Q294 hQQ294 hp295
          refine regionS (a0 := a) (k0 := k) (n := 43) (m := 3) (⟨some (OwnAt (a.get 0) 0 35 l_), [(0, none)]⟩ :: ⟨some (IsV (α := Int) (l_.length : Int)), [(12, some 0)]⟩ :: ⟨some (IsV (decide (20000 ≤ (l_.length : Int)))), [(13, some 1)]⟩ :: []) hs (by kernel_rfl) ⟨⟨inferInstance, fun b q hk hn => ok_moveOA (.inl rfl) ⟨hn.1, up i0 hk hn.1⟩, rfl⟩, ⟨inferInstance, fun b q hk hn => ok_len rfl rfl Try.underlying22 (IsOwn.rd (hn.1).2), rfl⟩, ⟨inferInstance, fun b q hk hn => ok_geq rfl hn.1 (isV_int.2 rfl), rfl⟩, trivial⟩ hQQ294 fun b q p => ?_
          have hgq := hg.then p.grow
          have hsb := p.size.trans hs
          have hdb := p.defers.trans hd
          have j0 := keep p 0 rfl i0
          have y0 : Wr (obF v0) k0 (obF (b.get 0)) := by rw [p.old 0 rfl]; exact n0
          have j3 := keep p 3 rfl i3
          have j14 : (IsV (decide (20000 ≤ (l_.length : Int)))) (b.get 14) q := out p 2 14 _ rfl rfl rfl
          have qb0 := (p.old 0 rfl).trans q0
          exact tail_done (k := q) (hp295 _ _ ⟨hgq, hsb, hdb, qb0, j0, y0, j3, j14, trivial⟩)
        · rintro a k ⟨hg, hs, hd, q0, i0, n0, i3, i14, _⟩
          refine wp_cond_split (isBool i14) (fun hc293 => ?_) (fun hc293 => ?_)
          · rw [if_pos hc293] at hr
            refine wp_seq ?_
            refine cut (fun a' k' => Chg (obF v0) k0 k' ∧ a'.tmps.size = 43 ∧ a'.defers = [] ∧ (IsV ([] : List Account)) (a'.get 4) k' ∧ (IsV (α := Int) 6) (a'.get 5) k' ∧ True) ?_ hQ ?_
            · intro Q266 hQQ266 hp267
              refine regionS (a0 := a) (k0 := k) (n := 43) (m := 2) (⟨some IsE0, []⟩ :: ⟨some (IsV (α := Int) 6), []⟩ :: []) hs (by kernel_rfl) ⟨⟨inferInstance, fun b q hk hn => ok_assign rfl isE0_nil, rfl⟩, ⟨inferInstance, fun b q hk hn => ok_assign rfl (isV_int.2 rfl), rfl⟩, trivial⟩ hQQ266 fun b q p => ?_
              have hgq := hg.then p.grow
              have hsb := p.size.trans hs
              have hdb := p.defers.trans hd
              have j4 : IsE0 (b.get 4) q := out p 0 4 _ rfl rfl rfl
              have j5 : (IsV (α := Int) 6) (b.get 5) q := out p 1 5 _ rfl rfl rfl
              replace j4 : IsV ([] : List Account) (b.get 4) q := j4.isV
              exact tail_done (k := q) (hp267 _ _ ⟨hgq, hsb, hdb, j4, j5, trivial⟩)
            · rintro a k ⟨hg, hs, hd, i4, i5, _⟩
              refine wp_ret ?_
              obtain rfl := Option.some.inj hr
              exact retC2 rfl hd hg i4 i5
          · rw [if_neg (by rw [hc293]; decide)] at hr
            refine wp_skip ?_
            refine wp_seq ?_
            refine cut (fun a' k' => Chg (obF v0) k0 k' ∧ a'.tmps.size = 43 ∧ a'.defers = [] ∧ a'.get 0 = u259 ∧ IsOwn 0 35 l_ (a'.get 0) k' ∧ Wr (obF v0) k0 (obF (a'.get 0)) ∧ (IsRef m_) (a'.get 3) k' ∧ (IsV (α := Int) 0) (a'.get 6) k' ∧ True) ?_ hQ ?_
            · intro Q291 hQQ291 hp292
              refine regionS (a0 := a) (k0 := k) (n := 43) (m := 1) (⟨some (IsV (α := Int) 0), []⟩ :: []) hs (by kernel_rfl) ⟨⟨inferInstance, fun b q hk hn => ok_assign rfl (isV_int.2 rfl), rfl⟩, trivial⟩ hQQ291 fun b q p => ?_
              have hgq := hg.then p.grow
              have hsb := p.size.trans hs
              have hdb := p.defers.trans hd
              have j0 := keep p 0 rfl i0
              have y0 : Wr (obF v0) k0 (obF (b.get 0)) := by rw [p.old 0 rfl]; exact n0
              have j3 := keep p 3 rfl i3
              have j6 : (IsV (α := Int) 0) (b.get 6) q := out p 0 6 _ rfl rfl rfl
              have qb0 := (p.old 0 rfl).trans q0
              exact tail_done (k := q) (hp292 _ _ ⟨hgq, hsb, hdb, qb0, j0, y0, j3, j6, trivial⟩)
            · rintro a k ⟨hg, hs, hd, q0, i0, n0, i3, i6, _⟩
              refine wp_seq ?_
              refine wp_block ?_
              obtain ⟨f283, hf283, hr⟩ := bind_some hr
              refine cutF f283 (fun s' a' k' => Chg (obF v0) k0 k' ∧ a'.tmps.size = 43 ∧ a'.defers = [] ∧ a'.get 0 = u259 ∧ IsOwn 0 35 l_ (a'.get 0) k' ∧ Wr (obF v0) k0 (obF (a'.get 0)) ∧ (IsRef m_) (a'.get 3) k' ∧ (IsV s') (a'.get 6) k' ∧ True) (fun i' s' a' k' => (i' = 0 ∧ Chg (obF v0) k0 k' ∧ a'.tmps.size = 43 ∧ a'.defers = [] ∧ a'.get 0 = u259 ∧ IsOwn 0 35 l_ (a'.get 0) k' ∧ Wr (obF v0) k0 (obF (a'.get 0)) ∧ (IsRef m_) (a'.get 3) k' ∧ (IsV s') (a'.get 6) k' ∧ True)) (fun r' a' k' => bodyPost Try.prog Try.f29 (RetC (obF v0) k0 (IsTup2 (IsV r'.1) (IsV r'.2))) .ret a' k'.w) ?_ hQ ?_ ?_ ?_
              · intro Q290 hQQ290 hgo hex hret
                refine sim_loop ?_ _ _ _ _ _ hf283 ⟨hg, hs, hd, q0, i0, n0, i3, i6, trivial⟩ Q290 hQQ290 hgo hex hret
                clear hr hf283 hgo hex hret hQQ290 hQ hd hg hs i0 i3 i6 n0 q0
                intro s269 fl_ a k hr hS Q hQ hgo270 hex271 hret272
                obtain ⟨hg, hs, hd, q0, i0, n0, i3, i6, _⟩ := hS
                unfold cOpen_L0 at hr
                refine wp_seq ?_
                refine wp_seq ?_
                obtain ⟨x273_13, hx273_13, hr⟩ := bind_some hr
                refine cut (fun a' k' => Chg (obF v0) k0 k' ∧ a'.tmps.size = 43 ∧ a'.defers = [] ∧ a'.get 0 = u259 ∧ IsOwn 0 35 l_ (a'.get 0) k' ∧ Wr (obF v0) k0 (obF (a'.get 0)) ∧ (IsRef m_) (a'.get 3) k' ∧ (IsV s269) (a'.get 6) k' ∧ (IsV x273_13) (a'.get 28) k' ∧ True) ?_ hQ ?_
                · intro Q278 hQQ278 hp279
                  rcases Bool.eq_false_or_eq_true (decide (s269 < (l_.length : Int))) with hm280 | hm280
                  · have ht281 := hx273_13
                    rw [if_pos hm280] at ht281
                    obtain ⟨x273_7, hx273_7, ht281⟩ := bind_some ht281
                    refine region (a0 := a) (k0 := k) (n := 43) (m := 14) (⟨some (IsV s269), [(6, none)]⟩ :: ⟨some (OwnAt (a.get 0) 0 35 l_), [(0, none)]⟩ :: ⟨some (IsV (α := Int) (l_.length : Int)), [(16, some 1)]⟩ :: ⟨some (IsV (decide (s269 < (l_.length : Int)))), [(15, some 0), (17, some 2)]⟩ :: ⟨some (IsV (decide (s269 < (l_.length : Int)))), [(18, some 3)]⟩ :: ⟨some (OwnAt (a.get 0) 0 35 l_), [(0, none)]⟩ :: ⟨some (IsV s269), [(6, none)]⟩ :: ⟨some (IsPtr x273_7), [(20, some 5), (21, some 6)]⟩ :: ⟨some (IsPtr x273_7.Lot), [(22, some 7)]⟩ :: ⟨some (IsV x273_7.Lot), [(23, some 8)]⟩ :: ⟨some (IsPtr m_.To), [(3, none)]⟩ :: ⟨some (IsV m_.To), [(25, some 10)]⟩ :: ⟨some (IsV (decide (x273_7.Lot < m_.To))), [(24, some 9), (26, some 11)]⟩ :: ⟨some (IsV x273_13), [(19, some 4), (27, some 12)]⟩ :: []) hmix hs (by kernel_rfl) ⟨⟨inferInstance, fun b q hk hn => ok_move rfl (up i6 hk hn.1), rfl⟩, ⟨inferInstance, fun b q hk hn => ok_moveOA (.inl rfl) ⟨hn.1, up i0 hk hn.1⟩, rfl⟩, ⟨inferInstance, fun b q hk hn => ok_len rfl rfl Try.underlying22 (IsOwn.rd (hn.1).2), rfl⟩, ⟨inferInstance, fun b q hk hn => ok_lss rfl hn.1 hn.2.1, rfl⟩, ⟨inferInstance, fun b q hk hn => ok_move rfl hn.1, rfl⟩, ⟨inferInstance, fun b q hk hn => ok_moveOA (.inl rfl) ⟨hn.1, up i0 hk hn.1⟩, guardT hm280⟩, ⟨inferInstance, fun b q hk hn => ok_move rfl (up i6 hk hn.1), guardT hm280⟩, ⟨inferInstance, fun b q hk hn => ok_indexAddr rfl Try.underlying22 ty35 (IsOwn.rd (hn.1).2) hn.2.1 hx273_7, guardT hm280⟩, ⟨inferInstance, fun b q hk hn => ok_fieldAddr rfl fo35_0 (at_Account_0 _) hn.1, guardT hm280⟩, ⟨inferInstance, fun b q hk hn => ok_load rfl ty3 hn.1, guardT hm280⟩, ⟨inferInstance, fun b q hk hn => ok_fieldAddr rfl fo33_2 (at_Move_2 _) ((up i3 hk hn.1)).ptr, guardT hm280⟩, ⟨inferInstance, fun b q hk hn => ok_load rfl ty3 hn.1, guardT hm280⟩, ⟨inferInstance, fun b q hk hn => ok_lss rfl hn.1 hn.2.1, guardT hm280⟩, ⟨inferInstance, fun b q hk hn => ok_cast (Option.some.inj ht281) (ok_pick_t rfl hn.1 hm280 hn.2.1), rfl⟩, trivial⟩ hQQ278 fun b q p => ?_
                    have hgq := hg.then p.grow
                    have hsb := p.size.trans hs
                    have hdb := p.defers.trans hd
                    have j0 := keep p 0 rfl i0
                    have y0 : Wr (obF v0) k0 (obF (b.get 0)) := by rw [p.old 0 rfl]; exact n0
                    have j3 := keep p 3 rfl i3
                    have j6 := keep p 6 rfl i6
                    have j28 : (IsV x273_13) (b.get 28) q := out p 13 28 _ rfl rfl rfl
                    have qb0 := (p.old 0 rfl).trans q0
                    exact tail_done (k := q) (hp279 _ _ ⟨hgq, hsb, hdb, qb0, j0, y0, j3, j6, j28, trivial⟩)
                  · have ht281 := hx273_13
                    rw [if_neg (by rw [hm280]; decide)] at ht281
                    have hk282 : x273_13 = false := (Option.some.inj ht281).symm
                    refine region (a0 := a) (k0 := k) (n := 43) (m := 14) (⟨some (IsV s269), [(6, none)]⟩ :: ⟨some (OwnAt (a.get 0) 0 35 l_), [(0, none)]⟩ :: ⟨some (IsV (α := Int) (l_.length : Int)), [(16, some 1)]⟩ :: ⟨some (IsV (decide (s269 < (l_.length : Int)))), [(15, some 0), (17, some 2)]⟩ :: ⟨some (IsV (decide (s269 < (l_.length : Int)))), [(18, some 3)]⟩ :: ⟨none, []⟩ :: ⟨none, []⟩ :: ⟨none, []⟩ :: ⟨none, []⟩ :: ⟨none, []⟩ :: ⟨none, []⟩ :: ⟨none, []⟩ :: ⟨none, []⟩ :: ⟨some (IsV x273_13), [(19, some 4), (27, some 12)]⟩ :: []) hmix hs (by kernel_rfl) ⟨⟨inferInstance, fun b q hk hn => ok_move rfl (up i6 hk hn.1), rfl⟩, ⟨inferInstance, fun b q hk hn => ok_moveOA (.inl rfl) ⟨hn.1, up i0 hk hn.1⟩, rfl⟩, ⟨inferInstance, fun b q hk hn => ok_len rfl rfl Try.underlying22 (IsOwn.rd (hn.1).2), rfl⟩, ⟨inferInstance, fun b q hk hn => ok_lss rfl hn.1 hn.2.1, rfl⟩, ⟨inferInstance, fun b q hk hn => ok_move rfl hn.1, rfl⟩, guardF hm280, guardF hm280, guardF hm280, guardF hm280, guardF hm280, guardF hm280, guardF hm280, guardF hm280, ⟨inferInstance, fun b q hk hn => ok_cast (Option.some.inj ht281) (ok_pick_f rfl hn.1 hm280 (isV_bool.2 rfl)), rfl⟩, trivial⟩ hQQ278 fun b q p => ?_
                    have hgq := hg.then p.grow
                    have hsb := p.size.trans hs
                    have hdb := p.defers.trans hd
                    have j0 := keep p 0 rfl i0
                    have y0 : Wr (obF v0) k0 (obF (b.get 0)) := by rw [p.old 0 rfl]; exact n0
                    have j3 := keep p 3 rfl i3
                    have j6 := keep p 6 rfl i6
                    have j28 : (IsV x273_13) (b.get 28) q := out p 13 28 _ rfl rfl rfl
                    have qb0 := (p.old 0 rfl).trans q0
                    exact tail_done (k := q) (hp279 _ _ ⟨hgq, hsb, hdb, qb0, j0, y0, j3, j6, j28, trivial⟩)
                · rintro a k ⟨hg, hs, hd, q0, i0, n0, i3, i6, i28, _⟩
                  refine wp_cond_split (isBool i28) (fun hc277 => ?_) (fun hc277 => ?_)
                  · rw [if_pos hc277] at hr
                    refine wp_skip ?_
                    refine wp_block ?_
                    obtain ⟨x274_1, hx274_1, hr⟩ := bind_some hr
                    refine cut (fun a' k' => Chg (obF v0) k0 k' ∧ a'.tmps.size = 43 ∧ a'.defers = [] ∧ a'.get 0 = u259 ∧ IsOwn 0 35 l_ (a'.get 0) k' ∧ Wr (obF v0) k0 (obF (a'.get 0)) ∧ (IsRef m_) (a'.get 3) k' ∧ (IsV x274_1) (a'.get 6) k' ∧ True) ?_ hQ ?_
                    · intro Q275 hQQ275 hp276
                      refine regionS (a0 := a) (k0 := k) (n := 43) (m := 3) (⟨some (IsV s269), [(6, none)]⟩ :: ⟨some (IsV x274_1), [(29, some 0)]⟩ :: ⟨some (IsV x274_1), [(30, some 1)]⟩ :: []) hs (by kernel_rfl) ⟨⟨inferInstance, fun b q hk hn => ok_move rfl (up i6 hk hn.1), rfl⟩, ⟨inferInstance, fun b q hk hn => ok_add rfl hn.1 (isV_int.2 rfl) hx274_1, rfl⟩, ⟨inferInstance, fun b q hk hn => ok_assign rfl hn.1, rfl⟩, trivial⟩ hQQ275 fun b q p => ?_
                      have hgq := hg.then p.grow
                      have hsb := p.size.trans hs
                      have hdb := p.defers.trans hd
                      have j0 := keep p 0 rfl i0
                      have y0 : Wr (obF v0) k0 (obF (b.get 0)) := by rw [p.old 0 rfl]; exact n0
                      have j3 := keep p 3 rfl i3
                      have j6 : (IsV x274_1) (b.get 6) q := out p 2 6 _ rfl rfl rfl
                      have qb0 := (p.old 0 rfl).trans q0
                      exact tail_done (k := q) (hp276 _ _ ⟨hgq, hsb, hdb, qb0, j0, y0, j3, j6, trivial⟩)
                    · rintro a k ⟨hg, hs, hd, q0, i0, n0, i3, i6, _⟩
                      exact hgo270 _ _ _ (Option.some.inj hr).symm ⟨hg, hs, hd, q0, i0, n0, i3, i6, trivial⟩
                  · rw [if_neg (by rw [hc277]; decide)] at hr
                    refine wp_exit ?_
                    exact hex271 _ _ _ _ (Option.some.inj hr).symm ⟨rfl, hg, hs, hd, q0, i0, n0, i3, i6, trivial⟩
              · rintro _ _ _ rfl _
                simp at hr
              · clear hf283
                rintro _ s284 a k rfl ⟨rfl, hg, hs, hd, q0, i0, n0, i3, i6, _⟩
                dsimp only at hr
                refine wp_seq ?_
                obtain ⟨x285_11, hx285_11, hr⟩ := bind_some hr
                refine cut (fun a' k' => Chg (obF v0) k0 k' ∧ a'.tmps.size = 43 ∧ a'.defers = [] ∧ IsOwn 0 35 x285_11 (a'.get 4) k' ∧ Wr (obF v0) k0 (obF (a'.get 4)) ∧ (IsV (α := Int) 0) (a'.get 5) k' ∧ True) ?_ hQ ?_
                · intro Q287 hQQ287 hp288
                  refine regionS (a0 := a) (k0 := k) (n := 43) (m := 11) (⟨some (OwnAt (a.get 0) 0 35 l_), [(0, none)]⟩ :: ⟨some (IsV s284), [(6, none)]⟩ :: ⟨some (IsPtr m_.To), [(3, none)]⟩ :: ⟨some (IsV m_.To), [(33, some 2)]⟩ :: ⟨some (IsPtr m_.N), [(3, none)]⟩ :: ⟨some (IsV m_.N), [(35, some 4)]⟩ :: ⟨some (IsPtr m_.From), [(3, none)]⟩ :: ⟨some (IsV m_.From), [(37, some 6)]⟩ :: ⟨some (IsV (m_.From == 1)), [(38, some 7)]⟩ :: ⟨some (IsV (⟨m_.To, m_.N, (m_.From == 1)⟩ : Account)), [(34, some 3), (36, some 5), (39, some 8)]⟩ :: ⟨some (IsOwn k.w.heap.size 35 ([(⟨m_.To, m_.N, (m_.From == 1)⟩ : Account)])), [(40, some 9)]⟩ :: []) hs (by kernel_rfl) ⟨⟨inferInstance, fun b q hk hn => ok_moveOA (.inl rfl) ⟨hn.1, up i0 hk hn.1⟩, rfl⟩, ⟨inferInstance, fun b q hk hn => ok_move rfl (up i6 hk hn.1), rfl⟩, ⟨inferInstance, fun b q hk hn => ok_fieldAddr rfl fo33_2 (at_Move_2 _) ((up i3 hk hn.1)).ptr, rfl⟩, ⟨inferInstance, fun b q hk hn => ok_load rfl ty3 hn.1, rfl⟩, ⟨inferInstance, fun b q hk hn => ok_fieldAddr rfl fo33_3 (at_Move_3 _) ((up i3 hk hn.1)).ptr, rfl⟩, ⟨inferInstance, fun b q hk hn => ok_load rfl ty3 hn.1, rfl⟩, ⟨inferInstance, fun b q hk hn => ok_fieldAddr rfl fo33_1 (at_Move_1 _) ((up i3 hk hn.1)).ptr, rfl⟩, ⟨inferInstance, fun b q hk hn => ok_load rfl ty3 hn.1, rfl⟩, ⟨inferInstance, fun b q hk hn => ok_eqI rfl hn.1 (isV_int.2 rfl), rfl⟩, ⟨inferInstance, fun b q hk hn => ok_build rfl (bld35_0_1_2 hn.1 hn.2.1 hn.2.2.1), rfl⟩, ⟨inferInstance, fun b q hk hn => ok_buildSliceO rfl Try.underlying22 eo35 hk.size rfl (by decide) (by decide) ⟨rfl, hn.1, trivial⟩, rfl⟩, trivial⟩ hQQ287 fun b q p => ?_
                  have hgq := hg.then p.grow
                  have hsb := p.size.trans hs
                  have hdb := p.defers.trans hd
                  have e31 : b.get 31 = a.get 0 := (out p 0 31 _ rfl rfl rfl).1
                  have j31 : IsOwn 0 35 l_ (b.get 31) q := (out p 0 31 _ rfl rfl rfl).2
                  have y31 : Wr (obF v0) k0 (obF (b.get 31)) := by rw [e31]; exact n0
                  have j32 : (IsV s284) (b.get 32) q := out p 1 32 _ rfl rfl rfl
                  have j41 : (IsOwn k.w.heap.size 35 ([(⟨m_.To, m_.N, (m_.From == 1)⟩ : Account)])) (b.get 41) q := out p 10 41 _ rfl rfl rfl
                  have x41 : Lo k (obF (b.get 41)) := j41.loF
                  have y41 := x41.chg hg
                  replace j41 := j41.weaken (Nat.zero_le _)
                  have w31_41 : Apart (obF (b.get 31)) (obF (b.get 41)) := Apart.new (by rw [e31]; exact i0.ltF) x41
                  have hns := j31.nshF
                  refine tail_call (F := obF (b.get 31)) (i := 11) (d := 42) rfl rfl rfl rfl (by rw [hsb]; decide) Try.call36 hQQ287 (insertA_ok j31 j32 j41 w31_41 hx285_11) fun b2 q2 hsz hdf hoth hch hres => ?_
                  have hle := hch.le hns
                  obtain ⟨hown, hob⟩ := hres
                  have yn : Wr (obF v0) k0 (obF (b2.get 42)) := y31.app hgq hob
                  have v41 : Apart (obF (b.get 41)) (obF (b2.get 42)) := Apart.app (w31_41.symm) j41.ltF hob
                  replace j32 := Pers.pers hle j32
                  replace j41 := j41.keep hch (w31_41.symm) hns
                  replace hgq := hgq.step hch y31
                  rw [← hoth 32 (by decide)] at j32
                  rw [← hoth 41 (by decide)] at j41
                  rw [← hoth 41 (by decide)] at y41
                  rw [← hoth 41 (by decide)] at v41
                  have w41_42 := v41
                  have j42 := hown
                  have y42 := yn
                  have hres := True.intro
                  clear hown hob yn
                  replace hsb := hsz.trans hsb
                  replace hdb := hdf.trans hdb
                  clear hle hch hres hns hsz hdf hoth
                  obtain ⟨b, hbb⟩ : ∃ b, b = b2 := ⟨b2, rfl⟩
                  subst hbb
                  obtain ⟨q, hqq⟩ : ∃ q, q = q2 := ⟨q2, rfl⟩
                  subst hqq
                  refine tail_assign (i := 12) (d := 4) rfl rfl (.inl rfl) rfl (by rw [hsb]; decide) fun b2 hsz hdf hnew hoth => ?_
                  have jn : (IsOwn 0 35 x285_11) (b2.get 4) q := by rw [hnew]; exact j42
                  have yn : Wr (obF v0) k0 (obF (b2.get 4)) := by rw [hnew]; exact y42
                  have v41 : Apart (obF (b.get 41)) (obF (b2.get 4)) := by rw [hnew]; exact w41_42
                  rw [← hoth 32 (by decide)] at j32
                  rw [← hoth 41 (by decide)] at j41
                  rw [← hoth 41 (by decide)] at y41
                  rw [← hoth 41 (by decide)] at v41
                  have w4_41 := v41.symm
                  have j4 := jn
                  have y4 := yn
                  replace hsb := hsz.trans hsb
                  replace hdb := hdf.trans hdb
                  clear hsz hdf hoth
                  obtain ⟨b, hbb⟩ : ∃ b, b = b2 := ⟨b2, rfl⟩
                  subst hbb
                  refine tail_assign (i := 13) (d := 5) rfl rfl (.inl rfl) rfl (by rw [hsb]; decide) fun b2 hsz hdf hnew hoth => ?_
                  have jn : (IsV (α := Int) 0) (b2.get 5) q := by rw [hnew]; exact (isV_int.2 rfl)
                  rw [← hoth 4 (by decide)] at j4
                  rw [← hoth 4 (by decide)] at y4
                  rw [← hoth 32 (by decide)] at j32
                  rw [← hoth 41 (by decide)] at j41
                  rw [← hoth 41 (by decide)] at y41
                  rw [← hoth 4 (by decide), ← hoth 41 (by decide)] at w4_41
                  have j5 := jn
                  replace hsb := hsz.trans hsb
                  replace hdb := hdf.trans hdb
                  clear hsz hdf hoth
                  obtain ⟨b, hbb⟩ : ∃ b, b = b2 := ⟨b2, rfl⟩
                  subst hbb
                  exact tail_done (k := q) (hp288 _ _ ⟨hgq, hsb, hdb, j4, y4, j5, trivial⟩)
                · rintro a k ⟨hg, hs, hd, i4, n4, i5, _⟩
                  refine wp_ret ?_
                  obtain ⟨kk, sh286, ii4⟩ := i4.give
                  replace i5 := Pers.pers sh286.le i5
                  replace i4 := ii4
                  replace hg := hg.hand sh286 n4
                  rw [← sh286.w]
                  clear sh286
                  obtain ⟨k, hkk⟩ : ∃ k, k = kk := ⟨kk, rfl⟩
                  subst hkk
                  obtain rfl := Option.some.inj hr
                  exact retC2 rfl hd hg i4 i5
              · rintro r289 a k rfl hR
                dsimp only at hr
                obtain rfl := Option.some.inj hr
                exact hR
end Go.Proofs.Ytbanncpkgbiklaa
