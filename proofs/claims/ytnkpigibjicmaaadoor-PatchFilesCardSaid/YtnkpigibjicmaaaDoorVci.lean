/- walks: the reference's Apply (written by gen_vci.py) -/
import Derived.Test.YtnkpigibjicmaaaDoorVcd
namespace Go.Proofs.YtnkpigibjicmaaaDoor
open Go.RowKit Go.Maps
open Pt Tx
/-- append of rows to a list of the call's own -/
theorem append_own3 {ts T : TypeId} {z : Value} {k bytes : Nat} (rt : RT ts T z k bytes) {ops : Array Oper} {rest : List Oper} {o : Oper} {a : Act} {Q : Exit → Act → World → Prop} (hgd : o.guard = none) (s x : Operand)
    (ho : o.op = .call { callee := .builtin .append, args := #[s, x], argTypes := #[ts, ts] }) (v v2 : Value) (l l2 : List (List Value)) (B : Nat) (wr : World)
    (own : OwnR wr B T k v l) (h2 : RowsAt wr v2 k l2) (hk : ∀ x ∈ l2, x.length = k) (h1 : ∀ x ∈ l2, ∀ u ∈ x, u.oneCell' = true) (hB : B ≤ wr.heap.size) (len : l.length + l2.length ≤ 1048577) (hs : a.eval s = v) (hx : a.eval x = v2)
    (h : ∀ v' w', Hid (OwnR w' B T k v' (l ++ l2)) → Hid (wr.grownBy w' v.ownBlock) → wpList Tryd.prog ops Q rest (a.put o.dst v') w') : wpList Tryd.prog ops Q (o :: rest) a wr := by
  obtain ⟨i0, hi, hz0, hz1, hz2⟩ := info_parts rt.inf
  have hby := rt.by_
  rcases h2 with ⟨rfl, (_ | ad), rfl⟩ | ⟨g, o2, cap, rfl, c1, c2, hg, hc⟩
  · refine wpList_append_own_none hgd s x ts ho B T i0 k rt.und hi v l.length l.flatten hs own hx ?_
    exact h v wr (Lib.hid (by rw [List.append_nil]; exact own)) (Lib.hid (grown_refl _ _))
  · refine wpList_append_own_wide _ hgd s x ts ho B T i0 z k bytes rt.und hi hz0 hz1 hz2 rt.zk rt.pos v l.length l.flatten hs own ad 0 0 [] hx (by simp) (fun j u hj => by simp at hj) (fun u hu => by simp at hu) (by unfold maxLen; omega) ?_ hB ?_
    · have e : ((l.length + 0) + (l.length + 0) / 4 + 192) ≤ 1400000 := by omega
      exact Nat.le_trans (Nat.mul_le_mul e hby) (by decide)
    · intro v' w' q1 q2 _
      refine h v' w' (Lib.hid ?_) (Lib.hid q2)
      rw [List.append_nil] at q1 ⊢
      exact q1
  · refine wpList_append_own_wide _ hgd s x ts ho B T i0 z k bytes rt.und hi hz0 hz1 hz2 rt.zk rt.pos v l.length l.flatten hs own ⟨g, o2, none⟩ l2.length cap l2.flatten hx (flat_len hk) (RowsAt.flat (n := l2.length) (cap := cap) (.inr ⟨g, o2, cap, rfl, c1, c2, hg, hc⟩) rt.pos hk) ?_ ?_ ?_ hB ?_
    · intro u hu
      obtain ⟨xx, hxx, hu⟩ := List.mem_flatten.1 hu
      exact h1 xx hxx u hu
    · unfold maxLen; omega
    · have e : ((l.length + l2.length) + (l.length + l2.length) / 4 + 192) ≤ 1400000 := by omega
      exact Nat.le_trans (Nat.mul_le_mul e hby) (by decide)
    · intro v' w' q1 q2 _
      refine h v' w' (Lib.hid ?_) (Lib.hid q2)
      show w'.ownsRow B T k v' (l ++ l2).length (l ++ l2).flatten
      rw [List.length_append, List.flatten_append]; exact q1
theorem OldR.keep {pb : Nat} {w w' : World} {v : Value} {k : Nat} {l : List (List Value)} (h : OldR pb w v k l) (hs : pb ≤ w.heap.size) (hb : Below w.heap.size w w') : OldR pb w' v k l := by
  obtain ⟨w0, h1, h2, h3⟩ := h
  exact ⟨w0, h1, h2, h3.trans (hb.mono (by omega))⟩
/-- what the reference holds: the old lines, what is out, places, rejected hunks -/
structure RS (B : Nat) (vo v10 v11 v12 : Value) (old out : List Ln) (pl : List (Int × Int × Int)) (MB : List HV) (w3 w : World) : Prop where
  old : OldR B w vo 2 (old.map rowL)
  out : OwnR w B 108 2 v10 (out.map rowL)
  pl : OwnR w B 44 3 v11 (pl.map rowG)
  rj : OwnR w B 38 5 v12 (MB.map rowH)
  each : ∀ p ∈ MB, OldR B w p.2 3 (p.1.ls.map rowD)
  bel : Below B w3 w
  sz : B ≤ w.heap.size
section
variable {B : Nat} {vo v10 v11 v12 : Value} {old out : List Ln} {pl : List (Int × Int × Int)} {MB : List HV} {w3 w w' : World}
theorem RS.keep (h : RS B vo v10 v11 v12 old out pl MB w3 w) (hb : Below w.heap.size w w') : RS B vo v10 v11 v12 old out pl MB w3 w' :=
  ⟨h.old.keep h.sz hb, h.out.below hb, h.pl.below hb, h.rj.below hb, fun p hp => (h.each p hp).keep h.sz hb, h.bel.trans (hb.mono h.sz), Nat.le_trans h.sz hb.size⟩
theorem RS.gout {v' : Value} {more : List Ln} (h : RS B vo v10 v11 v12 old out pl MB w3 w) (o : OwnR w' B 108 2 v' (out.map rowL ++ more.map rowL)) (g : w.grownBy w' v10.ownBlock) : RS B vo v' v11 v12 old (out ++ more) pl MB w3 w' ∧ KT B 108 w w' := by
  have k := KT.grown (pb := B) h.out g (Nat.le_refl _) h.sz
  exact ⟨⟨h.old.kt k, by rw [List.map_append]; exact o, h.pl.kt k (by decide), h.rj.kt k (by decide), fun p hp => (h.each p hp).kt k, h.bel.trans k.below, Nat.le_trans h.sz k.below.size⟩, k⟩
theorem RS.gpl {v' : Value} {x : Int × Int × Int} (h : RS B vo v10 v11 v12 old out pl MB w3 w) (o : OwnR w' B 44 3 v' (pl.map rowG ++ [rowG x])) (g : w.grownBy w' v11.ownBlock) : RS B vo v10 v' v12 old out (pl ++ [x]) MB w3 w' ∧ KT B 44 w w' := by
  have k := KT.grown (pb := B) h.pl g (Nat.le_refl _) h.sz
  exact ⟨⟨h.old.kt k, h.out.kt k (by decide), by rw [List.map_append]; exact o, h.rj.kt k (by decide), fun p hp => (h.each p hp).kt k, h.bel.trans k.below, Nat.le_trans h.sz k.below.size⟩, k⟩
theorem RS.grj {v' : Value} {x : HV} (h : RS B vo v10 v11 v12 old out pl MB w3 w) (o : OwnR w' B 38 5 v' (MB.map rowH ++ [rowH x])) (g : w.grownBy w' v12.ownBlock) (hx : OldR B w x.2 3 (x.1.ls.map rowD)) : RS B vo v10 v11 v' old out pl (MB ++ [x]) w3 w' := by
  have k := KT.grown (pb := B) h.rj g (Nat.le_refl _) h.sz
  exact ⟨h.old.kt k, h.out.kt k (by decide), h.pl.kt k (by decide), by rw [List.map_append]; exact o, fun p hp => by
    rcases List.mem_append.1 hp with hp | hp
    · exact (h.each p hp).kt k
    · rw [List.mem_singleton] at hp; subst hp; exact hx.kt k, h.bel.trans k.below, Nat.le_trans h.sz k.below.size⟩
end
set_option maxRecDepth 100000 in
set_option maxHeartbeats 8000000 in
theorem rapply_any (s old new : ByteArray) (L : List HV) (v : Value) (fuzz : Int) (w : World) (hv : HksAt w v L) (hl : smallA L) (hs : s.size ≤ 100000) {t : List UInt8} {pl : List (Int × Int × Int)} {bd : List Hk} (ha : Hid (applyP s (L.map (·.1)) fuzz = (t, pl, bd))) :
    Calls Tryd.prog 12 #[.string s, .agg #[.string old, .string new, v], .int .i64 fuzz] w fun e w' => ∃ vp vh M, e = .returned (.tuple #[.string (bA t), vp, vh]) ∧ Hid (RowsAt w' vp 3 (pl.map rowG)) ∧ Hid (M.map (·.1) = bd) ∧ Hid (HksAt w' vh M) ∧ Hid (∀ p ∈ M, p ∈ L) ∧ Hid (chk (L.map (·.1)) = 0 → OwnR w' w.heap.size 38 5 vh (M.map rowH)) ∧ Hid (Below w.heap.size w w') := by
  obtain ⟨n, hn⟩ : ∃ n, L.length = n := ⟨_, rfl⟩
  have HN := Lib.hid hn
  have HVH := Lib.hid hv
  have HS := Lib.hid hl
  have HZ := Lib.hid hs
  obtain ⟨a, cap, rfl, c1, c2, hc⟩ := hv.rows.sl (n := n) (by rw [List.length_map]; exact hn)
  have HC := Lib.hid hc
  have hl1 := hl.1
  rw [hn] at hl1
  unfold maxLen at c2
  have B0 : Hid (Below w.heap.size w (w.alloc (.cells #[.string old, .string new, .slice a n cap] 24))) := Lib.hid ((Below.refl _ _).alloc (Nat.le_refl _) _)
  have NA : Hid ((w.alloc (.cells #[.string old, .string new, .slice a n cap] 24)).heap[w.heap.size]? = some (.cells #[.string old, .string new, .slice a n cap] 24 (0, 0))) := Lib.hid (heap_alloc_new w _)
  obtain ⟨r, hr⟩ : ∃ r, chk (L.map (·.1)) = r := ⟨_, rfl⟩
  have HR := Lib.hid hr
  have CK := Lib.hid (fun W (hb : Below w.heap.size w W) => rcheck_any old new L (.slice a n cap) W (HVH.out.below hb) HS.out.h)
  rw [hr] at CK
  clear hv hn hc hl hs hr
  obtain ⟨w1, hw1⟩ : ∃ W, (w.alloc (.cells #[.string old, .string new, .slice a n cap] 24)) = W := ⟨_, rfl⟩
  rw [hw1] at B0 NA
  have y0 := blk_cellx NA.out 0 _ rfl
  have y1 := blk_cellx NA.out 1 _ rfl
  have y2 := blk_cellx NA.out 2 _ rfl
  by_cases h0 : r = 0
  rotate_left
  · have t0 : (r != 0) = true := bne_iff_ne.2 h0
    have H0 := Lib.hid h0
    have E : Hid (t = s.data.toList ∧ pl = [] ∧ bd = L.map (·.1)) := Lib.hid (by
      have h := ha.out
      unfold applyP at h
      rw [if_pos (by rw [HR.out]; exact h0)] at h
      cases h
      exact ⟨rfl, rfl, rfl⟩)
    clear h0
    go_enter Tryd.func12, Tryd.ntmps12
    go_wp2_with (first | (go_at_call 21; (with_reducible refine (CK.out _ B0.out).mono ?_); rintro _ w2 ⟨rfl, B2⟩; have y2 := kp B2.out y2))
    go_region
    go_wp2_with fail
    go_ret3
    have BB := Lib.hid (fun k => (B0.out.trans (B2.out.mono B0.out.size)).trans ((bel_dn w2 k).mono (B0.out.trans (B2.out.mono B0.out.size)).size))
    exact ⟨_, _, L, by rw [E.out.1, bA_self]; rfl, Lib.hid (by rw [E.out.2.1]; exact .inl ⟨rfl, _, rfl⟩), Lib.hid (by rw [E.out.2.2]), Lib.hid (HVH.out.below (BB.out _)), Lib.hid (fun p hp => hp), Lib.hid (fun h => absurd (HR.out.symm.trans h) H0.out), Lib.hid (BB.out _)⟩
  subst h0
  have SH : Hid (∀ p ∈ L, shapeE p.1 = 0) := Lib.hid (fun p hp => chkP_all _ 0 0 HR.out p.1 (List.mem_map_of_mem hp))
  have E : Hid (t = textP (lnsP s) (runP (lnsP s) (L.map (·.1)) fuzz) ∧ pl = (runP (lnsP s) (L.map (·.1)) fuzz).placed ∧ bd = (runP (lnsP s) (L.map (·.1)) fuzz).bad) := Lib.hid (by
    have h := ha.out
    unfold applyP at h
    rw [if_neg (by rw [HR.out]; decide)] at h
    cases h
    exact ⟨rfl, rfl, rfl⟩)
  have PLN := Lib.hid (fun W (hb : Below w.heap.size w W) => rlns_any s W HZ.out)
  obtain ⟨hs, hhs⟩ : ∃ hs, L.map (·.1) = hs := ⟨_, rfl⟩
  have HHS := Lib.hid hhs
  rw [hhs] at E
  clear hhs
  go_enter Tryd.func12, Tryd.ntmps12
  go_upto_region 4 with (first | (go_at_call 21; (with_reducible refine (CK.out _ B0.out).mono ?_); rintro _ w2 ⟨rfl, B2⟩; have y2 := kp B2.out y2) | (go_at_call 30; (with_reducible refine (PLN.out _ (B0.out.trans (B2.out.mono B0.out.size))).mono ?_); rintro _ w3 ⟨vo, LL, rfl, HL3, RO3, B3⟩; obtain ⟨oa, oc, e3⟩ := RO3.out.sl; obtain ⟨on, hon⟩ : ∃ k, ((lnsN LL.length (linE s.data.toList) 0 LL).map rowL).length = k := ⟨_, rfl⟩; rw [hon] at e3; have HON := Lib.hid hon; clear hon; subst e3))
  have B13 := Lib.hid ((B0.out.trans (B2.out.mono B0.out.size)).trans (B3.out.mono (B0.out.trans (B2.out.mono B0.out.size)).size))
  obtain ⟨ol, hol⟩ : ∃ l, lnsP s = l := ⟨_, rfl⟩
  have LEQ : Hid (lnsN LL.length (linE s.data.toList) 0 LL = ol) := Lib.hid (by rw [← hol]; exact lns_eq HL3.out)
  have OLEN : Hid (ol.length = on ∧ ol.length ≤ 100001 ∧ ∀ x ∈ ol, x.1.size ≤ 100000) := Lib.hid ⟨by rw [← HON.out, List.length_map, LEQ.out], by rw [← hol]; have := lnsP_len s; have := HZ.out; omega, fun x hx => by rw [← hol] at hx; have := lnsP_size hx; have := HZ.out; omega⟩
  rw [LEQ.out] at RO3
  rw [hol] at E
  clear hol
  have hon : on ≤ 100001 := by have := OLEN.out.1; have := OLEN.out.2.1; omega
  have y2 := kp B3.out y2
  clear y0 y1 hw1
  obtain ⟨B, hB⟩ : ∃ p, w3.heap.size = p := ⟨_, rfl⟩
  have A0 : Hid (RS B (.slice oa on oc) (.slice none 0 0) (.slice none 0 0) (.slice none 0 0) ol [] [] [] w3 w3) := Lib.hid ⟨⟨w3, RO3.out.rows rowL_len, Nat.le_of_eq hB, Below.refl _ _⟩, OwnR.nil _ _ _ _, OwnR.nil _ _ _ _, OwnR.nil _ _ _ _, (fun p hp => by simp at hp), Below.refl _ _, Nat.le_of_eq hB.symm⟩
  have HPB := Lib.hid hB
  have N2 := Lib.hid ((B2.out.block _ (Array.getElem?_eq_some_iff.1 NA.out).1).trans NA.out)
  have N3 := Lib.hid ((B3.out.block _ (Array.getElem?_eq_some_iff.1 N2.out).1).trans N2.out)
  have Y2 : Hid (∀ W, Below B w3 W → W.cell? ⟨w.heap.size, 2, none⟩ = some (.slice a n cap)) := Lib.hid (fun W hb => blk_cellx ((hb.block _ (by rw [← HPB.out]; exact (Array.getElem?_eq_some_iff.1 N3.out).1)).trans N3.out) 2 _ rfl)
  clear y2
  clear hB
  go_wp2_with fail
  go_loopw [10, 11, 12, 13, 14, 15, 16, 17, 18, 19, 20, 21, 22, 23, 24] (fun x10 x11 x12 lw o i b16 b17 b18 b19 b20 b21 b22 b23 b24 wr => ∃ (j low : Nat) (mv : Int) (sout : List Ln) (spl : List (Int × Int × Int)) (sbad : List Hk) (MB : List HV), i = .int .i64 j ∧ lw = .int .i64 low ∧ o = .int .i64 mv ∧ j ≤ n ∧ Hid (⟨sout, low, mv, spl, sbad⟩ = (hs.take j).foldl (stepP ol fuzz) ⟨[], 0, 0, [], []⟩) ∧ Hid (OkW ol j ⟨sout, low, mv, spl, sbad⟩) ∧ Hid (MB.map (·.1) = sbad) ∧ Hid (∀ p ∈ MB, p ∈ L) ∧ Hid (RS B (.slice oa on oc) x10 x11 x12 ol sout spl MB w3 wr)) (fun _ _ _ _ _ i _ _ _ _ _ _ _ _ _ _ => n - (intOf i).toNat)
  case atStart => exact ⟨0, 0, 0, [], [], [], [], rfl, rfl, rfl, Nat.zero_le _, Lib.hid rfl, Lib.hid (OkW.start _), Lib.hid rfl, Lib.hid (fun p hp => by simp at hp), A0⟩
  case round =>
    obtain ⟨j, low, mv, sout, spl, sbad, MB, rfl, rfl, rfl, hj, HST, HOK, HMB, HSUB, HA⟩ := hrel
    have PBW : Hid (w.heap.size ≤ B) := Lib.hid (by rw [← HPB.out]; exact B13.out.size)
    have BW : Hid (Below w.heap.size w wr) := Lib.hid (B13.out.trans (HA.out.bel.mono PBW.out))
    have y2 := Y2.out wr HA.out.bel
    by_cases hlt : j < n
    · obtain ⟨x, hx⟩ : ∃ x, L[j]? = some x := ⟨_, List.getElem?_eq_getElem (by rw [HN.out]; exact hlt)⟩
      have hmem := List.mem_of_getElem? hx
      rcases HC.out with h0 | ⟨g, o, rfl, -, hcc⟩
      · omega
      have m1 : (L.map rowH)[j]? = some (rowH x) := by rw [List.getElem?_map, hx]; rfl
      have d0 := kp BW.out (hcc j _ m1 0 _ rfl)
      have d1 := kp BW.out (hcc j _ m1 1 _ rfl)
      have d2 := kp BW.out (hcc j _ m1 2 _ rfl)
      have d3 := kp BW.out (hcc j _ m1 3 _ rfl)
      have d4 := kp BW.out (hcc j _ m1 4 _ rfl)
      rw [Nat.add_zero] at d0
      have OX : Hid (∀ W, Below B w3 W → OldR B W x.2 3 (x.1.ls.map rowD)) := Lib.hid (fun W hb => ⟨w, HVH.out.each x hmem, PBW.out, B13.out.trans (hb.mono PBW.out)⟩)
      have HMEM := Lib.hid hmem
      have SX := Lib.hid (HS.out.2 x hmem)
      have SE := Lib.hid (SH.out x hmem)
      have TK : Hid ((hs.take (j + 1)).foldl (stepP ol fuzz) ⟨[], 0, 0, [], []⟩ = stepP ol fuzz ⟨sout, low, mv, spl, sbad⟩ x.1) := Lib.hid (by
        rw [take_get (x := x.1) (by rw [← HHS.out, List.getElem?_map, hx]; rfl), List.foldl_append, ← HST.out]; rfl)
      have p0 : (0 : Int) ≤ (j : Int) := by omega
      have p1 : (j : Int) < (n : Int) := by omega
      have p2 : IntKind.i64.wrap (j : Int) = (j : Int) := IntWalk.i64_in _ (by omega)
      obtain ⟨⟨fa, la, fb, lb, ls⟩, u⟩ := x
      simp only at d0 d1 d2 d3 d4 OX SX SE TK HMEM
      clear hcc m1 hx hmem
      obtain ⟨ua, uc, e4, -⟩ := (OX.out wr HA.out.bel).rows.sl rfl
      obtain ⟨un, hun⟩ : ∃ k, (ls.map rowD).length = k := ⟨_, rfl⟩
      rw [hun] at e4
      have HUN : Hid (ls.length = un) := Lib.hid (by rw [← hun, List.length_map])
      clear hun
      subst e4
      have un100 : un ≤ 100 := by have := SX.out.1; have := HUN.out; omega
      obtain ⟨-, -, sh3, sh4, -⟩ := shape_ok SE.out
      have la0 : 0 ≤ la := by have h1 := (shape_ok SE.out).1; simp only at h1; omega
      simp only at sh3 sh4
      have a0 : -1 ≤ beginP fa la ∧ beginP fa la ≤ 2147483647 := begin_bd sh3 sh4
      obtain ⟨a0v, ha0⟩ : ∃ x, beginP fa la = x := ⟨_, rfl⟩
      rw [ha0] at a0
      have a01 := a0.1
      have a02 := a0.2
      have HAA := Lib.hid ha0
      obtain ⟨fz, hfz⟩ : ∃ fz, fuzzN fuzz ls = fz := ⟨_, rfl⟩
      have HF : Hid (fz = min (max fuzz 0).toNat un ∧ placeP ol low mv ⟨fa, la, fb, lb, ls⟩ fuzz = placeF ol low mv ⟨fa, la, fb, lb, ls⟩ (fz + 1) 0) := Lib.hid ⟨by rw [← hfz, ← HUN.out]; rfl, by unfold placeP; rw [hfz]⟩
      have hfz1 : fz ≤ un := by rw [HF.out.1]; omega
      have hm1 : -1099511627776 ≤ mv := HOK.out.mv.1
      have hm2 : mv ≤ 1099511627776 := HOK.out.mv.2
      have hlo : low ≤ on := by have := HOK.out.low; have := OLEN.out.1; simp only at *; omega
      have SO : Hid (sout.length ≤ 120000) := Lib.hid (by have h1 := HOK.out.out; have h2 := HOK.out.low; have h3 := OLEN.out.2.1; simp only at h1 h2; omega)
      have SPL : Hid (spl.length ≤ 100 ∧ MB.length ≤ 100) := Lib.hid (by have h1 := HOK.out.pl; have h2 := HOK.out.bad; have h3 := congrArg List.length HMB.out; rw [List.length_map] at h3; simp only at h1 h2; omega)
      clear a0 ha0 hfz
      obtain ⟨bx, hbx⟩ : ∃ b, wr.heap.size = b := ⟨_, rfl⟩
      obtain ⟨w5, hw5⟩ : ∃ W, wr.alloc (.cells #[.int .i64 fa, .int .i64 la, .int .i64 fb, .int .i64 lb, .slice ua un uc] 38) = W := ⟨_, rfl⟩
      have B5 : Hid (Below wr.heap.size wr w5) := Lib.hid (by rw [← hw5]; exact (Below.refl _ _).alloc (Nat.le_refl _) _)
      have X5 : Hid (w5.heap[bx]? = some (.cells #[.int .i64 fa, .int .i64 la, .int .i64 fb, .int .i64 lb, .slice ua un uc] 38 (0, 0))) := Lib.hid (by rw [← hw5, ← hbx]; exact heap_alloc_new wr _)
      have S5 := Lib.hid (HA.out.keep B5.out)
      go_upto_block 2 with (fail)
      try rw [hw5]
      try rw [hbx]
      clear hw5 hbx d0 d1 d2 d3 d4
      go_cut [10, 11, 13, 14, 17, 18, 19, 20, 21, 22, 23, 24] from 45 to 116 (fun y10 y11 lw2 o2 fd b18 b19 b20 b21 b22 b23 b24 w' => ∃ (ok : Bool) (so : List Ln) (lo : Nat) (m2 : Int) (sp : List (Int × Int × Int)), fd = .bool ok ∧ lw2 = .int .i64 lo ∧ o2 = .int .i64 m2 ∧ Hid (RS B (.slice oa on oc) y10 y11 u12 ol so sp MB w3 w') ∧ Hid (w'.heap[bx]? = some (.cells #[.int .i64 fa, .int .i64 la, .int .i64 fb, .int .i64 lb, .slice ua un uc] 38 (0, 0))) ∧ Hid ((ok = true → stepP ol fuzz ⟨sout, low, mv, spl, sbad⟩ ⟨fa, la, fb, lb, ls⟩ = ⟨so, lo, m2, sp, sbad⟩) ∧ (ok = false → stepP ol fuzz ⟨sout, low, mv, spl, sbad⟩ ⟨fa, la, fb, lb, ls⟩ = ⟨so, lo, m2, sp ++ [(0, 0, 0)], sbad ++ [⟨fa, la, fb, lb, ls⟩]⟩) ∧ sp.length ≤ 101))
      · go_wp2_with fail
        go_loopw [10, 11, 13, 14, 17, 18, 19, 20, 21, 22, 23, 24] (fun y10 y11 lw2 o2 fd f b19 b20 b21 b22 b23 b24 w2' => ∃ (F lo : Nat) (ok : Bool) (m2 : Int) (so : List Ln) (sp : List (Int × Int × Int)), f = .int .i64 F ∧ F ≤ fz + 1 ∧ fd = .bool ok ∧ lw2 = .int .i64 lo ∧ o2 = .int .i64 m2 ∧ Hid (RS B (.slice oa on oc) y10 y11 u12 ol so sp MB w3 w2') ∧ Hid (w2'.heap[bx]? = some (.cells #[.int .i64 fa, .int .i64 la, .int .i64 fb, .int .i64 lb, .slice ua un uc] 38 (0, 0))) ∧ Hid ((ok = true → stepP ol fuzz ⟨sout, low, mv, spl, sbad⟩ ⟨fa, la, fb, lb, ls⟩ = ⟨so, lo, m2, sp, sbad⟩) ∧ (ok = false → so = sout ∧ sp = spl ∧ lo = low ∧ m2 = mv ∧ placeP ol low mv ⟨fa, la, fb, lb, ls⟩ fuzz = placeF ol low mv ⟨fa, la, fb, lb, ls⟩ (fz + 1 - F) F) ∧ sp.length ≤ 101)) (fun _ _ _ _ _ f _ _ _ _ _ _ _ => fz + 1 - (intOf f).toNat)
        case atStart => exact ⟨0, low, false, mv, sout, spl, rfl, by omega, rfl, rfl, rfl, S5, X5, Lib.hid ⟨fun h => (by cases h), fun _ => ⟨rfl, rfl, rfl, rfl, HF.out.2⟩, by have := SPL.out.1; omega⟩⟩
        case round =>
          obtain ⟨F, lo, ok, m2, so, sp, rfl, hF, rfl, rfl, rfl, R0, XB, HQ⟩ := hrel
          have d4 := blk_cellx XB.out 4 _ rfl
          go_upto_region 14 with (fail)
          go_cut [59] from 45 to 60 (fun x w' => ∃ b : Bool, x = .bool b ∧ Hid (b = (decide (F ≤ fz) && !ok)) ∧ wr = w')
          · cases ok with
            | true =>
              go_wp2_with fail
              all_goals (go_meet; case rel => exact ⟨_, rfl, Lib.hid (by simp), rfl⟩)
            | false =>
              go_wp2_with fail
              all_goals (go_meet; case rel => exact ⟨_, rfl, Lib.hid (by have := HF.out.1; first | (rw [decide_eq_true (show F ≤ fz by omega)]; rfl) | (rw [decide_eq_false (show ¬ F ≤ fz by omega)]; rfl) | (rw [Bool.not_false, Bool.and_true]; exact decide_eq_decide.2 (by omega))), rfl⟩)
          obtain ⟨b, rfl, HB, rfl⟩ := hcut
          cases ok with
          | true =>
            obtain rfl : b = false := by rw [HB.out]; simp
            go_wp2_with fail
            go_meet
            case rel => exact ⟨true, so, lo, m2, sp, rfl, rfl, rfl, R0, XB, Lib.hid ⟨fun _ => HQ.out.1 (by trivial), fun h => (by cases h), HQ.out.2.2⟩⟩
          | false =>
            obtain ⟨rfl, rfl, rfl, rfl, HPF⟩ := HQ.out.2.1 (by trivial)
            have HP := Lib.hid HPF
            clear HPF
            by_cases hF2 : F ≤ fz
            rotate_left
            · obtain rfl : b = false := by rw [HB.out, decide_eq_false hF2]; rfl
              have E2 : Hid (stepP ol fuzz ⟨so, lo, m2, sp, sbad⟩ ⟨fa, la, fb, lb, ls⟩ = ⟨so, lo, m2, sp ++ [(0, 0, 0)], sbad ++ [⟨fa, la, fb, lb, ls⟩]⟩) := Lib.hid (by
                unfold stepP
                simp only
                rw [HP.out, show fz + 1 - F = 0 by omega]; rfl)
              go_wp2_with fail
              go_meet
              case rel => exact ⟨false, so, lo, m2, sp, rfl, rfl, rfl, R0, XB, Lib.hid ⟨fun h => (by cases h), fun _ => E2.out, HQ.out.2.2⟩⟩
            obtain rfl : b = true := by rw [HB.out, decide_eq_true hF2]; rfl
            have hFu : F ≤ un := by omega
            have RDC := Lib.hid (fun W (hb : Below B w3 W) => reduced_any ls (.slice ua un uc) F W (OX.out W hb).rows (by rw [HUN.out]; omega) (by omega))
            have XL := Lib.hid (ctx_le ls F)
            obtain ⟨x, hx⟩ : ∃ x, ctx ls F = x := ⟨_, rfl⟩
            rw [hx] at RDC XL
            have hx2 : x ≤ un := by have := XL.out.1; rw [HUN.out] at this; exact this
            obtain ⟨T, hT⟩ : ∃ T, trimP ls F = T := ⟨_, rfl⟩
            have TLN : Hid (T.length ≤ 1000) := Lib.hid (by rw [← hT]; have h1 := trim_len ls F; have h2 := HUN.out; omega)
            rw [hT] at RDC
            have PF : Hid (placeP ol lo m2 ⟨fa, la, fb, lb, ls⟩ fuzz = match findP ol lo (a0v + x + m2) (sideP 2 T) with | some t => some (t, t - (a0v + x), F) | none => placeF ol lo m2 ⟨fa, la, fb, lb, ls⟩ (fz + 1 - (F + 1)) (F + 1)) := Lib.hid (by
              rw [HP.out, show fz + 1 - F = (fz + 1 - (F + 1)) + 1 by omega]
              simp only [placeF, hx, hT, HAA.out]
              rfl)
            have HX := Lib.hid (And.intro hx hT)
            clear hx hT
            obtain ⟨P2, hP2⟩ : ∃ P, sideP 2 T = P := ⟨_, rfl⟩
            have PLN : Hid (P2.length ≤ 1000) := Lib.hid (by rw [← hP2]; exact Nat.le_trans (side_len 2 T) TLN.out)
            have PT2 := Lib.hid (fun v W (hv : RowsAt W v 3 (T.map rowD)) => part_any T v 2 W hv (by have := TLN.out; omega))
            have PT3 := Lib.hid (fun v W (hv : RowsAt W v 3 (T.map rowD)) => part_any T v 3 W hv (by have := TLN.out; omega))
            rw [hP2] at PT2 PF
            have HP2 := Lib.hid hP2
            clear hP2
            obtain ⟨P3, hP3⟩ : ∃ P, sideP 3 T = P := ⟨_, rfl⟩
            have PLM : Hid (P3.length ≤ 1000) := Lib.hid (by rw [← hP3]; exact Nat.le_trans (side_len 3 T) TLN.out)
            rw [hP3] at PT3
            have HP3 := Lib.hid hP3
            clear hP3
            have BG := Lib.hid (fun W => rbegin_any fa la W la0 sh3 (by omega))
            rw [HAA.out] at BG
            cases hfi : findP ol lo (a0v + x + m2) P2 with
            | none =>
              have PF2 : Hid (placeP ol lo m2 ⟨fa, la, fb, lb, ls⟩ fuzz = placeF ol lo m2 ⟨fa, la, fb, lb, ls⟩ (fz + 1 - (F + 1)) (F + 1)) := Lib.hid (by rw [PF.out, hfi])
              have FD := Lib.hid (fun v W (ho : RowsAt W (.slice oa on oc) 2 (ol.map rowL)) (hv : RowsAt W v 2 (P2.map rowL)) => rfind_any ol P2 lo (a0v + x + m2) (.slice oa on oc) v W ho hv (by have := OLEN.out.2.1; omega) (by have := PLN.out; omega) (by rw [OLEN.out.1]; exact hlo) (by omega))
              rw [hfi] at FD
              clear hfi
              go_wp2_with (first | (go_at_call 31; (with_reducible refine (RDC.out _ R0.out.bel).mono ?_); rintro _ wa ⟨v1, rfl, R1, Ba⟩; have Sa := Lib.hid (R0.out.keep Ba.out); have Xa := Lib.hid ((Ba.out.block _ (Array.getElem?_eq_some_iff.1 XB.out).1).trans XB.out); have x0 := blk_cellx Xa.out 0 _ rfl; have x1 := blk_cellx Xa.out 1 _ rfl; obtain ⟨t1a, t1c, t1e, -⟩ := (R1.out _ (OX.out _ Sa.out.bel).rows).sl rfl; obtain ⟨t1n, t1h⟩ : ∃ k, (T.map rowD).length = k := ⟨_, rfl⟩; rw [t1h] at t1e; clear t1h; subst t1e) | (go_at_call 32; (with_reducible refine (BG.out _).mono ?_); rintro _ _ ⟨rfl, rfl⟩) | (go_at_call 33; (with_reducible refine (PT2.out _ _ (R1.out _ (OX.out _ Sa.out.bel).rows)).mono ?_); rintro _ wb ⟨v3, rfl, O3, Bb⟩; have Sb := Lib.hid (Sa.out.keep Bb.out); have Xb := Lib.hid ((Bb.out.block _ (Array.getElem?_eq_some_iff.1 Xa.out).1).trans Xa.out); obtain ⟨t3a, t3c, t3e⟩ := O3.out.sl; obtain ⟨t3n, t3h⟩ : ∃ k, (P2.map rowL).length = k := ⟨_, rfl⟩; rw [t3h] at t3e; have HT3 := Lib.hid t3h; clear t3h; subst t3e) | (go_at_call 34; (with_reducible refine (FD.out _ _ Sb.out.old.rows (O3.out.rows rowL_len)).mono ?_); rintro _ wd ⟨rfl, Bd⟩; have Sd := Lib.hid (Sb.out.keep Bd.out); have Xd := Lib.hid ((Bd.out.block _ (Array.getElem?_eq_some_iff.1 Xb.out).1).trans Xb.out)))
              go_roundw
              case rel => exact ⟨F + 1, lo, false, m2, so, sp, by go_num, by omega, rfl, rfl, rfl, Sd, Xd, Lib.hid ⟨fun h => (by cases h), fun _ => ⟨rfl, rfl, rfl, rfl, PF2.out⟩, HQ.out.2.2⟩⟩
              case measure => simp [intOf]; omega
            | some t =>
              have ht := findP_bd hfi
              have PF2 : Hid (placeP ol lo m2 ⟨fa, la, fb, lb, ls⟩ fuzz = some (t, t - (a0v + x), F)) := Lib.hid (by rw [PF.out, hfi])
              have FD : Hid (∀ v W, RowsAt W (.slice oa on oc) 2 (ol.map rowL) → RowsAt W v 2 (P2.map rowL) → Calls Tryd.prog 34 #[.slice oa on oc, .int .i64 (lo : Int), .int .i64 (a0v + x + m2), v] W fun e w' => e = .returned (.tuple #[.int .i64 (t : Int), .bool true]) ∧ Hid (Below W.heap.size W w')) := Lib.hid (fun v W ho hv => (rfind_any ol P2 lo (a0v + x + m2) (.slice oa on oc) v W ho hv (by have := OLEN.out.2.1; omega) (by have := PLN.out; omega) (by rw [OLEN.out.1]; exact hlo) (by omega)).mono (fun e w' ⟨q1, q2⟩ => ⟨by rw [q1, hfi]; show _ = Ending.returned (.tuple #[.int .i64 (t : Int), .bool true]); rw [show decide (0 ≤ optI (some t)) = true from decide_eq_true (by show (0 : Int) ≤ (t : Int); omega)]; rfl, q2⟩))
              clear hfi
              rw [OLEN.out.1] at ht
              have ht1 := ht.1
              have ht2 := ht.2
              clear ht
              go_upto_region 21 with (first | (go_at_call 31; (with_reducible refine (RDC.out _ R0.out.bel).mono ?_); rintro _ wa ⟨v1, rfl, R1, Ba⟩; have Sa := Lib.hid (R0.out.keep Ba.out); have Xa := Lib.hid ((Ba.out.block _ (Array.getElem?_eq_some_iff.1 XB.out).1).trans XB.out); have x0 := blk_cellx Xa.out 0 _ rfl; have x1 := blk_cellx Xa.out 1 _ rfl; obtain ⟨t1a, t1c, t1e, -⟩ := (R1.out _ (OX.out _ Sa.out.bel).rows).sl rfl; obtain ⟨t1n, t1h⟩ : ∃ k, (T.map rowD).length = k := ⟨_, rfl⟩; rw [t1h] at t1e; clear t1h; subst t1e) | (go_at_call 32; (with_reducible refine (BG.out _).mono ?_); rintro _ _ ⟨rfl, rfl⟩) | (go_at_call 33; (with_reducible refine (PT2.out _ _ (R1.out _ (OX.out _ Sa.out.bel).rows)).mono ?_); rintro _ wb ⟨v3, rfl, O3, Bb⟩; have Sb := Lib.hid (Sa.out.keep Bb.out); have Xb := Lib.hid ((Bb.out.block _ (Array.getElem?_eq_some_iff.1 Xa.out).1).trans Xa.out); obtain ⟨t3a, t3c, t3e⟩ := O3.out.sl; obtain ⟨t3n, t3h⟩ : ∃ k, (P2.map rowL).length = k := ⟨_, rfl⟩; rw [t3h] at t3e; have HT3 := Lib.hid t3h; clear t3h; subst t3e) | (go_at_call 34; (with_reducible refine (FD.out _ _ Sb.out.old.rows (O3.out.rows rowL_len)).mono ?_); rintro _ wd ⟨rfl, Bd⟩; have Sd := Lib.hid (Sb.out.keep Bd.out); have Xd := Lib.hid ((Bd.out.block _ (Array.getElem?_eq_some_iff.1 Xb.out).1).trans Xb.out)))
              obtain ⟨MO, hMO⟩ : ∃ M, (ol.drop lo).take (t - lo) = M := ⟨_, rfl⟩
              have HMO := Lib.hid hMO
              have ML : Hid (MO.length ≤ 200000) := Lib.hid (by rw [← hMO, List.length_take, List.length_drop]; have := OLEN.out.2.1; omega)
              clear hMO x0 x1 d4
              have hoc : on ≤ oc := by
                rcases Sd.out.old.rows with ⟨h, a2, e⟩ | ⟨g, o, c3, e, h3, -⟩
                · cases e; omega
                · cases e; have := OLEN.out.1; rw [List.length_map] at h3; omega
              have q1 : (0 : Int) ≤ (lo : Int) := by omega
              have q2 : (lo : Int) ≤ (t : Int) := by omega
              have q3 : (t : Int) ≤ (oc : Int) := by omega
              go_cut [10] from 89 to 95 (fun u w' => Hid (RS B (.slice oa on oc) u u11 u12 ol (so ++ MO) sp MB w3 w' ∧ KT B 108 wd w'))
              · rcases (show (on = 0 ∧ oc = 0) ∨ ∃ g o, oa = some ⟨g, o, none⟩ from by
                  rcases Sd.out.old.rows with ⟨-, a2, h⟩ | ⟨g, o, c3, e, -⟩
                  · cases h; exact .inl ⟨rfl, rfl⟩
                  · cases e; exact .inr ⟨g, o, rfl⟩) with ⟨rfl, rfl⟩ | ⟨g, o, rfl⟩
                · obtain rfl : lo = 0 := by omega
                  obtain rfl : t = 0 := by omega
                  have HSL : Hid (RowsAt wd (.slice oa 0 0) 2 (MO.map rowL)) := Lib.hid (.inl ⟨by rw [← HMO.out]; simp, _, rfl⟩)
                  clear q1 q2 q3 ht1 ht2 hoc hlo
                  rcases oa with _ | b
                  · go_wp2_with (first | (at_builtin; (refine append_own3 rtR rfl (.tmp 89) (.tmp 93) rfl _ _ (so.map rowL) (MO.map rowL) B wd Sd.out.out HSL.out rowL_len rowL_one Sd.out.sz (by rw [List.length_map, List.length_map]; have h1 := SO.out; have h2 := ML.out; omega) (by simp [Act.eval]) (by simp [Act.eval]) ?_; intro v5 w5 own5 gr5; have GG := Lib.hid (Sd.out.gout (more := MO) own5.out gr5.out))))
                    go_meet
                    case rel => exact GG
                  · go_wp2_with (first | (at_builtin; (refine append_own3 rtR rfl (.tmp 89) (.tmp 93) rfl _ _ (so.map rowL) (MO.map rowL) B wd Sd.out.out HSL.out rowL_len rowL_one Sd.out.sz (by rw [List.length_map, List.length_map]; have h1 := SO.out; have h2 := ML.out; omega) (by simp [Act.eval]) (by simp [Act.eval]) ?_; intro v5 w5 own5 gr5; have GG := Lib.hid (Sd.out.gout (more := MO) own5.out gr5.out))))
                    go_meet
                    case rel => exact GG
                · by_cases hcx : oc = lo
                  · have HSL := Lib.hid (RowsAt.upto (RowsAt.from Sd.out.old.rows (by rw [List.length_map]; exact OLEN.out.1) lo hlo _ (.inl ⟨hcx, rfl⟩)) (by rw [List.length_drop, List.length_map, OLEN.out.1]) (t - lo) (by omega))
                    rw [← List.map_drop, ← List.map_take, HMO.out, show t - lo = 0 by omega, show oc - lo = 0 by omega] at HSL
                    obtain rfl : t = lo := by omega
                    subst hcx
                    have z0 : (oc : Int) ≤ (on : Int) := by omega
                    have z1 : (0 : Int) ≤ (oc : Int) := by omega
                    go_wp2_with (first | (at_builtin; (refine append_own3 rtR rfl (.tmp 89) (.tmp 93) rfl _ _ (so.map rowL) (MO.map rowL) B wd Sd.out.out HSL.out rowL_len rowL_one Sd.out.sz (by rw [List.length_map, List.length_map]; have h1 := SO.out; have h2 := ML.out; omega) (by simp [Act.eval]) (by simp [Act.eval]) ?_; intro v5 w5 own5 gr5; have GG := Lib.hid (Sd.out.gout (more := MO) own5.out gr5.out))))
                    go_meet
                    case rel => exact GG
                  · have HSL := Lib.hid (RowsAt.upto (RowsAt.from Sd.out.old.rows (by rw [List.length_map]; exact OLEN.out.1) lo hlo _ (.inr rfl)) (by rw [List.length_drop, List.length_map, OLEN.out.1]) (t - lo) (by omega))
                    rw [← List.map_drop, ← List.map_take, HMO.out] at HSL
                    go_wp2_with (first | (at_builtin; (refine append_own3 rtR rfl (.tmp 89) (.tmp 93) rfl _ _ (so.map rowL) (MO.map rowL) B wd Sd.out.out HSL.out rowL_len rowL_one Sd.out.sz (by rw [List.length_map, List.length_map]; have h1 := SO.out; have h2 := ML.out; omega) (by simp [Act.eval]) (by simp [Act.eval]) ?_; intro v5 w5 own5 gr5; have GG := Lib.hid (Sd.out.gout (more := MO) own5.out gr5.out))))
                    go_meet
                    case rel => exact GG
              have Se := Lib.hid hcut.out.1
              have Xe := Lib.hid ((hcut.out.2.other _ _ _ _ (by decide) Xd.out).trans Xd.out)
              clear hcut
              have t3le : t3n ≤ 1000 := by have h1 := HT3.out; rw [List.length_map] at h1; have h2 := PLN.out; omega
              have ES : Hid (stepP ol fuzz ⟨so, lo, m2, sp, sbad⟩ ⟨fa, la, fb, lb, ls⟩ = ⟨so ++ MO ++ P3, t + t3n, t - (a0v + x), sp ++ [((t : Int) + 1, (t : Int) - (a0v + (x : Int)), (F : Int))], sbad⟩) := Lib.hid (by
                unfold stepP
                simp only
                rw [PF2.out]
                simp only [HX.out.2, HP2.out, HP3.out, HMO.out]
                rw [← HT3.out, List.length_map])
              have SPL2 := SPL.out.1
              go_wp2_with (first | (go_at_call 33; (with_reducible refine (PT3.out _ _ (R1.out _ (OX.out _ Se.out.bel).rows)).mono ?_); rintro _ wf ⟨v7, rfl, O7, Bf⟩; have Sf := Lib.hid (Se.out.keep Bf.out); have Xf := Lib.hid ((Bf.out.block _ (Array.getElem?_eq_some_iff.1 Xe.out).1).trans Xe.out)) | (at_builtin; (refine append_own3 rtR rfl (.tmp 95) (.tmp 97) rfl _ _ ((so ++ MO).map rowL) (P3.map rowL) B wf Sf.out.out (O7.out.rows rowL_len) rowL_len rowL_one Sf.out.sz (by rw [List.length_map, List.length_map, List.length_append]; have h1 := SO.out; have h2 := ML.out; have h3 := PLM.out; omega) (by simp [Act.eval]) (by simp [Act.eval]) ?_; intro v8 w8 own8 gr8; have G8 := Lib.hid (Sf.out.gout (more := P3) own8.out gr8.out); have X8 := Lib.hid ((G8.out.2.other _ _ _ _ (by decide) Xf.out).trans Xf.out))) | (at_builtin; (refine append_row2 rtG rfl (.tmp 106) (.tmp 114) rfl _ (sp.map rowG) #[.int .i64 ((t : Int) + 1), .int .i64 ((t : Int) - (a0v + (x : Int))), .int .i64 (F : Int)] B w8 w8 G8.out.1.pl rfl (by intro u hu; simp at hu; rcases hu with rfl | rfl | rfl <;> rfl) (Below.refl _ _) G8.out.1.sz (by rw [List.length_map]; have := SPL.out.1; omega) (by simp [Act.eval]) (by simp [Act.eval]) ?_; intro v9 w9 own9 bel9 gr9 pu9; have G9 := Lib.hid (G8.out.1.gpl (x := ((t : Int) + 1, (t : Int) - (a0v + (x : Int)), (F : Int))) own9.out gr9.out); have X9 := Lib.hid ((G9.out.2.other _ _ _ _ (by decide) X8.out).trans X8.out))))
              go_roundw
              case rel => exact ⟨F + 1, t + t3n, true, _, so ++ MO ++ P3, _, by go_num, by omega, rfl, by go_num, rfl, Lib.hid G9.out.1, X9, Lib.hid ⟨fun _ => ES.out, fun h => (by cases h), by rw [List.length_append]; simp; omega⟩⟩
              case measure => simp [intOf]; omega
      obtain ⟨ok, so, lo, m2, sp, rfl, rfl, rfl, S6, X6, ST⟩ := hcut
      have OKN := Lib.hid (HOK.out.step SE.out (by have := SX.out.1; simp only; omega) (fun y hy => SX.out.2 y hy) (by have := OLEN.out.2.1; omega) OLEN.out.2.2 fuzz)
      have y2 := Y2.out wc S6.out.bel
      cases ok with
      | true =>
        have e := ST.out.1 rfl
        go_wp2_with fail
        go_roundw
        case rel => exact ⟨j + 1, lo, m2, so, sp, sbad, MB, by go_num, rfl, rfl, by omega, Lib.hid (by rw [TK.out, ← e]), Lib.hid (by rw [← e]; exact OKN.out), HMB, HSUB, S6⟩
        case measure => simp [intOf]; omega
      | false =>
        have e := ST.out.2.1 rfl
        go_wp2_with (first | (at_builtin; (refine append_row2 rtG rfl (.tmp 118) (.tmp 120) rfl _ (sp.map rowG) #[.int .i64 0, .int .i64 0, .int .i64 0] B wc wc S6.out.pl rfl (by intro u hu; simp at hu; rcases hu with rfl | rfl | rfl <;> rfl) (Below.refl _ _) S6.out.sz (by rw [List.length_map]; have := ST.out.2.2; omega) (by simp [Act.eval]) (by simp [Act.eval]) ?_; intro v8 w8 own8 bel8 gr8 pu8; have G8 := Lib.hid (S6.out.gpl (x := ((0 : Int), (0 : Int), (0 : Int))) own8.out gr8.out); have X8 := Lib.hid ((G8.out.2.other _ _ _ _ (by decide) X6.out).trans X6.out); have x0 := blk_cellx X8.out 0 _ rfl; have x1 := blk_cellx X8.out 1 _ rfl; have x2 := blk_cellx X8.out 2 _ rfl; have x3 := blk_cellx X8.out 3 _ rfl; have x4 := blk_cellx X8.out 4 _ rfl)) | (at_builtin; (refine append_row2 rtH rfl (.tmp 122) (.tmp 124) rfl _ (MB.map rowH) #[.int .i64 fa, .int .i64 la, .int .i64 fb, .int .i64 lb, .slice ua un uc] B w8 w8 G8.out.1.rj rfl (one_H (p := (⟨fa, la, fb, lb, ls⟩, .slice ua un uc)) rfl) (Below.refl _ _) G8.out.1.sz (by rw [List.length_map]; have := SPL.out.2; omega) (by simp [Act.eval]) (by simp [Act.eval]) ?_; intro v9 w9 own9 bel9 gr9 pu9; have G9 := Lib.hid (G8.out.1.grj (x := (⟨fa, la, fb, lb, ls⟩, .slice ua un uc)) own9.out gr9.out (OX.out _ G8.out.1.bel)))))
        go_roundw
        case rel => exact ⟨j + 1, lo, m2, so, sp ++ [(0, 0, 0)], sbad ++ [⟨fa, la, fb, lb, ls⟩], MB ++ [(⟨fa, la, fb, lb, ls⟩, .slice ua un uc)], by go_num, rfl, rfl, by omega, Lib.hid (by rw [TK.out, ← e]), Lib.hid (by rw [← e]; exact OKN.out), Lib.hid (by rw [List.map_append, HMB.out]; rfl), Lib.hid (fun p hp => (List.mem_append.1 hp).elim (HSUB.out p) (fun h => by rw [List.mem_singleton] at h; subst h; exact HMEM.out)), G9⟩
        case measure => simp [intOf]; omega
    · obtain rfl : j = n := by omega
      have FIN : Hid (⟨sout, low, mv, spl, sbad⟩ = runP ol hs fuzz) := Lib.hid (by rw [HST.out, List.take_of_length_le (by rw [← HHS.out, List.length_map, HN.out]; exact Nat.le_refl _)]; rfl)
      have hlo : low ≤ on := by have := HOK.out.low; have := OLEN.out.1; simp only at *; omega
      have SO : Hid (sout.length ≤ 120000) := Lib.hid (by have h1 := HOK.out.out; have h2 := HOK.out.low; have h3 := OLEN.out.2.1; simp only at h1 h2; omega)
      obtain ⟨MO, hMO⟩ : ∃ M, ol.drop low = M := ⟨_, rfl⟩
      have HMO := Lib.hid hMO
      have ML : Hid (MO.length ≤ 200000 ∧ ∀ x ∈ MO, x.1.size ≤ 100000) := Lib.hid ⟨by rw [← hMO, List.length_drop]; have := OLEN.out.2.1; omega, fun x hx => by rw [← hMO] at hx; exact OLEN.out.2.2 x (List.mem_of_mem_drop hx)⟩
      clear hMO
      have hoc : on ≤ oc := by
        rcases HA.out.old.rows with ⟨h, a2, e⟩ | ⟨g, o, c3, e, h3, -⟩
        · cases e; omega
        · cases e; have := OLEN.out.1; rw [List.length_map] at h3; omega
      have q1 : (0 : Int) ≤ (low : Int) := by omega
      have q2 : (low : Int) ≤ (on : Int) := by omega
      have q3 : (low : Int) ≤ (oc : Int) := by omega
      go_upto_region 30 with (fail)
      go_cut [10] from 126 to 131 (fun u w' => Hid (RS B (.slice oa on oc) u u11 u12 ol (sout ++ MO) spl MB w3 w'))
      · rcases (show (on = 0 ∧ oc = 0) ∨ ∃ g o, oa = some ⟨g, o, none⟩ from by
          rcases HA.out.old.rows with ⟨-, a2, h⟩ | ⟨g, o, c3, e, -⟩
          · cases h; exact .inl ⟨rfl, rfl⟩
          · cases e; exact .inr ⟨g, o, rfl⟩) with ⟨rfl, rfl⟩ | ⟨g, o, rfl⟩
        · obtain rfl : low = 0 := by omega
          have HSL : Hid (RowsAt wr (.slice oa 0 0) 2 (MO.map rowL)) := Lib.hid (.inl ⟨by rw [← HMO.out, List.drop_zero]; have := OLEN.out.1; rw [List.eq_nil_of_length_eq_zero this]; rfl, _, rfl⟩)
          clear q1 q2 q3 hoc hlo
          rcases oa with _ | b
          · go_wp2_with (first | (at_builtin; (refine append_own3 rtR rfl (.tmp 126) (.tmp 129) rfl _ _ (sout.map rowL) (MO.map rowL) B wr HA.out.out HSL.out rowL_len rowL_one HA.out.sz (by rw [List.length_map, List.length_map]; have h1 := SO.out; have h2 := ML.out.1; omega) (by simp [Act.eval]) (by simp [Act.eval]) ?_; intro v5 w5 own5 gr5; have GG := Lib.hid (HA.out.gout (more := MO) own5.out gr5.out).1)))
            go_meet
            case rel => exact GG
          · go_wp2_with (first | (at_builtin; (refine append_own3 rtR rfl (.tmp 126) (.tmp 129) rfl _ _ (sout.map rowL) (MO.map rowL) B wr HA.out.out HSL.out rowL_len rowL_one HA.out.sz (by rw [List.length_map, List.length_map]; have h1 := SO.out; have h2 := ML.out.1; omega) (by simp [Act.eval]) (by simp [Act.eval]) ?_; intro v5 w5 own5 gr5; have GG := Lib.hid (HA.out.gout (more := MO) own5.out gr5.out).1)))
            go_meet
            case rel => exact GG
        · have HFF := Lib.hid (fun A hA => RowsAt.from HA.out.old.rows (by rw [List.length_map]; exact OLEN.out.1) low hlo A hA)
          by_cases hcx : oc = low
          · have HSL := Lib.hid (HFF.out _ (.inl ⟨hcx, rfl⟩))
            rw [show on - low = 0 by omega, show oc - low = 0 by omega, ← List.map_drop, HMO.out] at HSL
            subst hcx
            have z0 : on - oc = 0 := by omega
            have z1 : (oc : Int) ≤ (on : Int) := by omega
            have z2 : (0 : Int) ≤ (oc : Int) := by omega
            have z3 : oc ≤ on := by omega
            go_wp2_with (first | (at_builtin; (refine append_own3 rtR rfl (.tmp 126) (.tmp 129) rfl _ _ (sout.map rowL) (MO.map rowL) B wr HA.out.out HSL.out rowL_len rowL_one HA.out.sz (by rw [List.length_map, List.length_map]; have h1 := SO.out; have h2 := ML.out.1; omega) (by simp [Act.eval]) (by simp [Act.eval]) ?_; intro v5 w5 own5 gr5; have GG := Lib.hid (HA.out.gout (more := MO) own5.out gr5.out).1)))
            go_meet
            case rel => exact GG
          · have HSL := Lib.hid (HFF.out _ (.inr rfl))
            rw [← List.map_drop, HMO.out] at HSL
            go_wp2_with (first | (at_builtin; (refine append_own3 rtR rfl (.tmp 126) (.tmp 129) rfl _ _ (sout.map rowL) (MO.map rowL) B wr HA.out.out HSL.out rowL_len rowL_one HA.out.sz (by rw [List.length_map, List.length_map]; have h1 := SO.out; have h2 := ML.out.1; omega) (by simp [Act.eval]) (by simp [Act.eval]) ?_; intro v5 w5 own5 gr5; have GG := Lib.hid (HA.out.gout (more := MO) own5.out gr5.out).1)))
            go_meet
            case rel => exact GG
      have S9 := hcut
      clear hcut q1 q2 q3 hoc hlo
      have JN := Lib.hid (rjoined_any (sout ++ MO) _ wc (S9.out.out.rows rowL_len) (by rw [List.length_append]; have h1 := SO.out; have h2 := ML.out.1; omega) (by
        have h0 := joined_len (B := 100000) (sout ++ MO) (fun x hx => by
          rcases List.mem_append.1 hx with hx | hx
          · exact HOK.out.sz x hx
          · exact ML.out.2 x hx)
        rw [List.length_append] at h0
        have h1 := SO.out; have h2 := ML.out.1
        omega))
      go_wp2_with (go_at_call 35; (with_reducible refine JN.out.mono ?_); rintro _ w10 ⟨rfl, h10⟩; replace h10 := h10.symm; subst h10)
      go_ret3
      have BWC : Hid (Below w.heap.size w wc) := Lib.hid (B13.out.trans (S9.out.bel.mono PBW.out))
      refine ⟨u11, u12, MB, ?_, Lib.hid ?_, Lib.hid ?_, Lib.hid ⟨S9.out.rj.rows rowH_len, fun p hp => (S9.out.each p hp).rows⟩, HSUB, Lib.hid (fun _ => S9.out.rj.mono PBW.out), BWC⟩
      · rw [E.out.1, ← FIN.out]; unfold textP; rw [HMO.out]; rfl
      · rw [E.out.2.1, ← FIN.out]; exact S9.out.pl.rows rowG_len
      · rw [HMB.out, E.out.2.2, ← FIN.out]
end Go.Proofs.YtnkpigibjicmaaaDoor
