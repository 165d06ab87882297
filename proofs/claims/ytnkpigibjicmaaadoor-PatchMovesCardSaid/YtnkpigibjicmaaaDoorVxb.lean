/- plain mathematics and texts of one kind, joined in one file (merge.py) -/
import Derived.Test.YtnkpigibjicmaaaDoorVcb
import Derived.Test.YtnkpigibjicmaaaDoorVz
import Derived.Test.YtnkpigibjicmaaaDoorVcc
import Derived.Test.YtnkpigibjicmaaaDoorVv
import Derived.Test.YtnkpigibjicmaaaDoorVp
import Derived.Test.YtnkpigibjicmaaaDoorVw
import Derived.Test.YtnkpigibjicmaaaDoorVl
import Derived.Test.YtnkpigibjicmaaaDoorVn
/- walks: the program's Apply (written by gen_vcd.py) -/
namespace Go.Proofs.YtnkpigibjicmaaaDoor
open Go.RowKit Go.Maps
open Pt Tx
theorem rowG_len {l : List (Int × Int × Int)} : ∀ x ∈ l.map rowG, x.length = 3 := by intro x hx; obtain ⟨y, -, rfl⟩ := List.mem_map.1 hx; rfl
/-- what an append to a list of the call's own leaves alone: blocks of other types -/
structure KT (pb : Nat) (T : TypeId) (w w' : World) : Prop where
  below : Below pb w w'
  other : ∀ (g : Nat) (cs : Array Value) (S : TypeId) (z : Nat × Nat), S ≠ T → w.heap[g]? = some (.cells cs S z) → w'.heap[g]? = w.heap[g]?
theorem KT.trans {pb : Nat} {T : TypeId} {w w1 w2 : World} (h1 : KT pb T w w1) (h2 : KT pb T w1 w2) : KT pb T w w2 := ⟨h1.below.trans h2.below, fun g cs S z hS hg => by
  have e := h1.other g cs S z hS hg
  exact (h2.other g cs S z hS (e.trans hg)).trans e⟩
theorem KT.of {pb : Nat} {T : TypeId} {w w' : World} (hb : pb ≤ w.heap.size) (h : Below w.heap.size w w') : KT pb T w w' := ⟨h.mono hb, fun g _ _ _ _ hc => h.block g (Array.getElem?_eq_some_iff.1 hc).1⟩
theorem KT.grown {pb B k : Nat} {T : TypeId} {v : Value} {l : List (List Value)} {w w' : World} (o : OwnR w B T k v l) (g : w.grownBy w' v.ownBlock) (hB : pb ≤ B) (hb : pb ≤ w.heap.size) : KT pb T w w' := by
  refine ⟨(Below.refl _ _).grown g hb (fun k hk => by have := (o.lt k hk).1; omega), fun a cs S z hS hc => ?_⟩
  refine g.block a (Array.getElem?_eq_some_iff.1 hc).1 (fun e => ?_)
  obtain ⟨cs2, h2⟩ := o.blk e.symm
  rw [hc] at h2
  cases h2
  exact hS rfl
theorem WK.kt {pb : Nat} {T : TypeId} {vo vv : Value} {old out : List Ln} {low : Nat} {mv : Int} {w w' : World} (h : WK pb vo vv old out low mv w) (k : KT pb T w w') (h1 : 66 ≠ T) (h2 : 95 ≠ T) : WK pb vo vv old out low mv w' := by
  refine ⟨(k.other _ _ _ _ h1 h.blk).trans h.blk, ?_, h.own.ty (fun i cs z hi => k.other i cs _ z h2 hi)⟩
  obtain ⟨w0, q1, q2, q3⟩ := h.old
  exact ⟨w0, q1, q2, q3.trans (k.below.mono q2)⟩
theorem OldR.kt {pb : Nat} {T : TypeId} {w w' : World} {v : Value} {k : Nat} {l : List (List Value)} (h : OldR pb w v k l) (hk : KT pb T w w') : OldR pb w' v k l := by
  obtain ⟨w0, h1, h2, h3⟩ := h
  exact ⟨w0, h1, h2, h3.trans (hk.below.mono h2)⟩
theorem OwnR.kt {pb B k : Nat} {T S : TypeId} {w w' : World} {v : Value} {l : List (List Value)} (h : OwnR w B S k v l) (hk : KT pb T w w') (hS : S ≠ T) : OwnR w' B S k v l := h.ty (fun i cs z hi => hk.other i cs _ z hS hi)
theorem OwnR.kw {pb B k : Nat} {S : TypeId} {w w' : World} {v : Value} {l : List (List Value)} (h : OwnR w B S k v l) (hk : KW pb w w') (hS : S ≠ 95) (hB : pb < B) : OwnR w' B S k v l := by
  obtain ⟨h1, h2⟩ := h
  refine ⟨h1, ?_⟩
  rcases h2 with h2 | ⟨g, cap, cur, rfl, hb, hg, r⟩
  · exact .inl h2
  · exact .inr ⟨g, cap, cur, rfl, hb, hk.other g _ _ _ hS (by omega) hg, r⟩
/-- the state of Apply's loop: places, rejected hunks, the worker -/
structure AP (pb j : Nat) (vo vv vp vr : Value) (old : List Ln) (hs : List Hk) (fuzz : Int) (s : Wk) (MB : List HV) (w2 w : World) : Prop where
  st : s = (hs.take j).foldl (stepP old fuzz) ⟨[], 0, 0, [], []⟩
  ok : OkW old j s
  wk : WK pb vo vv old s.out s.low s.move w
  pl : OwnR w (pb + 1) 44 3 vp (s.placed.map rowG)
  rj : OwnR w (pb + 1) 38 5 vr (MB.map rowH)
  bad : MB.map (·.1) = s.bad
  each : ∀ p ∈ MB, OldR pb w p.2 3 (p.1.ls.map rowD)
  bel : Below pb w2 w
theorem run_bad {old : List Ln} {fuzz : Int} : ∀ (l : List Hk) (s : Wk), ∀ h ∈ (l.foldl (stepP old fuzz) s).bad, h ∈ s.bad ∨ h ∈ l
  | [], _, h, hm => .inl hm
  | x :: r, s, h, hm => by
    rcases run_bad r (stepP old fuzz s x) h hm with q | q
    · unfold stepP at q
      split at q
      · exact .inl q
      · rcases List.mem_append.1 q with q | q
        · exact .inl q
        · rw [List.mem_singleton] at q; rw [q]; exact .inr List.mem_cons_self
    · exact .inr (List.mem_cons_of_mem _ q)
/-- hunks that Apply takes -/
def smallA (L : List HV) : Prop := L.length ≤ 610 ∧ ∀ p ∈ L, p.1.ls.length ≤ 610 ∧ ∀ x ∈ p.1.ls, x.2.1.size ≤ 100000
theorem smallA.h {L : List HV} (h : smallA L) : smallH L := ⟨by have := h.1; omega, fun p hp => ⟨by have := (h.2 p hp).1; omega, fun x hx => by have := (h.2 p hp).2 x hx; omega⟩⟩
theorem smallA.r {L : List HV} (h : smallA L) : smallR L := ⟨by have := h.1; omega, fun p hp => by have := (h.2 p hp).1; omega⟩
theorem HksAt.nil (w : World) : HksAt w (.slice none 0 0) [] := ⟨.inl ⟨rfl, _, rfl⟩, fun p hp => by simp at hp⟩
set_option maxRecDepth 100000 in
set_option maxHeartbeats 8000000 in
theorem apply_any (s old new : ByteArray) (L : List HV) (v : Value) (fuzz : Int) (m : Int) (w : World) (hm : w.cell? ⟨0, 0, none⟩ = some (.int .i64 m)) (hv : HksAt w v L) (hl : smallA L) (hs : s.size ≤ 100000) {t : List UInt8} {pl : List (Int × Int × Int)} {bd : List Hk} (ha : Hid (applyP s (L.map (·.1)) fuzz = (t, pl, bd))) :
    Calls Tryd.prog 11 #[.string s, .agg #[.string old, .string new, v], .int .i64 fuzz] w fun e w' => ∃ vp vh M, e = .returned (.tuple #[.string (bA t), vp, vh]) ∧ Hid (RowsAt w' vp 3 (pl.map rowG)) ∧ Hid (M.map (·.1) = bd) ∧ Hid (HksAt w' vh M) ∧ Hid (∀ p ∈ M, OwnR w' w.heap.size 59 3 p.2 (p.1.ls.map rowD)) ∧ Hid (OwnR w' w.heap.size 38 5 vh (M.map rowH)) ∧ Hid (Below w.heap.size w w') := by
  obtain ⟨n, hn⟩ : ∃ n, L.length = n := ⟨_, rfl⟩
  have HN := Lib.hid hn
  have HVH := Lib.hid hv
  have HS := Lib.hid hl
  have HM := Lib.hid hm
  have HZ := Lib.hid hs
  obtain ⟨a, cap, rfl, c1, c2, hc⟩ := hv.rows.sl (n := n) (by rw [List.length_map]; exact hn)
  have HC := Lib.hid hc
  have hl1 := hl.1
  rw [hn] at hl1
  unfold maxLen at c2
  have B0 : Hid (Below w.heap.size w (w.alloc (.cells #[.string old, .string new, .slice a n cap] 24))) := Lib.hid ((Below.refl _ _).alloc (Nat.le_refl _) _)
  have NA : Hid ((w.alloc (.cells #[.string old, .string new, .slice a n cap] 24)).heap[w.heap.size]? = some (.cells #[.string old, .string new, .slice a n cap] 24 (0, 0))) := Lib.hid (heap_alloc_new w _)
  obtain ⟨r, hr⟩ : ∃ r, chk (L.map (·.1)) = r := ⟨_, rfl⟩
  have HR := Lib.hid hr
  have CK := Lib.hid (fun W (hb : Below w.heap.size w W) => check_any old new L (.slice a n cap) W (HVH.out.below hb) HS.out.h)
  rw [hr] at CK
  clear hv hn hc hl hm hs hr
  obtain ⟨w1, hw1⟩ : ∃ W, (w.alloc (.cells #[.string old, .string new, .slice a n cap] 24)) = W := ⟨_, rfl⟩
  rw [hw1] at B0 NA
  have y0 := blk_cellx NA.out 0 _ rfl
  have y1 := blk_cellx NA.out 1 _ rfl
  have y2 := blk_cellx NA.out 2 _ rfl
  by_cases h0 : r = 0
  rotate_left
  · have t0 : (r != 0) = true := bne_iff_ne.2 h0
    have E : Hid (t = s.data.toList ∧ pl = [] ∧ bd = L.map (·.1)) := Lib.hid (by
      have h := ha.out
      unfold applyP at h
      rw [if_pos (by rw [HR.out]; exact h0)] at h
      cases h
      exact ⟨rfl, rfl, rfl⟩)
    clear h0
    go_enter Tryd.func11, Tryd.ntmps11
    go_wp2_with (first | (go_at_call 20; (with_reducible refine (CK.out _ B0.out).mono ?_); rintro _ w2 ⟨rfl, B2⟩; have y2 := kp B2.out y2) | (go_at_call 26; (with_reducible refine (hunks_any L (.slice a n cap) _ (HVH.out.below (B0.out.trans (B2.out.mono B0.out.size))) HS.out.r).mono ?_); rintro _ w3 ⟨vh, M, rfl, HM3, HA3, HO3, HL3, B3⟩))
    go_ret3
    exact ⟨_, vh, M, by rw [E.out.1, bA_self]; rfl, Lib.hid (by rw [E.out.2.1]; exact .inl ⟨rfl, _, rfl⟩), Lib.hid (by rw [E.out.2.2]; exact HM3.out), HA3, Lib.hid (fun p hp => (HO3.out p hp).mono (B0.out.trans (B2.out.mono B0.out.size)).size), Lib.hid (HL3.out.mono (B0.out.trans (B2.out.mono B0.out.size)).size), Lib.hid ((B0.out.trans (B2.out.mono B0.out.size)).trans (B3.out.mono (B0.out.trans (B2.out.mono B0.out.size)).size))⟩
  subst h0
  have SH : Hid (∀ p ∈ L, shapeE p.1 = 0) := Lib.hid (fun p hp => chkP_all _ 0 0 HR.out p.1 (List.mem_map_of_mem hp))
  have E : Hid (t = textP (lnsP s) (runP (lnsP s) (L.map (·.1)) fuzz) ∧ pl = (runP (lnsP s) (L.map (·.1)) fuzz).placed ∧ bd = (runP (lnsP s) (L.map (·.1)) fuzz).bad) := Lib.hid (by
    have h := ha.out
    unfold applyP at h
    rw [if_neg (by rw [HR.out]; decide)] at h
    cases h
    exact ⟨rfl, rfl, rfl⟩)
  have PLN := Lib.hid (fun W (hb : Below w.heap.size w W) => plns_any s m W (kp hb HM.out) HZ.out)
  obtain ⟨hs, hhs⟩ : ∃ hs, L.map (·.1) = hs := ⟨_, rfl⟩
  have HHS := Lib.hid hhs
  rw [hhs] at E
  clear hhs
  go_enter Tryd.func11, Tryd.ntmps11
  go_upto_region 4 with (first | (go_at_call 20; (with_reducible refine (CK.out _ B0.out).mono ?_); rintro _ w2 ⟨rfl, B2⟩; have y2 := kp B2.out y2) | (go_at_call 27; (with_reducible refine (PLN.out _ (B0.out.trans (B2.out.mono B0.out.size))).mono ?_); rintro _ w3 ⟨vo, LL, rfl, HL3, RO3, B3⟩; obtain ⟨oa, oc, e3, -⟩ := RO3.out.sl rfl; obtain ⟨on, hon⟩ : ∃ k, ((lnsN LL.length (linE s.data.toList) 0 LL).map rowL).length = k := ⟨_, rfl⟩; rw [hon] at e3; have HON := Lib.hid hon; clear hon; subst e3))
  have B13 := Lib.hid ((B0.out.trans (B2.out.mono B0.out.size)).trans (B3.out.mono (B0.out.trans (B2.out.mono B0.out.size)).size))
  obtain ⟨ol, hol⟩ : ∃ l, lnsP s = l := ⟨_, rfl⟩
  have LEQ : Hid (lnsN LL.length (linE s.data.toList) 0 LL = ol) := Lib.hid (by rw [← hol]; exact lns_eq HL3.out)
  have OLEN : Hid (ol.length = on ∧ ol.length ≤ 100001 ∧ ∀ x ∈ ol, x.1.size ≤ 100000) := Lib.hid ⟨by rw [← HON.out, List.length_map, LEQ.out], by rw [← hol]; have := lnsP_len s; have := HZ.out; omega, fun x hx => by rw [← hol] at hx; have := lnsP_size hx; have := HZ.out; omega⟩
  rw [LEQ.out] at RO3
  rw [hol] at E
  clear hol
  have hon : on ≤ 100001 := by have := OLEN.out.1; have := OLEN.out.2.1; omega
  have y2 := kp B3.out y2
  clear y0 y1 hw1
  obtain ⟨pb, hpb⟩ : ∃ p, w3.heap.size = p := ⟨_, rfl⟩
  obtain ⟨w4, hw4⟩ : ∃ W, w3.alloc (.cells #[.slice oa on oc, .slice none 0 0, .int .i64 0, .int .i64 0] 66) = W := ⟨_, rfl⟩
  have B4 : Hid (Below w3.heap.size w3 w4) := Lib.hid (by rw [← hw4]; exact (Below.refl _ _).alloc (Nat.le_refl _) _)
  have N4 : Hid (w4.heap[pb]? = some (.cells #[.slice oa on oc, .slice none 0 0, .int .i64 0, .int .i64 0] 66 (0, 0))) := Lib.hid (by rw [← hw4, ← hpb]; exact heap_alloc_new w3 _)
  have A0 : Hid (AP pb 0 (.slice oa on oc) (.slice none 0 0) (.slice none 0 0) (.slice none 0 0) ol hs fuzz ⟨[], 0, 0, [], []⟩ [] w3 w4) := Lib.hid ⟨rfl, OkW.start _, ⟨N4.out, ⟨w3, RO3.out, Nat.le_of_eq hpb, B4.out⟩, OwnR.nil _ _ _ _⟩, OwnR.nil _ _ _ _, OwnR.nil _ _ _ _, rfl, (fun p hp => by simp at hp), by rw [← hpb]; exact B4.out⟩
  have y2 := kp B4.out y2
  have HPB := Lib.hid hpb
  rw [hw4]
  try rw [hpb]
  clear hw4 hpb
  go_wp2_with fail
  go_loopw [10, 11, 13, 14, 15, 30] (fun x y b13 b14 b15 i wr => ∃ (j : Nat) (vv : Value) (MB : List HV) (st : Wk), i = .int .i64 j ∧ j ≤ n ∧ Hid (AP pb j (.slice oa on oc) vv x y ol hs fuzz st MB w3 wr)) (fun _ _ _ _ _ i _ => n - (intOf i).toNat)
  case atStart => exact ⟨0, _, [], _, rfl, Nat.zero_le _, A0⟩
  case round =>
    obtain ⟨j, vv, MB, st, rfl, hj, HA⟩ := hrel
    have PBW : Hid (w.heap.size ≤ pb) := Lib.hid (by rw [← HPB.out]; exact B13.out.size)
    have BW : Hid (Below w.heap.size w wr) := Lib.hid (B13.out.trans (HA.out.bel.mono PBW.out))
    have PBL := Lib.hid HA.out.wk.lt
    by_cases hlt : j < n
    · obtain ⟨x, hx⟩ : ∃ x, L[j]? = some x := ⟨_, List.getElem?_eq_getElem (by rw [HN.out]; exact hlt)⟩
      have hmem := List.mem_of_getElem? hx
      rcases HC.out with h0 | ⟨g, o, rfl, -, hcc⟩
      · omega
      have m1 : (L.map rowH)[j]? = some (rowH x) := by rw [List.getElem?_map, hx]; rfl
      have d0 := kp BW.out (hcc j _ m1 0 _ rfl)
      have d1 := kp BW.out (hcc j _ m1 1 _ rfl)
      have d2 := kp BW.out (hcc j _ m1 2 _ rfl)
      have d3 := kp BW.out (hcc j _ m1 3 _ rfl)
      have d4 := kp BW.out (hcc j _ m1 4 _ rfl)
      rw [Nat.add_zero] at d0
      have OX : Hid (OldR pb wr x.2 3 (x.1.ls.map rowD)) := Lib.hid ⟨w, HVH.out.each x hmem, PBW.out, BW.out⟩
      have SX := Lib.hid (HS.out.2 x hmem)
      have SE := Lib.hid (SH.out x hmem)
      have TK : Hid ((hs.take (j + 1)).foldl (stepP ol fuzz) ⟨[], 0, 0, [], []⟩ = stepP ol fuzz st x.1) := Lib.hid (by
        rw [take_get (x := x.1) (by rw [← HHS.out, List.getElem?_map, hx]; rfl), List.foldl_append, HA.out.st]; rfl)
      have p0 : (0 : Int) ≤ (j : Int) := by omega
      have p1 : (j : Int) < (n : Int) := by omega
      have p2 : IntKind.i64.wrap (j : Int) = (j : Int) := IntWalk.i64_in _ (by omega)
      obtain ⟨⟨fa, la, fb, lb, ls⟩, u⟩ := x
      simp only at d0 d1 d2 d3 d4 OX SX SE TK
      clear hcc m1 hx hmem
      obtain ⟨ua, uc, e4, -⟩ := OX.out.rows.sl rfl
      obtain ⟨un, hun⟩ : ∃ k, (ls.map rowD).length = k := ⟨_, rfl⟩
      rw [hun] at e4
      clear hun
      subst e4
      obtain ⟨w5, hw5⟩ : ∃ W, wr.alloc (.cells #[.int .i64 fa, .int .i64 la, .int .i64 fb, .int .i64 lb, .slice ua un uc] 38) = W := ⟨_, rfl⟩
      have B5 : Hid (Below wr.heap.size wr w5) := Lib.hid (by rw [← hw5]; exact (Below.refl _ _).alloc (Nat.le_refl _) _)
      have X5 : Hid (w5.heap[wr.heap.size]? = some (.cells #[.int .i64 fa, .int .i64 la, .int .i64 fb, .int .i64 lb, .slice ua un uc] 38 (0, 0))) := Lib.hid (by rw [← hw5]; exact heap_alloc_new wr _)
      have x0 := blk_cellx X5.out 0 _ rfl
      have x1 := blk_cellx X5.out 1 _ rfl
      have x2 := blk_cellx X5.out 2 _ rfl
      have x3 := blk_cellx X5.out 3 _ rfl
      have x4 := blk_cellx X5.out 4 _ rfl
      have H5 := Lib.hid (HA.out.wk.keep B5.out)
      have K5 := Lib.hid (KW.of (pb := pb) (Nat.le_of_lt PBL.out) B5.out)
      have OX5 := Lib.hid (OX.out.kw K5.out)
      have OK := Lib.hid HA.out.ok
      have PLC := Lib.hid (fun W (hb : Below w5.heap.size w5 W) => place_any pb (.slice oa on oc) vv ol st ⟨fa, la, fb, lb, ls⟩ (.slice ua un uc) fuzz W (H5.out.keep hb) (OX5.out.kw (KW.of (Nat.le_of_lt H5.out.lt) hb)) SE.out (by have := SX.out.1; simp only; omega) (by have := OLEN.out.2.1; omega) (by have h1 := OK.out.out; have h2 := OK.out.low; have h3 := OLEN.out.2.1; omega) OK.out.low OK.out.mv)
      go_upto_region 10 with (first | (go_at_call 28; (with_reducible refine (PLC.out _ (Below.refl _ _)).mono ?_); rintro _ w6 ⟨vv6, gg, ok, rfl, G6, H6, K6⟩; obtain ⟨w7, hw7⟩ : ∃ W, w6.alloc (.cells #[.int .i64 gg.1, .int .i64 gg.2.1, .int .i64 gg.2.2] 44) = W := ⟨_, rfl⟩; have B7 : Hid (Below w6.heap.size w6 w7) := Lib.hid (by rw [← hw7]; exact (Below.refl _ _).alloc (Nat.le_refl _) _); have X7 : Hid (w7.heap[w6.heap.size]? = some (.cells #[.int .i64 gg.1, .int .i64 gg.2.1, .int .i64 gg.2.2] 44 (0, 0))) := Lib.hid (by rw [← hw7]; exact heap_alloc_new w6 _); have z0 := blk_cellx X7.out 0 _ rfl; have z1 := blk_cellx X7.out 1 _ rfl; have z2 := blk_cellx X7.out 2 _ rfl))
      have K57 := Lib.hid (K6.out.trans (KW.of (Nat.le_of_lt H6.out.lt) B7.out))
      have H7 := Lib.hid (H6.out.keep B7.out)
      have O7 : Hid (OwnR w7 (pb + 1) 44 3 u10 (st.placed.map rowG)) := Lib.hid (((HA.out.pl.below B5.out).kw K57.out (by decide) (by omega)))
      have R7 : Hid (OwnR w7 (pb + 1) 38 5 u11 (MB.map rowH)) := Lib.hid (((HA.out.rj.below B5.out).kw K57.out (by decide) (by omega)))
      have E7 : Hid (∀ p ∈ MB, OldR pb w7 p.2 3 (p.1.ls.map rowD)) := Lib.hid (fun p hp => ((HA.out.each p hp).kw K5.out).kw K57.out)
      have OX7 := Lib.hid (OX5.out.kw K57.out)
      have P7 : Hid (pb + 1 ≤ w7.heap.size) := Lib.hid H7.out.lt
      have LP : Hid ((st.placed.map rowG).length ≤ 1048576) := Lib.hid (by rw [List.length_map, OK.out.pl]; omega)
      have LB : Hid ((MB.map rowH).length ≤ 1048576) := Lib.hid (by have h1 := congrArg List.length HA.out.bad; rw [List.length_map] at h1; rw [List.length_map, h1]; have := OK.out.bad; omega)
      have X57 := Lib.hid (K57.out.other _ _ _ _ (by decide) (by have := PBL.out; omega) X5.out)
      have oneG : ∀ u ∈ (#[.int .i64 gg.1, .int .i64 gg.2.1, .int .i64 gg.2.2] : Array Value).toList, u.oneCell' = true := by intro u hu; simp at hu; rcases hu with rfl | rfl | rfl <;> rfl
      clear d0 d1 d2 d3 d4 x0 x1 x2 x3 x4 hw5
      try rw [hw7]
      clear hw7
      go_upto_region 11 with (first | (at_builtin; (refine append_row2 rtG rfl (.tmp 41) (.tmp 43) rfl _ (st.placed.map rowG) #[.int .i64 gg.1, .int .i64 gg.2.1, .int .i64 gg.2.2] (pb + 1) w7 w7 O7.out rfl oneG (Below.refl _ _) P7.out LP.out (by first | rfl | (simp [Act.eval]; done) | (simp [Act.eval, Act.put]; done)) (by first | rfl | (simp [Act.eval]; done) | (simp [Act.eval, Act.put]; done)) ?_; intro v8 w8 own8 bel8 gr8 pu8)))
      have K78 := Lib.hid (KT.grown (pb := pb) O7.out gr8.out (by omega) (by have := P7.out; omega))
      have H8 := Lib.hid (H7.out.kt K78.out (by decide) (by decide))
      have R8 := Lib.hid (R7.out.kt K78.out (by decide))
      have E8 : Hid (∀ p ∈ MB, OldR pb w8 p.2 3 (p.1.ls.map rowD)) := Lib.hid (fun p hp => (E7.out p hp).kt K78.out)
      have OX8 := Lib.hid (OX7.out.kt K78.out)
      have P8 : Hid (pb + 1 ≤ w8.heap.size) := Lib.hid H8.out.lt
      have X58 := Lib.hid ((K78.out.other _ _ _ _ (by decide) X57.out).trans X57.out)
      have OKN := Lib.hid (OK.out.step SE.out (by have := SX.out.1; simp only; omega) (fun y hy => SX.out.2 y hy) (by have := OLEN.out.2.1; omega) OLEN.out.2.2 fuzz)
      have B8 : Hid (Below pb w3 w8) := Lib.hid ((((HA.out.bel.trans K5.out.below).trans K57.out.below)).trans K78.out.below)
      cases ok with
      | true =>
        have A1 : Hid (AP pb (j + 1) (.slice oa on oc) vv6 v8 u11 ol hs fuzz (stepP ol fuzz st ⟨fa, la, fb, lb, ls⟩) MB w3 w8) := Lib.hid ⟨TK.out.symm, OKN.out, H8.out, by rw [G6.out.1, List.map_append]; exact own8.out, R8.out, by rw [G6.out.2, HA.out.bad]; simp, E8.out, B8.out⟩
        go_wp2_with fail
        go_roundw
        case rel => exact ⟨j + 1, _, MB, _, by go_num, by omega, A1⟩
        case measure => simp [intOf]; omega
      | false =>
        have x0 := blk_cellx X58.out 0 _ rfl
        have x1 := blk_cellx X58.out 1 _ rfl
        have x2 := blk_cellx X58.out 2 _ rfl
        have x3 := blk_cellx X58.out 3 _ rfl
        have x4 := blk_cellx X58.out 4 _ rfl
        go_wp2_with (first | (at_builtin; (refine append_row2 rtH rfl (.tmp 47) (.tmp 49) rfl _ (MB.map rowH) #[.int .i64 fa, .int .i64 la, .int .i64 fb, .int .i64 lb, .slice ua un uc] (pb + 1) w8 w8 R8.out rfl (one_H (p := (⟨fa, la, fb, lb, ls⟩, .slice ua un uc)) rfl) (Below.refl _ _) P8.out LB.out (by first | rfl | (simp [Act.eval]; done) | (simp [Act.eval, Act.put]; done)) (by first | rfl | (simp [Act.eval]; done) | (simp [Act.eval, Act.put]; done)) ?_; intro v9 w9 own9 bel9 gr9 pu9)))
        have K89 := Lib.hid (KT.grown (pb := pb) R8.out gr9.out (by omega) (by have := P8.out; omega))
        have A1 : Hid (AP pb (j + 1) (.slice oa on oc) vv6 v8 v9 ol hs fuzz (stepP ol fuzz st ⟨fa, la, fb, lb, ls⟩) (MB ++ [(⟨fa, la, fb, lb, ls⟩, .slice ua un uc)]) w3 w9) := Lib.hid ⟨TK.out.symm, OKN.out, H8.out.kt K89.out (by decide) (by decide), by rw [G6.out.1, List.map_append]; exact own8.out.kt K89.out (by decide), by rw [List.map_append]; exact own9.out, by rw [G6.out.2, List.map_append, HA.out.bad]; rfl, (fun p hp => by
          rcases List.mem_append.1 hp with hp | hp
          · exact (E8.out p hp).kt K89.out
          · rw [List.mem_singleton] at hp; subst hp; exact OX8.out.kt K89.out), B8.out.trans K89.out.below⟩
        go_roundw
        case rel => exact ⟨j + 1, _, _, _, by go_num, by omega, A1⟩
        case measure => simp [intOf]; omega
    · obtain rfl : j = n := by omega
      have FIN : Hid (st = runP ol hs fuzz) := Lib.hid (by rw [HA.out.st, List.take_of_length_le (by rw [← HHS.out, List.length_map, HN.out]; exact Nat.le_refl _)]; rfl)
      have OUT : Hid (st.out.length ≤ 480000 ∧ st.low ≤ on) := Lib.hid (by have h1 := HA.out.ok.out; have h2 := HA.out.ok.low; have h3 := OLEN.out.1; omega)
      have SMB : Hid (smallR MB) := Lib.hid (by
        have hb := HA.out.bad
        refine ⟨by have h1 := congrArg List.length hb; rw [List.length_map] at h1; rw [h1]; have := HA.out.ok.bad; omega, fun p hp => ?_⟩
        have h1 : p.1 ∈ st.bad := by rw [← hb]; exact List.mem_map_of_mem hp
        rw [FIN.out] at h1
        rcases run_bad _ _ _ h1 with h2 | h2
        · simp at h2
        · rw [← HHS.out] at h2
          obtain ⟨q, hq, e⟩ := List.mem_map.1 h2
          have := (HS.out.2 q hq).1
          rw [← e]; omega)
      have H4 := Lib.hid HA.out.wk
      have H4D := Lib.hid (H4.out.keep (Below.refl wr.heap.size wr).drew)
      have KD := Lib.hid (KW.of (pb := pb) (Nat.le_of_lt H4.out.lt) (Below.refl wr.heap.size wr).drew)
      have PB4 : Hid (pb + 1 ≤ wr.heap.size) := Lib.hid H4.out.lt
      obtain ⟨low, hlow⟩ : ∃ l, st.low = l := ⟨_, rfl⟩
      obtain ⟨MO, hMO⟩ : ∃ M, ol.drop st.low = M := ⟨_, rfl⟩
      have HMO := Lib.hid hMO
      have ML : Hid (MO.length ≤ 200000 ∧ ∀ x ∈ MO, x.1.size ≤ 100000) := Lib.hid ⟨by rw [← hMO, List.length_drop]; have := OLEN.out.2.1; omega, fun x hx => by rw [← hMO] at hx; exact OLEN.out.2.2 x (List.mem_of_mem_drop hx)⟩
      have c0 := blk_cellx H4.out.blk 0 _ rfl
      have c1 := blk_cellx H4.out.blk 1 _ rfl
      have c2 := blk_cellx H4.out.blk 2 _ rfl
      simp only [List.getElem_toArray, List.getElem_cons_zero, List.getElem_cons_succ] at c2
      rw [hlow] at c2
      have hlw : low ≤ on := by rw [← hlow]; exact OUT.out.2
      have q1 : (0 : Int) ≤ (low : Int) := by omega
      have q2 : (low : Int) ≤ (on : Int) := by omega
      obtain ⟨-, hoc⟩ : True ∧ on ≤ oc := ⟨trivial, by
        rcases H4.out.rows with ⟨h, a2, e⟩ | ⟨g, o, c3, e, h3, -⟩
        · cases e; omega
        · cases e; have := OLEN.out.1; rw [List.length_map] at h3; omega⟩
      have q3 : (low : Int) ≤ (oc : Int) := by omega
      have HLW := Lib.hid hlow
      clear hMO hlow
      go_upto_region 14 with (fail)
      go_cut [] from 52 to 69 (fun w' => ∃ v5, Hid (WK pb (.slice oa on oc) v5 ol (st.out ++ MO) st.low st.move w' ∧ KW pb wr w'))
      · rcases (show (on = 0 ∧ oc = 0) ∨ ∃ g o, oa = some ⟨g, o, none⟩ from by
          rcases H4.out.rows with ⟨-, a2, h⟩ | ⟨g, o, c3, e, -⟩
          · cases h; exact .inl ⟨rfl, rfl⟩
          · cases e; exact .inr ⟨g, o, rfl⟩) with ⟨rfl, rfl⟩ | ⟨g, o, rfl⟩
        · obtain rfl : low = 0 := by omega
          have HS : Hid (RowsAt wr (.slice oa 0 0) 2 (MO.map rowL)) := Lib.hid (.inl ⟨by rw [← HMO.out, HLW.out, List.drop_zero]; have := OLEN.out.1; rw [List.eq_nil_of_length_eq_zero this]; rfl, _, rfl⟩)
          clear q1 q2 q3 hlw hoc
          rcases oa with _ | b
          · go_region_law (first | (refine step_own3 rtP rfl (.tmp 56) (.tmp 65) rfl _ _ (st.out.map rowL) (MO.map rowL) (pb + 1) _ H4.out.own HS.out rowL_len rowL_one PB4.out (by rw [List.length_map, List.length_map]; have h1 := OUT.out; have h2 := ML.out; omega) (by first | rfl | (simp [Act.eval]; done) | (simp [Act.eval, Act.put]; done)) (by first | rfl | (simp [Act.eval]; done) | (simp [Act.eval, Act.put]; done)) ?_; intro v5 w5 own5 gr5; have PU := Lib.hid (WK.push (more := MO) H4D.out own5.out gr5.out); obtain ⟨a5, k5, e5⟩ := own5.out.sl; obtain ⟨m5, hm5⟩ : ∃ m, (st.out.map rowL ++ MO.map rowL).length = m := ⟨_, rfl⟩; rw [hm5] at e5; clear hm5; subst e5; have cz := PU.out.2.2.1; have fz := PU.out.2.2.2))
            all_goals (go_wp2_with fail; go_meet; case rel => exact ⟨_, Lib.hid ⟨PU.out.1, KD.out.trans PU.out.2.1⟩⟩)
          · go_region_law (first | (refine step_own3 rtP rfl (.tmp 56) (.tmp 65) rfl _ _ (st.out.map rowL) (MO.map rowL) (pb + 1) _ H4.out.own HS.out rowL_len rowL_one PB4.out (by rw [List.length_map, List.length_map]; have h1 := OUT.out; have h2 := ML.out; omega) (by first | rfl | (simp [Act.eval]; done) | (simp [Act.eval, Act.put]; done)) (by first | rfl | (simp [Act.eval]; done) | (simp [Act.eval, Act.put]; done)) ?_; intro v5 w5 own5 gr5; have PU := Lib.hid (WK.push (more := MO) H4D.out own5.out gr5.out); obtain ⟨a5, k5, e5⟩ := own5.out.sl; obtain ⟨m5, hm5⟩ : ∃ m, (st.out.map rowL ++ MO.map rowL).length = m := ⟨_, rfl⟩; rw [hm5] at e5; clear hm5; subst e5; have cz := PU.out.2.2.1; have fz := PU.out.2.2.2))
            all_goals (go_wp2_with fail; go_meet; case rel => exact ⟨_, Lib.hid ⟨PU.out.1, KD.out.trans PU.out.2.1⟩⟩)
        · have HF := Lib.hid (fun A hA => RowsAt.from H4.out.rows (by rw [List.length_map]; exact OLEN.out.1) low hlw A hA)
          by_cases hcx : oc = low
          · have HS := Lib.hid (HF.out _ (.inl ⟨hcx, rfl⟩))
            rw [show on - low = 0 by omega, show oc - low = 0 by omega, ← List.map_drop, ← HLW.out, HMO.out] at HS
            have hcx2 := hcx.symm
            have z0 : on - oc = 0 := by omega
            have z1 : (oc : Int) ≤ (on : Int) := by omega
            have z2 : (0 : Int) ≤ (oc : Int) := by omega
            have z3 : oc ≤ on := by omega
            clear hcx
            go_region_law (first | (refine step_own3 rtP rfl (.tmp 56) (.tmp 65) rfl _ _ (st.out.map rowL) (MO.map rowL) (pb + 1) _ H4.out.own HS.out rowL_len rowL_one PB4.out (by rw [List.length_map, List.length_map]; have h1 := OUT.out; have h2 := ML.out; omega) (by first | rfl | (simp [Act.eval]; done) | (simp [Act.eval, Act.put]; done)) (by first | rfl | (simp [Act.eval]; done) | (simp [Act.eval, Act.put]; done)) ?_; intro v5 w5 own5 gr5; have PU := Lib.hid (WK.push (more := MO) H4D.out own5.out gr5.out); obtain ⟨a5, k5, e5⟩ := own5.out.sl; obtain ⟨m5, hm5⟩ : ∃ m, (st.out.map rowL ++ MO.map rowL).length = m := ⟨_, rfl⟩; rw [hm5] at e5; clear hm5; subst e5; have cz := PU.out.2.2.1; have fz := PU.out.2.2.2))
            all_goals (go_wp2_with fail; go_meet; case rel => exact ⟨_, Lib.hid ⟨PU.out.1, KD.out.trans PU.out.2.1⟩⟩)
          · have HS := Lib.hid (HF.out _ (.inr rfl))
            rw [← List.map_drop, ← HLW.out, HMO.out, HLW.out] at HS
            go_region_law (first | (refine step_own3 rtP rfl (.tmp 56) (.tmp 65) rfl _ _ (st.out.map rowL) (MO.map rowL) (pb + 1) _ H4.out.own HS.out rowL_len rowL_one PB4.out (by rw [List.length_map, List.length_map]; have h1 := OUT.out; have h2 := ML.out; omega) (by first | rfl | (simp [Act.eval]; done) | (simp [Act.eval, Act.put]; done)) (by first | rfl | (simp [Act.eval]; done) | (simp [Act.eval, Act.put]; done)) ?_; intro v5 w5 own5 gr5; have PU := Lib.hid (WK.push (more := MO) H4D.out own5.out gr5.out); obtain ⟨a5, k5, e5⟩ := own5.out.sl; obtain ⟨m5, hm5⟩ : ∃ m, (st.out.map rowL ++ MO.map rowL).length = m := ⟨_, rfl⟩; rw [hm5] at e5; clear hm5; subst e5; have cz := PU.out.2.2.1; have fz := PU.out.2.2.2))
            all_goals (go_wp2_with fail; go_meet; case rel => exact ⟨_, Lib.hid ⟨PU.out.1, KD.out.trans PU.out.2.1⟩⟩)
      obtain ⟨v5, H5⟩ := hcut
      have KC := Lib.hid H5.out.2
      have H9 := Lib.hid H5.out.1
      have c1 := blk_cellx H9.out.blk 1 _ rfl
      have JN := Lib.hid (fun W (hb : Below wc.heap.size wc W) => joined_any (st.out ++ MO) v5 W ((H9.out.own.below hb).rows rowL_len) (by rw [List.length_append]; have h1 := OUT.out.1; have h2 := ML.out.1; omega) (by
        have h0 := joined_len (B := 100000) (st.out ++ MO) (fun x hx => by
          rcases List.mem_append.1 hx with hx | hx
          · exact HA.out.ok.sz x hx
          · exact ML.out.2 x hx)
        rw [List.length_append] at h0
        have h1 := OUT.out.1; have h2 := ML.out.1
        omega))
      have RR : Hid (OwnR wc (pb + 1) 38 5 u11 (MB.map rowH)) := Lib.hid (HA.out.rj.kw KC.out (by decide) (by omega))
      have PP : Hid (OwnR wc (pb + 1) 44 3 u10 (st.placed.map rowG)) := Lib.hid (HA.out.pl.kw KC.out (by decide) (by omega))
      have EE : Hid (∀ p ∈ MB, OldR pb wc p.2 3 (p.1.ls.map rowD)) := Lib.hid (fun p hp => (HA.out.each p hp).kw KC.out)
      have HK := Lib.hid (fun W (hb : Below wc.heap.size wc W) => hunks_any MB u11 W ⟨(RR.out.below hb).rows rowH_len, fun p hp => (EE.out p hp).rows.below hb⟩ SMB.out)
      have BWC : Hid (Below w.heap.size w wc) := Lib.hid (BW.out.trans (KC.out.below.mono PBW.out))
      clear c0 c2 q1 q2 q3 hlw hoc
      go_wp2_with (first | (go_at_call 29; (with_reducible refine (JN.out _ (Below.refl _ _)).mono ?_); rintro _ w10 ⟨rfl, B10⟩) | (go_at_call 26; (with_reducible refine (HK.out _ B10.out).mono ?_); rintro _ w11 ⟨vh, M, rfl, HM11, HA11, HO11, HL11, B11⟩))
      go_ret3
      have B1011 := Lib.hid (B10.out.trans (B11.out.mono B10.out.size))
      refine ⟨u10, vh, M, ?_, Lib.hid ?_, Lib.hid ?_, HA11, Lib.hid (fun p hp => (HO11.out p hp).mono (Nat.le_trans BWC.out.size B10.out.size)), Lib.hid (HL11.out.mono (Nat.le_trans BWC.out.size B10.out.size)), Lib.hid (BWC.out.trans (B1011.out.mono BWC.out.size))⟩
      · rw [E.out.1, ← FIN.out]; unfold textP; rw [HMO.out]; rfl
      · rw [E.out.2.1, ← FIN.out]; exact (PP.out.below B1011.out).rows rowG_len
      · rw [HM11.out, HA.out.bad, E.out.2.2, FIN.out]
end Go.Proofs.YtnkpigibjicmaaaDoor
/- walks: the first example's patch; awake -/
namespace Go.Proofs.YtnkpigibjicmaaaDoor
open Go.RowKit Go.Maps
open Pt
/-- the hunk of the first example -/
def hk0 : Hk := ⟨2, 1, 2, 1, [(2, ⟨#[98]⟩, false), (3, ⟨#[120]⟩, false)]⟩
theorem aw1 : applyP ⟨#[97, 10, 98, 10, 99, 10]⟩ [hk0] 0 = ([97, 10, 120, 10, 99, 10], [(2, 0, 0)], []) := by kernel_rfl
theorem aw2 : applyP ⟨#[122, 10, 97, 10, 98, 10, 99, 10]⟩ [hk0] 0 = ([122, 10, 97, 10, 120, 10, 99, 10], [(3, 1, 0)], []) := by kernel_rfl
theorem aw3 : applyP ⟨#[97, 10, 99, 10]⟩ [hk0] 0 = ([97, 10, 99, 10], [(0, 0, 0)], [hk0]) := by kernel_rfl
set_option maxRecDepth 100000 in
set_option maxHeartbeats 4000000 in
theorem change_any (w : World) : Calls Tryd.prog 25 #[] w fun e w' => ∃ v u, e = .returned (.agg #[.string ⟨#[102]⟩, .string ⟨#[102]⟩, v]) ∧ Hid (HksAt w' v [(hk0, u)]) ∧ Hid (Below w.heap.size w w') := by
  go_enter Tryd.func25, Tryd.ntmps25
  go_wp2_with fail
  obtain ⟨cp, hcp⟩ : ∃ c, (Obj.cells #[Value.string ⟨#[102]⟩, Value.string ⟨#[102]⟩, Value.slice (some ⟨w.heap.size + 1 + 1, 0, none⟩) 1 1] 24 (0, 0)) = c := ⟨_, rfl⟩
  obtain ⟨cd, hcd⟩ : ∃ c, (Obj.cells #[Value.int .i64 2, Value.string ⟨#[98]⟩, Value.bool false, Value.int .i64 3, Value.string ⟨#[120]⟩, Value.bool false] 59 (0, 0)) = c := ⟨_, rfl⟩
  obtain ⟨ch, hch⟩ : ∃ c, (Obj.cells #[Value.int .i64 2, Value.int .i64 1, Value.int .i64 2, Value.int .i64 1, Value.slice (some ⟨w.heap.size + 1, 0, none⟩) 2 2] 38 (0, 0)) = c := ⟨_, rfl⟩
  rw [hcp, hcd, hch]
  have s1 : (w.alloc cp).heap.size = w.heap.size + 1 := World.size_alloc _ _
  have s2 : ((w.alloc cp).alloc cd).heap.size = w.heap.size + 1 + 1 := by rw [World.size_alloc, s1]
  have n0 : (((w.alloc cp).alloc cd).alloc ch).heap[w.heap.size]? = some cp := (heap_alloc_old _ _ (by rw [s2]; omega)).trans ((heap_alloc_old _ _ (by rw [s1]; omega)).trans (heap_alloc_new w cp))
  have n1 : (((w.alloc cp).alloc cd).alloc ch).heap[w.heap.size + 1]? = some cd := (heap_alloc_old _ _ (by rw [s2]; omega)).trans (by have := heap_alloc_new (w.alloc cp) cd; rw [s1] at this; exact this)
  have n2 : (((w.alloc cp).alloc cd).alloc ch).heap[w.heap.size + 1 + 1]? = some ch := by have := heap_alloc_new ((w.alloc cp).alloc cd) ch; rw [s2] at this; exact this
  have BL : Below w.heap.size w (((w.alloc cp).alloc cd).alloc ch) := (((Below.refl _ _).alloc (Nat.le_refl _) cp).alloc (by rw [s1]; omega) cd).alloc (by rw [s2]; omega) ch
  obtain ⟨W, hW⟩ : ∃ W, ((w.alloc cp).alloc cd).alloc ch = W := ⟨_, rfl⟩
  rw [hW] at n0 n1 n2 BL ⊢
  subst hcp hcd hch
  have r0 := blk_cellx n0 0 _ rfl
  have r1 := blk_cellx n0 1 _ rfl
  have r2 := blk_cellx n0 2 _ rfl
  refine bodyPost_ret (v := .agg #[.string ⟨#[102]⟩, .string ⟨#[102]⟩, .slice (some ⟨w.heap.size + 1 + 1, 0, none⟩) 1 1]) (by simp [results, Tryd.results25, go_sem, r0, r1, r2]) rfl ⟨_, .slice (some ⟨w.heap.size + 1, 0, none⟩) 2 2, rfl, Lib.hid ⟨row_blk n2, fun p hp => ?_⟩, Lib.hid BL⟩
  rw [List.mem_singleton] at hp
  subst hp
  refine .inr ⟨w.heap.size + 1, 0, 2, rfl, Nat.le_refl 2, by unfold maxLen; omega, (Array.getElem?_eq_some_iff.1 n1).1, fun j x hj i y hi => ?_⟩
  match j, hj with
  | 0, hj =>
    have e : x = rowD (2, ⟨#[98]⟩, false) := (Option.some.inj hj).symm
    subst e
    match i, hi with
    | 0, hi => exact (Option.some.inj hi) ▸ blk_cellx n1 0 _ rfl
    | 1, hi => exact (Option.some.inj hi) ▸ blk_cellx n1 1 _ rfl
    | 2, hi => exact (Option.some.inj hi) ▸ blk_cellx n1 2 _ rfl
    | i + 3, hi => simp at hi
  | 1, hj =>
    have e : x = rowD (3, ⟨#[120]⟩, false) := (Option.some.inj hj).symm
    subst e
    match i, hi with
    | 0, hi => exact (Option.some.inj hi) ▸ blk_cellx n1 3 _ rfl
    | 1, hi => exact (Option.some.inj hi) ▸ blk_cellx n1 4 _ rfl
    | 2, hi => exact (Option.some.inj hi) ▸ blk_cellx n1 5 _ rfl
    | i + 3, hi => simp at hi
  | j + 2, hj => simp [hk0] at hj
theorem sm0 {u : Value} : smallA [(hk0, u)] := ⟨by show 1 ≤ 610; omega, fun p hp => by
  rw [List.mem_singleton] at hp
  subst hp
  refine ⟨by show 2 ≤ 610; omega, fun x hx => ?_⟩
  simp [hk0] at hx
  rcases hx with rfl | rfl <;> decide⟩
/-- Apply on one hunk, its results as slices -/
theorem aw_apply (s : ByteArray) (t : List UInt8) (pl : List (Int × Int × Int)) (bd : List Hk) (hap : applyP s [hk0] 0 = (t, pl, bd)) (hs : s.size ≤ 100000) {tx : ByteArray} (ht : bA t = tx) {np nb : Nat} (hp : pl.length = np) (hb : bd.length = nb) (v u : Value) (m : Int) (w : World) (hm : w.cell? ⟨0, 0, none⟩ = some (.int .i64 m)) (hv : HksAt w v [(hk0, u)]) :
    Calls Tryd.prog 11 #[.string s, .agg #[.string ⟨#[102]⟩, .string ⟨#[102]⟩, v], .int .i64 0] w fun e w' => ∃ pa pc ba bc, e = .returned (.tuple #[.string tx, .slice pa np pc, .slice ba nb bc]) ∧ Hid (RowsAt w' (.slice pa np pc) 3 (pl.map rowG)) ∧ Hid (Below w.heap.size w w') := by
  subst ht
  refine (apply_any s ⟨#[102]⟩ ⟨#[102]⟩ [(hk0, u)] v 0 m w hm hv sm0 hs (Lib.hid hap)).mono ?_
  rintro e w' ⟨vp, vh, M, rfl, H1, H2, H3, -, -, H4⟩
  obtain ⟨pa, pc, e1, -⟩ := H1.out.sl (n := np) (by rw [List.length_map]; exact hp)
  obtain ⟨ba, bc, e2, -⟩ := H3.out.rows.sl (n := nb) (by rw [List.length_map, ← hb, ← H2.out, List.length_map])
  subst e1 e2
  exact ⟨pa, pc, ba, bc, rfl, H1, H4⟩
theorem row1 {w : World} {pa : Option Addr} {pc : Nat} {x : Int × Int × Int} (h : RowsAt w (.slice pa 1 pc) 3 ([x].map rowG)) : ∃ g o, pa = some ⟨g, o, none⟩ ∧ w.cell? ⟨g, o, none⟩ = some (.int .i64 x.1) ∧ w.cell? ⟨g, o + 1, none⟩ = some (.int .i64 x.2.1) ∧ w.cell? ⟨g, o + 2, none⟩ = some (.int .i64 x.2.2) := by
  obtain ⟨g, o, e, -, -, -, hc⟩ := h.at rfl (show ([x].map rowG)[0]? = some (rowG x) from rfl)
  exact ⟨g, o, e, by simpa using hc 0 _ rfl, by simpa using hc 1 _ rfl, by simpa using hc 2 _ rfl⟩
set_option maxRecDepth 100000 in
set_option maxHeartbeats 4000000 in
theorem awake_any (m : Int) (w : World) (hm : w.cell? ⟨0, 0, none⟩ = some (.int .i64 m)) : Calls Tryd.prog 10 #[] w fun e w' => e = .returned (.bool true) ∧ Hid (Below w.heap.size w w') := by
  have HM := Lib.hid hm
  clear hm
  go_enter Tryd.func10, Tryd.ntmps10
  go_upto_region 2 with (first | (go_at_call 25; (with_reducible refine (change_any _).mono ?_); rintro _ w1 ⟨v1, t1, rfl, H1, B1⟩) | (go_at_call 11; (refine (aw_apply _ _ _ _ aw1 (by decide) rfl rfl rfl v1 t1 m _ (kp B1.out HM.out) H1.out).mono ?_); rintro _ w2 ⟨pa1, pc1, ba1, bc1, rfl, R1, B2⟩))
  have C2 := Lib.hid (B1.out.trans (B2.out.mono B1.out.size))
  go_upto_region 3 with (first | (go_at_call 25; (with_reducible refine (change_any _).mono ?_); rintro _ w3 ⟨v3, t3, rfl, H3, B3⟩) | (go_at_call 11; (refine (aw_apply _ _ _ _ aw2 (by decide) rfl rfl rfl v3 t3 m _ (kp (C2.out.trans (B3.out.mono C2.out.size)) HM.out) H3.out).mono ?_); rintro _ w4 ⟨pa2, pc2, ba2, bc2, rfl, R2, B4⟩))
  have C4 := Lib.hid ((C2.out.trans (B3.out.mono C2.out.size)).trans (B4.out.mono (C2.out.trans (B3.out.mono C2.out.size)).size))
  have R14 := Lib.hid (R1.out.below (B3.out.trans (B4.out.mono B3.out.size)))
  go_upto_region 4 with (first | (go_at_call 25; (with_reducible refine (change_any _).mono ?_); rintro _ w5 ⟨v5, t5, rfl, H5, B5⟩) | (go_at_call 11; (refine (aw_apply _ _ _ _ aw3 (by decide) rfl rfl rfl v5 t5 m _ (kp (C4.out.trans (B5.out.mono C4.out.size)) HM.out) H5.out).mono ?_); rintro _ w6 ⟨pa3, pc3, ba3, bc3, rfl, R3, B6⟩))
  have B56 := Lib.hid (B5.out.trans (B6.out.mono B5.out.size))
  have C6 := Lib.hid (C4.out.trans (B56.out.mono C4.out.size))
  obtain ⟨g1, o1, rfl, a0, a1, a2⟩ := row1 (R14.out.below B56.out)
  obtain ⟨g2, o2, rfl, b0, b1, b2⟩ := row1 (R2.out.below B56.out)
  go_wp2_with fail
  go_ret
  exact ⟨rfl, C6⟩
end Go.Proofs.YtnkpigibjicmaaaDoor
/- walks: PatchChecks (written by gen_vcf.py) -/
namespace Go.Proofs.YtnkpigibjicmaaaDoor
open Go.RowKit Go.Maps
open Pt
theorem revF_len : ∀ (l X : List DL), (revF X l).length = X.length + l.length
  | [], X => by simp [revF]
  | x :: r, X => by
    unfold revF
    split
    · rw [List.length_cons, revF_len r X, List.length_cons]; omega
    · split
      · rw [revF_len r, List.length_append, List.length_singleton, List.length_cons]; omega
      · rw [List.length_append, List.length_cons, revF_len r [], List.length_cons, List.length_nil]; omega
theorem revF_mem : ∀ (l X : List DL) (y : DL), y ∈ revF X l → ∃ x, (x ∈ X ∨ x ∈ l) ∧ x.2 = y.2
  | [], X, y, h => ⟨y, .inl h, rfl⟩
  | x :: r, X, y, h => by
    unfold revF at h
    split at h
    · rcases List.mem_cons.1 h with h | h
      · exact ⟨x, .inr List.mem_cons_self, by rw [h]⟩
      · obtain ⟨z, hz, e⟩ := revF_mem r X y h
        exact ⟨z, hz.imp id (List.mem_cons_of_mem _), e⟩
    · split at h
      · obtain ⟨z, hz, e⟩ := revF_mem r _ y h
        rcases hz with hz | hz
        · rcases List.mem_append.1 hz with hz | hz
          · exact ⟨z, .inl hz, e⟩
          · rw [List.mem_singleton] at hz; subst hz; exact ⟨x, .inr List.mem_cons_self, e⟩
        · exact ⟨z, .inr (List.mem_cons_of_mem _ hz), e⟩
      · rcases List.mem_append.1 h with h | h
        · exact ⟨y, .inl h, rfl⟩
        · rcases List.mem_cons.1 h with h | h
          · exact ⟨x, .inr List.mem_cons_self, by rw [h]⟩
          · obtain ⟨z, hz, e⟩ := revF_mem r [] y h
            rcases hz with hz | hz
            · simp at hz
            · exact ⟨z, .inr (List.mem_cons_of_mem _ hz), e⟩
theorem smallA_rev {L M : List HV} (h : smallA L) (e : M.map (·.1) = L.map (fun p => revH p.1)) : smallA M := by
  have hl := congrArg List.length e
  rw [List.length_map, List.length_map] at hl
  refine ⟨by rw [hl]; exact h.1, fun p hp => ?_⟩
  have hm : p.1 ∈ L.map (fun p => revH p.1) := by rw [← e]; exact List.mem_map_of_mem hp
  obtain ⟨q, hq, eq⟩ := List.mem_map.1 hm
  rw [← eq]
  refine ⟨by show (revF [] q.1.ls).length ≤ 610; rw [revF_len, List.length_nil]; have := (h.2 q hq).1; omega, fun x hx => ?_⟩
  obtain ⟨z, hz, e2⟩ := revF_mem _ _ _ hx
  rcases hz with hz | hz
  · simp at hz
  · rw [← e2]; exact (h.2 q hq).2 z hz
theorem few_smallA {L : List HV} (h : fewPB L = true) : smallA L := by
  unfold fewPB at h
  rw [Bool.and_eq_true, List.all_eq_true] at h
  have h1 := of_decide_eq_true h.1
  refine ⟨by omega, fun p hp => ?_⟩
  have := h.2 p hp
  unfold fewLB at this
  rw [Bool.and_eq_true, List.all_eq_true] at this
  have h2 := of_decide_eq_true this.1
  exact ⟨by omega, fun x hx => by have := of_decide_eq_true (this.2 x hx); omega⟩
set_option maxRecDepth 100000 in
set_option maxHeartbeats 8000000 in
theorem law_checks (old new : ByteArray) (L : List HV) (v : Value) (m : Int) (w : World) (hm : w.cell? ⟨0, 0, none⟩ = some (.int .i64 m)) (hv : HksAt w v L) (hz : ∀ p ∈ L, ∀ x ∈ p.1.ls, x.2.1.size ≤ 9223372036854775807) :
    Calls Tryd.prog 6 #[.agg #[.string old, .string new, v]] w fun e w' => e = .returned (.bool true) ∧ Below w.heap.size w w' := by
  obtain ⟨n, hn⟩ : ∃ n, L.length = n := ⟨_, rfl⟩
  have HVH := Lib.hid hv
  have HM := Lib.hid hm
  have HZ := Lib.hid hz
  obtain ⟨a, cap, rfl, -⟩ := hv.rows.sl (n := n) (by rw [List.length_map]; exact hn)
  have BA : Hid (Below w.heap.size w (w.alloc (.cells #[.string old, .string new, .slice a n cap] 24))) := Lib.hid ((Below.refl _ _).alloc (Nat.le_refl _) _)
  have NA : Hid ((w.alloc (.cells #[.string old, .string new, .slice a n cap] 24)).heap[w.heap.size]? = some (.cells #[.string old, .string new, .slice a n cap] 24 (0, 0))) := Lib.hid (heap_alloc_new w _)
  have KP : Hid (∀ w' : World, Below (w.alloc (.cells #[.string old, .string new, .slice a n cap] 24)).heap.size (w.alloc (.cells #[.string old, .string new, .slice a n cap] 24)) w' → (fun w' => Below (w.alloc (.cells #[.string old, .string new, .slice a n cap] 24)).heap.size (w.alloc (.cells #[.string old, .string new, .slice a n cap] 24)) w' ∧ w'.cell? ⟨w.heap.size, 0, none⟩ = some (.string old) ∧ w'.cell? ⟨w.heap.size, 1, none⟩ = some (.string new) ∧ w'.cell? ⟨w.heap.size, 2, none⟩ = some (.slice a n cap)) w') := Lib.hid (fun w' hb => ⟨hb, kp hb (blk_cellx NA.out 0 _ rfl), kp hb (blk_cellx NA.out 1 _ rfl), kp hb (blk_cellx NA.out 2 _ rfl)⟩)
  have BW : Hid (∀ w' : World, Below (w.alloc (.cells #[.string old, .string new, .slice a n cap] 24)).heap.size (w.alloc (.cells #[.string old, .string new, .slice a n cap] 24)) w' → Below w.heap.size w w') := Lib.hid (fun w' hb => BA.out.trans (hb.mono BA.out.size))
  have FW := Lib.hid (fun W (hb : Below (w.alloc (.cells #[.string old, .string new, .slice a n cap] 24)).heap.size (w.alloc (.cells #[.string old, .string new, .slice a n cap] 24)) W) => few_any old new L (.slice a n cap) W (HVH.out.below (BW.out W hb)) HZ.out)
  have AW := Lib.hid (fun W (hb : Below (w.alloc (.cells #[.string old, .string new, .slice a n cap] 24)).heap.size (w.alloc (.cells #[.string old, .string new, .slice a n cap] 24)) W) => awake_any m W (kp (BW.out W hb) HM.out))
  have S0 := KP.out _ (Below.refl _ _)
  clear hv hm hz hn
  cases hf : fewPB L with
  | false =>
    rw [hf] at FW
    go_enter Tryd.func6, Tryd.ntmps6
    go_wp2_with (first | (go_at_call 9; (with_reducible refine (FW.out _ S0.1).mono ?_); rintro e w' ⟨rfl, hb⟩; have S0 := KP.out _ (S0.1.trans (hb.out.mono S0.1.size))) | (go_at_call 10; (with_reducible refine (AW.out _ S0.1).mono ?_); rintro e w' ⟨rfl, hb⟩; have S0 := KP.out _ (S0.1.trans (hb.out.mono S0.1.size))))
    go_ret
    exact ⟨rfl, BW.out _ S0.1⟩
  | true =>
    rw [hf] at FW
    have SA := Lib.hid (few_smallA hf)
    clear hf
    have CK := Lib.hid (fun W (hb : Below (w.alloc (.cells #[.string old, .string new, .slice a n cap] 24)).heap.size (w.alloc (.cells #[.string old, .string new, .slice a n cap] 24)) W) => check_any old new L (.slice a n cap) W (HVH.out.below (BW.out W hb)) SA.out.h)
    have RK := Lib.hid (fun W (hb : Below (w.alloc (.cells #[.string old, .string new, .slice a n cap] 24)).heap.size (w.alloc (.cells #[.string old, .string new, .slice a n cap] 24)) W) => rcheck_any old new L (.slice a n cap) W (HVH.out.below (BW.out W hb)) SA.out.h)
    have RV := Lib.hid (fun W (hb : Below (w.alloc (.cells #[.string old, .string new, .slice a n cap] 24)).heap.size (w.alloc (.cells #[.string old, .string new, .slice a n cap] 24)) W) => reverse_any old new L (.slice a n cap) W (HVH.out.below (BW.out W hb)) SA.out.r)
    have RR := Lib.hid (fun W (hb : Below (w.alloc (.cells #[.string old, .string new, .slice a n cap] 24)).heap.size (w.alloc (.cells #[.string old, .string new, .slice a n cap] 24)) W) => rreverse_any old new L (.slice a n cap) W (HVH.out.below (BW.out W hb)) SA.out.r)
    have SM := Lib.hid (fun (M : List HV) (e : M.map (·.1) = L.map (fun p => revH p.1)) => (smallA_rev SA.out e).h)
    obtain ⟨c, hc⟩ : ∃ c, chk (L.map (·.1)) = c := ⟨_, rfl⟩
    rw [hc] at CK RK
    clear hc
    go_enter Tryd.func6, Tryd.ntmps6
    go_upto_region 3 with (first | (go_at_call 9; (with_reducible refine (FW.out _ S0.1).mono ?_); rintro e w' ⟨rfl, hb⟩; have S0 := KP.out _ (S0.1.trans (hb.out.mono S0.1.size))))
    have S0 := KP.out _ (S0.1.drew)
    go_region_held3 (fun w' => Below (w.alloc (.cells #[.string old, .string new, .slice a n cap] 24)).heap.size (w.alloc (.cells #[.string old, .string new, .slice a n cap] 24)) w' ∧ w'.cell? ⟨w.heap.size, 0, none⟩ = some (.string old) ∧ w'.cell? ⟨w.heap.size, 1, none⟩ = some (.string new) ∧ w'.cell? ⟨w.heap.size, 2, none⟩ = some (.slice a n cap)) (first | exact S0) (first | (go_at_call 20; (with_reducible refine (CK.out _ S0.1).mono ?_); rintro e w' ⟨rfl, hb⟩; have S0 := KP.out _ (S0.1.trans (hb.out.mono S0.1.size))) | (go_at_call 21; (with_reducible refine (RK.out _ S0.1).mono ?_); rintro e w' ⟨rfl, hb⟩; have S0 := KP.out _ (S0.1.trans (hb.out.mono S0.1.size))) | (go_at_call 23; (with_reducible refine (RV.out _ S0.1).mono ?_); rintro e w' ⟨v1, M1, rfl, h1, H1, hb⟩; have S0 := KP.out _ (S0.1.trans (hb.out.mono S0.1.size))) | (go_at_call 24; (with_reducible refine (RR.out _ S0.1).mono ?_); rintro e w' ⟨v2, M2, rfl, h2, H2, hb⟩; have H13 := Lib.hid (H1.out.below hb.out); have S0 := KP.out _ (S0.1.trans (hb.out.mono S0.1.size))) | (go_at_call 22; (with_reducible refine (samepatch_eq new old M1 M2 v1 v2 _ H13.out H2.out (h1.out.trans h2.out.symm) (SM.out M1 h1.out)).mono ?_); rintro e w' ⟨rfl, hb⟩; have S0 := KP.out _ (S0.1.trans (hb.out.mono S0.1.size))) | (go_at_call 10; (with_reducible refine (AW.out _ S0.1).mono ?_); rintro e w' ⟨rfl, hb⟩; have S0 := KP.out _ (S0.1.trans (hb.out.mono S0.1.size))))
    go_wp2_with (first | (go_at_call 20; (with_reducible refine (CK.out _ S0.1).mono ?_); rintro e w' ⟨rfl, hb⟩; have S0 := KP.out _ (S0.1.trans (hb.out.mono S0.1.size))) | (go_at_call 21; (with_reducible refine (RK.out _ S0.1).mono ?_); rintro e w' ⟨rfl, hb⟩; have S0 := KP.out _ (S0.1.trans (hb.out.mono S0.1.size))) | (go_at_call 23; (with_reducible refine (RV.out _ S0.1).mono ?_); rintro e w' ⟨v1, M1, rfl, h1, H1, hb⟩; have S0 := KP.out _ (S0.1.trans (hb.out.mono S0.1.size))) | (go_at_call 24; (with_reducible refine (RR.out _ S0.1).mono ?_); rintro e w' ⟨v2, M2, rfl, h2, H2, hb⟩; have H13 := Lib.hid (H1.out.below hb.out); have S0 := KP.out _ (S0.1.trans (hb.out.mono S0.1.size))) | (go_at_call 22; (with_reducible refine (samepatch_eq new old M1 M2 v1 v2 _ H13.out H2.out (h1.out.trans h2.out.symm) (SM.out M1 h1.out)).mono ?_); rintro e w' ⟨rfl, hb⟩; have S0 := KP.out _ (S0.1.trans (hb.out.mono S0.1.size))) | (go_at_call 10; (with_reducible refine (AW.out _ S0.1).mono ?_); rintro e w' ⟨rfl, hb⟩; have S0 := KP.out _ (S0.1.trans (hb.out.mono S0.1.size))))
    go_ret
    exact ⟨rfl, BW.out _ S0.1⟩
end Go.Proofs.YtnkpigibjicmaaaDoor
