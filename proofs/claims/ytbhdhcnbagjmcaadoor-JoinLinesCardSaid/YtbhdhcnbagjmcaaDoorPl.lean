/- walks: the joiner's state; the closure group of Join (written by gen_pl.py) -/
import Derived.Test.YtbhdhcnbagjmcaaDoorPk
namespace Go.Proofs.YtbhdhcnbagjmcaaDoor
open Go.RowKit Go.Maps Go.WideMaps
open Jn Lcl
abbrev scells (f1 f2 sep : Int) (lf rt pr : Bool) (em : ByteArray) (vo : Value) : Array Value := #[.int .i64 f1, .int .i64 f2, .int .i64 sep, .bool lf, .bool rt, .bool pr, .string em, vo]
/-- what the joiner needs of memory: vb holds the pointer to the joiner jb, pb the specification, mb the map; n splits so far; lists from B on; X is the block of out -/
structure JS (f1 f2 sep m : Int) (lf rt pr : Bool) (em : ByteArray) (vo vout : Value) (vb pb jb mb B : Nat) (X : Option Nat) (n : Nat) (w : World) : Prop where
  hm : w.cell? ⟨0, 0, none⟩ = some (.int .i64 m)
  hj : w.heap[jb]? = some (.cells (jcells f1 f2 sep lf rt pr em vo mb vout) 64 (0, 0))
  hv : w.cell? ⟨vb, 0, none⟩ = some (.pointer (some ⟨jb, 0, none⟩))
  hp : w.heap[pb]? = some (.cells (scells f1 f2 sep lf rt pr em vo) 36 (0, 0))
  hc : Cache w mb n B X sep
  nv : vb ≠ mb
  np : pb ≠ mb
  nj : jb ≠ mb
  nm : 0 ≠ mb
  nm2 : 0 ≠ jb
  njv : vb ≠ jb
  njp : pb ≠ jb
  bm : mb < B
  bv : vb < B
  bp : pb < B
  bj : jb < B
  bMax : 0 < B
  bw : B ≤ w.heap.size
  hX : ∀ g, X = some g → B ≤ g ∧ g < w.heap.size
section
variable {f1 f2 sep m : Int} {lf rt pr : Bool} {em : ByteArray} {vo vout : Value} {vb pb jb mb n B : Nat} {X : Option Nat} {w : World}
theorem JS.below {w' : World} (h : JS f1 f2 sep m lf rt pr em vo vout vb pb jb mb B X n w) (hb : Below w.heap.size w w') : JS f1 f2 sep m lf rt pr em vo vout vb pb jb mb B X n w' where
  hm := kp hb h.hm
  hj := (hb.block _ (Nat.lt_of_lt_of_le h.bj h.bw)).trans h.hj
  hv := kp hb h.hv
  hp := (hb.block _ (Nat.lt_of_lt_of_le h.bp h.bw)).trans h.hp
  hc := h.hc.below hb
  nv := h.nv
  np := h.np
  nj := h.nj
  nm := h.nm
  nm2 := h.nm2
  njv := h.njv
  njp := h.njp
  bm := h.bm
  bv := h.bv
  bp := h.bp
  bj := h.bj
  bMax := h.bMax
  bw := Nat.le_trans h.bw hb.size
  hX := fun g hg => ⟨(h.hX g hg).1, Nat.lt_of_lt_of_le (h.hX g hg).2 hb.size⟩
theorem JS.drew (h : JS f1 f2 sep m lf rt pr em vo vout vb pb jb mb B X n w) : JS f1 f2 sep m lf rt pr em vo vout vb pb jb mb B X n w.drew := h.below (Below.refl _ _).drew
theorem JS.grown {w' : World} {n' : Nat} (h : JS f1 f2 sep m lf rt pr em vo vout vb pb jb mb B X n w) (hg : w.grownBy w' (some mb)) (hc : Cache w' mb n' B X sep) : JS f1 f2 sep m lf rt pr em vo vout vb pb jb mb B X n' w' where
  hm := kg hg (fun e => h.nm (Option.some.inj e).symm) h.hm
  hj := (hg.block _ (Nat.lt_of_lt_of_le h.bj h.bw) (fun e => h.nj (Option.some.inj e))).trans h.hj
  hv := kg hg (fun e => h.nv (Option.some.inj e).symm) h.hv
  hp := (hg.block _ (Nat.lt_of_lt_of_le h.bp h.bw) (fun e => h.np (Option.some.inj e))).trans h.hp
  hc := hc
  nv := h.nv
  np := h.np
  nj := h.nj
  nm := h.nm
  nm2 := h.nm2
  njv := h.njv
  njp := h.njp
  bm := h.bm
  bv := h.bv
  bp := h.bp
  bj := h.bj
  bMax := h.bMax
  bw := Nat.le_trans h.bw hg.size
  hX := fun g hg' => ⟨(h.hX g hg').1, Nat.lt_of_lt_of_le (h.hX g hg').2 hg.size⟩
theorem JS.mono (h : JS f1 f2 sep m lf rt pr em vo vout vb pb jb mb B X n w) : ∀ {n' : Nat}, n ≤ n' → JS f1 f2 sep m lf rt pr em vo vout vb pb jb mb B X n' w := by
  intro n' hn
  induction hn with
  | refl => exact h
  | step _ ih => exact { ih with hc := ih.hc.mono_n }
theorem JS.split (h : JS f1 f2 sep m lf rt pr em vo vout vb pb jb mb B X n w) (s : ByteArray) (hn : n ≤ 1048576) (hs : s.size ≤ 1048576) :
    Calls Tryd.prog 37 #[.pointer (some ⟨jb, 0, none⟩), .string s] w fun e w' => ∃ v, e = .returned v ∧ Hid (LSt w' v (fieldsL sep s.data.toList) ∧ ∀ g, v.ownBlock = some g → B ≤ g ∧ g < w'.heap.size) ∧ Hid (JS f1 f2 sep m lf rt pr em vo vout vb pb jb mb B X (n + 1) w') ∧ Hid (w.grownBy w' (some mb)) :=
  (jsplit_any s f1 f2 sep m lf rt pr em vo vout jb mb n B X w h.hm h.hj h.hc h.bm h.bw (fun g hg => (h.hX g hg).2) h.nj hn hs).mono fun _ _ ⟨v, e1, e2, e3, e4⟩ => ⟨v, e1, e2, Lib.hid (h.grown e4.out e3.out), e4⟩
theorem JS.left (h : JS f1 f2 sep m lf rt pr em vo vout vb pb jb mb B X n w) (s : ByteArray) (hn : n ≤ 1048576) (hs : s.size ≤ 1048576) :
    Calls Tryd.prog 36 #[.string s, .pointer (some ⟨vb, 0, none⟩), .pointer (some ⟨pb, 0, none⟩)] w fun e w' => e = .returned (.string (bA (keyL sep f1 s.data.toList))) ∧ Hid (JS f1 f2 sep m lf rt pr em vo vout vb pb jb mb B X (n + 1) w') ∧ Hid (w.grownBy w' (some mb)) :=
  (left_any s f1 f2 sep m lf rt pr em vo vout vb pb jb mb n B X w h.hm h.hj h.hv (blk_cellx h.hp 0 _ rfl) h.nv h.np h.hc h.bm h.bw (fun g hg => (h.hX g hg).2) h.nj hn hs).mono fun _ _ ⟨e1, e3, e4⟩ => ⟨e1, Lib.hid (h.grown e4.out e3.out), e4⟩
theorem JS.right (h : JS f1 f2 sep m lf rt pr em vo vout vb pb jb mb B X n w) (s : ByteArray) (hn : n ≤ 1048576) (hs : s.size ≤ 1048576) :
    Calls Tryd.prog 38 #[.string s, .pointer (some ⟨vb, 0, none⟩), .pointer (some ⟨pb, 0, none⟩)] w fun e w' => e = .returned (.string (bA (keyL sep f2 s.data.toList))) ∧ Hid (JS f1 f2 sep m lf rt pr em vo vout vb pb jb mb B X (n + 1) w') ∧ Hid (w.grownBy w' (some mb)) :=
  (right_any s f1 f2 sep m lf rt pr em vo vout vb pb jb mb n B X w h.hm h.hj h.hv (blk_cellx h.hp 1 _ rfl) h.nv h.np h.hc h.bm h.bw (fun g hg => (h.hX g hg).2) h.nj hn hs).mono fun _ _ ⟨e1, e3, e4⟩ => ⟨e1, Lib.hid (h.grown e4.out e3.out), e4⟩
end
theorem bel_drewN (w : World) (n : Nat) : Below w.heap.size w (w.drewN n) := ⟨rfl, rfl, rfl, Nat.le_refl _, fun _ _ => rfl⟩
/-- how many more lines have a key -/
def grM (key : List UInt8 → List UInt8) (k0 : List UInt8) (l : List (List UInt8)) : Nat := (l.takeWhile fun y => decide (key y = k0)).length
theorem grM_yes {key : List UInt8 → List UInt8} {k0 x : List UInt8} {l : List (List UInt8)} (h : key x = k0) : grM key k0 (x :: l) = grM key k0 l + 1 := by
  unfold grM; rw [List.takeWhile_cons_of_pos (by simpa using h)]; rfl
theorem grM_no {key : List UInt8 → List UInt8} {k0 x : List UInt8} {l : List (List UInt8)} (h : ¬ key x = k0) : grM key k0 (x :: l) = 0 := by
  unfold grM; rw [List.takeWhile_cons_of_neg (by simpa using h)]; rfl
theorem bA_ne {a b : List UInt8} (h : ¬ a = b) : ¬ bA a = bA b := fun e => h (by have := congrArg (fun x => x.data.toList) e; simpa using this)
set_option maxRecDepth 100000 in
set_option maxHeartbeats 4000000 in
theorem group1_any (L : List ByteArray) (v : Value) (f1 f2 sep m : Int) (lf rt pr : Bool) (em : ByteArray) (vo vout : Value) (vb pb jb mb B : Nat) (X : Option Nat) (n : Nat) (w : World) (H : JS f1 f2 sep m lf rt pr em vo vout vb pb jb mb B X n w) (hv : Strs w v L) (h0 : L ≠ []) (hl : L.length ≤ 12) (hs : ∀ x ∈ L, x.size ≤ 1048576) (hn : n ≤ 1048000) (hg : ∀ g, v.ownBlock = some g → g ≠ mb) :
    Calls Tryd.prog 39 #[v, .func (.func 36) #[] #[.pointer (some ⟨vb, 0, none⟩), .pointer (some ⟨pb, 0, none⟩)]] w fun e w' => e = .returned (.int .i64 (grpN (keyL sep f1) (L.map (·.data.toList)) : Nat)) ∧ Hid (JS f1 f2 sep m lf rt pr em vo vout vb pb jb mb B X (n + 24) w') ∧ Hid (w.grownBy w' (some mb)) := by
  obtain ⟨q, hq⟩ : ∃ q, L.length = q := ⟨_, rfl⟩
  have HQ := Lib.hid hq
  rw [hq] at hl
  obtain ⟨g, o, cap, rfl, -, -, -, hc⟩ := Strs.cons hv h0
  have HC := Lib.hid hc
  have NG : Hid (some mb ≠ some g) := Lib.hid (fun e => hg g rfl (Option.some.inj e).symm)
  have HS := Lib.hid hs
  have HJ0 := Lib.hid H
  have HN := Lib.hid hn
  obtain ⟨y, hy⟩ : ∃ y, L[0]? = some y := ⟨_, List.getElem?_eq_getElem (List.length_pos_iff.2 h0)⟩
  have y0 := hc 0 y hy
  rw [Nat.add_zero] at y0
  have Y0 := Lib.hid y0
  have HK : Hid (grpN (keyL sep f1) (L.map (·.data.toList)) = 1 + grM (keyL sep f1) (keyL sep f1 y.data.toList) ((L.map (·.data.toList)).drop 1)) := Lib.hid (by
    cases L with
    | nil => exact absurd rfl h0
    | cons a t => simp at hy; subst hy; rfl)
  have ZY := HS.out y (List.mem_of_getElem? hy)
  have KY := Lib.hid (fun W N (h : JS f1 f2 sep m lf rt pr em vo vout vb pb jb mb B X (N) W) (hN : N ≤ 1048576) => h.left y hN ZY)
  have q1 : 1 ≤ q := by rw [← hq]; exact List.length_pos_iff.2 h0
  rw [hq]
  clear H hv h0 hs hn hg hc y0 ZY hq hy
  go_enter Tryd.func39, Tryd.ntmps39
  go_wp2_with fail
  go_loopw [5] (fun i wr => ∃ k : Nat, i = .int .i64 (k : Int) ∧ 1 ≤ k ∧ k ≤ q ∧ Hid (grpN (keyL sep f1) (L.map (·.data.toList)) = k + grM (keyL sep f1) (keyL sep f1 y.data.toList) ((L.map (·.data.toList)).drop k)) ∧ Hid (JS f1 f2 sep m lf rt pr em vo vout vb pb jb mb B X (n + 2 * k) wr) ∧ Hid (w.grownBy wr (some mb))) (fun i _ => q + 1 - (intOf i).toNat)
  case atStart => exact ⟨1, rfl, Nat.le_refl _, q1, HK, Lib.hid (HJ0.out.mono (by omega)), Lib.hid (grown_of_below (Below.refl _ _) _)⟩
  case round =>
    obtain ⟨k, rfl, hk1, hk, HU, HJ, BK⟩ := hrel
    clear HJ0 HK
    by_cases hlt : k < q
    · obtain ⟨x, hx⟩ : ∃ x, L[k]? = some x := ⟨_, List.getElem?_eq_getElem (by rw [HQ.out]; exact hlt)⟩
      have e0 := Lib.hid (kg BK.out NG.out (HC.out k x hx))
      have e1 := Lib.hid (kg BK.out NG.out Y0.out)
      have z0 : Hid (n + 2 * k ≤ 1048576) := Lib.hid (by have := HN.out; omega)
      have z1 : Hid (n + 2 * k + 1 ≤ 1048576) := Lib.hid (by have := HN.out; omega)
      have ZX := HS.out x (List.mem_of_getElem? hx)
      have KX := Lib.hid (fun W N (h : JS f1 f2 sep m lf rt pr em vo vout vb pb jb mb B X (N) W) (hN : N ≤ 1048576) => h.left x hN ZX)
      have S0 := And.intro (grown_of_below (Below.refl wr.heap.size wr).drew (some mb)) (And.intro e0.out e1.out)
      have m1 : (L.map (·.data.toList))[k]? = some x.data.toList := by rw [List.getElem?_map, hx]; rfl
      have DR := Lib.hid (drop_get m1)
      have p4 : ((k : Int) + 1).toNat = k + 1 := by omega
      have p0 : (0 : Int) ≤ (k : Int) := by omega
      have p1 : (k : Int) < (q : Int) := by omega
      have p2 : 0 < q := by omega
      have p3 : IntKind.i64.wrap (k : Int) = (k : Int) := IntWalk.i64_in _ (by omega)
      clear hx ZX m1
      by_cases hkey : keyL sep f1 x.data.toList = keyL sep f1 y.data.toList
      · have HU2 : Hid (grpN (keyL sep f1) (L.map (·.data.toList)) = (k + 1 : Nat) + grM (keyL sep f1) (keyL sep f1 y.data.toList) ((L.map (·.data.toList)).drop (k + 1))) := Lib.hid (by rw [HU.out, DR.out, grM_yes hkey]; omega)
        obtain ⟨u, hu⟩ : ∃ u, keyL sep f1 y.data.toList = u := ⟨_, rfl⟩
        rw [hkey, hu] at KX
        rw [hu] at KY
        clear HU DR hkey hu
        go_wp2_with fail
        go_region_held3 (fun w' => wr.grownBy w' (some mb) ∧ w'.cell? ⟨g, o + k, none⟩ = some (.string x) ∧ w'.cell? ⟨g, o, none⟩ = some (.string y)) (first | exact S0) (first | (go_at_call 36; (first | (with_reducible refine (KX.out _ _ HJ.out.drew z0.out).mono ?_) | (with_reducible refine (KY.out _ _ HJ.out.drew z0.out).mono ?_)); rintro _ w1 ⟨rfl, J1, G1⟩; have S0 := And.intro (S0.1.trans G1.out) (And.intro (kg (S0.1.trans G1.out) NG.out e0.out) (kg (S0.1.trans G1.out) NG.out e1.out))) | (go_at_call 36; (first | (with_reducible refine (KX.out _ _ J1.out z1.out).mono ?_) | (with_reducible refine (KY.out _ _ J1.out z1.out).mono ?_)); rintro _ w2 ⟨rfl, J2, G2⟩; have S0 := And.intro (S0.1.trans G2.out) (And.intro (kg (S0.1.trans G2.out) NG.out e0.out) (kg (S0.1.trans G2.out) NG.out e1.out))))
        go_wp2_with fail
        go_roundw
        case rel => exact ⟨k + 1, by go_num, by omega, by omega, HU2, J2, Lib.hid (BK.out.trans S0.1)⟩
        case measure => simp [intOf]; omega
      · have HU2 : Hid (grpN (keyL sep f1) (L.map (·.data.toList)) = k) := Lib.hid (by rw [HU.out, DR.out, grM_no hkey]; omega)
        have hne := bA_ne hkey
        obtain ⟨u, hu⟩ : ∃ u, bA (keyL sep f1 x.data.toList) = u := ⟨_, rfl⟩
        obtain ⟨v, hv⟩ : ∃ v, bA (keyL sep f1 y.data.toList) = v := ⟨_, rfl⟩
        rw [hu] at KX hne
        rw [hv] at KY hne
        have hne2 : (u.toList == v.toList) = false := by rw [str_beq]; exact decide_eq_false (fun e => hne (by cases u; cases v; simpa using e))
        clear HU DR hkey hu hv
        go_wp2_with fail
        go_region_held3 (fun w' => wr.grownBy w' (some mb) ∧ w'.cell? ⟨g, o + k, none⟩ = some (.string x) ∧ w'.cell? ⟨g, o, none⟩ = some (.string y)) (first | exact S0) (first | (go_at_call 36; (first | (with_reducible refine (KX.out _ _ HJ.out.drew z0.out).mono ?_) | (with_reducible refine (KY.out _ _ HJ.out.drew z0.out).mono ?_)); rintro _ w1 ⟨rfl, J1, G1⟩; have S0 := And.intro (S0.1.trans G1.out) (And.intro (kg (S0.1.trans G1.out) NG.out e0.out) (kg (S0.1.trans G1.out) NG.out e1.out))) | (go_at_call 36; (first | (with_reducible refine (KX.out _ _ J1.out z1.out).mono ?_) | (with_reducible refine (KY.out _ _ J1.out z1.out).mono ?_)); rintro _ w2 ⟨rfl, J2, G2⟩; have S0 := And.intro (S0.1.trans G2.out) (And.intro (kg (S0.1.trans G2.out) NG.out e0.out) (kg (S0.1.trans G2.out) NG.out e1.out))))
        go_wp2_with fail
        go_ret
        exact ⟨by rw [HU2.out]; rfl, Lib.hid (J2.out.mono (by omega)), Lib.hid (BK.out.trans S0.1)⟩
    · obtain rfl : k = q := by omega
      have HU2 : Hid (grpN (keyL sep f1) (L.map (·.data.toList)) = k) := Lib.hid (by rw [HU.out, List.drop_eq_nil_of_le (by rw [List.length_map, HQ.out]; exact Nat.le_refl _)]; rfl)
      clear HU KY
      go_wp2_with fail
      go_quiet (fail)
      go_wp2_with fail
      go_ret
      exact ⟨by rw [HU2.out]; rfl, Lib.hid ((HJ.out.below (bel_drewN _ _)).mono (by omega)), Lib.hid (BK.out.trans (grown_of_below (bel_drewN _ _) _))⟩
set_option maxRecDepth 100000 in
set_option maxHeartbeats 4000000 in
theorem group2_any (L : List ByteArray) (v : Value) (f1 f2 sep m : Int) (lf rt pr : Bool) (em : ByteArray) (vo vout : Value) (vb pb jb mb B : Nat) (X : Option Nat) (n : Nat) (w : World) (H : JS f1 f2 sep m lf rt pr em vo vout vb pb jb mb B X n w) (hv : Strs w v L) (h0 : L ≠ []) (hl : L.length ≤ 12) (hs : ∀ x ∈ L, x.size ≤ 1048576) (hn : n ≤ 1048000) (hg : ∀ g, v.ownBlock = some g → g ≠ mb) :
    Calls Tryd.prog 39 #[v, .func (.func 38) #[] #[.pointer (some ⟨vb, 0, none⟩), .pointer (some ⟨pb, 0, none⟩)]] w fun e w' => e = .returned (.int .i64 (grpN (keyL sep f2) (L.map (·.data.toList)) : Nat)) ∧ Hid (JS f1 f2 sep m lf rt pr em vo vout vb pb jb mb B X (n + 24) w') ∧ Hid (w.grownBy w' (some mb)) := by
  obtain ⟨q, hq⟩ : ∃ q, L.length = q := ⟨_, rfl⟩
  have HQ := Lib.hid hq
  rw [hq] at hl
  obtain ⟨g, o, cap, rfl, -, -, -, hc⟩ := Strs.cons hv h0
  have HC := Lib.hid hc
  have NG : Hid (some mb ≠ some g) := Lib.hid (fun e => hg g rfl (Option.some.inj e).symm)
  have HS := Lib.hid hs
  have HJ0 := Lib.hid H
  have HN := Lib.hid hn
  obtain ⟨y, hy⟩ : ∃ y, L[0]? = some y := ⟨_, List.getElem?_eq_getElem (List.length_pos_iff.2 h0)⟩
  have y0 := hc 0 y hy
  rw [Nat.add_zero] at y0
  have Y0 := Lib.hid y0
  have HK : Hid (grpN (keyL sep f2) (L.map (·.data.toList)) = 1 + grM (keyL sep f2) (keyL sep f2 y.data.toList) ((L.map (·.data.toList)).drop 1)) := Lib.hid (by
    cases L with
    | nil => exact absurd rfl h0
    | cons a t => simp at hy; subst hy; rfl)
  have ZY := HS.out y (List.mem_of_getElem? hy)
  have KY := Lib.hid (fun W N (h : JS f1 f2 sep m lf rt pr em vo vout vb pb jb mb B X (N) W) (hN : N ≤ 1048576) => h.right y hN ZY)
  have q1 : 1 ≤ q := by rw [← hq]; exact List.length_pos_iff.2 h0
  rw [hq]
  clear H hv h0 hs hn hg hc y0 ZY hq hy
  go_enter Tryd.func39, Tryd.ntmps39
  go_wp2_with fail
  go_loopw [5] (fun i wr => ∃ k : Nat, i = .int .i64 (k : Int) ∧ 1 ≤ k ∧ k ≤ q ∧ Hid (grpN (keyL sep f2) (L.map (·.data.toList)) = k + grM (keyL sep f2) (keyL sep f2 y.data.toList) ((L.map (·.data.toList)).drop k)) ∧ Hid (JS f1 f2 sep m lf rt pr em vo vout vb pb jb mb B X (n + 2 * k) wr) ∧ Hid (w.grownBy wr (some mb))) (fun i _ => q + 1 - (intOf i).toNat)
  case atStart => exact ⟨1, rfl, Nat.le_refl _, q1, HK, Lib.hid (HJ0.out.mono (by omega)), Lib.hid (grown_of_below (Below.refl _ _) _)⟩
  case round =>
    obtain ⟨k, rfl, hk1, hk, HU, HJ, BK⟩ := hrel
    clear HJ0 HK
    by_cases hlt : k < q
    · obtain ⟨x, hx⟩ : ∃ x, L[k]? = some x := ⟨_, List.getElem?_eq_getElem (by rw [HQ.out]; exact hlt)⟩
      have e0 := Lib.hid (kg BK.out NG.out (HC.out k x hx))
      have e1 := Lib.hid (kg BK.out NG.out Y0.out)
      have z0 : Hid (n + 2 * k ≤ 1048576) := Lib.hid (by have := HN.out; omega)
      have z1 : Hid (n + 2 * k + 1 ≤ 1048576) := Lib.hid (by have := HN.out; omega)
      have ZX := HS.out x (List.mem_of_getElem? hx)
      have KX := Lib.hid (fun W N (h : JS f1 f2 sep m lf rt pr em vo vout vb pb jb mb B X (N) W) (hN : N ≤ 1048576) => h.right x hN ZX)
      have S0 := And.intro (grown_of_below (Below.refl wr.heap.size wr).drew (some mb)) (And.intro e0.out e1.out)
      have m1 : (L.map (·.data.toList))[k]? = some x.data.toList := by rw [List.getElem?_map, hx]; rfl
      have DR := Lib.hid (drop_get m1)
      have p4 : ((k : Int) + 1).toNat = k + 1 := by omega
      have p0 : (0 : Int) ≤ (k : Int) := by omega
      have p1 : (k : Int) < (q : Int) := by omega
      have p2 : 0 < q := by omega
      have p3 : IntKind.i64.wrap (k : Int) = (k : Int) := IntWalk.i64_in _ (by omega)
      clear hx ZX m1
      by_cases hkey : keyL sep f2 x.data.toList = keyL sep f2 y.data.toList
      · have HU2 : Hid (grpN (keyL sep f2) (L.map (·.data.toList)) = (k + 1 : Nat) + grM (keyL sep f2) (keyL sep f2 y.data.toList) ((L.map (·.data.toList)).drop (k + 1))) := Lib.hid (by rw [HU.out, DR.out, grM_yes hkey]; omega)
        obtain ⟨u, hu⟩ : ∃ u, keyL sep f2 y.data.toList = u := ⟨_, rfl⟩
        rw [hkey, hu] at KX
        rw [hu] at KY
        clear HU DR hkey hu
        go_wp2_with fail
        go_region_held3 (fun w' => wr.grownBy w' (some mb) ∧ w'.cell? ⟨g, o + k, none⟩ = some (.string x) ∧ w'.cell? ⟨g, o, none⟩ = some (.string y)) (first | exact S0) (first | (go_at_call 38; (first | (with_reducible refine (KX.out _ _ HJ.out.drew z0.out).mono ?_) | (with_reducible refine (KY.out _ _ HJ.out.drew z0.out).mono ?_)); rintro _ w1 ⟨rfl, J1, G1⟩; have S0 := And.intro (S0.1.trans G1.out) (And.intro (kg (S0.1.trans G1.out) NG.out e0.out) (kg (S0.1.trans G1.out) NG.out e1.out))) | (go_at_call 38; (first | (with_reducible refine (KX.out _ _ J1.out z1.out).mono ?_) | (with_reducible refine (KY.out _ _ J1.out z1.out).mono ?_)); rintro _ w2 ⟨rfl, J2, G2⟩; have S0 := And.intro (S0.1.trans G2.out) (And.intro (kg (S0.1.trans G2.out) NG.out e0.out) (kg (S0.1.trans G2.out) NG.out e1.out))))
        go_wp2_with fail
        go_roundw
        case rel => exact ⟨k + 1, by go_num, by omega, by omega, HU2, J2, Lib.hid (BK.out.trans S0.1)⟩
        case measure => simp [intOf]; omega
      · have HU2 : Hid (grpN (keyL sep f2) (L.map (·.data.toList)) = k) := Lib.hid (by rw [HU.out, DR.out, grM_no hkey]; omega)
        have hne := bA_ne hkey
        obtain ⟨u, hu⟩ : ∃ u, bA (keyL sep f2 x.data.toList) = u := ⟨_, rfl⟩
        obtain ⟨v, hv⟩ : ∃ v, bA (keyL sep f2 y.data.toList) = v := ⟨_, rfl⟩
        rw [hu] at KX hne
        rw [hv] at KY hne
        have hne2 : (u.toList == v.toList) = false := by rw [str_beq]; exact decide_eq_false (fun e => hne (by cases u; cases v; simpa using e))
        clear HU DR hkey hu hv
        go_wp2_with fail
        go_region_held3 (fun w' => wr.grownBy w' (some mb) ∧ w'.cell? ⟨g, o + k, none⟩ = some (.string x) ∧ w'.cell? ⟨g, o, none⟩ = some (.string y)) (first | exact S0) (first | (go_at_call 38; (first | (with_reducible refine (KX.out _ _ HJ.out.drew z0.out).mono ?_) | (with_reducible refine (KY.out _ _ HJ.out.drew z0.out).mono ?_)); rintro _ w1 ⟨rfl, J1, G1⟩; have S0 := And.intro (S0.1.trans G1.out) (And.intro (kg (S0.1.trans G1.out) NG.out e0.out) (kg (S0.1.trans G1.out) NG.out e1.out))) | (go_at_call 38; (first | (with_reducible refine (KX.out _ _ J1.out z1.out).mono ?_) | (with_reducible refine (KY.out _ _ J1.out z1.out).mono ?_)); rintro _ w2 ⟨rfl, J2, G2⟩; have S0 := And.intro (S0.1.trans G2.out) (And.intro (kg (S0.1.trans G2.out) NG.out e0.out) (kg (S0.1.trans G2.out) NG.out e1.out))))
        go_wp2_with fail
        go_ret
        exact ⟨by rw [HU2.out]; rfl, Lib.hid (J2.out.mono (by omega)), Lib.hid (BK.out.trans S0.1)⟩
    · obtain rfl : k = q := by omega
      have HU2 : Hid (grpN (keyL sep f2) (L.map (·.data.toList)) = k) := Lib.hid (by rw [HU.out, List.drop_eq_nil_of_le (by rw [List.length_map, HQ.out]; exact Nat.le_refl _)]; rfl)
      clear HU KY
      go_wp2_with fail
      go_quiet (fail)
      go_wp2_with fail
      go_ret
      exact ⟨by rw [HU2.out]; rfl, Lib.hid ((HJ.out.below (bel_drewN _ _)).mono (by omega)), Lib.hid (BK.out.trans (grown_of_below (bel_drewN _ _) _))⟩
end Go.Proofs.YtbhdhcnbagjmcaaDoor
