/- walks: reversed lines, both (written by gen_vi.py) -/
import Derived.Test.YtnkpigibjicmaaaDoorVh
namespace Go.Proofs.YtnkpigibjicmaaaDoor
open Go.RowKit Go.Maps
open Pt
/-- lists of the call's own, whose blocks are apart -/
def apart (u v : Value) : Prop := u.ownBlock = none ∨ v.ownBlock = none ∨ u.ownBlock ≠ v.ownBlock
theorem apart.symm {u v : Value} (h : apart u v) : apart v u := by
  rcases h with h | h | h
  · exact .inr (.inl h)
  · exact .inl h
  · exact .inr (.inr (Ne.symm h))
/-- where an append puts its list: where it was, or in a new block -/
def putAt (n : Nat) (v v' : Value) : Prop := v'.ownBlock = v.ownBlock ∨ ∃ g, v'.ownBlock = some g ∧ n ≤ g
theorem apart.put {u v v' : Value} {n : Nat} (h : apart u v) (hp : putAt n v v') (hu : ∀ g, u.ownBlock = some g → g < n) : apart u v' := by
  rcases hp with e | ⟨g, e, hg⟩
  · unfold apart at *; rw [e]; exact h
  · cases hub : u.ownBlock with
    | none => exact .inl hub
    | some b =>
      refine .inr (.inr ?_)
      rw [hub, e]
      intro e2
      have := hu b hub
      have := Option.some.inj e2
      omega
theorem OwnR.kept {w w' : World} {B k : Nat} {T : TypeId} {v : Value} {l : List (List Value)} {row : Option Nat} (h : OwnR w B T k v l) (g : w.grownBy w' row) (hne : v.ownBlock = none ∨ v.ownBlock ≠ row) : OwnR w' B T k v l := World.ownsRow.kept h g hne
theorem grown_refl (w : World) (r : Option Nat) : w.grownBy w r := ⟨rfl, rfl, rfl, Nat.le_refl _, fun _ _ _ => rfl⟩
/-- append of a list of the call's own -/
theorem append_own2 {ts T : TypeId} {z : Value} {k bytes : Nat} (rt : RT ts T z k bytes) {ops : Array Oper} {rest : List Oper} {o : Oper} {a : Act} {Q : Exit → Act → World → Prop} (hgd : o.guard = none) (s x : Operand)
    (ho : o.op = .call { callee := .builtin .append, args := #[s, x], argTypes := #[ts, ts] }) (v v2 : Value) (l l2 : List (List Value)) (B : Nat) (w wr : World)
    (own : OwnR wr B T k v l) (h2 : RowsAt wr v2 k l2) (hn2 : l2 = [] → v2 = .slice none 0 0) (hk : ∀ x ∈ l2, x.length = k) (h1 : ∀ x ∈ l2, ∀ u ∈ x, u.oneCell' = true) (bel : Below B w wr) (hB : B ≤ wr.heap.size) (len : l.length + l2.length ≤ 1048577) (hs : a.eval s = v) (hx : a.eval x = v2)
    (h : ∀ v' w', Hid (OwnR w' B T k v' (l ++ l2)) → Hid (Below B w w') → Hid (wr.grownBy w' v.ownBlock) → Hid (putAt wr.heap.size v v') → wpList Tryd.prog ops Q rest (a.put o.dst v') w') : wpList Tryd.prog ops Q (o :: rest) a wr := by
  obtain ⟨i0, hi, hz0, hz1, hz2⟩ := info_parts rt.inf
  have hby := rt.by_
  rcases h2 with ⟨rfl, ad, rfl⟩ | ⟨g, o2, cap, rfl, c1, c2, hg, hc⟩
  · obtain rfl : ad = none := by have h9 := hn2 rfl; cases h9; rfl
    refine wpList_append_own_none hgd s x ts ho B T i0 k rt.und hi v l.length l.flatten hs own hx ?_
    exact h v wr (Lib.hid (by rw [List.append_nil]; exact own)) (Lib.hid bel) (Lib.hid (grown_refl _ _)) (Lib.hid (.inl rfl))
  · have hm : 0 < l2.length := by
      rcases Nat.eq_zero_or_pos l2.length with h0 | h0
      · have := hn2 (List.eq_nil_of_length_eq_zero h0); cases this
      · exact h0
    refine wpList_append_lies _ hgd s x ts ho B T i0 z k bytes rt.und hi hz0 hz1 hz2 rt.zk rt.pos v l.length l.flatten hs own ⟨g, o2, none⟩ l2.length cap l2.flatten hx (flat_len hk) ?_ ?_ hm ?_ ?_ hB _ rfl ?_
    · intro j u hj
      rw [Go.WideShapes.add_plain]
      have hkp := rt.pos
      have hjl : j < l2.length * k := by rw [← flat_len hk]; exact (List.getElem?_eq_some_iff.1 hj).1
      have hd : j / k < l2.length := Nat.div_lt_of_lt_mul (by rw [Nat.mul_comm]; exact hjl)
      obtain ⟨xx, hxx⟩ : ∃ xx, l2[j / k]? = some xx := ⟨_, List.getElem?_eq_getElem hd⟩
      have hm2 : j % k < xx.length := by rw [hk xx (List.mem_of_getElem? hxx)]; exact Nat.mod_lt _ hkp
      obtain ⟨y, hy⟩ : ∃ y, xx[j % k]? = some y := ⟨_, List.getElem?_eq_getElem hm2⟩
      have e := flat_at (j / k) hk hxx hy
      have ej : j / k * k + j % k = j := by rw [Nat.mul_comm]; exact Nat.div_add_mod j k
      rw [ej, hj] at e
      have := hc (j / k) xx hxx (j % k) y hy
      rw [Nat.add_assoc, ej] at this
      rw [this, Option.some.inj e]
    · intro u hu
      obtain ⟨xx, hxx, hu⟩ := List.mem_flatten.1 hu
      exact h1 xx hxx u hu
    · unfold maxLen; omega
    · exact Nat.le_trans (Nat.mul_le_mul len hby) (by decide)
    · intro g2 c w' q1 q2 q3 _
      refine h _ w' (Lib.hid ?_) (Lib.hid (bel.grown q2 hB (fun k hk => (own.lt k hk).1))) (Lib.hid q2) (Lib.hid ?_)
      · show w'.ownsRow B T k _ (l ++ l2).length (l ++ l2).flatten
        rw [List.length_append, List.flatten_append]; exact q1
      · rcases q3 with q3 | q3
        · exact .inl q3.symm
        · exact .inr ⟨g2, rfl, by omega⟩
/-- append of one row, just laid -/
theorem append_row2 {ts T : TypeId} {z : Value} {k bytes : Nat} (rt : RT ts T z k bytes) {ops : Array Oper} {rest : List Oper} {o : Oper} {a : Act} {Q : Exit → Act → World → Prop} (hgd : o.guard = none) (s x : Operand)
    (ho : o.op = .call { callee := .builtin .append, args := #[s, x], argTypes := #[ts, ts] }) (v : Value) (l : List (List Value)) (row : Array Value) (B : Nat) (w wr : World)
    (own : OwnR wr B T k v l) (hk : row.size = k) (h1 : ∀ u ∈ row.toList, u.oneCell' = true) (bel : Below B w wr) (hB : B ≤ wr.heap.size) (len : l.length ≤ 1048576) (hs : a.eval s = v) (hx : a.eval x = .slice (some ⟨wr.heap.size, 0, none⟩) 1 1)
    (h : ∀ v' w', Hid (OwnR w' B T k v' (l ++ [row.toList])) → Hid (Below B w w') → Hid (wr.grownBy w' v.ownBlock) → Hid (putAt wr.heap.size v v') → wpList Tryd.prog ops Q rest (a.put o.dst v') w') : wpList Tryd.prog ops Q (o :: rest) a (wr.alloc (.cells row T)) := by
  refine append_own2 rt hgd s x ho v _ l [row.toList] B w (wr.alloc (.cells row T)) (own.alloc _) (.inr ⟨wr.heap.size, 0, 1, rfl, Nat.le_refl _, by unfold maxLen; omega, by rw [World.size_alloc]; omega, ?_⟩) (fun e => by cases e) ?_ ?_ (bel.alloc hB _) (by rw [World.size_alloc]; omega) (by simp; omega) hs hx ?_
  · intro j y hj i u hi
    match j, hj with
    | 0, hj =>
      simp at hj; subst hj
      rw [Nat.zero_mul, Nat.zero_add]
      exact blk_cellx (heap_alloc_new wr (.cells row T)) i u (by simpa using hi)
  · intro y hy; simp at hy; subst hy; simpa using hk
  · intro y hy; simp at hy; subst hy; exact h1
  · intro v' w' q1 q2 q3 q4
    refine h v' w' q1 q2 (Lib.hid ?_) (Lib.hid ?_)
    · obtain ⟨r1, r2, r3, r4, r5⟩ := q3.out
      rw [World.size_alloc] at r4
      exact ⟨r1, r2, r3, by omega, fun i hi hp => (r5 i (by rw [World.size_alloc]; omega) hp).trans (heap_alloc_old wr _ hi)⟩
    · rcases q4.out with q4 | ⟨g, e, hg⟩
      · exact .inl q4
      · exact .inr ⟨g, e, by rw [World.size_alloc] at hg; omega⟩
/-- .. in a region that draws its order -/
theorem step_own2 {ts T : TypeId} {z : Value} {k bytes : Nat} (rt : RT ts T z k bytes) {ops : Array Oper} {o : Oper} {a : Act} {K : Act → World → Prop} {Q : Exit → Act → World → Prop} {E : Prop} (hgd : o.guard = none) (s x : Operand)
    (ho : o.op = .call { callee := .builtin .append, args := #[s, x], argTypes := #[ts, ts] }) (v v2 : Value) (l l2 : List (List Value)) (B : Nat) (w wr : World)
    (own : OwnR wr B T k v l) (h2 : RowsAt wr v2 k l2) (hn2 : l2 = [] → v2 = .slice none 0 0) (hk : ∀ x ∈ l2, x.length = k) (h1 : ∀ x ∈ l2, ∀ u ∈ x, u.oneCell' = true) (bel : Below B w wr) (hB : B ≤ wr.heap.size) (len : l.length + l2.length ≤ 1048577) (hs : a.eval s = v) (hx : a.eval x = v2)
    (h : ∀ v' w', Hid (OwnR w' B T k v' (l ++ l2)) → Hid (Below B w w') → Hid (wr.grownBy w' v.ownBlock) → Hid (putAt wr.heap.size v v') → K (a.put o.dst v') w') :
    if Region.wanted o (yielded ops a.tmps) = true then Oper.wp Tryd.prog o a wr K Q else E := by
  have hw : Region.wanted o (yielded ops a.tmps) = true := by simp [Region.wanted, hgd]
  rw [if_pos hw]
  obtain ⟨i0, hi, hz0, hz1, hz2⟩ := info_parts rt.inf
  have hby := rt.by_
  rcases h2 with ⟨rfl, ad, rfl⟩ | ⟨g, o2, cap, rfl, c1, c2, hg, hc⟩
  · obtain rfl : ad = none := by have h9 := hn2 rfl; cases h9; rfl
    have hrun := run_append_owned_none (P := Tryd.prog) (w := wr) B ts o.type T i0 k rt.und hi v l.length l.flatten own
    have hf := h v wr (Lib.hid (by rw [List.append_nil]; exact own)) (Lib.hid bel) (Lib.hid (grown_refl _ _)) (Lib.hid (.inl rfl))
    unfold Oper.wp
    simp [execOp, ho, resolve, invoke, builtin, hs, hx, hrun, Result.andThen]
    exact hf
  · have hm : 0 < l2.length := by
      rcases Nat.eq_zero_or_pos l2.length with h0 | h0
      · have := hn2 (List.eq_nil_of_length_eq_zero h0); cases this
      · exact h0
    refine wp_append_lies _ s x ts ho B T i0 z k bytes rt.und hi hz0 hz1 hz2 rt.zk rt.pos v l.length l.flatten hs own ⟨g, o2, none⟩ l2.length cap l2.flatten hx (flat_len hk) ?_ ?_ hm ?_ ?_ hB _ rfl ?_
    · intro j u hj
      rw [Go.WideShapes.add_plain]
      have hkp := rt.pos
      have hjl : j < l2.length * k := by rw [← flat_len hk]; exact (List.getElem?_eq_some_iff.1 hj).1
      have hd : j / k < l2.length := Nat.div_lt_of_lt_mul (by rw [Nat.mul_comm]; exact hjl)
      obtain ⟨xx, hxx⟩ : ∃ xx, l2[j / k]? = some xx := ⟨_, List.getElem?_eq_getElem hd⟩
      have hm2 : j % k < xx.length := by rw [hk xx (List.mem_of_getElem? hxx)]; exact Nat.mod_lt _ hkp
      obtain ⟨y, hy⟩ : ∃ y, xx[j % k]? = some y := ⟨_, List.getElem?_eq_getElem hm2⟩
      have e := flat_at (j / k) hk hxx hy
      have ej : j / k * k + j % k = j := by rw [Nat.mul_comm]; exact Nat.div_add_mod j k
      rw [ej, hj] at e
      have := hc (j / k) xx hxx (j % k) y hy
      rw [Nat.add_assoc, ej] at this
      rw [this, Option.some.inj e]
    · intro u hu
      obtain ⟨xx, hxx, hu⟩ := List.mem_flatten.1 hu
      exact h1 xx hxx u hu
    · unfold maxLen; omega
    · exact Nat.le_trans (Nat.mul_le_mul len hby) (by decide)
    · intro g2 c w' q1 q2 q3 _
      refine h _ w' (Lib.hid ?_) (Lib.hid (bel.grown q2 hB (fun k hk => (own.lt k hk).1))) (Lib.hid q2) (Lib.hid ?_)
      · show w'.ownsRow B T k _ (l ++ l2).length (l ++ l2).flatten
        rw [List.length_append, List.flatten_append]; exact q1
      · rcases q3 with q3 | q3
        · exact .inl q3.symm
        · exact .inr ⟨g2, rfl, by omega⟩
/-- one row in a block that is known -/
theorem row_blk {w : World} {b : Nat} {row : Array Value} {T : TypeId} {k : Nat} (h : w.heap[b]? = some (.cells row T (0, 0))) : RowsAt w (.slice (some ⟨b, 0, none⟩) 1 1) k [row.toList] := by
  refine .inr ⟨b, 0, 1, rfl, Nat.le_refl _, by unfold maxLen; omega, (Array.getElem?_eq_some_iff.1 h).1, ?_⟩
  intro j y hj i u hi
  match j, hj with
  | 0, hj =>
    simp at hj; subst hj
    rw [Nat.zero_mul, Nat.zero_add]
    exact blk_cellx h i u (by simpa using hi)
/-- two lists of lines of the call's own -/
structure P2 (w0 : World) (v1 v2 : Value) (l1 l2 : List DL) (w : World) : Prop where
  o1 : OwnR w w0.heap.size 59 3 v1 (l1.map rowD)
  o2 : OwnR w w0.heap.size 59 3 v2 (l2.map rowD)
  n2 : l2 = [] → v2 = .slice none 0 0
  a12 : apart v1 v2
  bel : Below w0.heap.size w0 w
theorem P2.below {w0 w w' : World} {v1 v2 : Value} {l1 l2 : List DL} (h : P2 w0 v1 v2 l1 l2 w) (hb : Below w.heap.size w w') : P2 w0 v1 v2 l1 l2 w' := ⟨h.o1.below hb, h.o2.below hb, h.n2, h.a12, h.bel.trans (hb.mono h.bel.size)⟩
theorem P2.put1 {w0 w w' : World} {v1 v2 v' : Value} {l1 l2 l' : List DL} (h : P2 w0 v1 v2 l1 l2 w) (o : OwnR w' w0.heap.size 59 3 v' (l'.map rowD)) (g : w.grownBy w' v1.ownBlock) (hp : putAt w.heap.size v1 v') (hb : Below w0.heap.size w0 w') : P2 w0 v' v2 l' l2 w' :=
  ⟨o, h.o2.kept g (by rcases h.a12.symm with e | e | e; exact .inl e; exact (by rw [e]; cases hv : v2.ownBlock with | none => exact .inl rfl | some b => exact .inr (by simp)); exact .inr e), h.n2, (h.a12.symm.put hp (fun g hg => (h.o2.lt g hg).2)).symm, hb⟩
theorem P2.put2 {w0 w w' : World} {v1 v2 v' : Value} {l1 l2 l' : List DL} (h : P2 w0 v1 v2 l1 l2 w) (o : OwnR w' w0.heap.size 59 3 v' (l'.map rowD)) (hl : l' ≠ []) (g : w.grownBy w' v2.ownBlock) (hp : putAt w.heap.size v2 v') (hb : Below w0.heap.size w0 w') : P2 w0 v1 v' l1 l' w' :=
  ⟨h.o1.kept g (by rcases h.a12 with e | e | e; exact .inl e; exact (by rw [e]; cases hv : v1.ownBlock with | none => exact .inl rfl | some b => exact .inr (by simp)); exact .inr e), o, fun e => absurd e hl, h.a12.put hp (fun g hg => (h.o1.lt g hg).2), hb⟩
theorem P2.drop2 {w0 w : World} {v1 v2 : Value} {l1 l2 : List DL} (h : P2 w0 v1 v2 l1 l2 w) : P2 w0 v1 (.slice none 0 0) l1 [] w := ⟨h.o1, OwnR.nil _ _ _ _, fun _ => rfl, .inr (.inl rfl), h.bel⟩
theorem P2.start (w : World) : P2 w (.slice none 0 0) (.slice none 0 0) [] [] w := ⟨OwnR.nil _ _ _ _, OwnR.nil _ _ _ _, fun _ => rfl, .inl rfl, Below.refl _ _⟩
theorem rowD_len {l : List DL} : ∀ x ∈ l.map rowD, x.length = 3 := by intro x hx; obtain ⟨y, -, rfl⟩ := List.mem_map.1 hx; rfl
theorem rowD_one {l : List DL} : ∀ x ∈ l.map rowD, ∀ u ∈ x, u.oneCell' = true := by intro x hx; obtain ⟨y, -, rfl⟩ := List.mem_map.1 hx; exact one_D
theorem revF_3 {X r : List DL} {x : ByteArray × Bool} : revF X ((3, x) :: r) = (2, x) :: revF X r := rfl
theorem revF_2 {X r : List DL} {x : ByteArray × Bool} : revF X ((2, x) :: r) = revF (X ++ [(3, x)]) r := rfl
theorem revF_k {X r : List DL} {x : DL} (h3 : ¬ x.1 = 3) (h2 : ¬ x.1 = 2) : revF X (x :: r) = X ++ x :: revF [] r := by simp only [revF]; rw [if_neg h3, if_neg h2]
theorem setx {w : World} {xs : Array Value} {T : TypeId} {u : Value} (ys : Array Value) (hy : xs.setIfInBounds 0 u = ys) : ((w.alloc (.cells xs T)).setCell ⟨w.heap.size, 0, none⟩ u).heap[w.heap.size]? = some (.cells ys T (0, 0)) := by
  have e := heap_alloc_new w (.cells xs T)
  subst hy
  simp only [World.setCell, Array.getElem?_modify, e, if_pos, Option.map_some]
  rfl
/-- .. where lines are the other way round already -/
def ordF : List DL → List DL → List DL
  | later, [] => later
  | later, x :: r => if x.1 = 3 then ordF (later ++ [x]) r else if x.1 = 2 then x :: ordF later r else later ++ x :: ordF [] r
theorem ord_rev : ∀ (l X : List DL), ordF X (l.map flipD) = revF X l
  | [], X => rfl
  | x :: r, X => by
    obtain ⟨xo, x2⟩ := x
    by_cases h3 : xo = 3
    · subst h3
      rw [revF_3, ← ord_rev r X]
      rfl
    · by_cases h2 : xo = 2
      · subst h2
        rw [revF_2, ← ord_rev r _]
        rfl
      · rw [revF_k h3 h2, ← ord_rev r []]
        have e : flipD (xo, x2) = (xo, x2) := by unfold flipD; simp only; rw [if_neg h3, if_neg h2]
        rw [List.map_cons, e]
        simp only [ordF]
        rw [if_neg h3, if_neg h2]
set_option maxRecDepth 100000 in
set_option maxHeartbeats 4000000 in
theorem reversed_any (l : List DL) (v : Value) (w : World) (hv : RowsAt w v 3 (l.map rowD)) (hl : l.length ≤ 1000) :
    Calls Tryd.prog 52 #[v] w fun e w' => ∃ v', e = .returned v' ∧ Hid (OwnR w' w.heap.size 59 3 v' ((revF [] l).map rowD)) ∧ Hid (Below w.heap.size w w') := by
  obtain ⟨n, hn⟩ : ∃ n, l.length = n := ⟨_, rfl⟩
  have HN := Lib.hid hn
  obtain ⟨a, cap, rfl, c1, c2, hc⟩ := hv.sl (n := n) (by rw [List.length_map]; exact hn)
  have HC := Lib.hid hc
  rw [hn] at hl
  unfold maxLen at c2
  clear hv hn hc
  go_enter Tryd.func52, Tryd.ntmps52
  go_wp2_with fail
  go_loopw [3, 4, 9] (fun v1 v2 i wr => ∃ (j : Nat) (D X : List DL), i = .int .i64 j ∧ j ≤ n ∧ Hid (revF [] l = D ++ revF X (l.drop j) ∧ D.length + X.length ≤ j) ∧ Hid (P2 w v1 v2 D X wr)) (fun _ _ i _ => n - (intOf i).toNat)
  case atStart => exact ⟨0, [], [], rfl, Nat.zero_le _, Lib.hid ⟨rfl, Nat.le_refl _⟩, Lib.hid (P2.start w)⟩
  case round =>
    obtain ⟨j, D, X, rfl, hj, HD, HP⟩ := hrel
    by_cases hlt : j < n
    · obtain ⟨x, hx⟩ : ∃ x, l[j]? = some x := ⟨_, List.getElem?_eq_getElem (by rw [HN.out]; exact hlt)⟩
      rcases HC.out with h0 | ⟨g, o, rfl, -, hcc⟩
      · omega
      have BK := Lib.hid HP.out.bel
      have m1 : (l.map rowD)[j]? = some (rowD x) := by rw [List.getElem?_map, hx]; rfl
      have d0 := kp BK.out (hcc j _ m1 0 _ rfl)
      have d1 := kp BK.out (hcc j _ m1 1 _ rfl)
      have d2 := kp BK.out (hcc j _ m1 2 _ rfl)
      rw [Nat.add_zero] at d0
      have DR := Lib.hid (show revF [] l = D ++ revF X (x :: l.drop (j + 1)) by rw [← drop_get hx]; exact HD.out.1)
      have p0 : (0 : Int) ≤ (j : Int) := by omega
      have p1 : (j : Int) < (n : Int) := by omega
      have p2 : IntKind.i64.wrap (j : Int) = (j : Int) := IntWalk.i64_in _ (by omega)
      have LD : Hid ((D.map rowD).length ≤ 1048576 ∧ (X.map rowD).length ≤ 1048576 ∧ (D.map rowD).length + (X.map rowD).length ≤ 1048576) := Lib.hid (by rw [List.length_map, List.length_map]; have := HD.out.2; omega)
      obtain ⟨xo, xt, xn⟩ := x
      clear hcc m1 hx
      by_cases h3 : xo = 3
      · subst h3
        have BY := Lib.hid ((Below.refl wr.heap.size wr).alloc (Nat.le_refl _) (.cells #[.int .i64 2, .string xt, .bool xn] 59))
        skip
        have PB := Lib.hid (HP.out.below BY.out)
        go_wp2_with (first | (at_builtin; (first | (refine append_row2 rtD rfl _ _ rfl _ (D.map rowD) #[.int .i64 2, .string xt, .bool xn] w.heap.size w _ PB.out.o1 rfl (one_D (x := (2, xt, xn))) PB.out.bel PB.out.bel.size LD.out.1 (by simp [Act.eval]) (by simp [Act.eval]) ?_; intro v3 w3 own3 bel3 gr3 pu3) | go_in)))
        go_roundw
        case rel => exact ⟨j + 1, D ++ [(2, xt, xn)], X, by go_num, by omega, Lib.hid ⟨by rw [DR.out, revF_3, List.append_assoc]; rfl, by have := HD.out.2; simp; omega⟩, Lib.hid (PB.out.put1 (by rw [List.map_append]; exact own3.out) gr3.out pu3.out bel3.out)⟩
        case measure => simp [intOf] <;> omega
      · have t3 : (xo == 3) = false := beq_eq_false_iff_ne.2 h3
        by_cases h2 : xo = 2
        · subst h2
          have BY := Lib.hid ((Below.refl wr.heap.size wr).alloc (Nat.le_refl _) (.cells #[.int .i64 3, .string xt, .bool xn] 59))
          clear h3
          have PB := Lib.hid (HP.out.below BY.out)
          go_wp2_with (first | (at_builtin; (first | (refine append_row2 rtD rfl _ _ rfl _ (X.map rowD) #[.int .i64 3, .string xt, .bool xn] w.heap.size w _ PB.out.o2 rfl (one_D (x := (3, xt, xn))) PB.out.bel PB.out.bel.size LD.out.2.1 (by simp [Act.eval]) (by simp [Act.eval]) ?_; intro v3 w3 own3 bel3 gr3 pu3) | go_in)))
          go_roundw
          case rel => exact ⟨j + 1, D, X ++ [(3, xt, xn)], by go_num, by omega, Lib.hid ⟨by rw [DR.out, revF_2], by have := HD.out.2; simp; omega⟩, Lib.hid (PB.out.put2 (by rw [List.map_append]; exact own3.out) (by simp) gr3.out pu3.out bel3.out)⟩
          case measure => simp [intOf] <;> omega
        · have t2 : (xo == 2) = false := beq_eq_false_iff_ne.2 h2
          obtain ⟨wb, hwb⟩ : ∃ W, wr.alloc (.cells #[.int .i64 xo, .string xt, .bool xn] 59) = W := ⟨_, rfl⟩
          have BX : Hid (Below wr.heap.size wr wb) := Lib.hid (by rw [← hwb]; exact (Below.refl wr.heap.size wr).alloc (Nat.le_refl _) _)
          have XB : Hid (wb.heap[wr.heap.size]? = some (.cells #[.int .i64 xo, .string xt, .bool xn] 59 (0, 0))) := Lib.hid (by rw [← hwb]; exact heap_alloc_new wr _)
          have XL : Hid (wr.heap.size < wb.heap.size) := Lib.hid (by rw [← hwb, World.size_alloc]; omega)
          have PA1 := Lib.hid (HP.out.below BX.out.drew)
          have BC := Lib.hid (((Below.refl wb.heap.size wb).alloc (Nat.le_refl _) (.cells #[.int .i64 xo, .string xt, .bool xn] 59)).drew)
          have PC1 := Lib.hid (HP.out.below (BX.out.trans (BC.out.mono BX.out.size)))
          have UB : Hid (∀ g, u3.ownBlock = some g → g < wr.heap.size) := Lib.hid (fun g hg => (HP.out.o1.lt g hg).2)
          have RK := Lib.hid (revF_k (X := X) (r := l.drop (j + 1)) (x := (xo, xt, xn)) h3 h2)
          have z0 : wb.cell? ⟨wr.heap.size, 0, none⟩ = some (.int .i64 xo) := blk_cellx XB.out 0 _ rfl
          have z1 : wb.cell? ⟨wr.heap.size, 1, none⟩ = some (.string xt) := blk_cellx XB.out 1 _ rfl
          have z2 : wb.cell? ⟨wr.heap.size, 2, none⟩ = some (.bool xn) := blk_cellx XB.out 2 _ rfl
          go_upto_region 6 with (fail)
          (try rw [hwb])
          clear hwb h2 h3
          go_region_law (first
            | (refine step_own2 rtD rfl (.tmp 15) (.tmp 16) rfl _ _ (D.map rowD) (X.map rowD) w.heap.size w _ PA1.out.o1 (PA1.out.o2.rows rowD_len) (fun e => PA1.out.n2 (List.map_eq_nil_iff.1 e)) rowD_len rowD_one PA1.out.bel PA1.out.bel.size (by have := LD.out.2.2; omega) (by first | rfl | (simp [Act.eval]; done) | (simp [Act.eval, Act.put]; done)) (by first | rfl | (simp [Act.eval]; done) | (simp [Act.eval, Act.put]; done)) ?_; intro v3 w3 own3 bel3 gr3 pu3; have XB3 := Lib.hid ((gr3.out.block wr.heap.size XL.out (fun e => by have := UB.out _ e.symm; omega)).trans XB.out); have z0 : w3.cell? ⟨wr.heap.size, 0, none⟩ = some (.int .i64 xo) := blk_cellx XB3.out 0 _ rfl; have z1 : w3.cell? ⟨wr.heap.size, 1, none⟩ = some (.string xt) := blk_cellx XB3.out 1 _ rfl; have z2 : w3.cell? ⟨wr.heap.size, 2, none⟩ = some (.bool xn) := blk_cellx XB3.out 2 _ rfl)
            | (refine step_own2 rtD rfl (.tmp 15) (.tmp 16) rfl _ _ (D.map rowD) (X.map rowD) w.heap.size w _ PC1.out.o1 (PC1.out.o2.rows rowD_len) (fun e => PC1.out.n2 (List.map_eq_nil_iff.1 e)) rowD_len rowD_one PC1.out.bel PC1.out.bel.size (by have := LD.out.2.2; omega) (by first | rfl | (simp [Act.eval]; done) | (simp [Act.eval, Act.put]; done)) (by first | rfl | (simp [Act.eval]; done) | (simp [Act.eval, Act.put]; done)) ?_; intro v3 w3 own3 bel3 gr3 pu3; have RC3 := Lib.hid (row_blk (k := 3) ((gr3.out.block wb.heap.size (by show wb.heap.size < (wb.alloc (.cells #[.int .i64 xo, .string xt, .bool xn] 59)).heap.size; rw [World.size_alloc]; omega) (fun e => by have := UB.out _ e.symm; have := XL.out; omega)).trans (heap_alloc_new wb (.cells #[.int .i64 xo, .string xt, .bool xn] 59)))))
            | (refine step_own2 rtD rfl (.tmp 17) (.tmp 19) rfl _ _ (D.map rowD ++ X.map rowD) [rowD (xo, xt, xn)] w.heap.size w _ (World.ownsRow.alloc own3.out _) (row_blk (heap_alloc_new w3 (.cells #[.int .i64 xo, .string xt, .bool xn] 59))) (fun e => by cases e) (by intro x hx; simp at hx; subst hx; rfl) (by intro x hx; rw [List.mem_singleton] at hx; subst hx; exact one_D) (bel3.out.alloc bel3.out.size _) (bel3.out.alloc bel3.out.size _).size (by rw [List.length_append]; have := LD.out.2.2; show _ + 1 ≤ 1048577; omega) (by first | rfl | (simp [Act.eval]; done) | (simp [Act.eval, Act.put]; done)) (by first | rfl | (simp [Act.eval]; done) | (simp [Act.eval, Act.put]; done)) ?_; intro v5 w5 own5 bel5 gr5 pu5)
            | (refine step_own2 rtD rfl (.tmp 17) (.tmp 19) rfl _ _ (D.map rowD ++ X.map rowD) [rowD (xo, xt, xn)] w.heap.size w w3 own3.out RC3.out (fun e => by cases e) (by intro x hx; simp at hx; subst hx; rfl) (by intro x hx; rw [List.mem_singleton] at hx; subst hx; exact one_D) bel3.out bel3.out.size (by rw [List.length_append]; have := LD.out.2.2; show _ + 1 ≤ 1048577; omega) (by first | rfl | (simp [Act.eval]; done) | (simp [Act.eval, Act.put]; done)) (by first | rfl | (simp [Act.eval]; done) | (simp [Act.eval, Act.put]; done)) ?_; intro v5 w5 own5 bel5 gr5 pu5))
          all_goals go_wp2_with fail
          all_goals
            go_roundw
            case rel => exact ⟨j + 1, D ++ X ++ [(xo, xt, xn)], [], by go_num, by omega, Lib.hid ⟨by rw [DR.out, RK.out]; simp, by have := HD.out.2; simp; omega⟩, Lib.hid ⟨by rw [List.map_append, List.map_append]; exact own5.out, OwnR.nil _ _ _ _, fun _ => rfl, .inr (.inl rfl), bel5.out⟩⟩
            case measure => simp [intOf] <;> omega
    · obtain rfl : j = n := by omega
      have E : Hid (revF [] l = D ++ X) := Lib.hid (by rw [HD.out.1, List.drop_eq_nil_of_le (by rw [HN.out]; exact Nat.le_refl _)]; rfl)
      have LD : Hid ((D.map rowD).length + (X.map rowD).length ≤ 1048577) := Lib.hid (by rw [List.length_map, List.length_map]; have := HD.out.2; omega)
      go_wp2_with (first | (at_builtin; (first | (refine append_own2 rtD rfl _ _ rfl _ _ (D.map rowD) (X.map rowD) w.heap.size w _ HP.out.o1 (HP.out.o2.rows rowD_len) (fun e => HP.out.n2 (List.map_eq_nil_iff.1 e)) rowD_len rowD_one HP.out.bel HP.out.bel.size LD.out (by simp [Act.eval]) (by simp [Act.eval]) ?_; intro v3 w3 own3 bel3 gr3 pu3) | go_in)))
      go_ret
      exact ⟨_, rfl, Lib.hid (by rw [E.out, List.map_append]; exact own3.out), bel3⟩
theorem ordF_3 {X r : List DL} {x : ByteArray × Bool} : ordF X ((3, x) :: r) = ordF (X ++ [(3, x)]) r := rfl
theorem ordF_2 {X r : List DL} {x : ByteArray × Bool} : ordF X ((2, x) :: r) = (2, x) :: ordF X r := rfl
theorem ordF_k {X r : List DL} {x : DL} (h3 : ¬ x.1 = 3) (h2 : ¬ x.1 = 2) : ordF X (x :: r) = X ++ x :: ordF [] r := by simp only [ordF]; rw [if_neg h3, if_neg h2]
set_option maxRecDepth 100000 in
set_option maxHeartbeats 4000000 in
theorem ordered_any (l : List DL) (v : Value) (w : World) (hv : RowsAt w v 3 (l.map rowD)) (hl : l.length ≤ 1000) :
    Calls Tryd.prog 53 #[v] w fun e w' => ∃ v', e = .returned v' ∧ Hid (OwnR w' w.heap.size 59 3 v' ((ordF [] l).map rowD)) ∧ Hid (Below w.heap.size w w') := by
  obtain ⟨n, hn⟩ : ∃ n, l.length = n := ⟨_, rfl⟩
  have HN := Lib.hid hn
  obtain ⟨a, cap, rfl, c1, c2, hc⟩ := hv.sl (n := n) (by rw [List.length_map]; exact hn)
  have HC := Lib.hid hc
  rw [hn] at hl
  unfold maxLen at c2
  clear hv hn hc
  go_enter Tryd.func53, Tryd.ntmps53
  go_wp2_with fail
  go_loopw [3, 4, 5] (fun v1 v2 i wr => ∃ (j : Nat) (D X : List DL), i = .int .i64 j ∧ j ≤ n ∧ Hid (ordF [] l = D ++ ordF X (l.drop j) ∧ D.length + X.length ≤ j) ∧ Hid (P2 w v1 v2 D X wr)) (fun _ _ i _ => n - (intOf i).toNat)
  case atStart => exact ⟨0, [], [], rfl, Nat.zero_le _, Lib.hid ⟨rfl, Nat.le_refl _⟩, Lib.hid (P2.start w)⟩
  case round =>
    obtain ⟨j, D, X, rfl, hj, HD, HP⟩ := hrel
    by_cases hlt : j < n
    · obtain ⟨x, hx⟩ : ∃ x, l[j]? = some x := ⟨_, List.getElem?_eq_getElem (by rw [HN.out]; exact hlt)⟩
      rcases HC.out with h0 | ⟨g, o, rfl, -, hcc⟩
      · omega
      have m1 : (l.map rowD)[j]? = some (rowD x) := by rw [List.getElem?_map, hx]; rfl
      have C0 := Lib.hid (hcc j _ m1 0 _ rfl)
      have C1 := Lib.hid (hcc j _ m1 1 _ rfl)
      have C2 := Lib.hid (hcc j _ m1 2 _ rfl)
      rw [Nat.add_zero] at C0
      have DR := Lib.hid (show ordF [] l = D ++ ordF X (x :: l.drop (j + 1)) by rw [← drop_get hx]; exact HD.out.1)
      have p0 : (0 : Int) ≤ (j : Int) := by omega
      have p1 : (j : Int) < (n : Int) := by omega
      have p2 : IntKind.i64.wrap (j : Int) = (j : Int) := IntWalk.i64_in _ (by omega)
      have LD : Hid ((D.map rowD).length ≤ 1048576 ∧ (X.map rowD).length ≤ 1048576 ∧ (D.map rowD).length + (X.map rowD).length ≤ 1048576) := Lib.hid (by rw [List.length_map, List.length_map]; have := HD.out.2; omega)
      obtain ⟨xo, xt, xn⟩ := x
      have d0 := kp HP.out.bel C0.out
      have d1 := kp HP.out.bel C1.out
      have d2 := kp HP.out.bel C2.out
      clear hcc m1 hx
      by_cases h3 : xo = 3
      · subst h3
        go_wp2_with (first | (at_builtin; (first | (refine append_row2 rtD rfl _ _ rfl _ (X.map rowD) #[.int .i64 3, .string xt, .bool xn] w.heap.size w _ HP.out.o2 rfl (one_D (x := (3, xt, xn))) HP.out.bel HP.out.bel.size LD.out.2.1 (by simp [Act.eval]) (by simp [Act.eval]) ?_; intro v3 w3 own3 bel3 gr3 pu3) | go_in)))
        go_roundw
        case rel => exact ⟨j + 1, D, X ++ [(3, xt, xn)], by go_num, by omega, Lib.hid ⟨by rw [DR.out, ordF_3], by have := HD.out.2; simp; omega⟩, Lib.hid (HP.out.put2 (by rw [List.map_append]; exact own3.out) (by simp) gr3.out pu3.out bel3.out)⟩
        case measure => simp [intOf] <;> omega
      · have t3 : (xo == 3) = false := beq_eq_false_iff_ne.2 h3
        by_cases h2 : xo = 2
        · subst h2
          clear h3
          go_wp2_with (first | (at_builtin; (first | (refine append_row2 rtD rfl _ _ rfl _ (D.map rowD) #[.int .i64 2, .string xt, .bool xn] w.heap.size w _ HP.out.o1 rfl (one_D (x := (2, xt, xn))) HP.out.bel HP.out.bel.size LD.out.1 (by simp [Act.eval]) (by simp [Act.eval]) ?_; intro v3 w3 own3 bel3 gr3 pu3) | go_in)))
          go_roundw
          case rel => exact ⟨j + 1, D ++ [(2, xt, xn)], X, by go_num, by omega, Lib.hid ⟨by rw [DR.out, ordF_2, List.append_assoc]; rfl, by have := HD.out.2; simp; omega⟩, Lib.hid (HP.out.put1 (by rw [List.map_append]; exact own3.out) gr3.out pu3.out bel3.out)⟩
          case measure => simp [intOf] <;> omega
        · have t2 : (xo != 2) = true := bne_iff_ne.2 h2
          have RK := Lib.hid (ordF_k (X := X) (r := l.drop (j + 1)) (x := (xo, xt, xn)) h3 h2)
          clear h2 h3
          go_wp2_with (first | (at_builtin; (first
            | (refine append_own2 rtD rfl _ _ rfl _ _ (D.map rowD) (X.map rowD) w.heap.size w _ HP.out.o1 (HP.out.o2.rows rowD_len) (fun e => HP.out.n2 (List.map_eq_nil_iff.1 e)) rowD_len rowD_one HP.out.bel HP.out.bel.size (by have := LD.out.2.2; omega) (by simp [Act.eval]) (by simp [Act.eval]) ?_; intro v3 w3 own3 bel3 gr3 pu3; have d0 := kp bel3.out C0.out; have d1 := kp bel3.out C1.out; have d2 := kp bel3.out C2.out)
            | (refine append_row2 rtD rfl _ _ rfl _ (D.map rowD ++ X.map rowD) #[.int .i64 xo, .string xt, .bool xn] w.heap.size w _ own3.out rfl (one_D (x := (xo, xt, xn))) bel3.out bel3.out.size (by rw [List.length_append]; exact LD.out.2.2) (by simp [Act.eval]) (by simp [Act.eval]) ?_; intro v5 w5 own5 bel5 gr5 pu5)
            | go_in)))
          go_roundw
          case rel => exact ⟨j + 1, D ++ X ++ [(xo, xt, xn)], [], by go_num, by omega, Lib.hid ⟨by rw [DR.out, RK.out]; simp, by have := HD.out.2; simp; omega⟩, Lib.hid ⟨by rw [List.map_append, List.map_append]; exact own5.out, OwnR.nil _ _ _ _, fun _ => rfl, .inr (.inl rfl), bel5.out⟩⟩
          case measure => simp [intOf] <;> omega
    · obtain rfl : j = n := by omega
      have E : Hid (ordF [] l = D ++ X) := Lib.hid (by rw [HD.out.1, List.drop_eq_nil_of_le (by rw [HN.out]; exact Nat.le_refl _)]; rfl)
      have LD : Hid ((D.map rowD).length + (X.map rowD).length ≤ 1048577) := Lib.hid (by rw [List.length_map, List.length_map]; have := HD.out.2; omega)
      go_wp2_with (first | (at_builtin; (first | (refine append_own2 rtD rfl _ _ rfl _ _ (D.map rowD) (X.map rowD) w.heap.size w _ HP.out.o1 (HP.out.o2.rows rowD_len) (fun e => HP.out.n2 (List.map_eq_nil_iff.1 e)) rowD_len rowD_one HP.out.bel HP.out.bel.size LD.out (by simp [Act.eval]) (by simp [Act.eval]) ?_; intro v3 w3 own3 bel3 gr3 pu3) | go_in)))
      go_ret
      exact ⟨_, rfl, Lib.hid (by rw [E.out, List.map_append]; exact own3.out), bel3⟩
end Go.Proofs.YtnkpigibjicmaaaDoor
