/- walks: each byte replaced by that of a table -/
import Derived.Test.YtoohbgjfhchnmaaDoorQj
import Derived.Lib.ConvBytes
namespace Go.Proofs.YtoohbgjfhchnmaaDoor
open Go.RowKit Go.Maps
open Lcl
theorem ret_str {a b : ByteArray} (h : a = b) : Ending.returned (.string a) = .returned (.string b) := by rw [h]
def mapL (t l : List UInt8) : List UInt8 := l.map fun c => t.getD c.toNat 0
theorem mapL_len (t l : List UInt8) : (mapL t l).length = l.length := by simp [mapL]
/-- the first k bytes are mapped -/
def midL (t l : List UInt8) (k : Nat) : List UInt8 := mapL t (l.take k) ++ l.drop k
theorem midL_len (t l : List UInt8) (k : Nat) : (midL t l k).length = l.length := by
  unfold midL; rw [List.length_append, mapL_len, List.length_take, List.length_drop]; omega
theorem midL_at (t l : List UInt8) (k : Nat) (c : UInt8) (h : l[k]? = some c) : (midL t l k)[k]? = some c := by
  have hk : k < l.length := (List.getElem?_eq_some_iff.1 h).1
  unfold midL
  rw [List.getElem?_append_right (by rw [mapL_len, List.length_take]; omega), mapL_len, List.length_take, List.getElem?_drop, ← h]
  congr 1; omega
theorem midL_next (t l : List UInt8) (k : Nat) (c : UInt8) (h : l[k]? = some c) : (midL t l k).set k (t.getD c.toNat 0) = midL t l (k + 1) := by
  have hk : k < l.length := (List.getElem?_eq_some_iff.1 h).1
  unfold midL
  have hl : (mapL t (l.take k)).length = k := by rw [mapL_len, List.length_take]; omega
  rw [List.set_append_right _ _ (by omega), hl, Nat.sub_self]
  have hd : l.drop k = c :: l.drop (k + 1) := by
    obtain ⟨hlt, e⟩ := List.getElem?_eq_some_iff.1 h
    rw [List.drop_eq_getElem_cons hlt, e]
  rw [hd, List.set_cons_zero, List.take_add_one, h]
  simp [mapL]
theorem mid_all (t l : List UInt8) : midL t l l.length = mapL t l := by unfold midL; rw [List.take_length, List.drop_length, List.append_nil]
theorem map_next (t s : ByteArray) (k : Nat) (hk : k < s.size) (hb : s[k].toNat < t.size) : mapL t.data.toList (s.data.toList.take (k + 1)) = mapL t.data.toList (s.data.toList.take k) ++ [t[s[k].toNat]] := by
  rw [take_b s k hk]
  unfold mapL
  rw [List.map_append, List.map_singleton, List.getD_eq_getElem?_getD, List.getElem?_eq_getElem (show s[k].toNat < t.data.toList.length from hb)]
  rfl
/-- bytes in a block of the call's own -/
structure BC (w wr : World) (g : Nat) (l : List UInt8) : Prop where
  cell : ∀ (j : Nat) c, l[j]? = some c → wr.cell? ⟨g, j, none⟩ = some (.int .u8 (c.toNat : Int))
  frz : ∀ (j : Nat), j < l.length → wr.frozen? ⟨g, j, none⟩ = false
  bel : Below w.heap.size w wr
  own : w.heap.size ≤ g
theorem BC.set {w wr : World} {g k : Nat} {l : List UInt8} (h : BC w wr g l) (hk : k < l.length) (c : UInt8) (u : Int) (hu : u = (c.toNat : Int)) : BC w (wr.setCell ⟨g, k, none⟩ (.int .u8 u)) g (l.set k c) := by
  subst hu
  refine ⟨fun j d hj => ?_, fun j hj => ?_, h.bel.setCell h.own _, h.own⟩
  · rw [List.getElem?_set] at hj
    by_cases e : k = j
    · subst e
      rw [if_pos rfl, if_pos hk] at hj
      cases hj
      exact World.cell?_setCell_same _ _ _ (h.cell k l[k] (List.getElem?_eq_getElem hk))
    · rw [if_neg e] at hj
      rw [World.cell?_setCell_other _ _ _ _ (by intro e2; cases e2; exact e rfl)]
      exact h.cell j d hj
  · rw [World.frozen?_setCell]
    exact h.frz j (by simpa using hj)
theorem BC.start (w : World) (s : ByteArray) : BC w (Lib.bytesWorld w 5 s) w.heap.size s.data.toList := by
  refine ⟨fun j c hj => ?_, fun j hj => ?_, ⟨?_, ?_, ?_, ?_, ?_⟩, Nat.le_refl _⟩
  · have hlt : j < s.size := (List.getElem?_eq_some_iff.1 hj).1
    rw [Lib.bytesWorld_cell w _ s j hlt, List.getD_eq_getElem?_getD, hj]
    rfl
  · have hlt : j < s.size := hj
    simp [World.frozen?, Lib.bytesWorld_at_new, Lib.bytesCells]
    intro h
    omega
  · rfl
  · rfl
  · rfl
  · rw [Lib.bytesWorld_size]; omega
  · exact fun k hk => Lib.bytesWorld_at_old w _ s k hk
theorem BC.str {w wr : World} {g : Nat} {l : List UInt8} (h : BC w wr g l) (n cap : Nat) (hn : l.length = n) : (convert 61 9 (.slice (some ⟨g, 0, none⟩) n cap)).run Tryd.prog wr = .ok (.string ⟨l.toArray⟩) wr := by
  rw [← nums_str]
  refine run_convert_bytes_arg wr 61 5 Tryd.underlying61 Tryd.underlying5 g 0 n cap (l.map fun c => (c.toNat : Int)) (by rw [List.length_map, hn]) (fun i hi => ?_) 9 Tryd.underlying9
  have := h.cell i l[i] (List.getElem?_eq_getElem (by omega))
  rw [Nat.zero_add, this, List.getD_eq_getElem?_getD, List.getElem?_map, List.getElem?_eq_getElem (by omega : i < l.length)]
  rfl
set_option maxRecDepth 100000 in
set_option maxHeartbeats 4000000 in
theorem mapped_any (t s : ByteArray) (w : World) (ht : t.size = 256) (hs : s.size ≤ 140737488355328) :
    Calls Tryd.prog 41 #[.string t, .string s] w fun e w' => e = .returned (.string ⟨(mapL t.data.toList s.data.toList).toArray⟩) ∧ Below w.heap.size w w' := by
  have hcv := Lib.run_convert_string_bytes (P := Tryd.prog) w 9 61 5 s (u := .string) Tryd.underlying9 Tryd.underlying61 Tryd.underlying5
  have S0 := Lib.hid (BC.start w s)
  generalize Lib.bytesWorld w 5 s = W1 at hcv S0
  generalize grownCap w s.size 0 5 = cap at hcv
  have T := Lib.hid ht; clear ht
  go_enter Tryd.func41, Tryd.ntmps41
  go_wp2_with fail
  go_loopw [11] (fun i wr => ∃ k : Nat, k ≤ s.size ∧ i = .int .i64 k ∧ Hid (BC w wr w.heap.size (midL t.data.toList s.data.toList k))) (fun i _ => s.size - (intOf i).toNat)
  case atStart => exact ⟨0, Nat.zero_le _, rfl, S0⟩
  case round =>
    clear hcv S0
    obtain ⟨k, hk, rfl, RN⟩ := hrel
    by_cases hlt : k < s.size
    · obtain ⟨c, hc⟩ : ∃ c, s.data.toList[k]? = some c := ⟨s.data.toList[k]'hlt, List.getElem?_eq_getElem hlt⟩
      have c0 := RN.out.cell k c (midL_at _ _ _ _ hc)
      have f0 := RN.out.frz k (by rw [midL_len]; exact hlt)
      have hc2 := c.toNat_lt
      have t2 : (c.toNat : Int) < (t.size : Int) := by rw [T.out]; omega
      have C := Lib.hid hc; clear hc
      have hb : c.toNat < t.size := by omega
      have RN2 := Lib.hid (RN.out.set (by rw [midL_len]; exact hlt) t[c.toNat] _ rfl)
      have EQ : Hid (midL t.data.toList s.data.toList (k + 1) = (midL t.data.toList s.data.toList k).set k t[c.toNat]) := Lib.hid (by
        rw [← midL_next _ _ _ _ C.out, List.getD_eq_getElem?_getD, List.getElem?_eq_getElem (show c.toNat < t.data.toList.length from hb)]
        rfl)
      go_wp2
      go_roundw
      case rel => exact ⟨k + 1, by omega, by go_num, by rw [EQ.out]; exact RN2⟩
      case measure => simp [intOf]; omega
    · have ek : k = s.size := by omega
      subst ek
      have EM := mid_all t.data.toList s.data.toList
      have CS := RN.out.str s.size cap (by rw [midL_len]; rfl)
      have HE := Lib.hid EM; clear EM
      go_wp2
      go_ret
      exact ⟨ret_str (by rw [show s.size = s.data.toList.length from rfl, HE.out]), RN.out.bel⟩
theorem append_byt3 {ops : Array Oper} {rest : List Oper} {o : Oper} {a : Act} {Q : Exit → Act → World → Prop} (hgd : o.guard = none) (s x : Operand)
    (ho : o.op = .call { callee := .builtin .append, args := #[s, x], argTypes := #[61, 61] }) (v : Value) (L : List UInt8) (c : UInt8) (u : Int) (hu : u = (c.toNat : Int)) (B : Nat) (w wr : World)
    (own : BRow wr B v L) (bel : Below B w wr) (hB : B ≤ wr.heap.size) (len : L.length + 1 ≤ 140737488355328) (hs : a.eval s = v) (hx : a.eval x = .slice (some ⟨wr.heap.size, 0, none⟩) 1 1)
    (h : ∀ v' w', Hid (BRow w' B v' (L ++ [c])) → Hid (Below B w w') → wpList Tryd.prog ops Q rest (a.put o.dst v') w') : wpList Tryd.prog ops Q (o :: rest) a (wr.alloc (.cells #[.int .u8 u] 5)) := by
  subst hu
  obtain ⟨i0, hi, hz0, hz1, hz2⟩ := info_parts info_u8
  refine wpList_append_own _ hgd s x 61 ho B 5 i0 (.int .u8 0) 1 1 Tryd.underlying61 hi hz0 hz1 hz2 rfl (by decide) v L.length (Lib.byteCells L) hs (own.alloc _) ⟨wr.heap.size, 0, none⟩ 1 1 [.int .u8 (c.toNat : Int)] hx rfl (cell_one_new _ _ _) ?_ ?_ ?_ ?_ ?_
  · intro y hy; simp at hy; subst hy; rfl
  · unfold maxLen; omega
  · omega
  · simp; omega
  · intro v' w' h1 h2 _
    refine h v' w' (Lib.hid ?_) (Lib.hid ?_)
    · rw [bcells_snoc] at h1
      show w'.ownsRow B 5 1 v' (L ++ [c]).length (Lib.byteCells (L ++ [c]))
      rw [List.length_append]; exact h1
    · exact (bel.alloc hB _).grown h2 (by simp; omega) (fun k hk => (own.lt k hk).1)
/-- the reference's mapped after k bytes -/
structure MR (w wr : World) (v : Value) (l : List UInt8) : Prop where
  row : BRow wr w.heap.size v l
  bel : Below w.heap.size w wr
set_option maxRecDepth 100000 in
set_option maxHeartbeats 4000000 in
theorem rmapped_any (t s : ByteArray) (w : World) (ht : t.size = 256) (hs : s.size ≤ 140737488351232) :
    Calls Tryd.prog 45 #[.string t, .string s] w fun e w' => e = .returned (.string ⟨(mapL t.data.toList s.data.toList).toArray⟩) ∧ Below w.heap.size w w' := by
  have T := Lib.hid ht; clear ht
  go_enter Tryd.func45, Tryd.ntmps45
  go_wp2_with fail
  go_loopw [5, 6] (fun v i wr => ∃ k : Nat, k ≤ s.size ∧ i = .int .i64 k ∧ Hid (MR w wr v (mapL t.data.toList (s.data.toList.take k)))) (fun _ i _ => s.size - (intOf i).toNat)
  case atStart => exact ⟨0, Nat.zero_le _, rfl, Lib.hid ⟨brow_empty _ _, Below.refl _ _⟩⟩
  case round =>
    obtain ⟨k, hk, rfl, RN⟩ := hrel
    by_cases hlt : k < s.size
    · have hc2 := s[k].toNat_lt
      have hb : s[k].toNat < t.size := by rw [T.out]; omega
      have t2 : (s[k].toNat : Int) < (t.size : Int) := by omega
      have EQ : Hid (mapL t.data.toList (s.data.toList.take (k + 1)) = mapL t.data.toList (s.data.toList.take k) ++ [t[s[k].toNat]]) := Lib.hid (map_next t s k hlt hb)
      have LK : Hid ((mapL t.data.toList (s.data.toList.take k)).length ≤ k) := Lib.hid (by rw [mapL_len]; exact List.length_take_le _ _)
      go_wp2_with (at_builtin; refine append_byt3 rfl _ _ rfl _ (mapL t.data.toList (s.data.toList.take k)) t[s[k].toNat] _ rfl w.heap.size w _ RN.out.row RN.out.bel RN.out.bel.size (by have := LK.out; omega) rfl rfl ?_; intro v' w1 R1 B1)
      go_roundw
      case rel => exact ⟨k + 1, by omega, by go_num, Lib.hid ⟨by rw [EQ.out]; exact R1.out, B1.out⟩⟩
      case measure => simp [intOf]; omega
    · have ek : k = s.size := by omega
      subst ek
      have CS := row_string RN.out.row
      have HE : Hid (s.data.toList.take s.size = s.data.toList) := Lib.hid (List.take_of_length_le (Nat.le_refl _))
      go_wp2
      go_ret
      exact ⟨ret_str (by rw [HE.out]), RN.out.bel⟩
end Go.Proofs.YtoohbgjfhchnmaaDoor
