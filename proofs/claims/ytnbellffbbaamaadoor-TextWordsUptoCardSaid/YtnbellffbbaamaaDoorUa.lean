/- walks: Escape -/
import Derived.Test.YtnbellffbbaamaaDoorTc
import Derived.Laws.BytesArg
namespace Go.Proofs.YtnbellffbbaamaaDoor
open Go.RowKit
open Tx
def escL (c : UInt8) : UInt8 := if c = 10 then 110 else if c = 9 then 116 else if c = 13 then 114 else if c = 7 then 97 else if c = 8 then 98 else if c = 12 then 102 else if c = 11 then 118 else 0
def oct3 (c : UInt8) : List UInt8 := [UInt8.ofNat (48 + c.toNat / 64), UInt8.ofNat (48 + c.toNat / 8 % 8), UInt8.ofNat (48 + c.toNat % 8)]
def esc1 (c : UInt8) : List UInt8 := if escL c ≠ 0 then [92, escL c] else if c = 92 then [92, 92] else if 32 ≤ c.toNat ∧ c.toNat ≤ 126 then [c] else 92 :: oct3 c
def esc (l : List UInt8) : List UInt8 := l.flatMap esc1
theorem esc1_len (c : UInt8) : (esc1 c).length ≤ 4 := by
  unfold esc1
  split
  · simp
  · split
    · simp
    · split
      · simp
      · simp [oct3]
theorem esc_take (s : ByteArray) (j : Nat) (h : j < s.size) : esc (s.data.toList.take (j + 1)) = esc (s.data.toList.take j) ++ esc1 s[j] := by
  rw [take_snoc s j h]; simp [esc]
theorem esc_len (l : List UInt8) : (esc l).length ≤ 4 * l.length := by
  induction l with
  | nil => simp [esc]
  | cons c r ih =>
    have := esc1_len c
    simp only [esc, List.flatMap_cons, List.length_append, List.length_cons] at *
    omega
theorem cells_at {w : World} {g : Nat} {xs : Array Value} {T : TypeId} (h : w.heap[g]? = some (.cells xs T (0, 0))) (i : Nat) : w.cell? ⟨g, i, none⟩ = xs[i]? := by simp [World.cell?, h]
theorem conv_three (a b c : Int) (W : World) : (convert 41 9 (.slice (some ⟨W.heap.size, 0, none⟩) 3 3)).run Tryd.prog (W.alloc (.cells #[.int .u8 a, .int .u8 b, .int .u8 c] 5)) = .ok (.string (strOfNums [a, b, c])) (W.alloc (.cells #[.int .u8 a, .int .u8 b, .int .u8 c] 5)) :=
  run_convert_bytes_arg (W.alloc (.cells #[.int .u8 a, .int .u8 b, .int .u8 c] 5)) 41 5 Tryd.underlying41 Tryd.underlying5 W.heap.size 0 3 3 [a, b, c] rfl (fun i hi => by
    have h := heap_alloc_new W (.cells #[.int .u8 a, .int .u8 b, .int .u8 c] 5)
    rw [cells_at h]
    match i, hi with
    | 0, _ => rfl
    | 1, _ => rfl
    | 2, _ => rfl) 9 Tryd.underlying9
theorem octal3_any (c : UInt8) (w : World) :
    Calls Tryd.prog 41 #[.int .u8 (c.toNat : Int)] w fun e w' => e = .returned (.string ⟨(oct3 c).toArray⟩) ∧ Below w.heap.size w w' := by
  have hc := c.toNat_lt
  obtain ⟨n, hn⟩ : ∃ n, c.toNat = n := ⟨_, rfl⟩
  have O : Hid ((⟨(oct3 c).toArray⟩ : ByteArray) = strOfNums [48 + (n : Int) / 64, 48 + (n : Int) / 8 % 8, 48 + (n : Int) % 8]) := Lib.hid (by
    have e1 : (48 + (n : Int) / 64).toNat = 48 + n / 64 := by omega
    have e2 : (48 + (n : Int) / 8 % 8).toNat = 48 + n / 8 % 8 := by omega
    have e3 : (48 + (n : Int) % 8).toNat = 48 + n % 8 := by omega
    unfold oct3 strOfNums; rw [hn]
    simp only [List.map_cons, List.map_nil, e1, e2, e3])
  rw [hn] at hc ⊢
  have CV := conv_three (48 + (n : Int) / 64) (48 + (n : Int) / 8 % 8) (48 + (n : Int) % 8) w
  clear hn
  go_enter Tryd.func41, Tryd.ntmps41
  go_wp2_with fail
  go_ret
  exact ⟨by rw [O.out]; rfl, (Below.refl _ _).alloc (Nat.le_refl _) _⟩
def bytesL : List UInt8 := [10, 9, 13, 7, 8, 12, 11]
theorem esc_at (c k : Int) (w : World) (h : Lib.indexByte bytesL c.toNat.toUInt8 = k) :
    Calls Tryd.prog 39 #[.string ⟨#[10, 9, 13, 7, 8, 12, 11]⟩, .int .u8 c] w fun e w' => e = .returned (.int .i64 k) ∧ w = w' := by
  refine (Tryd.strings_IndexByte ⟨#[10, 9, 13, 7, 8, 12, 11]⟩ c w).mono fun e w' ⟨h1, h2⟩ => ⟨?_, h2.symm⟩
  rw [h1]
  show Ending.returned (.int .i64 (Lib.indexByte bytesL c.toNat.toUInt8)) = _
  rw [h]
theorem esc_none (x : UInt8) (w : World) (h : Hid (Lib.indexByte bytesL x = -1)) :
    Calls Tryd.prog 39 #[.string ⟨#[10, 9, 13, 7, 8, 12, 11]⟩, .int .u8 (x.toNat : Int)] w fun e w' => e = .returned (.int .i64 (-1)) ∧ w = w' :=
  esc_at (x.toNat : Int) (-1) w (by rw [u8_back]; exact h.out)
theorem esc_no (x : UInt8) (h : escL x = 0) : Lib.indexByte bytesL x = -1 := by
  unfold escL at h
  by_cases h0 : x = 10
  · subst h0; cases h
  by_cases h1 : x = 9
  · subst h1; cases h
  by_cases h2 : x = 13
  · subst h2; cases h
  by_cases h3 : x = 7
  · subst h3; cases h
  by_cases h4 : x = 8
  · subst h4; cases h
  by_cases h5 : x = 12
  · subst h5; cases h
  by_cases h6 : x = 11
  · subst h6; cases h
  simp only [bytesL, Lib.indexByte, beq_eq_false_iff_ne.2 (Ne.symm h0), beq_eq_false_iff_ne.2 (Ne.symm h1), beq_eq_false_iff_ne.2 (Ne.symm h2), beq_eq_false_iff_ne.2 (Ne.symm h3), beq_eq_false_iff_ne.2 (Ne.symm h4), beq_eq_false_iff_ne.2 (Ne.symm h5), beq_eq_false_iff_ne.2 (Ne.symm h6)]
  rfl
theorem esc_cases (x : UInt8) (h : escL x ≠ 0) : (x = 10 ∧ esc1 x = [92, 110]) ∨ (x = 9 ∧ esc1 x = [92, 116]) ∨ (x = 13 ∧ esc1 x = [92, 114]) ∨ (x = 7 ∧ esc1 x = [92, 97]) ∨ (x = 8 ∧ esc1 x = [92, 98]) ∨ (x = 12 ∧ esc1 x = [92, 102]) ∨ (x = 11 ∧ esc1 x = [92, 118]) := by
  by_cases h0 : x = 10
  · subst h0; exact .inl ⟨rfl, rfl⟩
  by_cases h1 : x = 9
  · subst h1; exact .inr (.inl ⟨rfl, rfl⟩)
  by_cases h2 : x = 13
  · subst h2; exact .inr (.inr (.inl ⟨rfl, rfl⟩))
  by_cases h3 : x = 7
  · subst h3; exact .inr (.inr (.inr (.inl ⟨rfl, rfl⟩)))
  by_cases h4 : x = 8
  · subst h4; exact .inr (.inr (.inr (.inr (.inl ⟨rfl, rfl⟩))))
  by_cases h5 : x = 12
  · subst h5; exact .inr (.inr (.inr (.inr (.inr (.inl ⟨rfl, rfl⟩)))))
  by_cases h6 : x = 11
  · subst h6; exact .inr (.inr (.inr (.inr (.inr (.inr ⟨rfl, rfl⟩)))))
  exfalso; apply h; unfold escL
  rw [if_neg h0, if_neg h1, if_neg h2, if_neg h3, if_neg h4, if_neg h5, if_neg h6]
theorem owns_below {B : Nat} {e : TypeId} {k : Nat} {v : Value} {n : Nat} {xs : List Value} {w w' : World} (h : w.ownsRow B e k v n xs) (hb : Below w.heap.size w w') : w'.ownsRow B e k v n xs := by
  obtain ⟨h1, h2⟩ := h
  refine ⟨h1, ?_⟩
  rcases h2 with h2 | ⟨g, cap, cur, rfl, hB, hg, r⟩
  · exact .inl h2
  · exact .inr ⟨g, cap, cur, rfl, hB, by rw [hb.block g (Array.getElem?_eq_some_iff.1 hg).1]; exact hg, r⟩
theorem isb_below {T e : TypeId} {B b : Nat} {bs : List Value} {w w' : World} (h : Lib.IsBuilder T e B b bs w) (hb : Below w.heap.size w w') : Lib.IsBuilder T e B b bs w' := by
  rcases h with ⟨hB, v, hv, ho, hn⟩ | ⟨hB, v, hv, ho, hn⟩
  · exact .inl ⟨hB, v, by rw [hb.block b (Array.getElem?_eq_some_iff.1 hv).1]; exact hv, owns_below ho hb, hn⟩
  · exact .inr ⟨hB, v, by rw [hb.block b (Array.getElem?_eq_some_iff.1 hv).1]; exact hv, owns_below ho hb, hn⟩
theorem writeStr_is (B b : Nat) (out l : List UInt8) (w : World) (h : Lib.IsBuilder 50 5 B b (Lib.byteCells out) w) (hlen : out.length + l.length ≤ 140737488355328) (hBw : B ≤ w.heap.size) :
    Calls Tryd.prog 40 #[.pointer (some ⟨b, 0, none⟩), .string ⟨l.toArray⟩] w fun e w' => e = .returned (.tuple #[.int .i64 (l.length : Int), .nilIface]) ∧ Hid (Lib.IsBuilder 50 5 B b (Lib.byteCells (out ++ l)) w') ∧ Below B w w' := by
  refine (Tryd.Builder_WriteString B b (Lib.byteCells out) ⟨l.toArray⟩ w h (by rw [Lib.byteCells_length]; exact hlen) hBw).mono fun e w' ⟨h1, h2, h3⟩ => ⟨h1, Lib.hid (.inr ?_), h3⟩
  have e : Lib.byteCells (out ++ l) = Lib.byteCells out ++ Lib.strCells ⟨l.toArray⟩ := by
    rw [Lib.strCells_eq]; simp [Lib.byteCells]
  rw [e]; exact h2
set_option maxHeartbeats 4000000 in
theorem escape_any (s : ByteArray) (w : World) (hs : s.size ≤ 1048576) :
    Calls Tryd.prog 25 #[.string s] w fun e w' => e = .returned (.string ⟨(esc s.data.toList).toArray⟩) ∧ Below w.heap.size w w' := by
  have IB := Lib.hid (Lib.fresh_isBuilder 50 5 w)
  go_enter Tryd.func25, Tryd.ntmps25
  go_wp2_with fail
  have B0 := (Below.refl w.heap.size w).alloc (Nat.le_refl _) (.cells #[.pointer none, .slice none 0 0] 50)
  go_loopw [9] (fun i wr => ∃ (j : Nat) (out : List UInt8), i = .int .i64 j ∧ j ≤ s.size ∧ Hid (out = esc (s.data.toList.take j)) ∧ Hid (Lib.IsBuilder 50 5 w.heap.size w.heap.size (Lib.byteCells out) wr) ∧ Hid (Below w.heap.size w wr)) (fun i _ => s.size - (intOf i).toNat)
  case atStart => exact ⟨0, [], rfl, by omega, Lib.hid rfl, IB, Lib.hid B0⟩
  case round =>
    obtain ⟨j, out, rfl, js, OE, IBr, Br⟩ := hrel
    have HO : Hid (out.length ≤ 4 * s.size) := Lib.hid (by
      rw [OE.out]
      have := esc_len (s.data.toList.take j)
      rw [List.length_take, ← size_len] at this; omega)
    by_cases hlt : j < s.size
    · have NE := Lib.hid (esc_take s j hlt)
      obtain ⟨x, hx⟩ : ∃ x, s[j] = x := ⟨_, rfl⟩
      rw [hx, ← OE.out] at NE
      by_cases h0 : escL x = 0
      · have K := Lib.hid (esc_no x h0)
        by_cases h1 : x = 92
        · have F : Hid (esc1 x = [92, 92]) := Lib.hid (by rw [h1]; rfl)
          rw [F.out] at NE
          have K2 : Lib.indexByte bytesL (92 : Int).toNat.toUInt8 = -1 := by decide
          have KK := Lib.hid K2; clear K2 K h0 F
          subst h1
          go_wp2_with (first
            | (go_at_call 39; refine (esc_at 92 (-1) _ KK.out).mono ?_; rintro e w' ⟨rfl, rfl⟩)
            | (go_at_call 40; refine (writeStr_is w.heap.size w.heap.size out [92, 92] _ IBr.out (by have := HO.out; simp; omega) Br.out.size).mono ?_; rintro e w2 ⟨rfl, hib, hbl⟩))
          go_roundw
          case rel => exact ⟨j + 1, out ++ [92, 92], by go_num, by omega, Lib.hid NE.out.symm, hib, Lib.hid (Br.out.trans hbl)⟩
          case measure => simp [intOf]; omega
        · have t : ((x.toNat : Int) == 92) = false := by
            rw [beq_eq_false_iff_ne]; intro e; apply h1
            apply UInt8.toNat_inj.1
            have e2 : (92 : UInt8).toNat = 92 := rfl
            omega
          by_cases hp : 32 ≤ x.toNat ∧ x.toNat ≤ 126
          · have F : Hid (esc1 x = [x]) := Lib.hid (by unfold esc1; rw [if_neg (fun e => e h0), if_neg h1, if_pos hp])
            rw [F.out] at NE
            obtain ⟨p1, p2⟩ := hp
            clear h0 h1 F
            go_wp2_with (first
              | (go_at_call 39; refine (esc_none x _ K).mono ?_; rintro e w' ⟨rfl, rfl⟩)
              | (go_at_call 31; (with_reducible refine (writeByte_is w.heap.size w.heap.size out x _ _ IBr.out rfl (by have := HO.out; omega) Br.out.size).mono ?_; rintro e w2 ⟨rfl, hib, hbl⟩; have B2 := Br.out.trans hbl)))
            go_roundw
            case rel => exact ⟨j + 1, out ++ [x], by go_num, by omega, Lib.hid NE.out.symm, hib, Lib.hid B2⟩
            case measure => simp [intOf]; omega
          · have F : Hid (esc1 x = 92 :: oct3 x) := Lib.hid (by unfold esc1; rw [if_neg (fun e => e h0), if_neg h1, if_neg hp])
            rw [F.out] at NE
            have ap : (out ++ [92]) ++ oct3 x = out ++ 92 :: oct3 x := by simp
            have AP := Lib.hid ap; clear ap
            clear h0 h1 F
            by_cases p1 : 32 ≤ x.toNat
            · have p2 : ¬ x.toNat ≤ 126 := fun e => hp ⟨p1, e⟩
              clear hp
              go_wp2_with (first
                | (go_at_call 39; refine (esc_none x _ K).mono ?_; rintro e w' ⟨rfl, rfl⟩)
                | (go_at_call 31; (with_reducible refine (writeByte_is w.heap.size w.heap.size out 92 92 _ IBr.out rfl (by have := HO.out; omega) Br.out.size).mono ?_; rintro e w2 ⟨rfl, hib, hbl⟩; have B2 := Br.out.trans hbl))
                | (go_at_call 41; refine (octal3_any x _).mono ?_; rintro e w4 ⟨rfl, hb4⟩; have B4 := B2.trans (hb4.mono B2.size))
                | (go_at_call 40; refine (writeStr_is w.heap.size w.heap.size (out ++ [92]) (oct3 x) _ (isb_below hib.out hb4) (by have := HO.out; simp [oct3]; omega) B4.size).mono ?_; rintro e w5 ⟨rfl, hib5, hbl5⟩))
              rw [AP.out] at hib5
              go_roundw
              case rel => exact ⟨j + 1, out ++ 92 :: oct3 x, by go_num, by omega, Lib.hid NE.out.symm, hib5, Lib.hid (B4.trans hbl5)⟩
              case measure => simp [intOf]; omega
            · clear hp
              go_wp2_with (first
                | (go_at_call 39; refine (esc_none x _ K).mono ?_; rintro e w' ⟨rfl, rfl⟩)
                | (go_at_call 31; (with_reducible refine (writeByte_is w.heap.size w.heap.size out 92 92 _ IBr.out rfl (by have := HO.out; omega) Br.out.size).mono ?_; rintro e w2 ⟨rfl, hib, hbl⟩; have B2 := Br.out.trans hbl))
                | (go_at_call 41; refine (octal3_any x _).mono ?_; rintro e w4 ⟨rfl, hb4⟩; have B4 := B2.trans (hb4.mono B2.size))
                | (go_at_call 40; refine (writeStr_is w.heap.size w.heap.size (out ++ [92]) (oct3 x) _ (isb_below hib.out hb4) (by have := HO.out; simp [oct3]; omega) B4.size).mono ?_; rintro e w5 ⟨rfl, hib5, hbl5⟩))
              rw [AP.out] at hib5
              go_roundw
              case rel => exact ⟨j + 1, out ++ 92 :: oct3 x, by go_num, by omega, Lib.hid NE.out.symm, hib5, Lib.hid (B4.trans hbl5)⟩
              case measure => simp [intOf]; omega
      · rcases esc_cases x h0 with ⟨rfl, hF⟩ | ⟨rfl, hF⟩ | ⟨rfl, hF⟩ | ⟨rfl, hF⟩ | ⟨rfl, hF⟩ | ⟨rfl, hF⟩ | ⟨rfl, hF⟩
        · rw [hF] at NE
          clear h0 hF
          have ap : (out ++ [92]) ++ [110] = out ++ [92, 110] := by simp
          have AP := Lib.hid ap; clear ap
          go_wp2_with (first
            | (go_at_call 39; refine (esc_at 10 0 _ (by decide)).mono ?_; rintro e w' ⟨rfl, rfl⟩)
            | (go_at_call 31; (first | (refine (writeByte_is w.heap.size w.heap.size (out ++ [92]) 110 _ _ hib.out rfl (by have := HO.out; simp; omega) B2.size).mono ?_; rintro e w3 ⟨rfl, hib3, hbl3⟩) | (with_reducible refine (writeByte_is w.heap.size w.heap.size out 92 92 _ IBr.out rfl (by have := HO.out; omega) Br.out.size).mono ?_; rintro e w2 ⟨rfl, hib, hbl⟩; have B2 := Br.out.trans hbl))))
          rw [AP.out] at hib3
          go_roundw
          case rel => exact ⟨j + 1, out ++ [92, 110], by go_num, by omega, Lib.hid NE.out.symm, hib3, Lib.hid (B2.trans hbl3)⟩
          case measure => simp [intOf]; omega
        · rw [hF] at NE
          clear h0 hF
          have ap : (out ++ [92]) ++ [116] = out ++ [92, 116] := by simp
          have AP := Lib.hid ap; clear ap
          go_wp2_with (first
            | (go_at_call 39; refine (esc_at 9 1 _ (by decide)).mono ?_; rintro e w' ⟨rfl, rfl⟩)
            | (go_at_call 31; (first | (refine (writeByte_is w.heap.size w.heap.size (out ++ [92]) 116 _ _ hib.out rfl (by have := HO.out; simp; omega) B2.size).mono ?_; rintro e w3 ⟨rfl, hib3, hbl3⟩) | (with_reducible refine (writeByte_is w.heap.size w.heap.size out 92 92 _ IBr.out rfl (by have := HO.out; omega) Br.out.size).mono ?_; rintro e w2 ⟨rfl, hib, hbl⟩; have B2 := Br.out.trans hbl))))
          rw [AP.out] at hib3
          go_roundw
          case rel => exact ⟨j + 1, out ++ [92, 116], by go_num, by omega, Lib.hid NE.out.symm, hib3, Lib.hid (B2.trans hbl3)⟩
          case measure => simp [intOf]; omega
        · rw [hF] at NE
          clear h0 hF
          have ap : (out ++ [92]) ++ [114] = out ++ [92, 114] := by simp
          have AP := Lib.hid ap; clear ap
          go_wp2_with (first
            | (go_at_call 39; refine (esc_at 13 2 _ (by decide)).mono ?_; rintro e w' ⟨rfl, rfl⟩)
            | (go_at_call 31; (first | (refine (writeByte_is w.heap.size w.heap.size (out ++ [92]) 114 _ _ hib.out rfl (by have := HO.out; simp; omega) B2.size).mono ?_; rintro e w3 ⟨rfl, hib3, hbl3⟩) | (with_reducible refine (writeByte_is w.heap.size w.heap.size out 92 92 _ IBr.out rfl (by have := HO.out; omega) Br.out.size).mono ?_; rintro e w2 ⟨rfl, hib, hbl⟩; have B2 := Br.out.trans hbl))))
          rw [AP.out] at hib3
          go_roundw
          case rel => exact ⟨j + 1, out ++ [92, 114], by go_num, by omega, Lib.hid NE.out.symm, hib3, Lib.hid (B2.trans hbl3)⟩
          case measure => simp [intOf]; omega
        · rw [hF] at NE
          clear h0 hF
          have ap : (out ++ [92]) ++ [97] = out ++ [92, 97] := by simp
          have AP := Lib.hid ap; clear ap
          go_wp2_with (first
            | (go_at_call 39; refine (esc_at 7 3 _ (by decide)).mono ?_; rintro e w' ⟨rfl, rfl⟩)
            | (go_at_call 31; (first | (refine (writeByte_is w.heap.size w.heap.size (out ++ [92]) 97 _ _ hib.out rfl (by have := HO.out; simp; omega) B2.size).mono ?_; rintro e w3 ⟨rfl, hib3, hbl3⟩) | (with_reducible refine (writeByte_is w.heap.size w.heap.size out 92 92 _ IBr.out rfl (by have := HO.out; omega) Br.out.size).mono ?_; rintro e w2 ⟨rfl, hib, hbl⟩; have B2 := Br.out.trans hbl))))
          rw [AP.out] at hib3
          go_roundw
          case rel => exact ⟨j + 1, out ++ [92, 97], by go_num, by omega, Lib.hid NE.out.symm, hib3, Lib.hid (B2.trans hbl3)⟩
          case measure => simp [intOf]; omega
        · rw [hF] at NE
          clear h0 hF
          have ap : (out ++ [92]) ++ [98] = out ++ [92, 98] := by simp
          have AP := Lib.hid ap; clear ap
          go_wp2_with (first
            | (go_at_call 39; refine (esc_at 8 4 _ (by decide)).mono ?_; rintro e w' ⟨rfl, rfl⟩)
            | (go_at_call 31; (first | (refine (writeByte_is w.heap.size w.heap.size (out ++ [92]) 98 _ _ hib.out rfl (by have := HO.out; simp; omega) B2.size).mono ?_; rintro e w3 ⟨rfl, hib3, hbl3⟩) | (with_reducible refine (writeByte_is w.heap.size w.heap.size out 92 92 _ IBr.out rfl (by have := HO.out; omega) Br.out.size).mono ?_; rintro e w2 ⟨rfl, hib, hbl⟩; have B2 := Br.out.trans hbl))))
          rw [AP.out] at hib3
          go_roundw
          case rel => exact ⟨j + 1, out ++ [92, 98], by go_num, by omega, Lib.hid NE.out.symm, hib3, Lib.hid (B2.trans hbl3)⟩
          case measure => simp [intOf]; omega
        · rw [hF] at NE
          clear h0 hF
          have ap : (out ++ [92]) ++ [102] = out ++ [92, 102] := by simp
          have AP := Lib.hid ap; clear ap
          go_wp2_with (first
            | (go_at_call 39; refine (esc_at 12 5 _ (by decide)).mono ?_; rintro e w' ⟨rfl, rfl⟩)
            | (go_at_call 31; (first | (refine (writeByte_is w.heap.size w.heap.size (out ++ [92]) 102 _ _ hib.out rfl (by have := HO.out; simp; omega) B2.size).mono ?_; rintro e w3 ⟨rfl, hib3, hbl3⟩) | (with_reducible refine (writeByte_is w.heap.size w.heap.size out 92 92 _ IBr.out rfl (by have := HO.out; omega) Br.out.size).mono ?_; rintro e w2 ⟨rfl, hib, hbl⟩; have B2 := Br.out.trans hbl))))
          rw [AP.out] at hib3
          go_roundw
          case rel => exact ⟨j + 1, out ++ [92, 102], by go_num, by omega, Lib.hid NE.out.symm, hib3, Lib.hid (B2.trans hbl3)⟩
          case measure => simp [intOf]; omega
        · rw [hF] at NE
          clear h0 hF
          have ap : (out ++ [92]) ++ [118] = out ++ [92, 118] := by simp
          have AP := Lib.hid ap; clear ap
          go_wp2_with (first
            | (go_at_call 39; refine (esc_at 11 6 _ (by decide)).mono ?_; rintro e w' ⟨rfl, rfl⟩)
            | (go_at_call 31; (first | (refine (writeByte_is w.heap.size w.heap.size (out ++ [92]) 118 _ _ hib.out rfl (by have := HO.out; simp; omega) B2.size).mono ?_; rintro e w3 ⟨rfl, hib3, hbl3⟩) | (with_reducible refine (writeByte_is w.heap.size w.heap.size out 92 92 _ IBr.out rfl (by have := HO.out; omega) Br.out.size).mono ?_; rintro e w2 ⟨rfl, hib, hbl⟩; have B2 := Br.out.trans hbl))))
          rw [AP.out] at hib3
          go_roundw
          case rel => exact ⟨j + 1, out ++ [92, 118], by go_num, by omega, Lib.hid NE.out.symm, hib3, Lib.hid (B2.trans hbl3)⟩
          case measure => simp [intOf]; omega
    · have F : Hid (out = esc s.data.toList) := Lib.hid (by
        rw [OE.out, List.take_of_length_le (by rw [← size_len]; omega)])
      go_wp2_with (go_at_call 33; refine (Tryd.Builder_String_any w.heap.size w.heap.size out _ IBr.out Br.out.size).mono ?_; rintro e w2 ⟨rfl, hbl⟩)
      go_ret
      exact ⟨by rw [F.out]; rfl, Br.out.trans hbl⟩
end Go.Proofs.YtnbellffbbaamaaDoor
