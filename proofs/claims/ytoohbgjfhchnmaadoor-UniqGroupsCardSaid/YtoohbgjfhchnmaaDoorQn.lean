/- walks: a string without its first field, the reference -/
import Derived.Test.YtoohbgjfhchnmaaDoorQm
namespace Go.Proofs.YtoohbgjfhchnmaaDoor
open Go.RowKit Go.Maps
open Lcl
theorem rblank_is (c : UInt8) (b : Bool) (w : World) (hb : Hid (bl c = b)) : Calls Tryd.prog 44 #[.int .u8 (c.toNat : Int)] w fun e w' => e = .returned (.bool b) ∧ w = w' := by
  have hc := c.toNat_lt
  rw [← hb.out]; clear hb
  by_cases h1 : c.toNat = 32
  · have E := Lib.hid ((bl_iff c).2 (.inl h1))
    have e1 : ((c.toNat : Int) == 32) = true := by rw [h1]; rfl
    clear h1
    go_enter Tryd.func44, Tryd.ntmps44
    go_wp2
    go_ret
    exact ⟨ret_bool E.out.symm, rfl⟩
  · have e1 : ((c.toNat : Int) == 32) = false := by rw [beq_eq_false_iff_ne]; omega
    by_cases h2 : c.toNat = 9
    · have E := Lib.hid ((bl_iff c).2 (.inr h2))
      have e2 : ((c.toNat : Int) == 9) = true := by rw [h2]; rfl
      clear h1 h2
      go_enter Tryd.func44, Tryd.ntmps44
      go_wp2
      go_ret
      exact ⟨ret_bool E.out.symm, rfl⟩
    · have E : Hid (bl c = false) := Lib.hid (by rw [Bool.eq_false_iff]; intro e; rcases (bl_iff c).1 e with h | h <;> omega)
      have e2 : ((c.toNat : Int) == 9) = false := by rw [beq_eq_false_iff_ne]; omega
      clear h1 h2
      go_enter Tryd.func44, Tryd.ntmps44
      go_wp2
      go_ret
      exact ⟨ret_bool E.out.symm, rfl⟩
/-- a list without its first field -/
def fdL (l : List UInt8) : List UInt8 := skL false (skL true l)
def szOf : Value → Nat | .string s => s.size | _ => 0
theorem head_cons (t : ByteArray) (h : 0 < t.size) : t.data.toList = t[0] :: (t.extract 1 t.size).data.toList := by
  rw [ext_to]
  have := drop_cons t 0 h
  rw [List.drop_zero] at this
  exact this
theorem sk_one (b : Bool) (t : ByteArray) (h : 0 < t.size) (hb : (bl t[0] == b) = true) : skL b (t.extract 1 t.size).data.toList = skL b t.data.toList := by
  rw [head_cons t h]
  unfold skL
  rw [List.dropWhile_cons, hb]
  rfl
theorem sk_done (b : Bool) (t : ByteArray) (h : 0 < t.size) (hb : (bl t[0] == b) = false) : skL b t.data.toList = t.data.toList := by
  rw [head_cons t h]
  unfold skL
  rw [List.dropWhile_cons, hb]
  rfl
theorem sk_none (b : Bool) (t : ByteArray) (h : t.size = 0) : skL b t.data.toList = t.data.toList := by
  have : t.data.toList = [] := List.length_eq_zero_iff.1 h
  rw [this]; rfl
theorem ext1_size (t : ByteArray) (_h : 0 < t.size) : (t.extract 1 t.size).size = t.size - 1 := by
  rw [← len_of, ext_to, List.length_drop]; rfl
set_option maxHeartbeats 4000000 in
theorem rfield_any (s : ByteArray) (w : World) (hs : s.size ≤ 9223372036854775807) :
    Calls Tryd.prog 38 #[.string s] w fun e w' => e = .returned (.string ⟨(fdL s.data.toList).toArray⟩) ∧ w = w' := by
  have HS := Lib.hid hs; clear hs
  go_enter Tryd.func38, Tryd.ntmps38
  go_wp2_with fail
  go_loop [0] (fun v => ∃ t : ByteArray, v = .string t ∧ t.size ≤ s.size ∧ Hid (skL true t.data.toList = skL true s.data.toList)) (fun v => szOf v)
  case atStart => exact ⟨s, rfl, Nat.le_refl _, Lib.hid rfl⟩
  case round =>
    obtain ⟨t, rfl, hz, RT⟩ := hrel
    have hz2 : t.size ≤ 9223372036854775807 := by have := HS.out; omega
    have HZ := Lib.hid hz; clear hz
    by_cases h0 : 0 < t.size
    · cases hb : bl t[0] with
      | true =>
        have BB := Lib.hid hb; clear hb
        have RN : Hid (skL true (t.extract 1 t.size).data.toList = skL true s.data.toList) := Lib.hid (by rw [sk_one true t h0 (by rw [BB.out]; rfl)]; exact RT.out)
        have EZ : Hid ((t.extract 1 t.size).size = t.size - 1) := Lib.hid (ext1_size t h0)
        go_wp2_with (go_at_call 44; refine (rblank_is t[0] true _ BB).mono ?_; rintro e w' ⟨rfl, rfl⟩)
        go_round
        case rel => exact ⟨_, rfl, by have := EZ.out; have := HZ.out; omega, RN⟩
        case measure => simp only [szOf]; have := EZ.out; omega
      | false =>
        have BB := Lib.hid hb; clear hb
        have ST : Hid (skL true s.data.toList = t.data.toList) := Lib.hid (by rw [← RT.out]; exact sk_done true t h0 (by rw [BB.out]; rfl))
        clear RT
        go_wp2_with (go_at_call 44; refine (rblank_is t[0] false _ BB).mono ?_; rintro e w' ⟨rfl, rfl⟩)
        go_loop [0] (fun v => ∃ u : ByteArray, v = .string u ∧ u.size ≤ t.size ∧ Hid (skL false u.data.toList = skL false t.data.toList)) (fun v => szOf v)
        case atStart => exact ⟨t, rfl, Nat.le_refl _, Lib.hid rfl⟩
        case round =>
          obtain ⟨u, rfl, hu, RU⟩ := hrel
          have hu2 : u.size ≤ 9223372036854775807 := by omega
          have HU := Lib.hid hu; clear hu
          by_cases h1 : 0 < u.size
          · cases hb : bl u[0] with
            | false =>
              have BU := Lib.hid hb; clear hb
              have RN : Hid (skL false (u.extract 1 u.size).data.toList = skL false t.data.toList) := Lib.hid (by rw [sk_one false u h1 (by rw [BU.out]; rfl)]; exact RU.out)
              have EZ : Hid ((u.extract 1 u.size).size = u.size - 1) := Lib.hid (ext1_size u h1)
              go_wp2_with (go_at_call 44; refine (rblank_is u[0] false _ BU).mono ?_; rintro e w' ⟨rfl, rfl⟩)
              go_round
              case rel => exact ⟨_, rfl, by have := EZ.out; have := HU.out; omega, RN⟩
              case measure => simp only [szOf]; have := EZ.out; omega
            | true =>
              have BU := Lib.hid hb; clear hb
              have FN : Hid (u = ⟨(fdL s.data.toList).toArray⟩) := Lib.hid (ba_eq (by show _ = fdL s.data.toList; unfold fdL; rw [ST.out, ← RU.out]; exact (sk_done false u h1 (by rw [BU.out]; rfl)).symm))
              go_wp2_with (go_at_call 44; refine (rblank_is u[0] true _ BU).mono ?_; rintro e w' ⟨rfl, rfl⟩)
              go_ret
              exact ⟨ret_str FN.out, rfl⟩
          · have FN : Hid (u = ⟨(fdL s.data.toList).toArray⟩) := Lib.hid (ba_eq (by show _ = fdL s.data.toList; unfold fdL; rw [ST.out, ← RU.out]; exact (sk_none false u (by omega)).symm))
            go_wp2
            go_ret
            exact ⟨ret_str FN.out, rfl⟩
    · have ST : Hid (skL true s.data.toList = t.data.toList) := Lib.hid (by rw [← RT.out]; exact sk_none true t (by omega))
      clear RT
      go_wp2_with fail
      go_loop [0] (fun v => ∃ u : ByteArray, v = .string u ∧ u.size ≤ t.size ∧ Hid (skL false u.data.toList = skL false t.data.toList)) (fun v => szOf v)
      case atStart => exact ⟨t, rfl, Nat.le_refl _, Lib.hid rfl⟩
      case round =>
        obtain ⟨u, rfl, hu, RU⟩ := hrel
        have hu2 : u.size ≤ 9223372036854775807 := by omega
        have HU := Lib.hid hu; clear hu
        by_cases h1 : 0 < u.size
        · cases hb : bl u[0] with
          | false =>
            have BU := Lib.hid hb; clear hb
            have RN : Hid (skL false (u.extract 1 u.size).data.toList = skL false t.data.toList) := Lib.hid (by rw [sk_one false u h1 (by rw [BU.out]; rfl)]; exact RU.out)
            have EZ : Hid ((u.extract 1 u.size).size = u.size - 1) := Lib.hid (ext1_size u h1)
            go_wp2_with (go_at_call 44; refine (rblank_is u[0] false _ BU).mono ?_; rintro e w' ⟨rfl, rfl⟩)
            go_round
            case rel => exact ⟨_, rfl, by have := EZ.out; have := HU.out; omega, RN⟩
            case measure => simp only [szOf]; have := EZ.out; omega
          | true =>
            have BU := Lib.hid hb; clear hb
            have FN : Hid (u = ⟨(fdL s.data.toList).toArray⟩) := Lib.hid (ba_eq (by show _ = fdL s.data.toList; unfold fdL; rw [ST.out, ← RU.out]; exact (sk_done false u h1 (by rw [BU.out]; rfl)).symm))
            go_wp2_with (go_at_call 44; refine (rblank_is u[0] true _ BU).mono ?_; rintro e w' ⟨rfl, rfl⟩)
            go_ret
            exact ⟨ret_str FN.out, rfl⟩
        · have FN : Hid (u = ⟨(fdL s.data.toList).toArray⟩) := Lib.hid (ba_eq (by show _ = fdL s.data.toList; unfold fdL; rw [ST.out, ← RU.out]; exact (sk_none false u (by omega)).symm))
          go_wp2
          go_ret
          exact ⟨ret_str FN.out, rfl⟩
end Go.Proofs.YtoohbgjfhchnmaaDoor
