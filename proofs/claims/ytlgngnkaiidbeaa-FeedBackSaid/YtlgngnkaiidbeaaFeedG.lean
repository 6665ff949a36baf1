/- law22.cut: its contract. -/
import Derived.Test.YtlgngnkaiidbeaaFeedF
set_option maxRecDepth 100000
set_option linter.unusedVariables false
set_option linter.unusedSimpArgs false
namespace Go.Proofs.Ytlgngnkaiidbeaa
open Go.RowKit

set_option maxHeartbeats 3000000 in
theorem cut_calls (A A2 : Option Addr) (c c2 : Nat) (bs ls : List UInt8) (w : World) (hb : RdB w A bs) (hls : RdB w A2 ls) (hbl : bs.length ≤ 50000) (hll : ls.length ≤ 1000) (hbc : bs.length ≤ c) (hcm : c ≤ 9223372036854775807) :
    Calls Try.prog 37 #[.slice A bs.length c, .slice A2 ls.length c2] w fun e w' => ∃ B d, ∃ xs : List Fm, e = .returned (.tuple #[.slice B xs.length d, .int .i64 (fo dcP bs).2.1]) ∧ FmO w' w.heap.size B d xs ∧ xs.map Fm.pl = (fo dcP bs).1 ∧ Ext w w' := by
  have HB0 := Lib.hid hb
  have HL := Lib.hid hls
  have HNW := Lib.hid (fnew_calls w)
  clear hb hls
  go_enter Try.func37, Try.ntmps37
  go_wp2_with fail
  refine HNW.out.mono ?_
  rintro e w1 ⟨gf, rfl, hf, e1, hgf⟩
  have HF1 := Lib.hid hf
  have E1 := Lib.hid e1
  have HGF := Lib.hid hgf
  clear hf e1 hgf HNW
  go_wp2_with fail
  go_loopw [0, 7, 8] (fun b o i wr => ∃ k : Nat, i = .int .i64 k ∧ k ≤ ls.length ∧ CI w wr gf bs b o) (fun b o i _ => ls.length - (intOf i).toNat)
  case atStart => exact ⟨0, rfl, Nat.zero_le _, none, 0, [], A, c, bs, [], 0, [], rfl, rfl, HB0.out, ⟨hbc, hcm⟩, rfl, HF1.out, FdI.start dcP, fun _ => Nat.le_refl _, FmO.nil _ _, E1.out, by simp⟩
  case round =>
    obtain ⟨k, rfl, hk, A1, c1, xs, Bd, Bc, bs', P, er, r, rfl, rfl, hb, ⟨hc1, hc2⟩, hP, hF, hI, hr, hO, hE, hxl⟩ := hrel
    have HB := Lib.hid hb
    have HP := Lib.hid hP
    have HF := Lib.hid hF
    have HI := Lib.hid hI
    have HR := Lib.hid hr
    have HO := Lib.hid hO
    have HE := Lib.hid hE
    have hpl : P.length + bs'.length ≤ 50000 := by rw [← List.length_append, hP]; exact hbl
    clear hb hP hF hI hr hO hE
    by_cases hlt : k < ls.length
    · have k9 : (k : Int) < (ls.length : Int) := by omega
      obtain ⟨ad2, rfl, hl2⟩ := HL.out.at_ hlt
      have hl2 := HE.out.cell hl2
      have hu := (ls[k]).toNat_lt
      have um1 : IntKind.i64.wrap ((k : Int) + 1) = (k : Int) + 1 := IntWalk.i64_in _ (by omega)
      have HPU : Hid (∀ n, n ≤ bs'.length → Calls Try.prog 41 #[.pointer (some ⟨gf, 0, none⟩), .slice Bd n Bc] wr fun e w' => ∃ A2 c2, ∃ xs2 : List Fm, ∃ (e' : Int) (r' : List UInt8), e = .returned (.tuple #[.slice A2 xs2.length c2, .int .i64 e']) ∧ FmO w' wr.heap.size A2 c2 xs2 ∧ FdW w' gf r' e' ∧ FdI dcP (P ++ bs'.take n) (xs.map Fm.pl ++ xs2.map Fm.pl) e' r' ∧ (e' = 0 → r'.length ≤ (P ++ bs'.take n).length) ∧ KpF gf wr w' ∧ xs2.length ≤ 50000) := fun n hn => by
        have h := push_any gf r (bs'.take n) er Bd Bc wr P _ HF.out HI.out HR.out (RdB.ext (HB.out.take n) HE.out) (by rw [List.length_take]; omega)
        rw [List.length_take, Nat.min_eq_left hn] at h
        exact h
      generalize ls[k] = u at *
      obtain ⟨m, hm⟩ : ∃ m, m = u.toNat := ⟨_, rfl⟩
      rw [← hm] at hl2 hu
      clear hm
      by_cases hgt : bs'.length < m
      · have g1 : (bs'.length : Int) < (m : Int) := by omega
        cases Bd with
        | none =>
          have hz : bs'.length = 0 := by have h := HB.out; cases bs' with | nil => rfl | cons y l => obtain ⟨ad, h, _⟩ := h 0 (bv y) (by simp); cases h
          obtain rfl : bs' = [] := List.length_eq_zero_iff.1 hz
          clear hz
          go_wp2_with fail
          refine (HPU.out 0 (by omega)).mono ?_
          rintro e w2 ⟨A2, c2, ys, e', r', rfl, h1, h2, h3, h4, hkp, hyl⟩
          have H1 := Lib.hid h1
          have H2 := Lib.hid h2
          have H3 := Lib.hid h3
          have H4 := Lib.hid h4
          have HKP := Lib.hid hkp
          have HO2 := Lib.hid (HO.out.kpf HF.out hkp)
          clear h1 h2 h3 h4 hkp
          go_wp2_with ((with_reducible show wpList _ _ _ ({ dst := some 42, op := Op.call { callee := Callee.builtin Builtin.append, args := _, argTypes := _ }, type := _, pos := _, after := _, guard := _ } :: _) _ _); refine appN _ rfl (.tmp 40) (.tmp 41) 57 rfl 65 (.agg #[.int .i64 0, .int .i64 0, .int .i64 0, .string ByteArray.empty, .slice none 0 0]) 5 64 Try.underlying57 info_fm rfl (by decide) w.heap.size A1 xs.length c1 (xs.flatMap Fm.cs) rfl A2 ys.length c2 (ys.flatMap Fm.cs) rfl (xs.length + ys.length) (xs.flatMap Fm.cs ++ ys.flatMap Fm.cs) ?_ rfl rfl HO2.out.row (flat_length Fm.cs_len ys) H1.out.row.rd (fms_one ys) (by omega) (by omega) (by have := HE.out.size; have := HKP.out.size; omega); intro A3 c3 w3 o3 g3 k3; have O3 := Lib.hid o3; have G3 := Lib.hid g3; clear o3 g3 k3)
          go_roundw
          case rel => exact ⟨k + 1, by go_num, by omega, CI.next (n := 0) (Bd := none) (Bc := Bc) HGF.out HP.out (by omega) HF.out HO.out HE.out (by omega) H1.out H2.out H3.out H4.out HKP.out O3.out rfl G3.out (by have h := HB.out.cut 0 Bc hc1; simpa using h) ⟨by rw [List.length_drop]; omega, by omega⟩ (by first | (rw [List.length_drop]; done) | (rw [List.length_drop]; simp; done) | (rw [List.length_drop]; simp; omega))⟩
          case measure => simp [intOf]; omega
        | some ad =>
          by_cases hcc : Bc = bs'.length
          · have hcc2 : bs'.length = Bc := hcc.symm
            subst hcc
            clear hcc2
            go_wp2_with fail
            refine (HPU.out bs'.length (by omega)).mono ?_
            rintro e w2 ⟨A2, c2, ys, e', r', rfl, h1, h2, h3, h4, hkp, hyl⟩
            have H1 := Lib.hid h1
            have H2 := Lib.hid h2
            have H3 := Lib.hid h3
            have H4 := Lib.hid h4
            have HKP := Lib.hid hkp
            have HO2 := Lib.hid (HO.out.kpf HF.out hkp)
            clear h1 h2 h3 h4 hkp
            go_wp2_with ((with_reducible show wpList _ _ _ ({ dst := some 42, op := Op.call { callee := Callee.builtin Builtin.append, args := _, argTypes := _ }, type := _, pos := _, after := _, guard := _ } :: _) _ _); refine appN _ rfl (.tmp 40) (.tmp 41) 57 rfl 65 (.agg #[.int .i64 0, .int .i64 0, .int .i64 0, .string ByteArray.empty, .slice none 0 0]) 5 64 Try.underlying57 info_fm rfl (by decide) w.heap.size A1 xs.length c1 (xs.flatMap Fm.cs) rfl A2 ys.length c2 (ys.flatMap Fm.cs) rfl (xs.length + ys.length) (xs.flatMap Fm.cs ++ ys.flatMap Fm.cs) ?_ rfl rfl HO2.out.row (flat_length Fm.cs_len ys) H1.out.row.rd (fms_one ys) (by omega) (by omega) (by have := HE.out.size; have := HKP.out.size; omega); intro A3 c3 w3 o3 g3 k3; have O3 := Lib.hid o3; have G3 := Lib.hid g3; clear o3 g3 k3)
            go_roundw
            case rel => exact ⟨k + 1, by go_num, by omega, CI.next (Bd := some ad) (Bc := 0) (n := bs'.length) HGF.out HP.out (by omega) HF.out HO.out HE.out (by omega) H1.out H2.out H3.out H4.out HKP.out O3.out rfl G3.out (by have h := HB.out.cut bs'.length bs'.length hc1; simpa using h) ⟨by rw [List.length_drop]; omega, by omega⟩ (by first | (rw [List.length_drop]; done) | (rw [List.length_drop]; simp; done) | (rw [List.length_drop]; simp; omega))⟩
            case measure => simp [intOf]; omega
          · have hcc2 : ¬ bs'.length = Bc := fun e => hcc e.symm
            go_wp2_with fail
            refine (HPU.out bs'.length (by omega)).mono ?_
            rintro e w2 ⟨A2, c2, ys, e', r', rfl, h1, h2, h3, h4, hkp, hyl⟩
            have H1 := Lib.hid h1
            have H2 := Lib.hid h2
            have H3 := Lib.hid h3
            have H4 := Lib.hid h4
            have HKP := Lib.hid hkp
            have HO2 := Lib.hid (HO.out.kpf HF.out hkp)
            clear h1 h2 h3 h4 hkp
            go_wp2_with ((with_reducible show wpList _ _ _ ({ dst := some 42, op := Op.call { callee := Callee.builtin Builtin.append, args := _, argTypes := _ }, type := _, pos := _, after := _, guard := _ } :: _) _ _); refine appN _ rfl (.tmp 40) (.tmp 41) 57 rfl 65 (.agg #[.int .i64 0, .int .i64 0, .int .i64 0, .string ByteArray.empty, .slice none 0 0]) 5 64 Try.underlying57 info_fm rfl (by decide) w.heap.size A1 xs.length c1 (xs.flatMap Fm.cs) rfl A2 ys.length c2 (ys.flatMap Fm.cs) rfl (xs.length + ys.length) (xs.flatMap Fm.cs ++ ys.flatMap Fm.cs) ?_ rfl rfl HO2.out.row (flat_length Fm.cs_len ys) H1.out.row.rd (fms_one ys) (by omega) (by omega) (by have := HE.out.size; have := HKP.out.size; omega); intro A3 c3 w3 o3 g3 k3; have O3 := Lib.hid o3; have G3 := Lib.hid g3; clear o3 g3 k3)
            go_roundw
            case rel => exact ⟨k + 1, by go_num, by omega, CI.next (Bd := some (ad.add (bs'.length))) (Bc := Bc - bs'.length) (n := bs'.length) HGF.out HP.out (by omega) HF.out HO.out HE.out (by omega) H1.out H2.out H3.out H4.out HKP.out O3.out rfl G3.out (by have h := HB.out.cut bs'.length Bc hc1; rwa [if_neg hcc] at h) ⟨by rw [List.length_drop]; omega, by omega⟩ (by first | (rw [List.length_drop]; done) | (rw [List.length_drop]; simp; done) | (rw [List.length_drop]; simp; omega))⟩
            case measure => simp [intOf]; omega
      · have g1 : ¬ (bs'.length : Int) < (m : Int) := by omega
        have hmle : m ≤ bs'.length := by omega
        cases Bd with
        | none =>
          have hz : bs'.length = 0 := by have h := HB.out; cases bs' with | nil => rfl | cons y l => obtain ⟨ad, h, _⟩ := h 0 (bv y) (by simp); cases h
          obtain rfl : bs' = [] := List.length_eq_zero_iff.1 hz
          clear hz
          obtain rfl : m = 0 := by simp at hmle; exact hmle
          clear hmle
          go_wp2_with fail
          refine (HPU.out 0 (by omega)).mono ?_
          rintro e w2 ⟨A2, c2, ys, e', r', rfl, h1, h2, h3, h4, hkp, hyl⟩
          have H1 := Lib.hid h1
          have H2 := Lib.hid h2
          have H3 := Lib.hid h3
          have H4 := Lib.hid h4
          have HKP := Lib.hid hkp
          have HO2 := Lib.hid (HO.out.kpf HF.out hkp)
          clear h1 h2 h3 h4 hkp
          go_wp2_with ((with_reducible show wpList _ _ _ ({ dst := some 42, op := Op.call { callee := Callee.builtin Builtin.append, args := _, argTypes := _ }, type := _, pos := _, after := _, guard := _ } :: _) _ _); refine appN _ rfl (.tmp 40) (.tmp 41) 57 rfl 65 (.agg #[.int .i64 0, .int .i64 0, .int .i64 0, .string ByteArray.empty, .slice none 0 0]) 5 64 Try.underlying57 info_fm rfl (by decide) w.heap.size A1 xs.length c1 (xs.flatMap Fm.cs) rfl A2 ys.length c2 (ys.flatMap Fm.cs) rfl (xs.length + ys.length) (xs.flatMap Fm.cs ++ ys.flatMap Fm.cs) ?_ rfl rfl HO2.out.row (flat_length Fm.cs_len ys) H1.out.row.rd (fms_one ys) (by omega) (by omega) (by have := HE.out.size; have := HKP.out.size; omega); intro A3 c3 w3 o3 g3 k3; have O3 := Lib.hid o3; have G3 := Lib.hid g3; clear o3 g3 k3)
          go_roundw
          case rel => exact ⟨k + 1, by go_num, by omega, CI.next (n := 0) (Bd := none) (Bc := Bc) HGF.out HP.out (by omega) HF.out HO.out HE.out (by omega) H1.out H2.out H3.out H4.out HKP.out O3.out rfl G3.out (by have h := HB.out.cut 0 Bc hc1; simpa using h) ⟨by rw [List.length_drop]; omega, by omega⟩ (by first | (rw [List.length_drop]; done) | (rw [List.length_drop]; simp; done) | (rw [List.length_drop]; simp; omega))⟩
          case measure => simp [intOf]; omega
        | some ad =>
          by_cases hcc : Bc = m
          · have hcc2 : m = Bc := hcc.symm
            subst hcc2
            clear hcc
            go_wp2_with fail
            refine (HPU.out m (by omega)).mono ?_
            rintro e w2 ⟨A2, c2, ys, e', r', rfl, h1, h2, h3, h4, hkp, hyl⟩
            have H1 := Lib.hid h1
            have H2 := Lib.hid h2
            have H3 := Lib.hid h3
            have H4 := Lib.hid h4
            have HKP := Lib.hid hkp
            have HO2 := Lib.hid (HO.out.kpf HF.out hkp)
            clear h1 h2 h3 h4 hkp
            go_wp2_with ((with_reducible show wpList _ _ _ ({ dst := some 42, op := Op.call { callee := Callee.builtin Builtin.append, args := _, argTypes := _ }, type := _, pos := _, after := _, guard := _ } :: _) _ _); refine appN _ rfl (.tmp 40) (.tmp 41) 57 rfl 65 (.agg #[.int .i64 0, .int .i64 0, .int .i64 0, .string ByteArray.empty, .slice none 0 0]) 5 64 Try.underlying57 info_fm rfl (by decide) w.heap.size A1 xs.length c1 (xs.flatMap Fm.cs) rfl A2 ys.length c2 (ys.flatMap Fm.cs) rfl (xs.length + ys.length) (xs.flatMap Fm.cs ++ ys.flatMap Fm.cs) ?_ rfl rfl HO2.out.row (flat_length Fm.cs_len ys) H1.out.row.rd (fms_one ys) (by omega) (by omega) (by have := HE.out.size; have := HKP.out.size; omega); intro A3 c3 w3 o3 g3 k3; have O3 := Lib.hid o3; have G3 := Lib.hid g3; clear o3 g3 k3)
            go_roundw
            case rel => exact ⟨k + 1, by go_num, by omega, CI.next (Bd := some ad) (Bc := 0) (n := m) HGF.out HP.out (by omega) HF.out HO.out HE.out (by omega) H1.out H2.out H3.out H4.out HKP.out O3.out rfl G3.out (by have h := HB.out.cut m m hc1; simpa using h) ⟨by rw [List.length_drop]; omega, by omega⟩ (by first | (rw [List.length_drop]; done) | (rw [List.length_drop]; simp; done) | (rw [List.length_drop]; simp; omega))⟩
            case measure => simp [intOf]; omega
          · have hcc2 : ¬ m = Bc := fun e => hcc e.symm
            go_wp2_with fail
            refine (HPU.out m (by omega)).mono ?_
            rintro e w2 ⟨A2, c2, ys, e', r', rfl, h1, h2, h3, h4, hkp, hyl⟩
            have H1 := Lib.hid h1
            have H2 := Lib.hid h2
            have H3 := Lib.hid h3
            have H4 := Lib.hid h4
            have HKP := Lib.hid hkp
            have HO2 := Lib.hid (HO.out.kpf HF.out hkp)
            clear h1 h2 h3 h4 hkp
            go_wp2_with ((with_reducible show wpList _ _ _ ({ dst := some 42, op := Op.call { callee := Callee.builtin Builtin.append, args := _, argTypes := _ }, type := _, pos := _, after := _, guard := _ } :: _) _ _); refine appN _ rfl (.tmp 40) (.tmp 41) 57 rfl 65 (.agg #[.int .i64 0, .int .i64 0, .int .i64 0, .string ByteArray.empty, .slice none 0 0]) 5 64 Try.underlying57 info_fm rfl (by decide) w.heap.size A1 xs.length c1 (xs.flatMap Fm.cs) rfl A2 ys.length c2 (ys.flatMap Fm.cs) rfl (xs.length + ys.length) (xs.flatMap Fm.cs ++ ys.flatMap Fm.cs) ?_ rfl rfl HO2.out.row (flat_length Fm.cs_len ys) H1.out.row.rd (fms_one ys) (by omega) (by omega) (by have := HE.out.size; have := HKP.out.size; omega); intro A3 c3 w3 o3 g3 k3; have O3 := Lib.hid o3; have G3 := Lib.hid g3; clear o3 g3 k3)
            go_roundw
            case rel => exact ⟨k + 1, by go_num, by omega, CI.next (Bd := some (ad.add (m))) (Bc := Bc - m) (n := m) HGF.out HP.out (by omega) HF.out HO.out HE.out (by omega) H1.out H2.out H3.out H4.out HKP.out O3.out rfl G3.out (by have h := HB.out.cut m Bc hc1; rwa [if_neg hcc] at h) ⟨by rw [List.length_drop]; omega, by omega⟩ (by first | (rw [List.length_drop]; done) | (rw [List.length_drop]; simp; done) | (rw [List.length_drop]; simp; omega))⟩
            case measure => simp [intOf]; omega
    · have k9 : ¬ (k : Int) < (ls.length : Int) := by omega
      have HPU := Lib.hid (push_any gf r bs' er Bd Bc wr P _ HF.out HI.out HR.out (HB.out.ext HE.out) hpl)
      go_wp2_with fail
      refine HPU.out.mono ?_
      rintro e w2 ⟨A2, c2, ys, e', r', rfl, h1, h2, h3, h4, hkp, hyl⟩
      have H1 := Lib.hid h1
      have H2 := Lib.hid h2
      have H3 := Lib.hid h3
      have HKP := Lib.hid hkp
      have HO2 := Lib.hid (HO.out.kpf HF.out hkp)
      clear h1 h2 h3 h4 hkp
      go_wp2_with ((with_reducible show wpList _ _ _ ({ dst := some 54, op := Op.call { callee := Callee.builtin Builtin.append, args := _, argTypes := _ }, type := _, pos := _, after := _, guard := _ } :: _) _ _); refine appN _ rfl (.tmp 52) (.tmp 53) 57 rfl 65 (.agg #[.int .i64 0, .int .i64 0, .int .i64 0, .string ByteArray.empty, .slice none 0 0]) 5 64 Try.underlying57 info_fm rfl (by decide) w.heap.size A1 xs.length c1 (xs.flatMap Fm.cs) rfl A2 ys.length c2 (ys.flatMap Fm.cs) rfl (xs.length + ys.length) (xs.flatMap Fm.cs ++ ys.flatMap Fm.cs) ?_ rfl rfl HO2.out.row (flat_length Fm.cs_len ys) H1.out.row.rd (fms_one ys) (by omega) (by omega) (by have := HE.out.size; have := HKP.out.size; omega); intro A3 c3 w3 o3 g3 k3; have O3 := Lib.hid o3; have G3 := Lib.hid g3; clear o3 g3 k3)
      go_ret2
      have hE' := H3.out
      rw [HP.out] at hE'
      refine ⟨A3, c3, xs ++ ys, by rw [hE'.er, List.length_append]; rfl, HO2.out.app (H1.out.lower HE.out.size) G3.out O3.out, by rw [List.map_append]; exact hE'.fr.symm, (HKP.out.ext HE.out HGF.out).grown G3.out (fun k hk' => (HO2.out.row.base_ k hk').1)⟩
end Go.Proofs.Ytlgngnkaiidbeaa
