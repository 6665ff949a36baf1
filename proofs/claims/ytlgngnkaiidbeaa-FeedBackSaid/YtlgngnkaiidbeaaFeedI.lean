/- ref21.Large, ref21.All of lists; the law FeedBack (under way). -/
import Derived.Test.YtlgngnkaiidbeaaFeedH
set_option maxRecDepth 100000
set_option linter.unusedVariables false
set_option linter.unusedSimpArgs false
namespace Go.Proofs.Ytlgngnkaiidbeaa
open Go.RowKit

theorem wErr_nat {k s n : Int} {t : List UInt8} {dl : Nat} (h : wErr k s n t dl = 0) : 0 ≤ k ∧ 0 ≤ s ∧ 0 ≤ n := by
  unfold wErr at h
  split at h
  · exact absurd h (by decide)
  rename_i h1
  split at h
  · exact absurd h (by decide)
  rename_i h2
  split at h
  · exact absurd h (by decide)
  split at h
  · exact absurd h (by decide)
  split at h
  · exact absurd h (by decide)
  rename_i h5
  have hk : knownF k = true := by simpa using h1
  have hk2 : 1 ≤ k ∧ k ≤ 8 := by simpa [knownF] using hk
  have h2 : wNum k s n = true := by simpa using h2
  unfold wNum at h2
  rw [Bool.and_eq_true] at h2
  refine ⟨by omega, ?_, ?_⟩
  · cases e : fS k
    · rcases Decidable.em (s = 0) with h | h
      · omega
      · exact absurd (.inl ⟨e, h⟩) h5
    · have := h2.1
      rw [e] at this
      simp at this
      split at this <;> omega
  · cases e : fN k
    · rcases Decidable.em (n = 0) with h | h
      · omega
      · exact absurd (.inr (.inl ⟨e, h⟩)) h5
    · have := h2.2
      rw [e] at this
      simp at this
      omega

set_option maxHeartbeats 2000000 in
theorem large_calls (A : Option Addr) (c : Nat) (xs : List Fm) (w : World) (hx : FmIn w A xs) (hn : xs.length ≤ 9223372036854775807) :
    Calls Try.prog 39 #[.slice A xs.length c] w fun e w' => ∃ v : Bool, e = .returned (.bool v) ∧ w = w' ∧ (v = false → xs.length ≤ 40 ∧ ∀ j (h : j < xs.length), xs[j].t.size ≤ 100 ∧ xs[j].d.length ≤ 200) := by
  have HX := Lib.hid hx
  clear hx
  go_enter Try.func39, Try.ntmps39
  go_wp2_with fail
  go_loopw [3] (fun i wr => wr = w ∧ ∃ k : Nat, i = .int .i64 k ∧ k ≤ xs.length ∧ k ≤ 40 ∧ ∀ j (h : j < xs.length), j < k → xs[j].t.size ≤ 100 ∧ xs[j].d.length ≤ 200) (fun i _ => 40 - (intOf i).toNat)
  case atStart => exact ⟨rfl, 0, rfl, Nat.zero_le _, by omega, fun j h h2 => absurd h2 (Nat.not_lt_zero _)⟩
  case round =>
    obtain ⟨rfl, k, rfl, h1, h2, h3⟩ := hrel
    have H3 := Lib.hid h3
    clear h3
    by_cases hlt : k < xs.length
    · have k9 : (k : Int) < (xs.length : Int) := by omega
      by_cases h40 : k < 40
      · have k8 : (k : Int) < 40 := by omega
        obtain ⟨ad, rfl, hc⟩ := HX.out.1.fm hlt
        obtain ⟨_, _, _, c3, c4⟩ := hc _ (Ext.refl _)
        have HS : Hid (xs[k].t.size ≤ 100 → xs[k].d.length ≤ 200 → ∀ j (h : j < xs.length), j < k + 1 → xs[j].t.size ≤ 100 ∧ xs[j].d.length ≤ 200) := fun ha hb j h h5 => by
          by_cases e : j = k
          · subst e; exact ⟨ha, hb⟩
          · exact H3.out j h (by omega)
        clear hc
        generalize xs[k] = x at *
        have um1 : IntKind.i64.wrap ((k : Int) + 1) = (k : Int) + 1 := IntWalk.i64_in _ (by omega)
        by_cases ht : 100 < x.t.size
        · go_wp2_with fail
          go_ret
          first | exact .inr ⟨rfl, rfl⟩ | exact ⟨true, rfl, rfl, fun h => by cases h⟩
        by_cases hd : 200 < x.d.length
        · go_wp2_with fail
          go_ret
          first | exact .inr ⟨rfl, rfl⟩ | exact ⟨true, rfl, rfl, fun h => by cases h⟩
        go_wp2_with fail
        go_roundw
        case rel => exact ⟨trivial, k + 1, by go_num, by omega, by omega, HS.out (by omega) (by omega)⟩
        case measure => simp [intOf]; omega
      · have k8 : ¬ (k : Int) < 40 := by omega
        have k7 : (40 : Int) < (xs.length : Int) := by omega
        go_wp2_with fail
        go_ret
        first | exact .inr ⟨rfl, rfl⟩ | exact ⟨true, rfl, rfl, fun h => by cases h⟩
    · have k9 : ¬ (k : Int) < (xs.length : Int) := by omega
      have k7 : ¬ (40 : Int) < (xs.length : Int) := by omega
      go_wp2_with fail
      go_ret
      first | exact .inl ⟨rfl, rfl, by omega, fun j h => H3.out j h (by omega)⟩ | exact ⟨false, rfl, rfl, fun _ => ⟨by omega, fun j h => H3.out j h (by omega)⟩⟩

def encF (f : Fm) : List UInt8 := encP f.pl
theorem encs_len {xs : List Fm} (h : ∀ f ∈ xs, (encF f).length ≤ 1000) : ∀ k, ((xs.take k).flatMap encF).length ≤ xs.length * 1000 := by
  intro k
  induction xs generalizing k with
  | nil => simp
  | cons x l ih =>
    cases k with
    | zero => simp
    | succ k =>
      have h1 := ih (fun f hf => h f (List.mem_cons_of_mem _ hf)) k
      have h2 := h x List.mem_cons_self
      simp only [List.take_succ_cons, List.flatMap_cons, List.length_append, List.length_cons]
      omega
set_option maxHeartbeats 2000000 in
theorem all_calls (A : Option Addr) (c : Nat) (xs : List Fm) (w : World) (hx : FmIn w A xs) (hn : xs.length ≤ 40) (hok : ∀ f ∈ xs, okP f.pl) (hlen : ∀ f ∈ xs, (encF f).length ≤ 1000) :
    Calls Try.prog 42 #[.slice A xs.length c] w (RetB w (xs.flatMap encF)) := by
  have HX := Lib.hid hx
  have HOK := Lib.hid hok
  have HLN := Lib.hid hlen
  clear hx hok hlen
  go_enter Try.func42, Try.ntmps42
  go_wp2_with fail
  go_loopw [3, 4] (fun o i wr => ∃ k : Nat, i = .int .i64 k ∧ k ≤ xs.length ∧ ∃ A1 c1, ∃ zs : List UInt8, zs = (xs.take k).flatMap encF ∧ o = .slice A1 zs.length c1 ∧ OwnB wr w.heap.size A1 c1 zs ∧ Ext w wr) (fun _ i _ => xs.length - (intOf i).toNat)
  case atStart => exact ⟨0, rfl, Nat.zero_le _, none, 0, [], by simp, rfl, OwnB.nil _ _, Ext.refl _⟩
  case round =>
    obtain ⟨k, rfl, hk, A1, c1, zs, hz, rfl, ho, hE⟩ := hrel
    have HZ := Lib.hid hz
    have HO := Lib.hid ho
    have HE := Lib.hid hE
    have hzl : zs.length ≤ 40000 := by rw [hz]; have := encs_len HLN.out k; omega
    clear hz ho hE
    by_cases hlt : k < xs.length
    · have k9 : (k : Int) < (xs.length : Int) := by omega
      obtain ⟨ad, rfl, hc⟩ := HX.out.1.fm hlt
      obtain ⟨b0, b1, b2, b3, b4⟩ := hc _ HE.out
      have hok := HOK.out _ (List.getElem_mem hlt)
      have hln := HLN.out _ (List.getElem_mem hlt)
      have hrd := HX.out.2 _ (List.getElem_mem hlt)
      have HZ2 : Hid (zs ++ encF xs[k] = (xs.take (k + 1)).flatMap encF) := by show _ = _; rw [HZ.out, List.take_succ_eq_append_getElem hlt, List.flatMap_append]; simp
      have um1 : IntKind.i64.wrap ((k : Int) + 1) = (k : Int) + 1 := IntWalk.i64_in _ (by omega)
      clear hc
      generalize xs[k] = x at *
      obtain ⟨fk, fs, fn, ft, fA, fc, fd⟩ := x
      obtain ⟨n1, n2, n3⟩ := wErr_nat hok
      have HBY : Hid (Calls Try.prog 88 #[.agg #[.int .i64 fk, .int .i64 fs, .int .i64 fn, .string ft, .slice fA fd.length fc]] wr (RetB wr (encF ⟨fk, fs, fn, ft, fA, fc, fd⟩))) := by
        have e1 : ((fk.toNat : Nat) : Int) = fk := Int.toNat_of_nonneg n1
        have e2 : ((fs.toNat : Nat) : Int) = fs := Int.toNat_of_nonneg n2
        have e3 : ((fn.toNat : Nat) : Int) = fn := Int.toNat_of_nonneg n3
        have h := rwbytes_calls fk.toNat fs.toNat fn.toNat ft fA fc fd wr (by rw [e1, e2, e3]; exact hok) (hrd.ext HE.out)
        unfold fraA at h
        rw [e1, e2, e3] at h
        exact h
      generalize encF ⟨fk, fs, fn, ft, fA, fc, fd⟩ = ys at *
      clear hok hrd
      go_wp2_with fail
      refine HBY.out.mono ?_
      rintro e w2 ⟨A2, c2, rfl, o2, e2⟩
      have O2 := Lib.hid o2
      have E2 := Lib.hid (HE.out.trans e2)
      have OZ := Lib.hid (HO.out.ext e2)
      clear o2 e2 b0 b1 b2 b3 b4
      go_wp2_with ((with_reducible show wpList _ _ _ ({ dst := some 17, op := Op.call { callee := Callee.builtin Builtin.append, args := _, argTypes := _ }, type := _, pos := _, after := _, guard := _ } :: _) _ _); refine appB _ rfl (.tmp 11) (.tmp 16) rfl w.heap.size A1 c1 zs rfl A2 c2 ys rfl ?_ OZ.out O2.out.rd (by omega) E2.out.size; intro A3 c3 w3 h3 g3 k3; have O3 := Lib.hid h3; have E3 := Lib.hid (E2.out.grown g3 (fun k hk => (OZ.out.base_ k hk).1)); clear h3 g3 k3)
      go_roundw
      case rel => exact ⟨k + 1, by go_num, by omega, A3, c3, zs ++ ys, HZ2.out, by rw [List.length_append], O3.out, E3.out⟩
      case measure => simp [intOf]; omega
    · have k9 : ¬ (k : Int) < (xs.length : Int) := by omega
      have HZZ : Hid (zs = xs.flatMap encF) := by show _ = _; rw [HZ.out, List.take_of_length_le (by omega)]
      go_wp2_with fail
      go_ret
      rw [← HZZ.out]
      exact ⟨A1, c1, rfl, HO.out, HE.out⟩
end Go.Proofs.Ytlgngnkaiidbeaa
