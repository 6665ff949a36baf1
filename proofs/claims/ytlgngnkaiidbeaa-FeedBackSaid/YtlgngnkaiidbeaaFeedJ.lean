/- The law FeedBack (under way). -/
import Derived.Test.YtlgngnkaiidbeaaFeedI
set_option maxRecDepth 100000
set_option linter.unusedVariables false
set_option linter.unusedSimpArgs false
namespace Go.Proofs.Ytlgngnkaiidbeaa
open Go.RowKit

theorem encF_len {f : Fm} (h : okP f.pl) : (encF f).length ≤ 1000 := by
  obtain ⟨k, s, n, t, A, c, d⟩ := f
  obtain ⟨n1, n2, n3⟩ := wErr_nat h
  have e1 : ((k.toNat : Nat) : Int) = k := Int.toNat_of_nonneg n1
  have e2 : ((s.toNat : Nat) : Int) = s := Int.toNat_of_nonneg n2
  have e3 : ((n.toNat : Nat) : Int) = n := Int.toNat_of_nonneg n3
  have h' : wErr (k.toNat : Nat) (s.toNat : Nat) (n.toNat : Nat) t.data.toList d.length = 0 := by rw [e1, e2, e3]; exact h
  obtain ⟨_, _, _, _, _, _, _, ht, hd, _, _⟩ := wErr_zero h'
  have hb := (wBody_len (k := k.toNat) (s := s.toNat) (n := n.toNat) ht hd).1
  show (wireB k.toNat s.toNat n.toNat t.data.toList d).length ≤ 1000
  have h0 : (wireB k.toNat s.toNat n.toNat t.data.toList d).length = 2 + (wBody k.toNat s.toNat n.toNat t.data.toList d).length := by
    rw [wireB_eq, List.length_append]
    rfl
  omega
theorem fo_back {xs : List Fm} (h : ∀ f ∈ xs, okP f.pl) : fo dcP (xs.flatMap encF) = (xs.map Fm.pl, 0, []) := by
  have h1 := fo_enc (xs.map Fm.pl) (fun p hp => by obtain ⟨f, hf, rfl⟩ := List.mem_map.1 hp; exact ⟨wErr_nat (h f hf), h f hf⟩)
  rw [List.flatMap_map] at h1
  exact h1

set_option maxHeartbeats 4000000 in
theorem feedBack_walk (A : Option Addr) (c : Nat) (xs : List Fm) (u : UInt8) (w : World) (hx : FmIn w A xs) (hn : xs.length ≤ 9223372036854775807) :
    Calls Try.prog 8 #[.slice A xs.length c, .int .u8 (u.toNat : Int)] w (RetV w (.bool true)) := by
  have HX := Lib.hid hx
  have HA := Lib.hid awake22
  have HLG := Lib.hid (large_calls A c xs w hx hn)
  clear hx
  go_enter Try.func8, Try.ntmps8
  go_wp2_with fail
  refine HLG.out.mono ?_
  rintro e w1 ⟨v, rfl, rfl, hv⟩
  cases v with
  | true =>
    go_wp2_with fail
    refine (HA.out _).mono ?_
    rintro e w4 ⟨rfl, e4⟩
    go_wp2_with fail
    go_ret
    exact ⟨rfl, e4⟩
  | false =>
    obtain ⟨hl, hs⟩ := hv rfl
    have HS := Lib.hid hs
    clear hs hv HLG
    go_wp2_with fail
    go_loopw [5] (fun i wr => ∃ k : Nat, i = .int .i64 k ∧ k ≤ xs.length ∧ (∀ j (h : j < xs.length), j < k → okP xs[j].pl) ∧ Ext w wr) (fun i _ => xs.length - (intOf i).toNat)
    case atStart => exact ⟨0, rfl, Nat.zero_le _, fun j h h2 => absurd h2 (Nat.not_lt_zero _), Ext.refl _⟩
    case round =>
      obtain ⟨k, rfl, hk, ho, hE⟩ := hrel
      have HO := Lib.hid ho
      have HE := Lib.hid hE
      clear ho hE
      by_cases hlt : k < xs.length
      · have k9 : (k : Int) < (xs.length : Int) := by omega
        obtain ⟨ad, rfl, hc⟩ := HX.out.1.fm hlt
        obtain ⟨b0, b1, b2, b3, b4⟩ := hc _ HE.out
        have hsz := (HS.out k hlt).1
        have HOK : Hid (okP xs[k].pl → ∀ j (h : j < xs.length), j < k + 1 → okP xs[j].pl) := fun ha j h h5 => by
          by_cases e : j = k
          · subst e; exact ha
          · exact HO.out j h (by omega)
        have um1 : IntKind.i64.wrap ((k : Int) + 1) = (k : Int) + 1 := IntWalk.i64_in _ (by omega)
        clear hc
        generalize xs[k] = x at *
        obtain ⟨fk, fs, fn, ft, fA, fc, fd⟩ := x
        dsimp only at hsz
        have HCK : Hid (∀ W, Calls Try.prog 40 #[.agg #[.int .i64 fk, .int .i64 fs, .int .i64 fn, .string ft, .slice fA fd.length fc]] W (RetV W (.int .i64 (wErr fk fs fn ft.data.toList fd.length)))) := fun W => rwcheck_calls fk fs fn ft fA fd.length fc W (by omega)
        have HOK2 : Hid (wErr fk fs fn ft.data.toList fd.length = 0 → ∀ j (h : j < xs.length), j < k + 1 → okP xs[j].pl) := HOK.out
        clear HOK
        generalize wErr fk fs fn ft.data.toList fd.length = er at *
        go_wp2_with fail
        refine (HCK.out _).mono ?_
        rintro e w2 ⟨rfl, e2⟩
        have E2 := Lib.hid (HE.out.trans e2)
        clear e2
        by_cases her : er = 0
        · subst her
          go_wp2_with fail
          go_roundw
          case rel => exact ⟨k + 1, by go_num, by omega, HOK2.out trivial, E2.out⟩
          case measure => simp [intOf]; omega
        · have b9 : (er != 0) = true := by simpa using her
          go_wp2_with fail
          refine (HA.out _).mono ?_
          rintro e w4 ⟨rfl, e4⟩
          have E4 := Lib.hid (E2.out.trans e4)
          clear e4
          go_wp2_with fail
          go_ret
          exact ⟨rfl, E4.out⟩
      · have k9 : ¬ (k : Int) < (xs.length : Int) := by omega
        have HOK : Hid (∀ f ∈ xs, okP f.pl) := fun f hf => by
          obtain ⟨j, hj, rfl⟩ := List.getElem_of_mem hf
          exact HO.out j hj (by omega)
        have HAL := Lib.hid (all_calls A c xs wr (HX.out.ext HE.out) hl HOK.out (fun f hf => encF_len (HOK.out f hf)))
        go_wp2_with fail
        refine (fpush_nil _ wr).mono ?_
        rintro e w2 ⟨rfl, rfl⟩
        go_wp2_with fail
        refine HAL.out.mono ?_
        rintro e w3 ⟨A3, c3, rfl, o3, e3⟩
        have E3 := Lib.hid (HE.out.trans e3)
        have hbl : (xs.flatMap encF).length ≤ 40000 := by have := encs_len (fun f hf => encF_len (HOK.out f hf)) xs.length; rw [List.take_length] at this; omega
        have HCU := Lib.hid (cut_calls A3 (some ⟨w3.heap.size, 0, none⟩) c3 3 (xs.flatMap encF) [u, u, u] (w3.alloc (.cells #[.int .u8 (u.toNat : Int), .int .u8 (u.toNat : Int), .int .u8 (u.toNat : Int)] 5)) (o3.rd.ext ((Ext.refl _).alloc _)) (Arr.new w3 5 #[.int .u8 (u.toNat : Int), .int .u8 (u.toNat : Int), .int .u8 (u.toNat : Int)]).rd (by omega) (by simp) o3.cap o3.capmax)
        rw [fo_back HOK.out] at HCU
        clear o3 e3 HAL
        generalize xs.flatMap encF = bs at *
        go_wp2_with fail
        refine HCU.out.mono ?_
        rintro e w4 ⟨A4, c4, ys, rfl, o4, m4, e4⟩
        have E4 := Lib.hid ((E3.out.alloc _).trans e4)
        have HLS : Hid (∀ W, Ext w4 W → _) := fun W e => lists_eq A4 A c4 c ys xs W (o4.in_.ext e) (HX.out.ext (E4.out.trans e)) m4 (by have := congrArg List.length m4; simp at this; omega) (fun f hf => by
          have h1 : f.pl ∈ xs.map Fm.pl := by rw [← m4]; exact List.mem_map_of_mem hf
          obtain ⟨g, hg, hgf⟩ := List.mem_map.1 h1
          obtain ⟨j, hj, rfl⟩ := List.getElem_of_mem hg
          have h2 := (HS.out j hj).2
          have h3 : f.d = xs[j].d := by have := congrArg (fun p => p.2.2.2.2) hgf; exact this.symm
          rw [h3]; omega)
        clear o4 m4 e4 HCU
        have HW1 := Lib.hid fwaits_nil
        have HW2 := Lib.hid ferr_nil
        go_wp2_with fail
        refine (HW1.out _).mono ?_
        rintro e w5 ⟨rfl, rfl⟩
        go_wp2_with fail
        refine (HW2.out _).mono ?_
        rintro e w6 ⟨rfl, rfl⟩
        go_wp2_with fail
        refine (HLS.out _ (Ext.refl _)).mono ?_
        rintro e w7 ⟨rfl, e7⟩
        have E7 := Lib.hid (E4.out.trans e7)
        clear e7
        go_wp2_with fail
        refine (HA.out _).mono ?_
        rintro e w8 ⟨rfl, e8⟩
        have E8 := Lib.hid (E7.out.trans e8)
        clear e8
        go_wp2_with fail
        go_ret
        exact ⟨rfl, E8.out⟩
end Go.Proofs.Ytlgngnkaiidbeaa
