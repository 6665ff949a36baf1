/- The law RecChecks. -/
import Derived.Test.YtanlelignljbiaaEnc3
import Derived.Deep.RegionHeld3
set_option maxRecDepth 100000
namespace Go.Proofs.Ytanlelignljbiaa
open Go.RowKit

theorem OwnB.cellAt {w : World} {base : Nat} {A : Option Addr} {c : Nat} {bs : List UInt8} (h : OwnB w base A c bs) (hne : 0 < bs.length) : ∃ g, A = some ⟨g, 0, none⟩ ∧ ∀ k v, bs[k]? = some v → w.cell? ⟨g, k, none⟩ = some (.int .u8 (v.toNat : Int)) := by
  rcases h.2 with ⟨hv, hn⟩ | ⟨g, cap, cur, hv, _⟩
  · omega
  · injection hv with hA _ _
    subst hA
    refine ⟨g, rfl, fun k v hk => ?_⟩
    obtain ⟨hk2, rfl⟩ := List.getElem?_eq_some_iff.1 hk
    obtain ⟨ad, e, hc⟩ := h.rd.at_ hk2
    cases e
    rw [add_mk, Nat.zero_add] at hc
    exact hc
theorem enc_example : encB 1 1 ⟨#[97]⟩ 0 5 0 = [1, 1, 0, 0, 0, 0, 0, 0, 0, 1, 97, 5, 0, 0, 0, 0, 0, 0, 0] := by decide +kernel
theorem rec_example : recE 1 ((1 : Nat) : Int) ⟨#[97]⟩ 0 5 0 = 0 := by decide +kernel

set_option maxHeartbeats 1000000 in
theorem awake11 (w : World) : Calls Try.prog 10 #[] w (RetV w (.bool true)) := by
  have HE := Lib.hid (encode_ok 1 1 ⟨#[97]⟩ 0 5 0)
  go_enter Try.func10, Try.ntmps10
  go_wp2_with fail
  refine (HE.out _ rec_example (by decide) (by decide) (by decide) (by decide) (by decide) (by decide)).mono ?_
  rintro e w1 ⟨A1, c1, rfl, o1, e1⟩
  rw [enc_example] at o1 ⊢
  obtain ⟨g, rfl, hc⟩ := o1.cellAt (by decide)
  have c0 := hc 0 1 rfl
  have c9 := hc 9 1 rfl
  have c10 := hc 10 97 rfl
  have c11 := hc 11 5 rfl
  have E1 := Lib.hid e1
  clear o1 e1 hc HE
  go_wp2_with fail
  go_ret
  exact ⟨rfl, E1.out⟩

set_option maxHeartbeats 1000000 in
theorem recChecks_walk (seq : Nat) (k : Int) (ten : ByteArray) (lease n bits : Nat) (kind : Int) (w : World) (hb : bits < 18446744073709551616) (ht : ten.size ≤ 9223372036854775807) :
    Calls Try.prog 3 #[recA seq k ten lease n bits, .int .i64 kind] w (RetV w (.bool true)) := by
  by_cases hbig : 100 < ten.size
  · unfold recA
    go_enter Try.func3, Try.ntmps3
    go_wp2_with ((with_reducible show wpList _ _ _ ({ dst := some 2, op := Op.box 24 _, type := _, pos := _, after := _, guard := _ } :: _) _ _); refine bxA _ rfl 24 _ rfl _ rfl ?_; intro g w1 hg hs1 h1 e1; have E1 := Lib.hid e1; have d2 := h1.cell 2; simp at d2; clear h1 e1 hs1 hg)
    refine (awake11 _).mono ?_
    rintro e w2 ⟨rfl, e2⟩
    have E2 := Lib.hid (E1.out.trans e2)
    clear e2
    go_wp2_with fail
    go_ret
    exact ⟨rfl, E2.out⟩
  · unfold recA
    go_enter Try.func3, Try.ntmps3
    go_wp2_with ((with_reducible show wpList _ _ _ ({ dst := some 2, op := Op.box 24 _, type := _, pos := _, after := _, guard := _ } :: _) _ _); refine bxA _ rfl 24 _ rfl _ rfl ?_; intro g w1 hg hs1 h1 e1; have E1 := Lib.hid e1; have H1 := Lib.hid h1; have d2 := h1.cell 2; simp at d2; clear h1 e1 hs1 hg)
    refine (has_calls kind _).mono ?_
    rintro e w' ⟨rfl, rfl⟩
    clear d2
    go_wp2_with fail
    have KS : Hid (∀ w', Ext w1 w' → Ext w1 w' ∧ w'.cell? ⟨g, 0, none⟩ = some (.int .u64 seq) ∧ w'.cell? ⟨g, 1, none⟩ = some (.int .i64 k) ∧ w'.cell? ⟨g, 2, none⟩ = some (.string ten) ∧ w'.cell? ⟨g, 3, none⟩ = some (.int .u64 lease) ∧ w'.cell? ⟨g, 4, none⟩ = some (.int .u64 n) ∧ w'.cell? ⟨g, 5, none⟩ = some (.int .u64 bits)) :=
      fun w' e => ⟨e, (H1.out.ext e).cell 0, (H1.out.ext e).cell 1, (H1.out.ext e).cell 2, (H1.out.ext e).cell 3, (H1.out.ext e).cell 4, (H1.out.ext e).cell 5⟩
    go_region_held3 (fun w' => Ext w1 w' ∧ w'.cell? ⟨g, 0, none⟩ = some (.int .u64 seq) ∧ w'.cell? ⟨g, 1, none⟩ = some (.int .i64 k) ∧ w'.cell? ⟨g, 2, none⟩ = some (.string ten) ∧ w'.cell? ⟨g, 3, none⟩ = some (.int .u64 lease) ∧ w'.cell? ⟨g, 4, none⟩ = some (.int .u64 n) ∧ w'.cell? ⟨g, 5, none⟩ = some (.int .u64 bits))
      (first | exact KS.out _ (Ext.refl _).drew | exact KS.out _ (by assumption))
      (first | (go_at_call 12; refine (check_calls seq k ten lease n bits _ hb).mono ?_; rintro e w5 ⟨rfl, e5⟩; have S5 : Ext w1 w5 := Ext.trans (by first | assumption | exact (Ext.refl _).drew) e5; clear e5) | (go_at_call 13; refine (rcheck_calls seq k ten lease n bits _ hb (by omega)).mono ?_; rintro e w6 ⟨rfl, e6⟩; have S6 : Ext w1 w6 := Ext.trans (by first | assumption | exact (Ext.refl _).drew) e6; clear e6) | (go_at_call 14; (first | (with_reducible refine (rhasL kind _).mono ?_) | (with_reducible refine (rhasN kind _).mono ?_) | (with_reducible refine (rhasB kind _).mono ?_)); rintro e w7 ⟨rfl, e7⟩; have S7 : Ext w1 w7 := Ext.trans (by first | assumption | exact (Ext.refl _).drew) e7; clear e7) | (go_at_call 10; refine (awake11 _).mono ?_; rintro e w8 ⟨rfl, e8⟩; have S8 : Ext w1 w8 := Ext.trans (by first | assumption | exact (Ext.refl _).drew) e8; clear e8))
    go_wp2_with fail
    go_ret
    exact ⟨rfl, E1.out.trans S8⟩
end Go.Proofs.Ytanlelignljbiaa
