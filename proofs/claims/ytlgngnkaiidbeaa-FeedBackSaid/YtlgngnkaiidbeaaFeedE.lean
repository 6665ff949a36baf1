/- ref21.Lists of lists that are the same. -/
import Derived.Test.YtlgngnkaiidbeaaRwSame
import Derived.Test.YtlgngnkaiidbeaaFeedA
set_option maxRecDepth 100000
set_option linter.unusedVariables false
set_option linter.unusedSimpArgs false
namespace Go.Proofs.Ytlgngnkaiidbeaa
open Go.RowKit
set_option maxHeartbeats 4000000 in
theorem lists_eq (A B : Option Addr) (c d : Nat) (xs ys : List Fm) (w : World) (hx : FmIn w A xs) (hy : FmIn w B ys) (he : xs.map Fm.pl = ys.map Fm.pl) (hn : xs.length ≤ 1000000) (hd : ∀ f ∈ xs, f.d.length ≤ 1000000) :
    Calls Try.prog 38 #[.slice A xs.length c, .slice B ys.length d] w (RetV w (.bool true)) := by
  have hlen : ys.length = xs.length := by have := congrArg List.length he; simpa using this.symm
  have HX := Lib.hid hx
  have HY := Lib.hid hy
  have HD := Lib.hid hd
  have HPL : Hid (∀ i (h1 : i < xs.length) (h2 : i < ys.length), xs[i].pl = ys[i].pl) := fun i h1 h2 => by
    have h := congrArg (fun l => l[i]?) he
    simp only [List.getElem?_map, List.getElem?_eq_getElem h1, List.getElem?_eq_getElem h2, Option.map_some] at h
    injection h
  have HLEN := Lib.hid hlen
  rw [hlen]
  clear hx hy he hd hlen
  go_enter Try.func38, Try.ntmps38
  go_wp2_with fail
  go_loopw [5] (fun i wr => ∃ k : Nat, i = .int .i64 k ∧ k ≤ xs.length ∧ Ext w wr) (fun i _ => xs.length - (intOf i).toNat)
  case atStart => exact ⟨0, rfl, Nat.zero_le _, Ext.refl _⟩
  case round =>
    obtain ⟨k, rfl, hk, hE⟩ := hrel
    have E0 := Lib.hid hE
    clear hE
    by_cases hlt : k < xs.length
    · have hy2 : k < ys.length := by have := HLEN.out; omega
      have k9 : (k : Int) < (xs.length : Int) := by omega
      have HXC := Lib.hid (HX.out.1.fm hlt)
      have HYC := Lib.hid (HY.out.1.fm hy2)
      have HRX := Lib.hid (HX.out.2 _ (List.getElem_mem hlt))
      have HRY := Lib.hid (HY.out.2 _ (List.getElem_mem hy2))
      have HDX := Lib.hid (HD.out _ (List.getElem_mem hlt))
      obtain ⟨ad, rfl, hxc⟩ := HXC.out
      have HXD := Lib.hid hxc
      clear hxc HXC
      obtain ⟨bd, rfl, hyc⟩ := HYC.out
      have HYD := Lib.hid hyc
      clear hyc HYC
      have hp := HPL.out k hlt hy2
      clear HPL HD
      generalize xs[k] = x at *
      generalize ys[k] = y at *
      obtain ⟨x1, x2, x3, x4, xA, xc, x5⟩ := x
      obtain ⟨y1, y2, y3, y4, yA, yc, y5⟩ := y
      simp only [Fm.pl, Prod.mk.injEq] at hp
      obtain ⟨rfl, rfl, rfl, rfl, rfl⟩ := hp
      have HC2 : Hid (∀ W, Ext wr W → Calls Try.prog 81 #[.agg #[.int .i64 x1, .int .i64 x2, .int .i64 x3, .string x4, .slice xA x5.length xc], .agg #[.int .i64 x1, .int .i64 x2, .int .i64 x3, .string x4, .slice yA x5.length yc]] W (RetV W (.bool true))) := fun W e => rwsame_eq x1 x2 x3 x4 xA yA xc yc x5 W (HRX.out.ext (E0.out.trans e)) (HRY.out.ext (E0.out.trans e)) HDX.out
      have KS : Hid (∀ W, Ext wr W → _ ∧ _) := fun W e => ⟨HXD.out W (E0.out.trans e), HYD.out W (E0.out.trans e)⟩
      have um1 : IntKind.i64.wrap ((k : Int) + 1) = (k : Int) + 1 := IntWalk.i64_in _ (by omega)
      go_wp2_with fail
      refine wp_region_quietE wr (Ext.refl _) (by kernel_rfl) (by kernel_rfl) ?_
      repeat (first | (apply wpq_skip; (focus rfl); (try simp only [Act.put, List.setIfInBounds_toArray, List.set_cons_zero, List.set_cons_succ])) | ((with_reducible show QGoal _ _ _ _ ({ dst := _, op := Op.call { callee := Callee.value _, args := _, argTypes := _ }, type := _, pos := _, after := _, guard := _ } :: _) _); apply wpq_call (hc := HC2.out); (focus rfl); (focus (intro W hW; go_simp; (first | done | with_reducible rfl))); (try simp only [Act.put, List.setIfInBounds_toArray, List.set_cons_zero, List.set_cons_succ])) | (apply wpq_take; (focus rfl); (focus (intro W hW; obtain ⟨⟨x0, x1, x2, x3, x4⟩, ⟨y0, y1, y2, y3, y4⟩⟩ := KS.out W hW; go_simp; (first | done | with_reducible rfl))); (try simp only [Act.put, List.setIfInBounds_toArray, List.set_cons_zero, List.set_cons_succ])))
      refine wpq_nil ?_
      intro w2 e2
      have E2 := Lib.hid (E0.out.trans e2)
      clear e2
      go_wp2_with fail
      go_roundw
      case rel => exact ⟨k + 1, by go_num, by omega, E2.out⟩
      case measure => simp [intOf]; omega
    · have k9 : ¬ (k : Int) < (xs.length : Int) := by omega
      go_wp2_with fail
      go_ret
      exact ⟨rfl, E0.out⟩
end Go.Proofs.Ytlgngnkaiidbeaa
