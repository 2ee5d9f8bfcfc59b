/-
  Bytes that come in two rows are told as in one; a decoder that is copied goes on as the other one: the walk.
-/
import Derived.Test.YtfcjkmiaibakiaaLaw03
namespace Go.Proofs.Ytfcjkmiaibakiaa
open Go.RowKit
set_option linter.unusedVariables false

set_option maxHeartbeats 2000000 in
theorem walk_UtfdecCuts (p : Value) (l : List Int) (q : Value) (m : List Int) (w : World) (hp : Slc (Rep.int .u8) (fun b => b < w.heap.size) (fun b => b < w.heap.size) w p l) (hq : Slc (Rep.int .u8) (fun b => b < w.heap.size) (fun b => b < w.heap.size) w q m) :
    Calls Try.prog 9 #[p, q] w fun e w' => e = .returned (.bool true) ∧ Below w.heap.size w w' := by
  have hbl : Bytes l := fun n hn => u8_wf (hp.ints_wf n hn)
  have hbm : Bytes m := fun n hn => u8_wf (hq.ints_wf n hn)
  obtain ⟨A, c, rfl, hc1, hc2, _⟩ := hp.open_
  obtain ⟨B, d, rfl, hd1, hd2, _⟩ := hq.open_
  by_cases hlen : l.length ≤ 2000
  · by_cases hlen2 : m.length ≤ 2000
    · go_enter Try.func9, Try.ntmps9
      go_wp2_with fail
      refine (works03_ok _).mono ?_
      rintro e w1 ⟨rfl, hb1⟩
      have hsz1 := hb1.size
      have keep : ∀ {w' : World} {v : Value} {l : List Int}, Slc (Rep.int .u8) (fun b => b < w.heap.size) (fun b => b < w.heap.size) w v l → Below w.heap.size w w' → Slc (Rep.int .u8) (fun b => b < w.heap.size) (fun b => b < w.heap.size) w' v l :=
        fun h hb => h.ints_keep (fun a u hs hc => ⟨hs, (hb.cell hs).trans hc⟩)
      have hg1 := (holds_new w1).alloc (.cells #[.int .i64 0, .int .i64 0, .int .u8 0, .int .u8 0, .int .i64 0] 38)
      have hg2 := holds_new (w1.alloc (.cells #[.int .i64 0, .int .i64 0, .int .u8 0, .int .u8 0, .int .i64 0] 38))
      have hB0 := (hb1.alloc hsz1 (.cells #[.int .i64 0, .int .i64 0, .int .u8 0, .int .u8 0, .int .i64 0] 38)).alloc (by simp; omega) (.cells #[.int .i64 0, .int .i64 0, .int .u8 0, .int .u8 0, .int .i64 0] 38)
      rw [World.size_alloc] at hg2
      go_wp2_with fail
      refine (Feed_ok _ [] l _ _ _ _ hg1 (keep hp hB0) (fun b hb => by omega) (by omega)).mono ?_
      rintro e w2 ⟨vx, rfl, hvx, hh2, hgb2⟩
      have hsz2 := hgb2.size
      rw [World.size_alloc, World.size_alloc] at hsz2
      have hB2 := below_gb hB0 hgb2 hsz1 (by simp; omega)
      have hg2' := hg2.other hgb2 (by omega)
      have hpre1 := feed_pre l [] pre_nil bytes_nil hbl
      have hln1 := feed_len l []
      have hln2 := feed_len m (feedF [] l).2
      have hln3 := feed_len (l ++ m) []
      have hap := feedF_append l m []
      have HAP := hide hap
      clear hap
      generalize hX : feedF [] l = X at *
      generalize hY : feedF X.2 m = Y at *
      obtain ⟨t1, t2, t3, t4, t5, t6, t7⟩ := hh2.at_.cells
      have HX := hide hX
      have HY := hide hY
      clear hX hY
      go_wp2_with fail
      have hh2' : Holds (w2.alloc (.cells #[.int .i64 (decOf X.2).held, .int .i64 (decOf X.2).needs, .int .u8 (decOf X.2).lo, .int .u8 (decOf X.2).hi, .int .i64 (decOf X.2).bits] 38)) w2.heap.size X.2 := ⟨Blk.new _ _ _, hpre1.1, hpre1.2⟩
      have hB2' := hB2.alloc (by omega) (.cells #[.int .i64 (decOf X.2).held, .int .i64 (decOf X.2).needs, .int .u8 (decOf X.2).lo, .int .u8 (decOf X.2).hi, .int .i64 (decOf X.2).bits] 38)
      refine (Feed_ok _ X.2 m _ _ _ _ (hh2.alloc _) (keep hq hB2') (fun b hb => by omega) (by omega)).mono ?_
      rw [HY.out]
      rintro e w3 ⟨vy, rfl, hvy, hh3, hgb3⟩
      have hsz3 := hgb3.size
      rw [World.size_alloc] at hsz3
      have hB3 := below_gb hB2' hgb3 hsz1 (by simp; omega)
      have hg3 := (hg2'.alloc (.cells #[.int .i64 (decOf X.2).held, .int .i64 (decOf X.2).needs, .int .u8 (decOf X.2).lo, .int .u8 (decOf X.2).hi, .int .i64 (decOf X.2).bits] 38)).other hgb3 (by omega)
      have hc3 := hh2'.other hgb3 (by omega)
      have hvx3 := (hvx.alloc (.cells #[.int .i64 (decOf X.2).held, .int .i64 (decOf X.2).needs, .int .u8 (decOf X.2).lo, .int .u8 (decOf X.2).hi, .int .i64 (decOf X.2).bits] 38)).ints_gb hgb3 (hh2.at_.alloc _) (by decide)
      clear t2 t3 t4 t5 t6 t7
      have hz0 := own_u8 w3 [] (by simp) w3.heap.size w3.heap.size 0 (Nat.le_refl _) rfl rfl (by simp [maxLen])
      have hpa := (keep hp hB3).ints_keep (Keep.alloc _ w3 (.cells #[] 5))
      go_wp2_with (first
        | (at_builtin; refine wpList_appi rfl (.tmp 31) (.tmp 32) 28 rfl .u8 5 w3.heap.size 1 Try.underlying28 u8_info (by decide) _ _ rfl hz0 _ _ _ _ rfl hpa (by simp; omega) (by simp) ?_; intro v4 w4 hv4 hst4; have hs4 : Step w3.heap.size [5] w3 w4 := (Step.alloc1 _ _ w3 _).trans hst4; have hsz4 := hs4.size; have hB4 := hB3.trans ((hs4.below (Nat.le_refl _)).mono (by omega)); have hqa := keep hq hB4)
        | (at_builtin; refine wpList_appi rfl (.tmp 33) (.tmp 34) 28 rfl .u8 5 w3.heap.size 1 Try.underlying28 u8_info (by decide) _ _ rfl hv4 _ _ _ _ rfl hqa (by simp; omega) (by omega) ?_; intro v5 w5 hv5 hst5))
      rw [List.nil_append] at hv5
      have hs5 : Step w3.heap.size [5] w3 w5 := hs4.trans hst5
      have hsz5 := hs5.size
      have hB5 := hB3.trans ((hs5.below (Nat.le_refl _)).mono (by omega))
      have hd5 := hh3.step hs5 (by decide)
      have hg5 := hg3.step hs5 (by decide)
      have hc5 := hc3.step hs5 (by decide)
      have hvx5 := hvx3.ints_step hs5 (by decide)
      have hvy5 := hvy.ints_step hs5 (by decide)
      refine (Feed_ok _ [] (l ++ m) _ _ _ _ hg5 hv5.islc (fun b hb => hb.2.2.ne_ hg5.at_ (by decide)) (by simp; omega)).mono ?_
      rw [HAP.out]
      rintro e w6 ⟨vz, rfl, hvz, hh6, hgb6⟩
      have hsz6 := hgb6.size
      have hB6 := below_gb hB5 hgb6 (by omega) (by omega)
      have hd6 := hd5.other hgb6 (by omega)
      have hc6 := hc5.other hgb6 (by omega)
      have hvx6 := hvx5.ints_gb hgb6 hg5.at_ (by decide)
      have hvy6 := hvy5.ints_gb hgb6 hg5.at_ (by decide)
      go_wp2_with fail
      refine (Feed_ok _ X.2 m _ _ _ _ hc6 (keep hq hB6) (fun b hb => by omega) (by omega)).mono ?_
      rw [HY.out]
      rintro e w7 ⟨vw, rfl, hvw, hh7, hgb7⟩
      have hsz7 := hgb7.size
      have hB7 := below_gb hB6 hgb7 (by omega) (by omega)
      have hd7 := hd6.other hgb7 (by omega)
      have he7 := hh6.other hgb7 (by omega)
      have hvx7 := hvx6.ints_gb hgb7 hc6.at_ (by decide)
      have hvy7 := hvy6.ints_gb hgb7 hc6.at_ (by decide)
      have hvz7 := hvz.ints_gb hgb7 hc6.at_ (by decide)
      have hy0 := own_i32 w7 [] (by simp) w7.heap.size w7.heap.size 0 (Nat.le_refl _) rfl rfl (by simp [maxLen])
      have hvx8 := hvx7.alloc (.cells #[] 21)
      have old8 : ∀ {b : Nat} {v : Value} {t : List Int} {w9 : World}, Own (Rep.int .i32) 21 [] b w7 v t → Step w7.heap.size [21] w7 w9 → Slc (Rep.int .i32) (fun b => b < w7.heap.size) (fun _ => False) w9 v t :=
        fun h hs => (h.islc.ints_keep (Keep.weaken (S' := fun b => b < w7.heap.size) fun b hb => hb.1)).ints_keep (Keep.old hs (fun b hb => hb))
      go_wp2_with (first
        | (at_builtin; refine wpList_appi rfl (.tmp 39) (.tmp 40) 40 rfl .i32 21 w7.heap.size 4 Try.underlying40 i32_info (by decide) _ _ rfl hy0 _ _ _ _ rfl hvx8.islc (by simp; omega) (by simp) ?_; intro v8 w8 hv8 hst8; have hs8 : Step w7.heap.size [21] w7 w8 := (Step.alloc1 _ _ w7 _).trans hst8; have hsz8 := hs8.size; have hy8 := old8 hvy7 hs8)
        | (at_builtin; refine wpList_appi rfl (.tmp 41) (.tmp 42) 40 rfl .i32 21 w7.heap.size 4 Try.underlying40 i32_info (by decide) _ _ rfl hv8 _ _ _ _ rfl hy8 (by simp; omega) (by omega) ?_; intro v9 w9 hv9 hst9))
      rw [List.nil_append] at hv9
      have hs9 : Step w7.heap.size [21] w7 w9 := hs8.trans hst9
      have hsz9 := hs9.size
      have hB9 := hB7.trans ((hs9.below (Nat.le_refl _)).mono (by omega))
      have hd9 := hd7.step hs9 (by decide)
      have he9 := he7.step hs9 (by decide)
      have hc9 := hh7.step hs9 (by decide)
      refine (Same_ok _ _ _ _ _ _ _ _ _ hv9.islc (old8 hvz7 hs9)).mono ?_
      rintro e w' ⟨rfl, n1, rfl⟩
      go_wp2_with fail
      refine (Same_ok _ _ _ _ _ _ _ _ _ (old8 hvy7 (hs9.drewN _)) (old8 hvw (hs9.drewN _))).mono ?_
      rintro e w' ⟨rfl, n2, rfl⟩
      go_wp2_with fail
      refine (HeldH_ok _ _ _ (hd9.drewN _)).mono ?_
      rintro e w' ⟨rfl, rfl⟩
      go_wp2_with fail
      refine (HeldH_ok _ _ _ (he9.drewN _)).mono ?_
      rintro e w' ⟨rfl, rfl⟩
      go_wp2_with fail
      refine (HeldH_ok _ _ _ (hc9.drewN _)).mono ?_
      rintro e w' ⟨rfl, rfl⟩
      go_wp2_with fail
      refine (HeldH_ok _ _ _ (hd9.drewN _)).mono ?_
      rintro e w' ⟨rfl, rfl⟩
      go_wp2
      go_ret
      exact ⟨rfl, below_drewN hB9 _⟩
    · go_enter Try.func9, Try.ntmps9
      go_wp2_with fail
      refine (works03_ok _).mono ?_
      rintro e w1 ⟨rfl, hb1⟩
      go_wp2_with fail
      refine (works03_ok _).mono ?_
      rintro e w2 ⟨rfl, hb2⟩
      go_wp2
      go_ret
      exact ⟨rfl, hb1.trans (hb2.mono hb1.size)⟩
  · go_enter Try.func9, Try.ntmps9
    go_wp2_with fail
    refine (works03_ok _).mono ?_
    rintro e w1 ⟨rfl, hb1⟩
    go_wp2_with fail
    refine (works03_ok _).mono ?_
    rintro e w2 ⟨rfl, hb2⟩
    go_wp2
    go_ret
    exact ⟨rfl, hb1.trans (hb2.mono hb1.size)⟩
end Go.Proofs.Ytfcjkmiaibakiaa
