/- Layer 3: a constant's bytes without the last one are none. -/
import Derived.Test.YtlnfaeegmcihfaaDoorQ12
import Derived.Test.YtlnfaeegmcihfaaDoorQ17
import Derived.Test.YtlnfaeegmcihfaaDoorQ18
import Derived.Test.YtlnfaeegmcihfaaDoorQ19
import Derived.Test.YtlnfaeegmcihfaaDoorQ24
import Derived.Test.YtlnfaeegmcihfaaDoorQ26
import Derived.Test.YtlnfaeegmcihfaaDoorQ9
import Derived.Test.YtlnfaeegmcihfaaDoorQP3c
set_option linter.unusedVariables false
set_option linter.unusedSimpArgs false
namespace Go.Proofs.PL
open Go.RowKit Go.Proofs.YtlnfaeegmcihfaaDoorW.PrintWords Go.Proofs.YtlnfaeegmcihfaaDoor.Q

theorem known03 : Ev (fun k => hornbooklaw03_known.f k) true := by
  have h : hornbooklaw03_known.holds 40 := ⟨by kernel_rfl, by kernel_rfl, by kernel_rfl⟩
  refine Ev.of hornbooklaw03_known.mono (k := 40) ?_
  unfold hornbooklaw03_known.f
  rw [if_pos h]
def encC (kind n : Int) (s t u : List UInt8) : List Int :=
  encN kind ++ (if kind = 1 then encN n else if kind = 2 ∨ kind = 3 then encT s else encT s ++ (encT t ++ encT u))
theorem texts_one : Ev (fun k => pool_texts.f k 1) 0 := by
  unfold pool_texts.f
  exact Ev.pos rfl (Ev.pure rfl)
theorem texts_two {kind : Int} (h : kind = 2 ∨ kind = 3) : Ev (fun k => pool_texts.f k kind) 1 := by
  unfold pool_texts.f
  rcases h with rfl | rfl
  · refine Ev.neg (by decide) (Ev.pos rfl (Ev.step (fun k => by rw [pool_texts.j0]) ?_))
    exact Ev.pos (by decide) (Ev.pure rfl)
  · refine Ev.neg (by decide) (Ev.neg (by decide) (Ev.step (fun k => by rw [pool_texts.j0]) ?_))
    exact Ev.pos (by decide) (Ev.pure rfl)
theorem texts_three {kind : Int} (h : kind = 4 ∨ kind = 5) : Ev (fun k => pool_texts.f k kind) 3 := by
  unfold pool_texts.f
  rcases h with rfl | rfl
  · refine Ev.neg (by decide) (Ev.neg (by decide) (Ev.step (fun k => by rw [pool_texts.j0]) ?_))
    exact Ev.neg (by decide) (Ev.pos rfl (Ev.pure rfl))
  · refine Ev.neg (by decide) (Ev.neg (by decide) (Ev.step (fun k => by rw [pool_texts.j0]) ?_))
    exact Ev.neg (by decide) (Ev.neg (by decide) (Ev.pos rfl (Ev.pure rfl)))
theorem encT_len (s : List UInt8) (h : s.length ≤ 9223372036854775807) : (encT s).length ≤ 10 + s.length := by
  have := encN_ten (i64_len s h)
  unfold encT; rw [List.length_append, nb_len]; omega
theorem i64_kind {kind : Int} (h1 : 1 ≤ kind) (h2 : kind ≤ 5) : i64 kind := ⟨by omega, by omega⟩
theorem lay_ev (l : List Int) (kind n : Int) (s t u : List UInt8) (hn : i64 n) (hf : Fit kind n s t u) (hl : l.length < 70368744177664) :
    Ev (fun k => pool_lay.f k l kind n (mk s) (mk t) (mk u)) (l ++ encC kind n s t u) := by
  unfold pool_lay.f encC
  have hk : i64 kind := by
    rcases hf with ⟨h, _⟩ | ⟨h, _⟩ | ⟨h, _⟩ | ⟨h, _⟩ <;> (refine i64_kind ?_ ?_ <;> omega)
  have h10 := encN_ten hk
  refine Ev.then (put_eq hk l (by omega)) ?_
  rcases hf with ⟨h, _⟩ | ⟨h, hn, ht, hu, hs⟩ | ⟨h, hn, ht, hu, hs⟩ | ⟨h, hn, hs, ht, hu⟩
  · refine Ev.pos h (Ev.pure ?_)
    rw [if_pos h, put_eq hn _ (by rw [List.length_append]; omega), List.append_assoc]
  · refine Ev.neg (by omega) (Ev.bind (texts_two (.inl h)) (Ev.pos (by decide) (Ev.pure ?_)))
    rw [if_neg (by omega), if_pos (.inl h)]
    show (bin_Text.f (l ++ encN kind) (mk s)).bind _ = _
    rw [text_eq _ _ (by rw [List.length_append]; omega), List.append_assoc]
    rfl
  · refine Ev.neg (by omega) (Ev.bind (texts_two (.inr h)) (Ev.pos (by decide) (Ev.pure ?_)))
    rw [if_neg (by omega), if_pos (.inr h)]
    show (bin_Text.f (l ++ encN kind) (mk s)).bind _ = _
    rw [text_eq _ _ (by rw [List.length_append]; omega), List.append_assoc]
    rfl
  · refine Ev.neg (by omega) (Ev.bind (texts_three h) (Ev.pos (by decide) (Ev.pure ?_)))
    rw [if_neg (by omega), if_neg (by omega)]
    have hsl := encT_len s (by omega)
    have htl := encT_len t (by omega)
    show (bin_Text.f (l ++ encN kind) (mk s)).bind (fun b2 => (bin_Text.f b2 (mk t)).bind fun b3 => (bin_Text.f b3 (mk u)).bind fun b4 => some b4) = _
    rw [text_eq _ _ (by rw [List.length_append]; omega), Option.bind_some, text_eq _ _ (by simp only [List.length_append]; omega), Option.bind_some, text_eq _ _ (by simp only [List.length_append]; omega), Option.bind_some]
    simp only [List.append_assoc]
theorem fin_err (kind n e : Int) (acc : List ByteArray) (at_ : Int) (he : e ≠ 0) : Ev (fun k => pool_Get.fin k kind n acc at_ e) (0, 0, ⟨#[]⟩, ⟨#[]⟩, ⟨#[]⟩, 0, e) := by
  unfold pool_Get.fin
  exact Ev.neg he (Ev.pure rfl)
theorem gt_zero (l : List Int) (most : Int) (acc : List ByteArray) (at_ e : Int) : Ev (fun k => pool_Get.gt k l most 0 acc at_ e) (acc, at_, e) := by
  unfold pool_Get.gt
  exact Ev.pure rfl
theorem gt_read (l : List Int) (most : Int) (n : Nat) (acc : List ByteArray) (at_ : Int) {t : ByteArray × Int × Int} {r : List ByteArray × Int × Int} (h : Ev (fun k => bin_GetText.f k l at_ most) t) (h2 : Ev (fun k => pool_Get.gt k l most n (acc ++ [t.1]) t.2.1 t.2.2) r) :
    Ev (fun k => pool_Get.gt k l most (n + 1) acc at_ 0) r := by
  refine Ev.congr (fun k => by rw [pool_Get.gt]) ?_
  exact Ev.pos rfl (Ev.bind h h2)
theorem head_ev {kind : Int} (h2 : 2 ≤ kind) (h5 : kind ≤ 5) (R : List Int) (hb : byt R) (hl : R.length + 10 < 140737488355328) (m : Nat) (hm : m ≤ 3) (ht : Ev (fun k => pool_texts.f k kind) m)
    {acc : List ByteArray} {at_ e : Int} (hgt : Ev (fun k => pool_Get.gt k (encN kind ++ R) (if kind = 2 then 64 else 256) m [] ((encN kind).length : Int) 0) (acc, at_, e))
    {r : Int × Int × ByteArray × ByteArray × ByteArray × Int × Int} (hfin : Ev (fun k => pool_Get.fin k kind 0 acc at_ e) r) : Ev (fun k => pool_Get.f k (encN kind ++ R) 0) r := by
  unfold pool_Get.f
  have hik := i64_kind (kind := kind) (by omega) h5
  have h10 := encN_ten hik
  have hg := get_enc hik [] R (byt_append (fun x hx => by cases hx) (byt_append (encN_byte _) hb)) (by simp only [List.length_append, List.length_nil]; omega)
  simp only [List.length_nil, Nat.zero_add, List.nil_append] at hg
  refine Ev.then hg ?_
  refine Ev.pos rfl (Ev.neg (by omega) ?_)
  refine Ev.bind (a := (0, ((encN kind).length : Int), 0)) (Ev.neg (by omega) (Ev.pure rfl)) ?_
  refine Ev.bind ht (Ev.pos (by omega) (Ev.bind (a := (acc, at_, e)) ?_ hfin))
  rw [Int.toNat_natCast]
  exact hgt
theorem drop_byte {l : List Int} (h : byt l) : byt l.dropLast := fun x hx => h x (List.dropLast_subset _ hx)
theorem short_ev (kind n : Int) (s t u : List UInt8) (hn : i64 n) (hf : Fit kind n s t u) :
    Ev (fun k => pool_Get.f k (encC kind n s t u).dropLast 0) (0, 0, ⟨#[]⟩, ⟨#[]⟩, ⟨#[]⟩, 0, 4) := by
  unfold pool_Get.f encC
  have hk : 1 ≤ kind ∧ kind ≤ 5 := by
    rcases hf with ⟨h, _⟩ | ⟨h, _⟩ | ⟨h, _⟩ | ⟨h, _⟩ <;> omega
  have hik := i64_kind hk.1 hk.2
  have h10 := encN_ten hik
  have hne : ∀ s, encT s ≠ [] := fun s h => by have := encN_pos (s.length : Int); have h2 := congrArg List.length h; unfold encT at h2; rw [List.length_append, List.length_nil] at h2; omega
  have hnn : ∀ n, encN n ≠ [] := fun n h => by have := encN_pos n; rw [h] at this; simp at this
  rcases hf with ⟨h, _⟩ | h | h | ⟨h, _, hs, ht, hu⟩
  · subst h
    rw [if_pos rfl, List.dropLast_append_of_ne_nil (hnn n)]
    have hn10 := encN_ten hn
    have hg := get_enc (n := 1) hik [] (encN n).dropLast (byt_append (fun x hx => by cases hx) (byt_append (encN_byte _) (fun x hx => encN_byte n x (List.dropLast_subset _ hx)))) (by simp only [List.length_append, List.length_nil, List.length_dropLast]; omega)
    simp only [List.length_nil, Nat.zero_add, List.nil_append] at hg
    have hg2 := get_short hn (encN 1) (encN_byte 1) (by omega)
    refine Ev.then hg ?_
    refine Ev.pos rfl (Ev.neg (by decide) ?_)
    refine Ev.bind (Ev.pos rfl (Ev.pure hg2)) ?_
    exact Ev.bind texts_one (Ev.pos (by decide) (Ev.bind (gt_zero _ _ _ _ _) (fin_err _ _ _ _ _ (by decide))))
  · obtain ⟨h, hn0, rfl, rfl, hs⟩ := h
    have hsl := encT_len s (by omega)
    rw [if_neg (by omega), if_pos (.inl h), List.dropLast_append_of_ne_nil (hne s)]
    refine head_ev (by omega) (by omega) _ (drop_byte (encT_byte s)) (by rw [List.length_dropLast]; omega) 1 (by omega) (texts_two (.inl h)) (gt_read _ _ _ _ _ (getText_short (encN kind) s _ (by rw [if_pos h]; omega) (encN_byte _) (by omega)) (gt_zero _ _ _ _ _)) (fin_err _ _ _ _ _ (by decide))
  · obtain ⟨h, hn0, rfl, rfl, hs⟩ := h
    have hsl := encT_len s (by omega)
    rw [if_neg (by omega), if_pos (.inr h), List.dropLast_append_of_ne_nil (hne s)]
    refine head_ev (by omega) (by omega) _ (drop_byte (encT_byte s)) (by rw [List.length_dropLast]; omega) 1 (by omega) (texts_two (.inr h)) (gt_read _ _ _ _ _ (getText_short (encN kind) s _ (by rw [if_neg (by omega)]; omega) (encN_byte _) (by omega)) (gt_zero _ _ _ _ _)) (fin_err _ _ _ _ _ (by decide))
  · have hsl := encT_len s (by omega)
    have htl := encT_len t (by omega)
    have hul := encT_len u (by omega)
    have hd : (encT u).dropLast.length ≤ 10 + u.length := by rw [List.length_dropLast]; omega
    rw [if_neg (by omega), if_neg (by omega), List.dropLast_append_of_ne_nil (by simp [hne]), List.dropLast_append_of_ne_nil (by simp [hne]), List.dropLast_append_of_ne_nil (hne u)]
    have hR : byt (encT s ++ (encT t ++ (encT u).dropLast)) := byt_append (encT_byte s) (byt_append (encT_byte t) (drop_byte (encT_byte u)))
    have hm : (if kind = 2 then (64 : Int) else 256) = 256 := if_neg (by omega)
    have g1 := getText_enc (encN kind) (encT t ++ (encT u).dropLast) s 256 (by omega) (byt_append (encN_byte _) hR) (by simp only [List.length_append]; omega)
    have e2 : encN kind ++ (encT s ++ (encT t ++ (encT u).dropLast)) = (encN kind ++ encT s) ++ (encT t ++ (encT u).dropLast) := by simp
    have g2 := getText_enc (encN kind ++ encT s) (encT u).dropLast t 256 (by omega) (by rw [← e2]; exact byt_append (encN_byte _) hR) (by simp only [List.length_append]; omega)
    have e3 : encN kind ++ (encT s ++ (encT t ++ (encT u).dropLast)) = (encN kind ++ encT s ++ encT t) ++ (encT u).dropLast := by simp
    have g3 := getText_short (encN kind ++ encT s ++ encT t) u 256 (by omega) (byt_append (byt_append (encN_byte _) (encT_byte s)) (encT_byte t)) (by simp only [List.length_append]; omega)
    rw [← e2] at g2
    rw [← e3] at g3
    refine head_ev (by omega) (by omega) _ hR (by simp only [List.length_append]; omega) 3 (by omega) (texts_three h) (acc := [mk s, mk t, ⟨#[]⟩]) (at_ := 0) (e := 4) ?_ (fin_err _ _ _ _ _ (by decide))
    rw [hm]
    rw [show (encN kind ++ encT s ++ encT t).length = (encN kind ++ encT s).length + (encT t).length from List.length_append] at g3
    have e4 : (encN kind ++ encT s).length = (encN kind).length + (encT s).length := List.length_append
    rw [e4] at g2 g3
    exact gt_read _ _ _ _ _ g1 (gt_read _ _ _ _ _ g2 (gt_read _ _ _ _ _ g3 (gt_zero _ _ _ _ _)))
theorem put_ev (l : List Int) (kind n : Int) (s t u : List UInt8) (b : Bool) (hb : Ev (fun k => pool_Right.f k kind n (mk s) (mk t) (mk u)) b) (hn : i64 n) (hf : b = true → Fit kind n s t u) (hl : l.length < 70368744177664) :
    Ev (fun k => pool_Put.f k l kind n (mk s) (mk t) (mk u)) (if b = true then (l ++ encC kind n s t u, 0) else ([], 11)) := by
  unfold pool_Put.f
  refine Ev.bind hb ?_
  cases b with
  | false => exact Ev.neg (by decide) (Ev.pure rfl)
  | true => exact Ev.pos rfl (Ev.bind (lay_ev l kind n s t u hn (hf rfl) hl) (Ev.pure rfl))
theorem encC_pos (kind n : Int) (s t u : List UInt8) : 1 ≤ (encC kind n s t u).length := by
  have := encN_pos kind
  unfold encC; rw [List.length_append]; omega
theorem poolShort (kind n : Int) (s t u : List UInt8) (hn : i64 n) (hs : s.length ≤ 9223372036854775806) (ht : t.length ≤ 9223372036854775806) (hu : u.length ≤ 9223372036854775806) :
    Ev (fun k => hornbooklaw03_PoolShort.f k kind n (mk s) (mk t) (mk u)) true := by
  obtain ⟨b, hb, hf⟩ := poolRight_ev kind n s t u hs ht hu
  have hp := put_ev [] kind n s t u b hb hn hf (by decide)
  unfold hornbooklaw03_PoolShort.f
  cases b with
  | false => exact Ev.bind hp (Ev.pos rfl known03)
  | true =>
    rw [if_pos rfl, List.nil_append] at hp
    have hsh := short_ev kind n s t u hn (hf rfl)
    rw [List.dropLast_eq_take] at hsh
    exact Ev.bind hp (Ev.neg (show ¬ (0 : Int) = 11 by decide) (Ev.pos ⟨rfl, encC_pos kind n s t u⟩ (Ev.bind hsh (Ev.pos rfl known03))))
end Go.Proofs.PL
