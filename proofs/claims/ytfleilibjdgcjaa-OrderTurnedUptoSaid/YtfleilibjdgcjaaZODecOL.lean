/- Shaken copy of a longer text: what one law needs. Its conditions: none. -/
import Derived.Test.YtfleilibjdgcjaaZODec0
set_option linter.unusedSimpArgs false
set_option linter.unusedVariables false
set_option maxHeartbeats 1000000
namespace Go.Proofs.Ytfleilibjdgcjaa.O
open Go.AI
noncomputable def P3 (a0 : Forest) (a1 : Int) (a2 : Int) : Option (Bool) :=
  (dec D.bool (pc prog 19 [])).bind fun r1 =>
  if (!r1) = true then
    some false
  else
    (dec (eT2 (D.int .i64) (D.int .i64)) (pc prog 20 [eForest a0, .int .i64 a1, .int .i64 a2])).bind fun r5 =>
    (dec (eT2 (D.int .i64) (D.int .i64)) (pc prog 20 [eForest a0, .int .i64 a2, .int .i64 a1])).bind fun r7 =>
    if (bif (!(r5.2 == 0)) then true else (!(r7.2 == 0))) = true then
      some (r5.2 == r7.2)
    else
      if ((r5.1 == 0) == (a1 == a2)) = true then
        if (!(bif (!((andI .i64 r5.1 (8)) == 0)) then ((andI .i64 r5.1 (2)) == 0) else false)) = true then
          if (bif (!((andI .i64 r5.1 (16)) == 0)) then ((andI .i64 r5.1 (4)) == 0) else false) = true then
            some false
          else
            some (bif (bif (bif (bif ((orI .i64 (andI .i64 r5.1 (1)) (andI .i64 r5.1 (32))) == (orI .i64 (andI .i64 r7.1 (1)) (andI .i64 r7.1 (32)))) then ((!((andI .i64 r5.1 (2)) == 0)) == (!((andI .i64 r7.1 (4)) == 0))) else false) then ((!((andI .i64 r5.1 (4)) == 0)) == (!((andI .i64 r7.1 (2)) == 0))) else false) then ((!((andI .i64 r5.1 (8)) == 0)) == (!((andI .i64 r7.1 (16)) == 0))) else false) then ((!((andI .i64 r5.1 (16)) == 0)) == (!((andI .i64 r7.1 (8)) == 0))) else false)
        else
          some false
      else
        some false
theorem ok3 (a0 : Forest) (a1 : Int) (a2 : Int) (r : Bool) (h : P3 a0 a1 a2 = some r) : pc prog 3 [eForest a0, .int .i64 a1, .int .i64 a2] = some (D.bool r) := by
  obtain ⟨andI, eA, hand⟩ : ∃ A : IntKind → Int → Int → Int, A = Go.AI.andI ∧ ∀ k a b, intOp .and k a b = some (.int k (A k a b)) := ⟨_, rfl, fun _ _ _ => intOp_and⟩
  obtain ⟨orI, eO, hor⟩ : ∃ A : IntKind → Int → Int → Int, A = Go.AI.orI ∧ ∀ k a b, intOp .or k a b = some (.int k (A k a b)) := ⟨_, rfl, fun _ _ _ => intOp_or⟩
  unfold P3 at h
  try rw [← eA] at h
  try rw [← eO] at h
  clear eA eO
  refine pc_of (fn := c3) rfl rfl ?_
  delta c3
  try simp only [go_sem, hand, hor]
  obtain ⟨r1, hr2, h⟩ := bs h
  replace hr2 := dec_some hr2
  refine WVal_pc hr2 ?_
  try simp only [go_sem, hand, hor]
  refine WBr_splitN (fun hc3 => ?_) (fun hc4 => ?_)
  · rw [if_pos (show (!r1) = true by (rw [hc3]; rfl))] at h
    try simp only [go_sem, hand, hor]
    cases h
    rfl
  · rw [if_neg (ffn hc4)] at h
    try simp only [go_sem, hand, hor]
    obtain ⟨r5, hr6, h⟩ := bs h
    replace hr6 := dec_some hr6
    refine WVal_pc hr6 ?_
    try simp only [go_sem, hand, hor]
    obtain ⟨r7, hr8, h⟩ := bs h
    replace hr8 := dec_some hr8
    refine WVal_pc hr8 ?_
    try simp only [go_sem, hand, hor]
    refine WGuard_pure (v := .d (.int .i64 r7.2)) (fun hb72 => by (simp only [go_sem, hand, hor, hc4, hb72]; done)) ?_
    try simp only [go_sem, hand, hor]
    refine WGuard_pure (v := .d (.bool (!(r7.2 == 0)))) (fun hb71 => by (simp only [go_sem, hand, hor, hc4, hb71]; done)) ?_
    try simp only [go_sem, hand, hor]
    refine WBr_split (fun hc9 => ?_) (fun hc10 => ?_)
    · rw [if_pos hc9] at h
      try simp only [go_sem, hand, hor]
      cases h
      rfl
    · rw [if_neg (ff hc10)] at h
      try simp only [go_sem, hand, hor]
      refine WGuard_pure (v := .d (.int .i64 r5.1)) (fun hb70 => by (simp only [go_sem, hand, hor, hc4, hc10, hb70]; done)) ?_
      try simp only [go_sem, hand, hor]
      refine WGuard_pure (v := .d (.int .i64 (andI .i64 r5.1 (8)))) (fun hb69 => by (simp only [go_sem, hand, hor, hc4, hc10, hb69]; done)) ?_
      try simp only [go_sem, hand, hor]
      refine WGuard_pure (v := .d (.bool (!((andI .i64 r5.1 (8)) == 0)))) (fun hb68 => by (simp only [go_sem, hand, hor, hc4, hc10, hb68]; done)) ?_
      try simp only [go_sem, hand, hor]
      refine WGuard_pure (v := .d (.bool (!((andI .i64 r5.1 (8)) == 0)))) (fun hb67 => by (simp only [go_sem, hand, hor, hc4, hc10, hb67]; done)) ?_
      try simp only [go_sem, hand, hor]
      refine WGuard_pure (v := .d (.int .i64 r5.1)) (fun hb64 => by ((obtain ⟨hb65, hb66⟩ := bif_true hb64)); (simp only [go_sem, hand, hor, hc4, hc10, hb66, hb65]; done)) ?_
      try simp only [go_sem, hand, hor]
      refine WGuard_pure (v := .d (.int .i64 (andI .i64 r5.1 (2)))) (fun hb61 => by ((obtain ⟨hb62, hb63⟩ := bif_true hb61)); (simp only [go_sem, hand, hor, hc4, hc10, hb63, hb62]; done)) ?_
      try simp only [go_sem, hand, hor]
      refine WGuard_pure (v := .d (.bool ((andI .i64 r5.1 (2)) == 0))) (fun hb58 => by ((obtain ⟨hb59, hb60⟩ := bif_true hb58)); (simp only [go_sem, hand, hor, hc4, hc10, hb60, hb59]; done)) ?_
      try simp only [go_sem, hand, hor]
      refine WGuard_split (fun hc11 => ?_) (fun hc12 => ?_)
      · rw [if_pos hc11] at h
        try simp only [go_sem, hand, hor, hc11]
        refine WGuard_pure (v := .d (.int .i64 r5.1)) (fun hb57 => by (simp only [go_sem, hand, hor, hc4, hc10, hc11, hb57]; done)) ?_
        try simp only [go_sem, hand, hor]
        refine WGuard_pure (v := .d (.int .i64 (andI .i64 r5.1 (16)))) (fun hb56 => by (simp only [go_sem, hand, hor, hc4, hc10, hc11, hb56]; done)) ?_
        try simp only [go_sem, hand, hor]
        refine WGuard_pure (v := .d (.bool (!((andI .i64 r5.1 (16)) == 0)))) (fun hb55 => by (simp only [go_sem, hand, hor, hc4, hc10, hc11, hb55]; done)) ?_
        try simp only [go_sem, hand, hor]
        refine WGuard_pure (v := .d (.bool (!((andI .i64 r5.1 (16)) == 0)))) (fun hb54 => by (simp only [go_sem, hand, hor, hc4, hc10, hc11, hb54]; done)) ?_
        try simp only [go_sem, hand, hor]
        refine WGuard_pure (v := .d (.int .i64 r5.1)) (fun hb51 => by ((obtain ⟨hb52, hb53⟩ := bif_true hb51)); (simp only [go_sem, hand, hor, hc4, hc10, hc11, hb53, hb52]; done)) ?_
        try simp only [go_sem, hand, hor]
        refine WGuard_pure (v := .d (.int .i64 (andI .i64 r5.1 (4)))) (fun hb48 => by ((obtain ⟨hb49, hb50⟩ := bif_true hb48)); (simp only [go_sem, hand, hor, hc4, hc10, hc11, hb50, hb49]; done)) ?_
        try simp only [go_sem, hand, hor]
        refine WGuard_pure (v := .d (.bool ((andI .i64 r5.1 (4)) == 0))) (fun hb45 => by ((obtain ⟨hb46, hb47⟩ := bif_true hb45)); (simp only [go_sem, hand, hor, hc4, hc10, hc11, hb47, hb46]; done)) ?_
        try simp only [go_sem, hand, hor]
        refine WGuard_splitN (fun hc13 => ?_) (fun hc14 => ?_)
        · rw [if_pos (show (!(bif (!((andI .i64 r5.1 (8)) == 0)) then ((andI .i64 r5.1 (2)) == 0) else false)) = true by (rw [hc13]; rfl))] at h
          try simp only [go_sem, hand, hor, hc13]
          refine WBr_split (fun hc15 => ?_) (fun hc16 => ?_)
          · rw [if_pos hc15] at h
            try simp only [go_sem, hand, hor]
            cases h
            rfl
          · rw [if_neg (ff hc16)] at h
            try simp only [go_sem, hand, hor]
            refine WGuard_pure (v := .d (.int .i64 r5.1)) (fun hb44 => by (simp only [go_sem, hand, hor, hc4, hc10, hc11, hc13, hc16, hb44]; done)) ?_
            try simp only [go_sem, hand, hor]
            refine WGuard_pure (v := .d (.int .i64 (andI .i64 r5.1 (2)))) (fun hb43 => by (simp only [go_sem, hand, hor, hc4, hc10, hc11, hc13, hc16, hb43]; done)) ?_
            try simp only [go_sem, hand, hor]
            refine WGuard_pure (v := .d (.bool (!((andI .i64 r5.1 (2)) == 0)))) (fun hb42 => by (simp only [go_sem, hand, hor, hc4, hc10, hc11, hc13, hc16, hb42]; done)) ?_
            try simp only [go_sem, hand, hor]
            refine WGuard_pure (v := .d (.int .i64 r7.1)) (fun hb41 => by (simp only [go_sem, hand, hor, hc4, hc10, hc11, hc13, hc16, hb41]; done)) ?_
            try simp only [go_sem, hand, hor]
            refine WGuard_pure (v := .d (.int .i64 (andI .i64 r7.1 (4)))) (fun hb40 => by (simp only [go_sem, hand, hor, hc4, hc10, hc11, hc13, hc16, hb40]; done)) ?_
            try simp only [go_sem, hand, hor]
            refine WGuard_pure (v := .d (.bool (!((andI .i64 r7.1 (4)) == 0)))) (fun hb39 => by (simp only [go_sem, hand, hor, hc4, hc10, hc11, hc13, hc16, hb39]; done)) ?_
            try simp only [go_sem, hand, hor]
            refine WGuard_pure (v := .d (.bool ((!((andI .i64 r5.1 (2)) == 0)) == (!((andI .i64 r7.1 (4)) == 0))))) (fun hb38 => by (simp only [go_sem, hand, hor, hc4, hc10, hc11, hc13, hc16, hb38]; done)) ?_
            try simp only [go_sem, hand, hor]
            refine WGuard_pure (v := .d (.int .i64 r5.1)) (fun hb37 => by (simp only [go_sem, hand, hor, hc4, hc10, hc11, hc13, hc16, hb37]; done)) ?_
            try simp only [go_sem, hand, hor]
            refine WGuard_pure (v := .d (.int .i64 (andI .i64 r5.1 (4)))) (fun hb36 => by (simp only [go_sem, hand, hor, hc4, hc10, hc11, hc13, hc16, hb36]; done)) ?_
            try simp only [go_sem, hand, hor]
            refine WGuard_pure (v := .d (.bool (!((andI .i64 r5.1 (4)) == 0)))) (fun hb35 => by (simp only [go_sem, hand, hor, hc4, hc10, hc11, hc13, hc16, hb35]; done)) ?_
            try simp only [go_sem, hand, hor]
            refine WGuard_pure (v := .d (.int .i64 r7.1)) (fun hb34 => by (simp only [go_sem, hand, hor, hc4, hc10, hc11, hc13, hc16, hb34]; done)) ?_
            try simp only [go_sem, hand, hor]
            refine WGuard_pure (v := .d (.int .i64 (andI .i64 r7.1 (2)))) (fun hb33 => by (simp only [go_sem, hand, hor, hc4, hc10, hc11, hc13, hc16, hb33]; done)) ?_
            try simp only [go_sem, hand, hor]
            refine WGuard_pure (v := .d (.bool (!((andI .i64 r7.1 (2)) == 0)))) (fun hb32 => by (simp only [go_sem, hand, hor, hc4, hc10, hc11, hc13, hc16, hb32]; done)) ?_
            try simp only [go_sem, hand, hor]
            refine WGuard_pure (v := .d (.bool ((!((andI .i64 r5.1 (4)) == 0)) == (!((andI .i64 r7.1 (2)) == 0))))) (fun hb31 => by (simp only [go_sem, hand, hor, hc4, hc10, hc11, hc13, hc16, hb31]; done)) ?_
            try simp only [go_sem, hand, hor]
            refine WGuard_pure (v := .d (.int .i64 r5.1)) (fun hb30 => by (simp only [go_sem, hand, hor, hc4, hc10, hc11, hc13, hc16, hb30]; done)) ?_
            try simp only [go_sem, hand, hor]
            refine WGuard_pure (v := .d (.int .i64 (andI .i64 r5.1 (8)))) (fun hb29 => by (simp only [go_sem, hand, hor, hc4, hc10, hc11, hc13, hc16, hb29]; done)) ?_
            try simp only [go_sem, hand, hor]
            refine WGuard_pure (v := .d (.bool (!((andI .i64 r5.1 (8)) == 0)))) (fun hb28 => by (simp only [go_sem, hand, hor, hc4, hc10, hc11, hc13, hc16, hb28]; done)) ?_
            try simp only [go_sem, hand, hor]
            refine WGuard_pure (v := .d (.int .i64 r7.1)) (fun hb27 => by (simp only [go_sem, hand, hor, hc4, hc10, hc11, hc13, hc16, hb27]; done)) ?_
            try simp only [go_sem, hand, hor]
            refine WGuard_pure (v := .d (.int .i64 (andI .i64 r7.1 (16)))) (fun hb26 => by (simp only [go_sem, hand, hor, hc4, hc10, hc11, hc13, hc16, hb26]; done)) ?_
            try simp only [go_sem, hand, hor]
            refine WGuard_pure (v := .d (.bool (!((andI .i64 r7.1 (16)) == 0)))) (fun hb25 => by (simp only [go_sem, hand, hor, hc4, hc10, hc11, hc13, hc16, hb25]; done)) ?_
            try simp only [go_sem, hand, hor]
            refine WGuard_pure (v := .d (.bool ((!((andI .i64 r5.1 (8)) == 0)) == (!((andI .i64 r7.1 (16)) == 0))))) (fun hb24 => by (simp only [go_sem, hand, hor, hc4, hc10, hc11, hc13, hc16, hb24]; done)) ?_
            try simp only [go_sem, hand, hor]
            refine WGuard_pure (v := .d (.int .i64 r5.1)) (fun hb23 => by (simp only [go_sem, hand, hor, hc4, hc10, hc11, hc13, hc16, hb23]; done)) ?_
            try simp only [go_sem, hand, hor]
            refine WGuard_pure (v := .d (.int .i64 (andI .i64 r5.1 (16)))) (fun hb22 => by (simp only [go_sem, hand, hor, hc4, hc10, hc11, hc13, hc16, hb22]; done)) ?_
            try simp only [go_sem, hand, hor]
            refine WGuard_pure (v := .d (.bool (!((andI .i64 r5.1 (16)) == 0)))) (fun hb21 => by (simp only [go_sem, hand, hor, hc4, hc10, hc11, hc13, hc16, hb21]; done)) ?_
            try simp only [go_sem, hand, hor]
            refine WGuard_pure (v := .d (.int .i64 r7.1)) (fun hb20 => by (simp only [go_sem, hand, hor, hc4, hc10, hc11, hc13, hc16, hb20]; done)) ?_
            try simp only [go_sem, hand, hor]
            refine WGuard_pure (v := .d (.int .i64 (andI .i64 r7.1 (8)))) (fun hb19 => by (simp only [go_sem, hand, hor, hc4, hc10, hc11, hc13, hc16, hb19]; done)) ?_
            try simp only [go_sem, hand, hor]
            refine WGuard_pure (v := .d (.bool (!((andI .i64 r7.1 (8)) == 0)))) (fun hb18 => by (simp only [go_sem, hand, hor, hc4, hc10, hc11, hc13, hc16, hb18]; done)) ?_
            try simp only [go_sem, hand, hor]
            refine WGuard_pure (v := .d (.bool ((!((andI .i64 r5.1 (16)) == 0)) == (!((andI .i64 r7.1 (8)) == 0))))) (fun hb17 => by (simp only [go_sem, hand, hor, hc4, hc10, hc11, hc13, hc16, hb17]; done)) ?_
            try simp only [go_sem, hand, hor]
            cases h
            rfl
        · rw [if_neg (ffn hc14)] at h
          try simp only [go_sem, hand, hor, hc14]
          cases h
          rfl
      · rw [if_neg (ff hc12)] at h
        try simp only [go_sem, hand, hor, hc12]
        cases h
        rfl
end Go.Proofs.Ytfleilibjdgcjaa.O
