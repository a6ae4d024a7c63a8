/- Shaken copy of a longer text: what one law needs. Its conditions: none. -/
import Derived.Test.YtejglgffianhgaaDoorZNDec0
set_option linter.unusedSimpArgs false
set_option linter.unusedVariables false
set_option maxHeartbeats 1000000
namespace Go.Proofs.YtejglgffianhgaaDoor.N
open Go.AI
noncomputable def P3 (a0 : Int) : Option (Bool) :=
  (dec D.bool (pc prog 13 [.int .i32 a0])).bind fun r1 =>
  (dec D.bool (pc prog 14 [.int .i32 a0])).bind fun r3 =>
  if (r1 == r3) = true then
    (dec D.bool (pc prog 15 [.int .i32 a0])).bind fun r7 =>
    (dec D.bool (pc prog 16 [.int .i32 a0])).bind fun r9 =>
    if (r7 == r9) = true then
      (dec D.bool (pc prog 17 [])).bind fun r13 =>
      some r13
    else
      some false
  else
    some false
theorem ok3 (a0 : Int) (r : Bool) (h : P3 a0 = some r) : pc prog 3 [.int .i32 a0] = some (D.bool r) := by
  unfold P3 at h
  refine pc_of (fn := c3) rfl rfl ?_
  delta c3
  try simp only [go_sem]
  obtain ⟨r1, hr2, h⟩ := Option.bind_eq_some_iff.1 h
  replace hr2 := dec_some hr2
  first | refine WVal_pc hr2 ?_ | (simp only [eT2_eq, eT3_eq, eT4_eq, eT5_eq] at hr2; refine WVal_pc hr2 ?_)
  try simp only [go_sem]
  obtain ⟨r3, hr4, h⟩ := Option.bind_eq_some_iff.1 h
  replace hr4 := dec_some hr4
  first | refine WVal_pc hr4 ?_ | (simp only [eT2_eq, eT3_eq, eT4_eq, eT5_eq] at hr4; refine WVal_pc hr4 ?_)
  try simp only [go_sem]
  refine WGuard_pure (v := .d (.int .i32 a0)) (fun hb15 => by skip; simp only [go_sem, hb15]) ?_
  try simp only [go_sem]
  first | refine WGuard_splitN (fun hc5 => ?_) (fun hc6 => ?_) | refine WGuard_split (fun hc5 => ?_) (fun hc6 => ?_)
  · rw [if_pos (show (r1 == r3) = true by first | exact hc5 | (rw [hc5]; rfl) | simpa using hc5)] at h
    try simp only [go_sem, hc5]
    obtain ⟨r7, hr8, h⟩ := Option.bind_eq_some_iff.1 h
    replace hr8 := dec_some hr8
    first | refine WVal_pc hr8 ?_ | (simp only [eT2_eq, eT3_eq, eT4_eq, eT5_eq] at hr8; refine WVal_pc hr8 ?_)
    try simp only [go_sem]
    obtain ⟨r9, hr10, h⟩ := Option.bind_eq_some_iff.1 h
    replace hr10 := dec_some hr10
    first | refine WVal_pc hr10 ?_ | (simp only [eT2_eq, eT3_eq, eT4_eq, eT5_eq] at hr10; refine WVal_pc hr10 ?_)
    try simp only [go_sem]
    first | refine WGuard_splitN (fun hc11 => ?_) (fun hc12 => ?_) | refine WGuard_split (fun hc11 => ?_) (fun hc12 => ?_)
    · rw [if_pos (show (r7 == r9) = true by first | exact hc11 | (rw [hc11]; rfl) | simpa using hc11)] at h
      try simp only [go_sem, hc11]
      obtain ⟨r13, hr14, h⟩ := Option.bind_eq_some_iff.1 h
      replace hr14 := dec_some hr14
      first | refine WVal_pc hr14 ?_ | (simp only [eT2_eq, eT3_eq, eT4_eq, eT5_eq] at hr14; refine WVal_pc hr14 ?_)
      try simp only [go_sem]
      cases h
      first | rfl | (simp only [go_sem]; done) | (simp only [go_sem]; rfl) | (simp [eName, eRegistry, eDefinition, eForest, eCustom, enames_span, eNode, eforest_trait, eAttr, eforest_key, hc5, hc11]; done)
    · rw [if_neg (show ¬ (r7 == r9) = true by first | (rw [hc12]; exact Bool.false_ne_true) | simpa using hc12 | (simp at hc12 ⊢; omega))] at h
      try simp only [go_sem, hc12]
      cases h
      first | rfl | (simp only [go_sem]; done) | (simp only [go_sem]; rfl) | (simp [eName, eRegistry, eDefinition, eForest, eCustom, enames_span, eNode, eforest_trait, eAttr, eforest_key, hc5, hc12]; done)
  · rw [if_neg (show ¬ (r1 == r3) = true by first | (rw [hc6]; exact Bool.false_ne_true) | simpa using hc6 | (simp at hc6 ⊢; omega))] at h
    try simp only [go_sem, hc6]
    cases h
    first | rfl | (simp only [go_sem]; done) | (simp only [go_sem]; rfl) | (simp [eName, eRegistry, eDefinition, eForest, eCustom, enames_span, eNode, eforest_trait, eAttr, eforest_key, hc6]; done)
noncomputable def P5 (a0 : List UInt8) : Option (Bool) :=
  (dec D.bool (pc prog 18 [.str a0])).bind fun r1 =>
  (dec D.bool (pc prog 23 [.str a0])).bind fun r3 =>
  if (r1 == r3) = true then
    (dec D.bool (pc prog 19 [.str a0])).bind fun r7 =>
    (dec D.bool (pc prog 24 [.str a0])).bind fun r9 =>
    if (r7 == r9) = true then
      (dec D.bool (pc prog 21 [.str a0])).bind fun r13 =>
      (dec D.bool (pc prog 25 [.str a0])).bind fun r15 =>
      if (r13 == r15) = true then
        (dec D.bool (pc prog 26 [.str a0])).bind fun r19 =>
        (dec D.bool (pc prog 27 [.str a0])).bind fun r21 =>
        if (r19 == r21) = true then
          (dec D.bool (pc prog 28 [.str a0])).bind fun r25 =>
          (dec D.bool (pc prog 29 [.str a0])).bind fun r27 =>
          if (r25 == r27) = true then
            (dec D.bool (pc prog 17 [])).bind fun r31 =>
            some r31
          else
            some false
        else
          some false
      else
        some false
    else
      some false
  else
    some false
theorem ok5 (a0 : List UInt8) (r : Bool) (h : P5 a0 = some r) : pc prog 5 [.str a0] = some (D.bool r) := by
  unfold P5 at h
  refine pc_of (fn := c5) rfl rfl ?_
  delta c5
  try simp only [go_sem]
  obtain ⟨r1, hr2, h⟩ := Option.bind_eq_some_iff.1 h
  replace hr2 := dec_some hr2
  first | refine WVal_pc hr2 ?_ | (simp only [eT2_eq, eT3_eq, eT4_eq, eT5_eq] at hr2; refine WVal_pc hr2 ?_)
  try simp only [go_sem]
  obtain ⟨r3, hr4, h⟩ := Option.bind_eq_some_iff.1 h
  replace hr4 := dec_some hr4
  first | refine WVal_pc hr4 ?_ | (simp only [eT2_eq, eT3_eq, eT4_eq, eT5_eq] at hr4; refine WVal_pc hr4 ?_)
  try simp only [go_sem]
  refine WGuard_pure (v := .d (.str a0)) (fun hb36 => by skip; simp only [go_sem, hb36]) ?_
  try simp only [go_sem]
  first | refine WGuard_splitN (fun hc5 => ?_) (fun hc6 => ?_) | refine WGuard_split (fun hc5 => ?_) (fun hc6 => ?_)
  · rw [if_pos (show (r1 == r3) = true by first | exact hc5 | (rw [hc5]; rfl) | simpa using hc5)] at h
    try simp only [go_sem, hc5]
    obtain ⟨r7, hr8, h⟩ := Option.bind_eq_some_iff.1 h
    replace hr8 := dec_some hr8
    first | refine WVal_pc hr8 ?_ | (simp only [eT2_eq, eT3_eq, eT4_eq, eT5_eq] at hr8; refine WVal_pc hr8 ?_)
    try simp only [go_sem]
    obtain ⟨r9, hr10, h⟩ := Option.bind_eq_some_iff.1 h
    replace hr10 := dec_some hr10
    first | refine WVal_pc hr10 ?_ | (simp only [eT2_eq, eT3_eq, eT4_eq, eT5_eq] at hr10; refine WVal_pc hr10 ?_)
    try simp only [go_sem]
    refine WGuard_pure (v := .d (.str a0)) (fun hb35 => by skip; simp only [go_sem, hc5, hb35]) ?_
    try simp only [go_sem]
    first | refine WGuard_splitN (fun hc11 => ?_) (fun hc12 => ?_) | refine WGuard_split (fun hc11 => ?_) (fun hc12 => ?_)
    · rw [if_pos (show (r7 == r9) = true by first | exact hc11 | (rw [hc11]; rfl) | simpa using hc11)] at h
      try simp only [go_sem, hc11]
      obtain ⟨r13, hr14, h⟩ := Option.bind_eq_some_iff.1 h
      replace hr14 := dec_some hr14
      first | refine WVal_pc hr14 ?_ | (simp only [eT2_eq, eT3_eq, eT4_eq, eT5_eq] at hr14; refine WVal_pc hr14 ?_)
      try simp only [go_sem]
      obtain ⟨r15, hr16, h⟩ := Option.bind_eq_some_iff.1 h
      replace hr16 := dec_some hr16
      first | refine WVal_pc hr16 ?_ | (simp only [eT2_eq, eT3_eq, eT4_eq, eT5_eq] at hr16; refine WVal_pc hr16 ?_)
      try simp only [go_sem]
      refine WGuard_pure (v := .d (.str a0)) (fun hb34 => by skip; simp only [go_sem, hc5, hc11, hb34]) ?_
      try simp only [go_sem]
      first | refine WGuard_splitN (fun hc17 => ?_) (fun hc18 => ?_) | refine WGuard_split (fun hc17 => ?_) (fun hc18 => ?_)
      · rw [if_pos (show (r13 == r15) = true by first | exact hc17 | (rw [hc17]; rfl) | simpa using hc17)] at h
        try simp only [go_sem, hc17]
        obtain ⟨r19, hr20, h⟩ := Option.bind_eq_some_iff.1 h
        replace hr20 := dec_some hr20
        first | refine WVal_pc hr20 ?_ | (simp only [eT2_eq, eT3_eq, eT4_eq, eT5_eq] at hr20; refine WVal_pc hr20 ?_)
        try simp only [go_sem]
        obtain ⟨r21, hr22, h⟩ := Option.bind_eq_some_iff.1 h
        replace hr22 := dec_some hr22
        first | refine WVal_pc hr22 ?_ | (simp only [eT2_eq, eT3_eq, eT4_eq, eT5_eq] at hr22; refine WVal_pc hr22 ?_)
        try simp only [go_sem]
        refine WGuard_pure (v := .d (.str a0)) (fun hb33 => by skip; simp only [go_sem, hc5, hc11, hc17, hb33]) ?_
        try simp only [go_sem]
        first | refine WGuard_splitN (fun hc23 => ?_) (fun hc24 => ?_) | refine WGuard_split (fun hc23 => ?_) (fun hc24 => ?_)
        · rw [if_pos (show (r19 == r21) = true by first | exact hc23 | (rw [hc23]; rfl) | simpa using hc23)] at h
          try simp only [go_sem, hc23]
          obtain ⟨r25, hr26, h⟩ := Option.bind_eq_some_iff.1 h
          replace hr26 := dec_some hr26
          first | refine WVal_pc hr26 ?_ | (simp only [eT2_eq, eT3_eq, eT4_eq, eT5_eq] at hr26; refine WVal_pc hr26 ?_)
          try simp only [go_sem]
          obtain ⟨r27, hr28, h⟩ := Option.bind_eq_some_iff.1 h
          replace hr28 := dec_some hr28
          first | refine WVal_pc hr28 ?_ | (simp only [eT2_eq, eT3_eq, eT4_eq, eT5_eq] at hr28; refine WVal_pc hr28 ?_)
          try simp only [go_sem]
          first | refine WGuard_splitN (fun hc29 => ?_) (fun hc30 => ?_) | refine WGuard_split (fun hc29 => ?_) (fun hc30 => ?_)
          · rw [if_pos (show (r25 == r27) = true by first | exact hc29 | (rw [hc29]; rfl) | simpa using hc29)] at h
            try simp only [go_sem, hc29]
            obtain ⟨r31, hr32, h⟩ := Option.bind_eq_some_iff.1 h
            replace hr32 := dec_some hr32
            first | refine WVal_pc hr32 ?_ | (simp only [eT2_eq, eT3_eq, eT4_eq, eT5_eq] at hr32; refine WVal_pc hr32 ?_)
            try simp only [go_sem]
            cases h
            first | rfl | (simp only [go_sem]; done) | (simp only [go_sem]; rfl) | (simp [eName, eRegistry, eDefinition, eForest, eCustom, enames_span, eNode, eforest_trait, eAttr, eforest_key, hc5, hc11, hc17, hc23, hc29]; done)
          · rw [if_neg (show ¬ (r25 == r27) = true by first | (rw [hc30]; exact Bool.false_ne_true) | simpa using hc30 | (simp at hc30 ⊢; omega))] at h
            try simp only [go_sem, hc30]
            cases h
            first | rfl | (simp only [go_sem]; done) | (simp only [go_sem]; rfl) | (simp [eName, eRegistry, eDefinition, eForest, eCustom, enames_span, eNode, eforest_trait, eAttr, eforest_key, hc5, hc11, hc17, hc23, hc30]; done)
        · rw [if_neg (show ¬ (r19 == r21) = true by first | (rw [hc24]; exact Bool.false_ne_true) | simpa using hc24 | (simp at hc24 ⊢; omega))] at h
          try simp only [go_sem, hc24]
          cases h
          first | rfl | (simp only [go_sem]; done) | (simp only [go_sem]; rfl) | (simp [eName, eRegistry, eDefinition, eForest, eCustom, enames_span, eNode, eforest_trait, eAttr, eforest_key, hc5, hc11, hc17, hc24]; done)
      · rw [if_neg (show ¬ (r13 == r15) = true by first | (rw [hc18]; exact Bool.false_ne_true) | simpa using hc18 | (simp at hc18 ⊢; omega))] at h
        try simp only [go_sem, hc18]
        cases h
        first | rfl | (simp only [go_sem]; done) | (simp only [go_sem]; rfl) | (simp [eName, eRegistry, eDefinition, eForest, eCustom, enames_span, eNode, eforest_trait, eAttr, eforest_key, hc5, hc11, hc18]; done)
    · rw [if_neg (show ¬ (r7 == r9) = true by first | (rw [hc12]; exact Bool.false_ne_true) | simpa using hc12 | (simp at hc12 ⊢; omega))] at h
      try simp only [go_sem, hc12]
      cases h
      first | rfl | (simp only [go_sem]; done) | (simp only [go_sem]; rfl) | (simp [eName, eRegistry, eDefinition, eForest, eCustom, enames_span, eNode, eforest_trait, eAttr, eforest_key, hc5, hc12]; done)
  · rw [if_neg (show ¬ (r1 == r3) = true by first | (rw [hc6]; exact Bool.false_ne_true) | simpa using hc6 | (simp at hc6 ⊢; omega))] at h
    try simp only [go_sem, hc6]
    cases h
    first | rfl | (simp only [go_sem]; done) | (simp only [go_sem]; rfl) | (simp [eName, eRegistry, eDefinition, eForest, eCustom, enames_span, eNode, eforest_trait, eAttr, eforest_key, hc6]; done)
noncomputable def P7 (a0 : List UInt8) (a1 : Name) : Option (Bool) :=
  (dec (eT2 D.str D.str) (pc prog 20 [.str a0])).bind fun r1 =>
  (dec (eT2 D.str D.str) (pc prog 30 [.str a0])).bind fun r3 =>
  if (bif (r1.1 == r3.1) then (r1.2 == r3.2) else false) = true then
    (dec D.str (pc prog 31 [eName a1])).bind fun r7 =>
    (dec D.str (pc prog 32 [eName a1])).bind fun r9 =>
    if (r7 == r9) = true then
      (dec (D.int .i64) (pc prog 33 [.str a0])).bind fun r13 =>
      (dec (D.int .i64) (pc prog 34 [.str a0])).bind fun r15 =>
      if (r13 == r15) = true then
        (dec D.bool (pc prog 17 [])).bind fun r19 =>
        some r19
      else
        some false
    else
      some false
  else
    some false
theorem ok7 (a0 : List UInt8) (a1 : Name) (r : Bool) (h : P7 a0 a1 = some r) : pc prog 7 [.str a0, eName a1] = some (D.bool r) := by
  unfold P7 at h
  refine pc_of (fn := c7) rfl rfl ?_
  delta c7
  try simp only [go_sem]
  obtain ⟨r1, hr2, h⟩ := Option.bind_eq_some_iff.1 h
  replace hr2 := dec_some hr2
  first | refine WVal_pc hr2 ?_ | (simp only [eT2_eq, eT3_eq, eT4_eq, eT5_eq] at hr2; refine WVal_pc hr2 ?_)
  try simp only [go_sem]
  obtain ⟨r3, hr4, h⟩ := Option.bind_eq_some_iff.1 h
  replace hr4 := dec_some hr4
  first | refine WVal_pc hr4 ?_ | (simp only [eT2_eq, eT3_eq, eT4_eq, eT5_eq] at hr4; refine WVal_pc hr4 ?_)
  try simp only [go_sem]
  refine WGuard_pure (v := .d (.str r1.2)) (fun hb25 => by skip; simp only [go_sem, hb25]) ?_
  try simp only [go_sem]
  refine WGuard_pure (v := .d (.str r3.2)) (fun hb24 => by skip; simp only [go_sem, hb24]) ?_
  try simp only [go_sem]
  refine WGuard_pure (v := .d (.bool (r1.2 == r3.2))) (fun hb23 => by skip; simp only [go_sem, hb23]) ?_
  try simp only [go_sem]
  refine WGuard_pure (v := .d (eName a1)) (fun hb22 => by skip; simp only [go_sem, hb22]) ?_
  try simp only [go_sem]
  first | refine WGuard_splitN (fun hc5 => ?_) (fun hc6 => ?_) | refine WGuard_split (fun hc5 => ?_) (fun hc6 => ?_)
  · rw [if_pos (show (bif (r1.1 == r3.1) then (r1.2 == r3.2) else false) = true by first | exact hc5 | (rw [hc5]; rfl) | simpa using hc5)] at h
    try simp only [go_sem, hc5]
    obtain ⟨r7, hr8, h⟩ := Option.bind_eq_some_iff.1 h
    replace hr8 := dec_some hr8
    first | refine WVal_pc hr8 ?_ | (simp only [eT2_eq, eT3_eq, eT4_eq, eT5_eq] at hr8; refine WVal_pc hr8 ?_)
    try simp only [go_sem]
    obtain ⟨r9, hr10, h⟩ := Option.bind_eq_some_iff.1 h
    replace hr10 := dec_some hr10
    first | refine WVal_pc hr10 ?_ | (simp only [eT2_eq, eT3_eq, eT4_eq, eT5_eq] at hr10; refine WVal_pc hr10 ?_)
    try simp only [go_sem]
    refine WGuard_pure (v := .d (.str a0)) (fun hb21 => by skip; simp only [go_sem, hc5, hb21]) ?_
    try simp only [go_sem]
    first | refine WGuard_splitN (fun hc11 => ?_) (fun hc12 => ?_) | refine WGuard_split (fun hc11 => ?_) (fun hc12 => ?_)
    · rw [if_pos (show (r7 == r9) = true by first | exact hc11 | (rw [hc11]; rfl) | simpa using hc11)] at h
      try simp only [go_sem, hc11]
      obtain ⟨r13, hr14, h⟩ := Option.bind_eq_some_iff.1 h
      replace hr14 := dec_some hr14
      first | refine WVal_pc hr14 ?_ | (simp only [eT2_eq, eT3_eq, eT4_eq, eT5_eq] at hr14; refine WVal_pc hr14 ?_)
      try simp only [go_sem]
      obtain ⟨r15, hr16, h⟩ := Option.bind_eq_some_iff.1 h
      replace hr16 := dec_some hr16
      first | refine WVal_pc hr16 ?_ | (simp only [eT2_eq, eT3_eq, eT4_eq, eT5_eq] at hr16; refine WVal_pc hr16 ?_)
      try simp only [go_sem]
      first | refine WGuard_splitN (fun hc17 => ?_) (fun hc18 => ?_) | refine WGuard_split (fun hc17 => ?_) (fun hc18 => ?_)
      · rw [if_pos (show (r13 == r15) = true by first | exact hc17 | (rw [hc17]; rfl) | simpa using hc17)] at h
        try simp only [go_sem, hc17]
        obtain ⟨r19, hr20, h⟩ := Option.bind_eq_some_iff.1 h
        replace hr20 := dec_some hr20
        first | refine WVal_pc hr20 ?_ | (simp only [eT2_eq, eT3_eq, eT4_eq, eT5_eq] at hr20; refine WVal_pc hr20 ?_)
        try simp only [go_sem]
        cases h
        first | rfl | (simp only [go_sem]; done) | (simp only [go_sem]; rfl) | (simp [eName, eRegistry, eDefinition, eForest, eCustom, enames_span, eNode, eforest_trait, eAttr, eforest_key, hc5, hc11, hc17]; done)
      · rw [if_neg (show ¬ (r13 == r15) = true by first | (rw [hc18]; exact Bool.false_ne_true) | simpa using hc18 | (simp at hc18 ⊢; omega))] at h
        try simp only [go_sem, hc18]
        cases h
        first | rfl | (simp only [go_sem]; done) | (simp only [go_sem]; rfl) | (simp [eName, eRegistry, eDefinition, eForest, eCustom, enames_span, eNode, eforest_trait, eAttr, eforest_key, hc5, hc11, hc18]; done)
    · rw [if_neg (show ¬ (r7 == r9) = true by first | (rw [hc12]; exact Bool.false_ne_true) | simpa using hc12 | (simp at hc12 ⊢; omega))] at h
      try simp only [go_sem, hc12]
      cases h
      first | rfl | (simp only [go_sem]; done) | (simp only [go_sem]; rfl) | (simp [eName, eRegistry, eDefinition, eForest, eCustom, enames_span, eNode, eforest_trait, eAttr, eforest_key, hc5, hc12]; done)
  · rw [if_neg (show ¬ (bif (r1.1 == r3.1) then (r1.2 == r3.2) else false) = true by first | (rw [hc6]; exact Bool.false_ne_true) | simpa using hc6 | (simp at hc6 ⊢; omega))] at h
    try simp only [go_sem, hc6]
    cases h
    first | rfl | (simp only [go_sem]; done) | (simp only [go_sem]; rfl) | (simp [eName, eRegistry, eDefinition, eForest, eCustom, enames_span, eNode, eforest_trait, eAttr, eforest_key, hc6]; done)
noncomputable def P8 (a0 : List UInt8) (a1 : List UInt8) (a2 : Name) : Option (Bool) :=
  (dec (eT2 eName (D.int .i64)) (pc prog 35 [.str a0, .str a1])).bind fun r1 =>
  (dec (eT2 eName (D.int .i64)) (pc prog 36 [.str a0, .str a1])).bind fun r3 =>
  if (bif (decide (r1.1 = r3.1)) then (r1.2 == r3.2) else false) = true then
    (dec D.bool (pc prog 37 [eName a2])).bind fun r7 =>
    (dec D.bool (pc prog 38 [eName a2])).bind fun r9 =>
    if (r7 == r9) = true then
      (dec D.bool (pc prog 17 [])).bind fun r13 =>
      some r13
    else
      some false
  else
    some false
theorem ok8 (a0 : List UInt8) (a1 : List UInt8) (a2 : Name) (r : Bool) (h : P8 a0 a1 a2 = some r) : pc prog 8 [.str a0, .str a1, eName a2] = some (D.bool r) := by
  unfold P8 at h
  refine pc_of (fn := c8) rfl rfl ?_
  delta c8
  try simp only [go_sem]
  obtain ⟨r1, hr2, h⟩ := Option.bind_eq_some_iff.1 h
  replace hr2 := dec_some hr2
  first | refine WVal_pc hr2 ?_ | (simp only [eT2_eq, eT3_eq, eT4_eq, eT5_eq] at hr2; refine WVal_pc hr2 ?_)
  try simp only [go_sem]
  obtain ⟨r3, hr4, h⟩ := Option.bind_eq_some_iff.1 h
  replace hr4 := dec_some hr4
  first | refine WVal_pc hr4 ?_ | (simp only [eT2_eq, eT3_eq, eT4_eq, eT5_eq] at hr4; refine WVal_pc hr4 ?_)
  try simp only [go_sem]
  refine WGuard_pure (v := .d (.int .i64 r1.2)) (fun hb18 => by skip; simp only [go_sem, hb18]) ?_
  try simp only [go_sem]
  refine WGuard_pure (v := .d (.int .i64 r3.2)) (fun hb17 => by skip; simp only [go_sem, hb17]) ?_
  try simp only [go_sem]
  refine WGuard_pure (v := .d (.bool (r1.2 == r3.2))) (fun hb16 => by skip; simp only [go_sem, hb16]) ?_
  try simp only [go_sem]
  refine WGuard_pure (v := .d (eName a2)) (fun hb15 => by skip; simp only [go_sem, hb15]) ?_
  try simp only [go_sem]
  first | refine WGuard_splitN (fun hc5 => ?_) (fun hc6 => ?_) | refine WGuard_split (fun hc5 => ?_) (fun hc6 => ?_)
  · rw [if_pos (show (bif (decide (r1.1 = r3.1)) then (r1.2 == r3.2) else false) = true by first | exact hc5 | (rw [hc5]; rfl) | simpa using hc5)] at h
    try simp only [go_sem, hc5]
    obtain ⟨r7, hr8, h⟩ := Option.bind_eq_some_iff.1 h
    replace hr8 := dec_some hr8
    first | refine WVal_pc hr8 ?_ | (simp only [eT2_eq, eT3_eq, eT4_eq, eT5_eq] at hr8; refine WVal_pc hr8 ?_)
    try simp only [go_sem]
    obtain ⟨r9, hr10, h⟩ := Option.bind_eq_some_iff.1 h
    replace hr10 := dec_some hr10
    first | refine WVal_pc hr10 ?_ | (simp only [eT2_eq, eT3_eq, eT4_eq, eT5_eq] at hr10; refine WVal_pc hr10 ?_)
    try simp only [go_sem]
    first | refine WGuard_splitN (fun hc11 => ?_) (fun hc12 => ?_) | refine WGuard_split (fun hc11 => ?_) (fun hc12 => ?_)
    · rw [if_pos (show (r7 == r9) = true by first | exact hc11 | (rw [hc11]; rfl) | simpa using hc11)] at h
      try simp only [go_sem, hc11]
      obtain ⟨r13, hr14, h⟩ := Option.bind_eq_some_iff.1 h
      replace hr14 := dec_some hr14
      first | refine WVal_pc hr14 ?_ | (simp only [eT2_eq, eT3_eq, eT4_eq, eT5_eq] at hr14; refine WVal_pc hr14 ?_)
      try simp only [go_sem]
      cases h
      first | rfl | (simp only [go_sem]; done) | (simp only [go_sem]; rfl) | (simp [eName, eRegistry, eDefinition, eForest, eCustom, enames_span, eNode, eforest_trait, eAttr, eforest_key, hc5, hc11]; done)
    · rw [if_neg (show ¬ (r7 == r9) = true by first | (rw [hc12]; exact Bool.false_ne_true) | simpa using hc12 | (simp at hc12 ⊢; omega))] at h
      try simp only [go_sem, hc12]
      cases h
      first | rfl | (simp only [go_sem]; done) | (simp only [go_sem]; rfl) | (simp [eName, eRegistry, eDefinition, eForest, eCustom, enames_span, eNode, eforest_trait, eAttr, eforest_key, hc5, hc12]; done)
  · rw [if_neg (show ¬ (bif (decide (r1.1 = r3.1)) then (r1.2 == r3.2) else false) = true by first | (rw [hc6]; exact Bool.false_ne_true) | simpa using hc6 | (simp at hc6 ⊢; omega))] at h
    try simp only [go_sem, hc6]
    cases h
    first | rfl | (simp only [go_sem]; done) | (simp only [go_sem]; rfl) | (simp [eName, eRegistry, eDefinition, eForest, eCustom, enames_span, eNode, eforest_trait, eAttr, eforest_key, hc6]; done)
noncomputable def P13 (a0 : Int) : Option (Bool) :=
  (dec D.bool (pc prog 52 [.int .i32 a0, .list false (([(⟨58, 58⟩ : names_span), (⟨95, 95⟩ : names_span), (⟨65, 90⟩ : names_span), (⟨97, 122⟩ : names_span), (⟨192, 214⟩ : names_span), (⟨216, 246⟩ : names_span), (⟨248, 767⟩ : names_span), (⟨880, 893⟩ : names_span)]).map enames_span)])).bind fun r1 =>
  if (!r1) = true then
    (dec (eSl enames_span) (pc prog 53 [])).bind fun r5 =>
    (dec D.bool (pc prog 52 [.int .i32 a0, .list r5.n (r5.l.map enames_span)])).bind fun r7 =>
    some r7
  else
    some true
theorem ok13 (a0 : Int) (r : Bool) (h : P13 a0 = some r) : pc prog 13 [.int .i32 a0] = some (D.bool r) := by
  unfold P13 at h
  refine pc_of (fn := c13) rfl rfl ?_
  delta c13
  try simp only [go_sem]
  obtain ⟨r1, hr2, h⟩ := Option.bind_eq_some_iff.1 h
  replace hr2 := dec_some hr2
  first | refine WVal_pc hr2 ?_ | (simp only [eT2_eq, eT3_eq, eT4_eq, eT5_eq] at hr2; refine WVal_pc hr2 ?_)
  try simp only [go_sem]
  refine WGuard_pure (v := .d (.int .i32 a0)) (fun hb9 => by skip; simp only [go_sem, hb9]) ?_
  try simp only [go_sem]
  first | refine WGuard_splitN (fun hc3 => ?_) (fun hc4 => ?_) | refine WGuard_split (fun hc3 => ?_) (fun hc4 => ?_)
  · rw [if_pos (show (!r1) = true by first | exact hc3 | (rw [hc3]; rfl) | simpa using hc3)] at h
    try simp only [go_sem, hc3]
    obtain ⟨r5, hr6, h⟩ := Option.bind_eq_some_iff.1 h
    replace hr6 := dec_some hr6
    first | refine WVal_pc hr6 ?_ | (simp only [eT2_eq, eT3_eq, eT4_eq, eT5_eq] at hr6; refine WVal_pc hr6 ?_)
    try simp only [go_sem]
    obtain ⟨r7, hr8, h⟩ := Option.bind_eq_some_iff.1 h
    replace hr8 := dec_some hr8
    first | refine WVal_pc hr8 ?_ | (simp only [eT2_eq, eT3_eq, eT4_eq, eT5_eq] at hr8; refine WVal_pc hr8 ?_)
    try simp only [go_sem]
    cases h
    first | rfl | (simp only [go_sem]; done) | (simp only [go_sem]; rfl) | (simp [eName, eRegistry, eDefinition, eForest, eCustom, enames_span, eNode, eforest_trait, eAttr, eforest_key, hc3]; done)
  · rw [if_neg (show ¬ (!r1) = true by first | (rw [hc4]; exact Bool.false_ne_true) | simpa using hc4 | (simp at hc4 ⊢; omega))] at h
    try simp only [go_sem, hc4]
    cases h
    first | rfl | (simp only [go_sem]; done) | (simp only [go_sem]; rfl) | (simp [eName, eRegistry, eDefinition, eForest, eCustom, enames_span, eNode, eforest_trait, eAttr, eforest_key, hc4]; done)
noncomputable def P14 (a0 : Int) : Option (Bool) :=
  if (!(bif (a0 == 58) then true else (a0 == 95))) = true then
    if (!(bif (decide (65 ≤ a0)) then (decide (a0 ≤ 90)) else false)) = true then
      if (!(bif (decide (97 ≤ a0)) then (decide (a0 ≤ 122)) else false)) = true then
        if (!(bif (decide (192 ≤ a0)) then (decide (a0 ≤ 214)) else false)) = true then
          if (!(bif (decide (216 ≤ a0)) then (decide (a0 ≤ 246)) else false)) = true then
            if (!(bif (decide (248 ≤ a0)) then (decide (a0 ≤ 767)) else false)) = true then
              (dec D.bool (pc prog 54 [.int .i32 a0])).bind fun r13 =>
              some r13
            else
              some true
          else
            some true
        else
          some true
      else
        some true
    else
      some true
  else
    some true
theorem ok14 (a0 : Int) (r : Bool) (h : P14 a0 = some r) : pc prog 14 [.int .i32 a0] = some (D.bool r) := by
  unfold P14 at h
  refine pc_of (fn := c14) rfl rfl ?_
  delta c14
  try simp only [go_sem]
  refine WGuard_pure (v := .d (.int .i32 a0)) (fun hb62 => by skip; simp only [go_sem, hb62]) ?_
  try simp only [go_sem]
  refine WGuard_pure (v := .d (.bool (a0 == 95))) (fun hb61 => by skip; simp only [go_sem, hb61]) ?_
  try simp only [go_sem]
  refine WGuard_pure (v := .d (.int .i32 a0)) (fun hb60 => by skip; simp only [go_sem, hb60]) ?_
  try simp only [go_sem]
  refine WGuard_pure (v := .d (.bool (decide (65 ≤ a0)))) (fun hb59 => by skip; simp only [go_sem, hb59]) ?_
  try simp only [go_sem]
  refine WGuard_pure (v := .d (.bool (decide (65 ≤ a0)))) (fun hb58 => by skip; simp only [go_sem, hb58]) ?_
  try simp only [go_sem]
  refine WGuard_pure (v := .d (.int .i32 a0)) (fun hb55 => by ((obtain ⟨hb56, hb57⟩ := bif_true hb55)); simp only [go_sem, hb57, hb56]) ?_
  try simp only [go_sem]
  refine WGuard_pure (v := .d (.bool (decide (a0 ≤ 90)))) (fun hb52 => by ((obtain ⟨hb53, hb54⟩ := bif_true hb52)); simp only [go_sem, hb54, hb53]) ?_
  try simp only [go_sem]
  first | refine WGuard_splitN (fun hc1 => ?_) (fun hc2 => ?_) | refine WGuard_split (fun hc1 => ?_) (fun hc2 => ?_)
  · rw [if_pos (show (!(bif (a0 == 58) then true else (a0 == 95))) = true by first | exact hc1 | (rw [hc1]; rfl) | simpa using hc1)] at h
    try simp only [go_sem, hc1]
    refine WGuard_pure (v := .d (.int .i32 a0)) (fun hb51 => by skip; simp only [go_sem, hc1, hb51]) ?_
    try simp only [go_sem]
    refine WGuard_pure (v := .d (.bool (decide (97 ≤ a0)))) (fun hb50 => by skip; simp only [go_sem, hc1, hb50]) ?_
    try simp only [go_sem]
    refine WGuard_pure (v := .d (.bool (decide (97 ≤ a0)))) (fun hb49 => by skip; simp only [go_sem, hc1, hb49]) ?_
    try simp only [go_sem]
    refine WGuard_pure (v := .d (.int .i32 a0)) (fun hb46 => by ((obtain ⟨hb47, hb48⟩ := bif_true hb46)); simp only [go_sem, hc1, hb48, hb47]) ?_
    try simp only [go_sem]
    refine WGuard_pure (v := .d (.bool (decide (a0 ≤ 122)))) (fun hb43 => by ((obtain ⟨hb44, hb45⟩ := bif_true hb43)); simp only [go_sem, hc1, hb45, hb44]) ?_
    try simp only [go_sem]
    first | refine WGuard_splitN (fun hc3 => ?_) (fun hc4 => ?_) | refine WGuard_split (fun hc3 => ?_) (fun hc4 => ?_)
    · rw [if_pos (show (!(bif (decide (65 ≤ a0)) then (decide (a0 ≤ 90)) else false)) = true by first | exact hc3 | (rw [hc3]; rfl) | simpa using hc3)] at h
      try simp only [go_sem, hc3]
      refine WGuard_pure (v := .d (.int .i32 a0)) (fun hb42 => by skip; simp only [go_sem, hc1, hc3, hb42]) ?_
      try simp only [go_sem]
      refine WGuard_pure (v := .d (.bool (decide (192 ≤ a0)))) (fun hb41 => by skip; simp only [go_sem, hc1, hc3, hb41]) ?_
      try simp only [go_sem]
      refine WGuard_pure (v := .d (.bool (decide (192 ≤ a0)))) (fun hb40 => by skip; simp only [go_sem, hc1, hc3, hb40]) ?_
      try simp only [go_sem]
      refine WGuard_pure (v := .d (.int .i32 a0)) (fun hb37 => by ((obtain ⟨hb38, hb39⟩ := bif_true hb37)); simp only [go_sem, hc1, hc3, hb39, hb38]) ?_
      try simp only [go_sem]
      refine WGuard_pure (v := .d (.bool (decide (a0 ≤ 214)))) (fun hb34 => by ((obtain ⟨hb35, hb36⟩ := bif_true hb34)); simp only [go_sem, hc1, hc3, hb36, hb35]) ?_
      try simp only [go_sem]
      first | refine WGuard_splitN (fun hc5 => ?_) (fun hc6 => ?_) | refine WGuard_split (fun hc5 => ?_) (fun hc6 => ?_)
      · rw [if_pos (show (!(bif (decide (97 ≤ a0)) then (decide (a0 ≤ 122)) else false)) = true by first | exact hc5 | (rw [hc5]; rfl) | simpa using hc5)] at h
        try simp only [go_sem, hc5]
        refine WGuard_pure (v := .d (.int .i32 a0)) (fun hb33 => by skip; simp only [go_sem, hc1, hc3, hc5, hb33]) ?_
        try simp only [go_sem]
        refine WGuard_pure (v := .d (.bool (decide (216 ≤ a0)))) (fun hb32 => by skip; simp only [go_sem, hc1, hc3, hc5, hb32]) ?_
        try simp only [go_sem]
        refine WGuard_pure (v := .d (.bool (decide (216 ≤ a0)))) (fun hb31 => by skip; simp only [go_sem, hc1, hc3, hc5, hb31]) ?_
        try simp only [go_sem]
        refine WGuard_pure (v := .d (.int .i32 a0)) (fun hb28 => by ((obtain ⟨hb29, hb30⟩ := bif_true hb28)); simp only [go_sem, hc1, hc3, hc5, hb30, hb29]) ?_
        try simp only [go_sem]
        refine WGuard_pure (v := .d (.bool (decide (a0 ≤ 246)))) (fun hb25 => by ((obtain ⟨hb26, hb27⟩ := bif_true hb25)); simp only [go_sem, hc1, hc3, hc5, hb27, hb26]) ?_
        try simp only [go_sem]
        first | refine WGuard_splitN (fun hc7 => ?_) (fun hc8 => ?_) | refine WGuard_split (fun hc7 => ?_) (fun hc8 => ?_)
        · rw [if_pos (show (!(bif (decide (192 ≤ a0)) then (decide (a0 ≤ 214)) else false)) = true by first | exact hc7 | (rw [hc7]; rfl) | simpa using hc7)] at h
          try simp only [go_sem, hc7]
          refine WGuard_pure (v := .d (.int .i32 a0)) (fun hb24 => by skip; simp only [go_sem, hc1, hc3, hc5, hc7, hb24]) ?_
          try simp only [go_sem]
          refine WGuard_pure (v := .d (.bool (decide (248 ≤ a0)))) (fun hb23 => by skip; simp only [go_sem, hc1, hc3, hc5, hc7, hb23]) ?_
          try simp only [go_sem]
          refine WGuard_pure (v := .d (.bool (decide (248 ≤ a0)))) (fun hb22 => by skip; simp only [go_sem, hc1, hc3, hc5, hc7, hb22]) ?_
          try simp only [go_sem]
          refine WGuard_pure (v := .d (.int .i32 a0)) (fun hb19 => by ((obtain ⟨hb20, hb21⟩ := bif_true hb19)); simp only [go_sem, hc1, hc3, hc5, hc7, hb21, hb20]) ?_
          try simp only [go_sem]
          refine WGuard_pure (v := .d (.bool (decide (a0 ≤ 767)))) (fun hb16 => by ((obtain ⟨hb17, hb18⟩ := bif_true hb16)); simp only [go_sem, hc1, hc3, hc5, hc7, hb18, hb17]) ?_
          try simp only [go_sem]
          first | refine WGuard_splitN (fun hc9 => ?_) (fun hc10 => ?_) | refine WGuard_split (fun hc9 => ?_) (fun hc10 => ?_)
          · rw [if_pos (show (!(bif (decide (216 ≤ a0)) then (decide (a0 ≤ 246)) else false)) = true by first | exact hc9 | (rw [hc9]; rfl) | simpa using hc9)] at h
            try simp only [go_sem, hc9]
            refine WGuard_pure (v := .d (.int .i32 a0)) (fun hb15 => by skip; simp only [go_sem, hc1, hc3, hc5, hc7, hc9, hb15]) ?_
            try simp only [go_sem]
            first | refine WGuard_splitN (fun hc11 => ?_) (fun hc12 => ?_) | refine WGuard_split (fun hc11 => ?_) (fun hc12 => ?_)
            · rw [if_pos (show (!(bif (decide (248 ≤ a0)) then (decide (a0 ≤ 767)) else false)) = true by first | exact hc11 | (rw [hc11]; rfl) | simpa using hc11)] at h
              try simp only [go_sem, hc11]
              obtain ⟨r13, hr14, h⟩ := Option.bind_eq_some_iff.1 h
              replace hr14 := dec_some hr14
              first | refine WVal_pc hr14 ?_ | (simp only [eT2_eq, eT3_eq, eT4_eq, eT5_eq] at hr14; refine WVal_pc hr14 ?_)
              try simp only [go_sem]
              cases h
              first | rfl | (simp only [go_sem]; done) | (simp only [go_sem]; rfl) | (simp [eName, eRegistry, eDefinition, eForest, eCustom, enames_span, eNode, eforest_trait, eAttr, eforest_key, hc1, hc3, hc5, hc7, hc9, hc11]; done)
            · rw [if_neg (show ¬ (!(bif (decide (248 ≤ a0)) then (decide (a0 ≤ 767)) else false)) = true by first | (rw [hc12]; exact Bool.false_ne_true) | simpa using hc12 | (simp at hc12 ⊢; omega))] at h
              try simp only [go_sem, hc12]
              cases h
              first | rfl | (simp only [go_sem]; done) | (simp only [go_sem]; rfl) | (simp [eName, eRegistry, eDefinition, eForest, eCustom, enames_span, eNode, eforest_trait, eAttr, eforest_key, hc1, hc3, hc5, hc7, hc9, hc12]; done)
          · rw [if_neg (show ¬ (!(bif (decide (216 ≤ a0)) then (decide (a0 ≤ 246)) else false)) = true by first | (rw [hc10]; exact Bool.false_ne_true) | simpa using hc10 | (simp at hc10 ⊢; omega))] at h
            try simp only [go_sem, hc10]
            cases h
            first | rfl | (simp only [go_sem]; done) | (simp only [go_sem]; rfl) | (simp [eName, eRegistry, eDefinition, eForest, eCustom, enames_span, eNode, eforest_trait, eAttr, eforest_key, hc1, hc3, hc5, hc7, hc10]; done)
        · rw [if_neg (show ¬ (!(bif (decide (192 ≤ a0)) then (decide (a0 ≤ 214)) else false)) = true by first | (rw [hc8]; exact Bool.false_ne_true) | simpa using hc8 | (simp at hc8 ⊢; omega))] at h
          try simp only [go_sem, hc8]
          cases h
          first | rfl | (simp only [go_sem]; done) | (simp only [go_sem]; rfl) | (simp [eName, eRegistry, eDefinition, eForest, eCustom, enames_span, eNode, eforest_trait, eAttr, eforest_key, hc1, hc3, hc5, hc8]; done)
      · rw [if_neg (show ¬ (!(bif (decide (97 ≤ a0)) then (decide (a0 ≤ 122)) else false)) = true by first | (rw [hc6]; exact Bool.false_ne_true) | simpa using hc6 | (simp at hc6 ⊢; omega))] at h
        try simp only [go_sem, hc6]
        cases h
        first | rfl | (simp only [go_sem]; done) | (simp only [go_sem]; rfl) | (simp [eName, eRegistry, eDefinition, eForest, eCustom, enames_span, eNode, eforest_trait, eAttr, eforest_key, hc1, hc3, hc6]; done)
    · rw [if_neg (show ¬ (!(bif (decide (65 ≤ a0)) then (decide (a0 ≤ 90)) else false)) = true by first | (rw [hc4]; exact Bool.false_ne_true) | simpa using hc4 | (simp at hc4 ⊢; omega))] at h
      try simp only [go_sem, hc4]
      cases h
      first | rfl | (simp only [go_sem]; done) | (simp only [go_sem]; rfl) | (simp [eName, eRegistry, eDefinition, eForest, eCustom, enames_span, eNode, eforest_trait, eAttr, eforest_key, hc1, hc4]; done)
  · rw [if_neg (show ¬ (!(bif (a0 == 58) then true else (a0 == 95))) = true by first | (rw [hc2]; exact Bool.false_ne_true) | simpa using hc2 | (simp at hc2 ⊢; omega))] at h
    try simp only [go_sem, hc2]
    cases h
    first | rfl | (simp only [go_sem]; done) | (simp only [go_sem]; rfl) | (simp [eName, eRegistry, eDefinition, eForest, eCustom, enames_span, eNode, eforest_trait, eAttr, eforest_key, hc2]; done)
noncomputable def P15 (a0 : Int) : Option (Bool) :=
  (dec D.bool (pc prog 13 [.int .i32 a0])).bind fun r1 =>
  if (!r1) = true then
    (dec D.bool (pc prog 52 [.int .i32 a0, .list false (([(⟨45, 45⟩ : names_span), (⟨46, 46⟩ : names_span), (⟨48, 57⟩ : names_span), (⟨183, 183⟩ : names_span), (⟨768, 879⟩ : names_span), (⟨8255, 8256⟩ : names_span)]).map enames_span)])).bind fun r5 =>
    some r5
  else
    some true
theorem ok15 (a0 : Int) (r : Bool) (h : P15 a0 = some r) : pc prog 15 [.int .i32 a0] = some (D.bool r) := by
  unfold P15 at h
  refine pc_of (fn := c15) rfl rfl ?_
  delta c15
  try simp only [go_sem]
  obtain ⟨r1, hr2, h⟩ := Option.bind_eq_some_iff.1 h
  replace hr2 := dec_some hr2
  first | refine WVal_pc hr2 ?_ | (simp only [eT2_eq, eT3_eq, eT4_eq, eT5_eq] at hr2; refine WVal_pc hr2 ?_)
  try simp only [go_sem]
  refine WGuard_pure (v := .d (.int .i32 a0)) (fun hb7 => by skip; simp only [go_sem, hb7]) ?_
  try simp only [go_sem]
  first | refine WGuard_splitN (fun hc3 => ?_) (fun hc4 => ?_) | refine WGuard_split (fun hc3 => ?_) (fun hc4 => ?_)
  · rw [if_pos (show (!r1) = true by first | exact hc3 | (rw [hc3]; rfl) | simpa using hc3)] at h
    try simp only [go_sem, hc3]
    obtain ⟨r5, hr6, h⟩ := Option.bind_eq_some_iff.1 h
    replace hr6 := dec_some hr6
    first | refine WVal_pc hr6 ?_ | (simp only [eT2_eq, eT3_eq, eT4_eq, eT5_eq] at hr6; refine WVal_pc hr6 ?_)
    try simp only [go_sem]
    cases h
    first | rfl | (simp only [go_sem]; done) | (simp only [go_sem]; rfl) | (simp [eName, eRegistry, eDefinition, eForest, eCustom, enames_span, eNode, eforest_trait, eAttr, eforest_key, hc3]; done)
  · rw [if_neg (show ¬ (!r1) = true by first | (rw [hc4]; exact Bool.false_ne_true) | simpa using hc4 | (simp at hc4 ⊢; omega))] at h
    try simp only [go_sem, hc4]
    cases h
    first | rfl | (simp only [go_sem]; done) | (simp only [go_sem]; rfl) | (simp [eName, eRegistry, eDefinition, eForest, eCustom, enames_span, eNode, eforest_trait, eAttr, eforest_key, hc4]; done)
noncomputable def P16 (a0 : Int) : Option (Bool) :=
  (dec D.bool (pc prog 14 [.int .i32 a0])).bind fun r1 =>
  if (!(bif (bif r1 then true else (a0 == 45)) then true else (a0 == 46))) = true then
    if (!(bif (bif (decide (48 ≤ a0)) then (decide (a0 ≤ 57)) else false) then true else (a0 == 183))) = true then
      if (!(bif (decide (768 ≤ a0)) then (decide (a0 ≤ 879)) else false)) = true then
        some (bif (decide (8255 ≤ a0)) then (decide (a0 ≤ 8256)) else false)
      else
        some true
    else
      some true
  else
    some true
theorem ok16 (a0 : Int) (r : Bool) (h : P16 a0 = some r) : pc prog 16 [.int .i32 a0] = some (D.bool r) := by
  unfold P16 at h
  refine pc_of (fn := c16) rfl rfl ?_
  delta c16
  try simp only [go_sem]
  obtain ⟨r1, hr2, h⟩ := Option.bind_eq_some_iff.1 h
  replace hr2 := dec_some hr2
  first | refine WVal_pc hr2 ?_ | (simp only [eT2_eq, eT3_eq, eT4_eq, eT5_eq] at hr2; refine WVal_pc hr2 ?_)
  try simp only [go_sem]
  refine WGuard_pure (v := .d (.int .i32 a0)) (fun hb41 => by skip; simp only [go_sem, hb41]) ?_
  try simp only [go_sem]
  refine WGuard_pure (v := .d (.bool (a0 == 45))) (fun hb40 => by skip; simp only [go_sem, hb40]) ?_
  try simp only [go_sem]
  refine WGuard_pure (v := .d (.int .i32 a0)) (fun hb39 => by skip; simp only [go_sem, hb39]) ?_
  try simp only [go_sem]
  refine WGuard_pure (v := .d (.bool (a0 == 46))) (fun hb38 => by skip; simp only [go_sem, hb38]) ?_
  try simp only [go_sem]
  refine WGuard_pure (v := .d (.int .i32 a0)) (fun hb37 => by skip; simp only [go_sem, hb37]) ?_
  try simp only [go_sem]
  refine WGuard_pure (v := .d (.bool (decide (48 ≤ a0)))) (fun hb36 => by skip; simp only [go_sem, hb36]) ?_
  try simp only [go_sem]
  refine WGuard_pure (v := .d (.bool (decide (48 ≤ a0)))) (fun hb35 => by skip; simp only [go_sem, hb35]) ?_
  try simp only [go_sem]
  refine WGuard_pure (v := .d (.int .i32 a0)) (fun hb32 => by ((obtain ⟨hb33, hb34⟩ := bif_true hb32)); simp only [go_sem, hb34, hb33]) ?_
  try simp only [go_sem]
  refine WGuard_pure (v := .d (.bool (decide (a0 ≤ 57)))) (fun hb29 => by ((obtain ⟨hb30, hb31⟩ := bif_true hb29)); simp only [go_sem, hb31, hb30]) ?_
  try simp only [go_sem]
  first | refine WGuard_splitN (fun hc3 => ?_) (fun hc4 => ?_) | refine WGuard_split (fun hc3 => ?_) (fun hc4 => ?_)
  · rw [if_pos (show (!(bif (bif r1 then true else (a0 == 45)) then true else (a0 == 46))) = true by first | exact hc3 | (rw [hc3]; rfl) | simpa using hc3)] at h
    try simp only [go_sem, hc3]
    refine WGuard_pure (v := .d (.int .i32 a0)) (fun hb28 => by skip; simp only [go_sem, hc3, hb28]) ?_
    try simp only [go_sem]
    refine WGuard_pure (v := .d (.bool (a0 == 183))) (fun hb27 => by skip; simp only [go_sem, hc3, hb27]) ?_
    try simp only [go_sem]
    refine WGuard_pure (v := .d (.int .i32 a0)) (fun hb26 => by skip; simp only [go_sem, hc3, hb26]) ?_
    try simp only [go_sem]
    refine WGuard_pure (v := .d (.bool (decide (768 ≤ a0)))) (fun hb25 => by skip; simp only [go_sem, hc3, hb25]) ?_
    try simp only [go_sem]
    refine WGuard_pure (v := .d (.bool (decide (768 ≤ a0)))) (fun hb24 => by skip; simp only [go_sem, hc3, hb24]) ?_
    try simp only [go_sem]
    refine WGuard_pure (v := .d (.int .i32 a0)) (fun hb21 => by ((obtain ⟨hb22, hb23⟩ := bif_true hb21)); simp only [go_sem, hc3, hb23, hb22]) ?_
    try simp only [go_sem]
    refine WGuard_pure (v := .d (.bool (decide (a0 ≤ 879)))) (fun hb18 => by ((obtain ⟨hb19, hb20⟩ := bif_true hb18)); simp only [go_sem, hc3, hb20, hb19]) ?_
    try simp only [go_sem]
    first | refine WGuard_splitN (fun hc5 => ?_) (fun hc6 => ?_) | refine WGuard_split (fun hc5 => ?_) (fun hc6 => ?_)
    · rw [if_pos (show (!(bif (bif (decide (48 ≤ a0)) then (decide (a0 ≤ 57)) else false) then true else (a0 == 183))) = true by first | exact hc5 | (rw [hc5]; rfl) | simpa using hc5)] at h
      try simp only [go_sem, hc5]
      refine WGuard_pure (v := .d (.int .i32 a0)) (fun hb17 => by skip; simp only [go_sem, hc3, hc5, hb17]) ?_
      try simp only [go_sem]
      refine WGuard_pure (v := .d (.bool (decide (8255 ≤ a0)))) (fun hb16 => by skip; simp only [go_sem, hc3, hc5, hb16]) ?_
      try simp only [go_sem]
      refine WGuard_pure (v := .d (.bool (decide (8255 ≤ a0)))) (fun hb15 => by skip; simp only [go_sem, hc3, hc5, hb15]) ?_
      try simp only [go_sem]
      refine WGuard_pure (v := .d (.int .i32 a0)) (fun hb12 => by ((obtain ⟨hb13, hb14⟩ := bif_true hb12)); simp only [go_sem, hc3, hc5, hb14, hb13]) ?_
      try simp only [go_sem]
      refine WGuard_pure (v := .d (.bool (decide (a0 ≤ 8256)))) (fun hb9 => by ((obtain ⟨hb10, hb11⟩ := bif_true hb9)); simp only [go_sem, hc3, hc5, hb11, hb10]) ?_
      try simp only [go_sem]
      first | refine WGuard_splitN (fun hc7 => ?_) (fun hc8 => ?_) | refine WGuard_split (fun hc7 => ?_) (fun hc8 => ?_)
      · rw [if_pos (show (!(bif (decide (768 ≤ a0)) then (decide (a0 ≤ 879)) else false)) = true by first | exact hc7 | (rw [hc7]; rfl) | simpa using hc7)] at h
        try simp only [go_sem, hc7]
        cases h
        first | rfl | (simp only [go_sem]; done) | (simp only [go_sem]; rfl) | (simp [eName, eRegistry, eDefinition, eForest, eCustom, enames_span, eNode, eforest_trait, eAttr, eforest_key, hc3, hc5, hc7]; done)
      · rw [if_neg (show ¬ (!(bif (decide (768 ≤ a0)) then (decide (a0 ≤ 879)) else false)) = true by first | (rw [hc8]; exact Bool.false_ne_true) | simpa using hc8 | (simp at hc8 ⊢; omega))] at h
        try simp only [go_sem, hc8]
        cases h
        first | rfl | (simp only [go_sem]; done) | (simp only [go_sem]; rfl) | (simp [eName, eRegistry, eDefinition, eForest, eCustom, enames_span, eNode, eforest_trait, eAttr, eforest_key, hc3, hc5, hc8]; done)
    · rw [if_neg (show ¬ (!(bif (bif (decide (48 ≤ a0)) then (decide (a0 ≤ 57)) else false) then true else (a0 == 183))) = true by first | (rw [hc6]; exact Bool.false_ne_true) | simpa using hc6 | (simp at hc6 ⊢; omega))] at h
      try simp only [go_sem, hc6]
      cases h
      first | rfl | (simp only [go_sem]; done) | (simp only [go_sem]; rfl) | (simp [eName, eRegistry, eDefinition, eForest, eCustom, enames_span, eNode, eforest_trait, eAttr, eforest_key, hc3, hc6]; done)
  · rw [if_neg (show ¬ (!(bif (bif r1 then true else (a0 == 45)) then true else (a0 == 46))) = true by first | (rw [hc4]; exact Bool.false_ne_true) | simpa using hc4 | (simp at hc4 ⊢; omega))] at h
    try simp only [go_sem, hc4]
    cases h
    first | rfl | (simp only [go_sem]; done) | (simp only [go_sem]; rfl) | (simp [eName, eRegistry, eDefinition, eForest, eCustom, enames_span, eNode, eforest_trait, eAttr, eforest_key, hc4]; done)
def L18_0_S (a0 : List UInt8) (x0 : Nat) : St := ⟨((((Regs.none.set 0 (.d (.str a0))).set 1 (.d (.fn 13))).set 2 (.d (.fn 15))).set 10 (.it 6)), ((Heap.at 7).set 6 (some (.it a0 x0)))⟩
def L18_0_F (a0 : List UInt8) : ((Unit) ⊕ (Unit)) → Ex × St := fun r => match r with
  | (.inl r) => (.exit 0, ⟨(Regs.none.set 0 (.d (.str a0))), (Heap.at 7)⟩)
  | (.inr r) => (.ret, ⟨(Regs.none.set 6 (.d (.bool false))), (Heap.at 7)⟩)
noncomputable def L18_0_step (a0 : List UInt8) (x0 : Nat) : Option ((Nat) ⊕ ((Unit) ⊕ (Unit))) :=
  if (decide (x0 < a0.length)) = true then
    if (((x0 : Nat) : Int) == 0) = true then
      (dec D.bool (pc prog 52 [.int .i32 ((dcr a0 x0).1 : Int), .list false (([(⟨58, 58⟩ : names_span), (⟨95, 95⟩ : names_span), (⟨65, 90⟩ : names_span), (⟨97, 122⟩ : names_span), (⟨192, 214⟩ : names_span), (⟨216, 246⟩ : names_span), (⟨248, 767⟩ : names_span), (⟨880, 893⟩ : names_span)]).map enames_span)])).bind fun r5 =>
      if (!r5) = true then
        (dec (eSl enames_span) (pc prog 53 [])).bind fun r9 =>
        (dec D.bool (pc prog 52 [.int .i32 ((dcr a0 x0).1 : Int), .list r9.n (r9.l.map enames_span)])).bind fun r11 =>
        if r11 = true then
          (dec D.bool (pc prog 13 [.int .i32 ((dcr a0 x0).1 : Int)])).bind fun r15 =>
          if (!r15) = true then
            (dec D.bool (pc prog 52 [.int .i32 ((dcr a0 x0).1 : Int), .list false (([(⟨45, 45⟩ : names_span), (⟨46, 46⟩ : names_span), (⟨48, 57⟩ : names_span), (⟨183, 183⟩ : names_span), (⟨768, 879⟩ : names_span), (⟨8255, 8256⟩ : names_span)]).map enames_span)])).bind fun r19 =>
            if (!r19) = true then
              some (.inr (.inr ()))
            else
              some (.inl (x0 + (dcr a0 x0).2))
          else
            some (.inl (x0 + (dcr a0 x0).2))
        else
          some (.inr (.inr ()))
      else
        (dec D.bool (pc prog 13 [.int .i32 ((dcr a0 x0).1 : Int)])).bind fun r24 =>
        if (!r24) = true then
          (dec D.bool (pc prog 52 [.int .i32 ((dcr a0 x0).1 : Int), .list false (([(⟨45, 45⟩ : names_span), (⟨46, 46⟩ : names_span), (⟨48, 57⟩ : names_span), (⟨183, 183⟩ : names_span), (⟨768, 879⟩ : names_span), (⟨8255, 8256⟩ : names_span)]).map enames_span)])).bind fun r28 =>
          if (!r28) = true then
            some (.inr (.inr ()))
          else
            some (.inl (x0 + (dcr a0 x0).2))
        else
          some (.inl (x0 + (dcr a0 x0).2))
    else
      (dec D.bool (pc prog 13 [.int .i32 ((dcr a0 x0).1 : Int)])).bind fun r34 =>
      if (!r34) = true then
        (dec D.bool (pc prog 52 [.int .i32 ((dcr a0 x0).1 : Int), .list false (([(⟨45, 45⟩ : names_span), (⟨46, 46⟩ : names_span), (⟨48, 57⟩ : names_span), (⟨183, 183⟩ : names_span), (⟨768, 879⟩ : names_span), (⟨8255, 8256⟩ : names_span)]).map enames_span)])).bind fun r38 =>
        if (!r38) = true then
          some (.inr (.inr ()))
        else
          some (.inl (x0 + (dcr a0 x0).2))
      else
        some (.inl (x0 + (dcr a0 x0).2))
  else
    some (.inr (.inl ()))
theorem L18_0_ok (a0 : List UInt8) (x0 : Nat) (o : (Nat) ⊕ ((Unit) ⊕ (Unit))) (h : L18_0_step a0 x0 = some o) : Wp prog c55B0 (L18_0_S a0 x0) (LPost 4 (L18_0_S a0) (L18_0_F a0) o) := by
  unfold L18_0_step at h
  delta c55B0 L18_0_S
  try simp only [go_sem]
  rcases Bool.eq_false_or_eq_true ((decide (x0 < a0.length))) with hc1 | hc2
  · rw [if_pos (show (decide (x0 < a0.length)) = true by first | exact hc1 | (rw [hc1]; rfl) | simpa using hc1)] at h
    try simp only [go_sem, hc1]
    try simp only [go_sem, nextIt_lt (of_decide_eq_true hc1)]
    first | refine WGuard_splitN (fun hc3 => ?_) (fun hc4 => ?_) | refine WGuard_split (fun hc3 => ?_) (fun hc4 => ?_)
    · rw [if_pos (show (((x0 : Nat) : Int) == 0) = true by first | exact hc3 | (rw [hc3]; rfl) | simpa using hc3)] at h
      try simp only [go_sem, nextIt_lt (of_decide_eq_true hc1), hc3]
      refine WVal_inl (fn := c13) rfl rfl ?_
      delta c13
      try simp only [go_sem, nextIt_lt (of_decide_eq_true hc1)]
      obtain ⟨r5, hr6, h⟩ := Option.bind_eq_some_iff.1 h
      replace hr6 := dec_some hr6
      first | refine WVal_pc hr6 ?_ | (simp only [eT2_eq, eT3_eq, eT4_eq, eT5_eq] at hr6; refine WVal_pc hr6 ?_)
      try simp only [go_sem, nextIt_lt (of_decide_eq_true hc1)]
      refine WGuard_pure (v := .d (.int .i32 ((dcr a0 x0).1 : Int))) (fun hb33 => by skip; simp only [go_sem, nextIt_lt (of_decide_eq_true hc1), hc1, hc3, hb33]) ?_
      try simp only [go_sem, nextIt_lt (of_decide_eq_true hc1)]
      first | refine WGuard_splitN (fun hc7 => ?_) (fun hc8 => ?_) | refine WGuard_split (fun hc7 => ?_) (fun hc8 => ?_)
      · rw [if_pos (show (!r5) = true by first | exact hc7 | (rw [hc7]; rfl) | simpa using hc7)] at h
        try simp only [go_sem, nextIt_lt (of_decide_eq_true hc1), hc7]
        obtain ⟨r9, hr10, h⟩ := Option.bind_eq_some_iff.1 h
        replace hr10 := dec_some hr10
        first | refine WVal_pc hr10 ?_ | (simp only [eT2_eq, eT3_eq, eT4_eq, eT5_eq] at hr10; refine WVal_pc hr10 ?_)
        try simp only [go_sem, nextIt_lt (of_decide_eq_true hc1)]
        obtain ⟨r11, hr12, h⟩ := Option.bind_eq_some_iff.1 h
        replace hr12 := dec_some hr12
        first | refine WVal_pc hr12 ?_ | (simp only [eT2_eq, eT3_eq, eT4_eq, eT5_eq] at hr12; refine WVal_pc hr12 ?_)
        try simp only [go_sem, nextIt_lt (of_decide_eq_true hc1)]
        first | refine WGuard_splitN (fun hc13 => ?_) (fun hc14 => ?_) | refine WGuard_split (fun hc13 => ?_) (fun hc14 => ?_)
        · rw [if_pos (show r11 = true by first | exact hc13 | (rw [hc13]; rfl) | simpa using hc13)] at h
          try simp only [go_sem, nextIt_lt (of_decide_eq_true hc1), hc13]
          refine WVal_inl (fn := c15) rfl rfl ?_
          delta c15
          try simp only [go_sem, nextIt_lt (of_decide_eq_true hc1)]
          obtain ⟨r15, hr16, h⟩ := Option.bind_eq_some_iff.1 h
          replace hr16 := dec_some hr16
          first | refine WVal_pc hr16 ?_ | (simp only [eT2_eq, eT3_eq, eT4_eq, eT5_eq] at hr16; refine WVal_pc hr16 ?_)
          try simp only [go_sem, nextIt_lt (of_decide_eq_true hc1)]
          refine WGuard_pure (v := .d (.int .i32 ((dcr a0 x0).1 : Int))) (fun hb23 => by skip; simp only [go_sem, nextIt_lt (of_decide_eq_true hc1), hc1, hc3, hc7, hc13, hb23]) ?_
          try simp only [go_sem, nextIt_lt (of_decide_eq_true hc1)]
          first | refine WGuard_splitN (fun hc17 => ?_) (fun hc18 => ?_) | refine WGuard_split (fun hc17 => ?_) (fun hc18 => ?_)
          · rw [if_pos (show (!r15) = true by first | exact hc17 | (rw [hc17]; rfl) | simpa using hc17)] at h
            try simp only [go_sem, nextIt_lt (of_decide_eq_true hc1), hc17]
            obtain ⟨r19, hr20, h⟩ := Option.bind_eq_some_iff.1 h
            replace hr20 := dec_some hr20
            first | refine WVal_pc hr20 ?_ | (simp only [eT2_eq, eT3_eq, eT4_eq, eT5_eq] at hr20; refine WVal_pc hr20 ?_)
            try simp only [go_sem, nextIt_lt (of_decide_eq_true hc1)]
            first | refine WBr_splitN (fun hc21 => ?_) (fun hc22 => ?_) | refine WBr_split (fun hc21 => ?_) (fun hc22 => ?_)
            · rw [if_pos (show (!r19) = true by first | exact hc21 | (rw [hc21]; rfl) | simpa using hc21)] at h
              try simp only [go_sem, nextIt_lt (of_decide_eq_true hc1)]
              cases h
              exact ⟨rfl, by simp, Up.of (N := 7) (N' := 61) [] rfl rfl (by decide) (.set (.d _) RegsR.none) BlksR.at⟩
            · rw [if_neg (show ¬ (!r19) = true by first | (rw [hc22]; exact Bool.false_ne_true) | simpa using hc22 | (simp at hc22 ⊢; omega))] at h
              try simp only [go_sem, nextIt_lt (of_decide_eq_true hc1)]
              cases h
              exact ⟨rfl, Up.of (N := 7) (N' := 60) [] rfl rfl (by decide) (.set (.it'' rfl) (.set (.d _) (.set (.d _) (.set (.d _) RegsR.none)))) (.set BlkR.it BlksR.at)⟩
          · rw [if_neg (show ¬ (!r15) = true by first | (rw [hc18]; exact Bool.false_ne_true) | simpa using hc18 | (simp at hc18 ⊢; omega))] at h
            try simp only [go_sem, nextIt_lt (of_decide_eq_true hc1), hc18]
            cases h
            exact ⟨rfl, Up.of (N := 7) (N' := 60) [] rfl rfl (by decide) (.set (.it'' rfl) (.set (.d _) (.set (.d _) (.set (.d _) RegsR.none)))) (.set BlkR.it BlksR.at)⟩
        · rw [if_neg (show ¬ r11 = true by first | (rw [hc14]; exact Bool.false_ne_true) | simpa using hc14 | (simp at hc14 ⊢; omega))] at h
          try simp only [go_sem, nextIt_lt (of_decide_eq_true hc1), hc14]
          cases h
          exact ⟨rfl, by simp, Up.of (N := 7) (N' := 46) [] rfl rfl (by decide) (.set (.d _) RegsR.none) BlksR.at⟩
      · rw [if_neg (show ¬ (!r5) = true by first | (rw [hc8]; exact Bool.false_ne_true) | simpa using hc8 | (simp at hc8 ⊢; omega))] at h
        try simp only [go_sem, nextIt_lt (of_decide_eq_true hc1), hc8]
        refine WVal_inl (fn := c15) rfl rfl ?_
        delta c15
        try simp only [go_sem, nextIt_lt (of_decide_eq_true hc1)]
        obtain ⟨r24, hr25, h⟩ := Option.bind_eq_some_iff.1 h
        replace hr25 := dec_some hr25
        first | refine WVal_pc hr25 ?_ | (simp only [eT2_eq, eT3_eq, eT4_eq, eT5_eq] at hr25; refine WVal_pc hr25 ?_)
        try simp only [go_sem, nextIt_lt (of_decide_eq_true hc1)]
        refine WGuard_pure (v := .d (.int .i32 ((dcr a0 x0).1 : Int))) (fun hb32 => by skip; simp only [go_sem, nextIt_lt (of_decide_eq_true hc1), hc1, hc3, hc8, hb32]) ?_
        try simp only [go_sem, nextIt_lt (of_decide_eq_true hc1)]
        first | refine WGuard_splitN (fun hc26 => ?_) (fun hc27 => ?_) | refine WGuard_split (fun hc26 => ?_) (fun hc27 => ?_)
        · rw [if_pos (show (!r24) = true by first | exact hc26 | (rw [hc26]; rfl) | simpa using hc26)] at h
          try simp only [go_sem, nextIt_lt (of_decide_eq_true hc1), hc26]
          obtain ⟨r28, hr29, h⟩ := Option.bind_eq_some_iff.1 h
          replace hr29 := dec_some hr29
          first | refine WVal_pc hr29 ?_ | (simp only [eT2_eq, eT3_eq, eT4_eq, eT5_eq] at hr29; refine WVal_pc hr29 ?_)
          try simp only [go_sem, nextIt_lt (of_decide_eq_true hc1)]
          first | refine WBr_splitN (fun hc30 => ?_) (fun hc31 => ?_) | refine WBr_split (fun hc30 => ?_) (fun hc31 => ?_)
          · rw [if_pos (show (!r28) = true by first | exact hc30 | (rw [hc30]; rfl) | simpa using hc30)] at h
            try simp only [go_sem, nextIt_lt (of_decide_eq_true hc1)]
            cases h
            exact ⟨rfl, by simp, Up.of (N := 7) (N' := 61) [] rfl rfl (by decide) (.set (.d _) RegsR.none) BlksR.at⟩
          · rw [if_neg (show ¬ (!r28) = true by first | (rw [hc31]; exact Bool.false_ne_true) | simpa using hc31 | (simp at hc31 ⊢; omega))] at h
            try simp only [go_sem, nextIt_lt (of_decide_eq_true hc1)]
            cases h
            exact ⟨rfl, Up.of (N := 7) (N' := 60) [] rfl rfl (by decide) (.set (.it'' rfl) (.set (.d _) (.set (.d _) (.set (.d _) RegsR.none)))) (.set BlkR.it BlksR.at)⟩
        · rw [if_neg (show ¬ (!r24) = true by first | (rw [hc27]; exact Bool.false_ne_true) | simpa using hc27 | (simp at hc27 ⊢; omega))] at h
          try simp only [go_sem, nextIt_lt (of_decide_eq_true hc1), hc27]
          cases h
          exact ⟨rfl, Up.of (N := 7) (N' := 60) [] rfl rfl (by decide) (.set (.it'' rfl) (.set (.d _) (.set (.d _) (.set (.d _) RegsR.none)))) (.set BlkR.it BlksR.at)⟩
    · rw [if_neg (show ¬ (((x0 : Nat) : Int) == 0) = true by first | (rw [hc4]; exact Bool.false_ne_true) | simpa using hc4 | (simp at hc4 ⊢; omega))] at h
      try simp only [go_sem, nextIt_lt (of_decide_eq_true hc1), hc4]
      refine WVal_inl (fn := c15) rfl rfl ?_
      delta c15
      try simp only [go_sem, nextIt_lt (of_decide_eq_true hc1)]
      obtain ⟨r34, hr35, h⟩ := Option.bind_eq_some_iff.1 h
      replace hr35 := dec_some hr35
      first | refine WVal_pc hr35 ?_ | (simp only [eT2_eq, eT3_eq, eT4_eq, eT5_eq] at hr35; refine WVal_pc hr35 ?_)
      try simp only [go_sem, nextIt_lt (of_decide_eq_true hc1)]
      refine WGuard_pure (v := .d (.int .i32 ((dcr a0 x0).1 : Int))) (fun hb42 => by skip; simp only [go_sem, nextIt_lt (of_decide_eq_true hc1), hc1, hc4, hb42]) ?_
      try simp only [go_sem, nextIt_lt (of_decide_eq_true hc1)]
      first | refine WGuard_splitN (fun hc36 => ?_) (fun hc37 => ?_) | refine WGuard_split (fun hc36 => ?_) (fun hc37 => ?_)
      · rw [if_pos (show (!r34) = true by first | exact hc36 | (rw [hc36]; rfl) | simpa using hc36)] at h
        try simp only [go_sem, nextIt_lt (of_decide_eq_true hc1), hc36]
        obtain ⟨r38, hr39, h⟩ := Option.bind_eq_some_iff.1 h
        replace hr39 := dec_some hr39
        first | refine WVal_pc hr39 ?_ | (simp only [eT2_eq, eT3_eq, eT4_eq, eT5_eq] at hr39; refine WVal_pc hr39 ?_)
        try simp only [go_sem, nextIt_lt (of_decide_eq_true hc1)]
        first | refine WBr_splitN (fun hc40 => ?_) (fun hc41 => ?_) | refine WBr_split (fun hc40 => ?_) (fun hc41 => ?_)
        · rw [if_pos (show (!r38) = true by first | exact hc40 | (rw [hc40]; rfl) | simpa using hc40)] at h
          try simp only [go_sem, nextIt_lt (of_decide_eq_true hc1)]
          cases h
          exact ⟨rfl, by simp, Up.of (N := 7) (N' := 43) [] rfl rfl (by decide) (.set (.d _) RegsR.none) BlksR.at⟩
        · rw [if_neg (show ¬ (!r38) = true by first | (rw [hc41]; exact Bool.false_ne_true) | simpa using hc41 | (simp at hc41 ⊢; omega))] at h
          try simp only [go_sem, nextIt_lt (of_decide_eq_true hc1)]
          cases h
          exact ⟨rfl, Up.of (N := 7) (N' := 42) [] rfl rfl (by decide) (.set (.it'' rfl) (.set (.d _) (.set (.d _) (.set (.d _) RegsR.none)))) (.set BlkR.it BlksR.at)⟩
      · rw [if_neg (show ¬ (!r34) = true by first | (rw [hc37]; exact Bool.false_ne_true) | simpa using hc37 | (simp at hc37 ⊢; omega))] at h
        try simp only [go_sem, nextIt_lt (of_decide_eq_true hc1), hc37]
        cases h
        exact ⟨rfl, Up.of (N := 7) (N' := 42) [] rfl rfl (by decide) (.set (.it'' rfl) (.set (.d _) (.set (.d _) (.set (.d _) RegsR.none)))) (.set BlkR.it BlksR.at)⟩
  · rw [if_neg (show ¬ (decide (x0 < a0.length)) = true by first | (rw [hc2]; exact Bool.false_ne_true) | simpa using hc2 | (simp at hc2 ⊢; omega))] at h
    try simp only [go_sem, hc2]
    try simp only [go_sem, nextIt_ge (of_decide_eq_false hc2)]
    cases h
    exact ⟨rfl, by simp, Up.of (N := 7) (N' := 9) [] rfl rfl (by decide) (.set (.d _) RegsR.none) BlksR.at⟩
noncomputable def P18 (a0 : List UInt8) : Option (Bool) :=
  (loopV (L18_0_step a0) 0).bind fun r43 =>
  match r43 with
  | (.inl q45) =>
    if (!(a0 == [])) = true then
      (dec D.bool (pc prog 88 [.str a0])).bind fun r48 =>
      some r48
    else
      some false
  | (.inr q51) =>
    some false
theorem ok18 (a0 : List UInt8) (r : Bool) (h : P18 a0 = some r) : pc prog 18 [.str a0] = some (D.bool r) := by
  unfold P18 at h
  refine pc_of (fn := c18) rfl rfl ?_
  delta c18
  try simp only [go_sem]
  refine WVal_inl (fn := c55) rfl rfl ?_
  delta c55
  try simp only [go_sem]
  obtain ⟨r43, hl44, h⟩ := Option.bind_eq_some_iff.1 h
  refine Wp.loopR locs (n := 4) (a := c55B0) rfl (L18_0_S a0) (L18_0_F a0) (L18_0_ok a0) hl44 ?_ (by (repeat (first | refine Clo.block ?_ | refine Clo.seq locs rfl ?_)); refine Clo.inl locs (n' := 0) rfl rfl rfl ?_ ?_ (show 1 + 3 ≤ _ from by decide) (by decide) ?_; ((repeat (first | exact SelfR.no | exact SelfR.none | refine SelfR.set ?_ ?_ | refine SelfR.args ?_ | exact SelfL.nil | refine SelfL.cons ?_ ?_ | exact Self.d | exact Self.undef | exact Self.rp | exact Self.ptr (by decide) | exact Self.sl (by decide) | exact Self.mb (by decide) | exact Self.map (by decide) | exact Self.yld (by decide) | exact Self.it (by decide) | refine Self.clo ?_ ?_ | refine Self.ofCells ?_ | refine Self.agg ?_ | refine Self.tuple ?_ | refine Self.bif ?_ ?_)); (repeat (first | exact SelfR.no | exact SelfR.none | refine SelfR.set ?_ ?_ | refine SelfR.args ?_ | exact SelfL.nil | refine SelfL.cons ?_ ?_ | exact Self.d | exact Self.undef | exact Self.rp | exact Self.ptr (by decide) | exact Self.sl (by decide) | exact Self.mb (by decide) | exact Self.map (by decide) | exact Self.yld (by decide) | exact Self.it (by decide) | refine Self.clo ?_ ?_ | refine Self.ofCells ?_ | refine Self.agg ?_ | refine Self.tuple ?_ | refine Self.bif ?_ ?_))); (repeat (first | refine Clo.block ?_ | refine Clo.seq locs rfl ?_)); (first | exact Clo.ret | exact Clo.lpost | exact Clo.cpost)) ?_
  · show Up 4 (L18_0_S a0 0) _
    delta L18_0_S
    exact Up.of (N := 7) (N' := 7) [] rfl rfl (by decide) (.set (.it'' rfl) (.set (.d _) (.set (.d _) (.set (.d _) RegsR.none)))) (.set BlkR.it BlksR.at)
  · rcases r43 with (q45 | q51)
    · dsimp only at h
      dsimp only [L18_0_F]
      try simp only [go_sem]
      refine WGuard_pure (v := .d (.str a0)) (fun hb50 => by skip; simp only [go_sem, hb50]) ?_
      try simp only [go_sem]
      first | refine WGuard_splitN (fun hc46 => ?_) (fun hc47 => ?_) | refine WGuard_split (fun hc46 => ?_) (fun hc47 => ?_)
      · rw [if_pos (show (!(a0 == [])) = true by first | exact hc46 | (rw [hc46]; rfl) | simpa using hc46)] at h
        try simp only [go_sem, hc46]
        obtain ⟨r48, hr49, h⟩ := Option.bind_eq_some_iff.1 h
        replace hr49 := dec_some hr49
        first | refine WVal_pc hr49 ?_ | (simp only [eT2_eq, eT3_eq, eT4_eq, eT5_eq] at hr49; refine WVal_pc hr49 ?_)
        try simp only [go_sem]
        cases h
        first | rfl | (simp only [go_sem]; done) | (simp only [go_sem]; rfl) | (simp [eName, eRegistry, eDefinition, eForest, eCustom, enames_span, eNode, eforest_trait, eAttr, eforest_key, hc46]; done)
      · rw [if_neg (show ¬ (!(a0 == [])) = true by first | (rw [hc47]; exact Bool.false_ne_true) | simpa using hc47 | (simp at hc47 ⊢; omega))] at h
        try simp only [go_sem, hc47]
        cases h
        first | rfl | (simp only [go_sem]; done) | (simp only [go_sem]; rfl) | (simp [eName, eRegistry, eDefinition, eForest, eCustom, enames_span, eNode, eforest_trait, eAttr, eforest_key, hc47]; done)
    · dsimp only at h
      dsimp only [L18_0_F]
      try simp only [go_sem]
      cases h
      first | rfl | (simp only [go_sem]; done) | (simp only [go_sem]; rfl) | (simp [eName, eRegistry, eDefinition, eForest, eCustom, enames_span, eNode, eforest_trait, eAttr, eforest_key]; done)
noncomputable def P19 (a0 : List UInt8) : Option (Bool) :=
  (dec D.bool (pc prog 18 [.str a0])).bind fun r1 =>
  if r1 = true then
    (dec D.bool (pc prog 56 [.str a0, .str ([58])])).bind fun r5 =>
    some (!r5)
  else
    some false
theorem ok19 (a0 : List UInt8) (r : Bool) (h : P19 a0 = some r) : pc prog 19 [.str a0] = some (D.bool r) := by
  unfold P19 at h
  refine pc_of (fn := c19) rfl rfl ?_
  delta c19
  try simp only [go_sem]
  obtain ⟨r1, hr2, h⟩ := Option.bind_eq_some_iff.1 h
  replace hr2 := dec_some hr2
  first | refine WVal_pc hr2 ?_ | (simp only [eT2_eq, eT3_eq, eT4_eq, eT5_eq] at hr2; refine WVal_pc hr2 ?_)
  try simp only [go_sem]
  refine WGuard_pure (v := .d (.str a0)) (fun hb7 => by skip; simp only [go_sem, hb7]) ?_
  try simp only [go_sem]
  first | refine WGuard_splitN (fun hc3 => ?_) (fun hc4 => ?_) | refine WGuard_split (fun hc3 => ?_) (fun hc4 => ?_)
  · rw [if_pos (show r1 = true by first | exact hc3 | (rw [hc3]; rfl) | simpa using hc3)] at h
    try simp only [go_sem, hc3]
    obtain ⟨r5, hr6, h⟩ := Option.bind_eq_some_iff.1 h
    replace hr6 := dec_some hr6
    first | refine WVal_pc hr6 ?_ | (simp only [eT2_eq, eT3_eq, eT4_eq, eT5_eq] at hr6; refine WVal_pc hr6 ?_)
    try simp only [go_sem]
    cases h
    first | rfl | (simp only [go_sem]; done) | (simp only [go_sem]; rfl) | (simp [eName, eRegistry, eDefinition, eForest, eCustom, enames_span, eNode, eforest_trait, eAttr, eforest_key, hc3]; done)
  · rw [if_neg (show ¬ r1 = true by first | (rw [hc4]; exact Bool.false_ne_true) | simpa using hc4 | (simp at hc4 ⊢; omega))] at h
    try simp only [go_sem, hc4]
    cases h
    first | rfl | (simp only [go_sem]; done) | (simp only [go_sem]; rfl) | (simp [eName, eRegistry, eDefinition, eForest, eCustom, enames_span, eNode, eforest_trait, eAttr, eforest_key, hc4]; done)
noncomputable def P20 (a0 : List UInt8) : Option (List UInt8 × List UInt8) :=
  (dec (eT3 D.str D.str D.bool) (pc prog 57 [.str a0, .str ([58])])).bind fun r1 =>
  if r1.2.2 = true then
    (dec D.bool (pc prog 21 [.str a0])).bind fun r5 =>
    if (!r5) = true then
      some ([], a0)
    else
      some (r1.1, r1.2.1)
  else
    some ([], a0)
theorem ok20 (a0 : List UInt8) (r : List UInt8 × List UInt8) (h : P20 a0 = some r) : pc prog 20 [.str a0] = some ((eT2 D.str D.str) r) := by
  unfold P20 at h
  refine pc_of (fn := c20) rfl rfl ?_
  delta c20
  try simp only [go_sem]
  obtain ⟨r1, hr2, h⟩ := Option.bind_eq_some_iff.1 h
  replace hr2 := dec_some hr2
  first | refine WVal_pc hr2 ?_ | (simp only [eT2_eq, eT3_eq, eT4_eq, eT5_eq] at hr2; refine WVal_pc hr2 ?_)
  try simp only [go_sem]
  refine WGuard_pure (v := .d (.str a0)) (fun hb9 => by skip; simp only [go_sem, hb9]) ?_
  try simp only [go_sem]
  first | refine WGuard_splitN (fun hc3 => ?_) (fun hc4 => ?_) | refine WGuard_split (fun hc3 => ?_) (fun hc4 => ?_)
  · rw [if_pos (show r1.2.2 = true by first | exact hc3 | (rw [hc3]; rfl) | simpa using hc3)] at h
    try simp only [go_sem, hc3]
    obtain ⟨r5, hr6, h⟩ := Option.bind_eq_some_iff.1 h
    replace hr6 := dec_some hr6
    first | refine WVal_pc hr6 ?_ | (simp only [eT2_eq, eT3_eq, eT4_eq, eT5_eq] at hr6; refine WVal_pc hr6 ?_)
    try simp only [go_sem]
    first | refine WBr_splitN (fun hc7 => ?_) (fun hc8 => ?_) | refine WBr_split (fun hc7 => ?_) (fun hc8 => ?_)
    · rw [if_pos (show (!r5) = true by first | exact hc7 | (rw [hc7]; rfl) | simpa using hc7)] at h
      try simp only [go_sem]
      cases h
      first | rfl | (simp only [go_sem]; done) | (simp only [go_sem]; rfl) | (simp [eName, eRegistry, eDefinition, eForest, eCustom, enames_span, eNode, eforest_trait, eAttr, eforest_key, hc3, hc7]; done)
    · rw [if_neg (show ¬ (!r5) = true by first | (rw [hc8]; exact Bool.false_ne_true) | simpa using hc8 | (simp at hc8 ⊢; omega))] at h
      try simp only [go_sem]
      cases h
      first | rfl | (simp only [go_sem]; done) | (simp only [go_sem]; rfl) | (simp [eName, eRegistry, eDefinition, eForest, eCustom, enames_span, eNode, eforest_trait, eAttr, eforest_key, hc3, hc8]; done)
  · rw [if_neg (show ¬ r1.2.2 = true by first | (rw [hc4]; exact Bool.false_ne_true) | simpa using hc4 | (simp at hc4 ⊢; omega))] at h
    try simp only [go_sem, hc4]
    cases h
    first | rfl | (simp only [go_sem]; done) | (simp only [go_sem]; rfl) | (simp [eName, eRegistry, eDefinition, eForest, eCustom, enames_span, eNode, eforest_trait, eAttr, eforest_key, hc4]; done)
noncomputable def P21 (a0 : List UInt8) : Option (Bool) :=
  (dec (eT3 D.str D.str D.bool) (pc prog 57 [.str a0, .str ([58])])).bind fun r1 =>
  if (!r1.2.2) = true then
    (dec D.bool (pc prog 19 [.str a0])).bind fun r5 =>
    some r5
  else
    (dec D.bool (pc prog 19 [.str r1.1])).bind fun r7 =>
    if r7 = true then
      (dec D.bool (pc prog 19 [.str r1.2.1])).bind fun r11 =>
      some r11
    else
      some false
theorem ok21 (a0 : List UInt8) (r : Bool) (h : P21 a0 = some r) : pc prog 21 [.str a0] = some (D.bool r) := by
  unfold P21 at h
  refine pc_of (fn := c21) rfl rfl ?_
  delta c21
  try simp only [go_sem]
  obtain ⟨r1, hr2, h⟩ := Option.bind_eq_some_iff.1 h
  replace hr2 := dec_some hr2
  first | refine WVal_pc hr2 ?_ | (simp only [eT2_eq, eT3_eq, eT4_eq, eT5_eq] at hr2; refine WVal_pc hr2 ?_)
  try simp only [go_sem]
  first | refine WBr_splitN (fun hc3 => ?_) (fun hc4 => ?_) | refine WBr_split (fun hc3 => ?_) (fun hc4 => ?_)
  · rw [if_pos (show (!r1.2.2) = true by first | exact hc3 | (rw [hc3]; rfl) | simpa using hc3)] at h
    try simp only [go_sem]
    obtain ⟨r5, hr6, h⟩ := Option.bind_eq_some_iff.1 h
    replace hr6 := dec_some hr6
    first | refine WVal_pc hr6 ?_ | (simp only [eT2_eq, eT3_eq, eT4_eq, eT5_eq] at hr6; refine WVal_pc hr6 ?_)
    try simp only [go_sem]
    cases h
    first | rfl | (simp only [go_sem]; done) | (simp only [go_sem]; rfl) | (simp [eName, eRegistry, eDefinition, eForest, eCustom, enames_span, eNode, eforest_trait, eAttr, eforest_key, hc3]; done)
  · rw [if_neg (show ¬ (!r1.2.2) = true by first | (rw [hc4]; exact Bool.false_ne_true) | simpa using hc4 | (simp at hc4 ⊢; omega))] at h
    try simp only [go_sem]
    obtain ⟨r7, hr8, h⟩ := Option.bind_eq_some_iff.1 h
    replace hr8 := dec_some hr8
    first | refine WVal_pc hr8 ?_ | (simp only [eT2_eq, eT3_eq, eT4_eq, eT5_eq] at hr8; refine WVal_pc hr8 ?_)
    try simp only [go_sem]
    refine WGuard_pure (v := .d (.str r1.2.1)) (fun hb13 => by skip; simp only [go_sem, hc4, hb13]) ?_
    try simp only [go_sem]
    first | refine WGuard_splitN (fun hc9 => ?_) (fun hc10 => ?_) | refine WGuard_split (fun hc9 => ?_) (fun hc10 => ?_)
    · rw [if_pos (show r7 = true by first | exact hc9 | (rw [hc9]; rfl) | simpa using hc9)] at h
      try simp only [go_sem, hc9]
      obtain ⟨r11, hr12, h⟩ := Option.bind_eq_some_iff.1 h
      replace hr12 := dec_some hr12
      first | refine WVal_pc hr12 ?_ | (simp only [eT2_eq, eT3_eq, eT4_eq, eT5_eq] at hr12; refine WVal_pc hr12 ?_)
      try simp only [go_sem]
      cases h
      first | rfl | (simp only [go_sem]; done) | (simp only [go_sem]; rfl) | (simp [eName, eRegistry, eDefinition, eForest, eCustom, enames_span, eNode, eforest_trait, eAttr, eforest_key, hc4, hc9]; done)
    · rw [if_neg (show ¬ r7 = true by first | (rw [hc10]; exact Bool.false_ne_true) | simpa using hc10 | (simp at hc10 ⊢; omega))] at h
      try simp only [go_sem, hc10]
      cases h
      first | rfl | (simp only [go_sem]; done) | (simp only [go_sem]; rfl) | (simp [eName, eRegistry, eDefinition, eForest, eCustom, enames_span, eNode, eforest_trait, eAttr, eforest_key, hc4, hc10]; done)
def L23_0_S (r1 : Sl (Int) × Bool) (x0 : Int) : St := ⟨((Regs.none.set 3 (.d (.list r1.1.n (r1.1.l.map (D.int .i32))))).set 5 (.d (.int .i64 x0))), (Heap.at 23)⟩
def L23_0_F (r1 : Sl (Int) × Bool) : ((Unit) ⊕ (Unit)) → Ex × St := fun r => match r with
  | (.inl r) => (.exit 0, ⟨Regs.none, (Heap.at 23)⟩)
  | (.inr r) => (.ret, ⟨(Regs.none.set 2 (.d (.bool false))), (Heap.at 23)⟩)
noncomputable def L23_0_step (r1 : Sl (Int) × Bool) (x0 : Int) : Option ((Int) ⊕ ((Unit) ⊕ (Unit))) :=
  if (decide (x0 < (r1.1.l.length : Int))) = true then
    (rd r1.1.l x0).bind fun y13 =>
    (dec D.bool (pc prog 16 [.int .i32 y13])).bind fun r15 =>
    if (!r15) = true then
      some (.inr (.inr ()))
    else
      some (.inl (IntKind.wrap .i64 (x0 + 1)))
  else
    some (.inr (.inl ()))
theorem L23_0_ok (r1 : Sl (Int) × Bool) (x0 : Int) (o : (Int) ⊕ ((Unit) ⊕ (Unit))) (h : L23_0_step r1 x0 = some o) : Wp prog c23B0 (L23_0_S r1 x0) (LPost 0 (L23_0_S r1) (L23_0_F r1) o) := by
  unfold L23_0_step at h
  delta c23B0 L23_0_S
  try simp only [go_sem]
  first | refine WBr_splitN (fun hc11 => ?_) (fun hc12 => ?_) | refine WBr_split (fun hc11 => ?_) (fun hc12 => ?_)
  · rw [if_pos (show (decide (x0 < (r1.1.l.length : Int))) = true by first | exact hc11 | (rw [hc11]; rfl) | simpa using hc11)] at h
    try simp only [go_sem]
    obtain ⟨y13, hy14, h⟩ := Option.bind_eq_some_iff.1 h
    try simp only [go_sem, rd_pos hy14, rd_ge hy14, rd_map (D.int .i32) hy14]
    obtain ⟨r15, hr16, h⟩ := Option.bind_eq_some_iff.1 h
    replace hr16 := dec_some hr16
    first | refine WVal_pc hr16 ?_ | (simp only [eT2_eq, eT3_eq, eT4_eq, eT5_eq] at hr16; refine WVal_pc hr16 ?_)
    try simp only [go_sem, rd_pos hy14, rd_ge hy14, rd_map (D.int .i32) hy14]
    first | refine WBr_splitN (fun hc17 => ?_) (fun hc18 => ?_) | refine WBr_split (fun hc17 => ?_) (fun hc18 => ?_)
    · rw [if_pos (show (!r15) = true by first | exact hc17 | (rw [hc17]; rfl) | simpa using hc17)] at h
      try simp only [go_sem, rd_pos hy14, rd_ge hy14, rd_map (D.int .i32) hy14]
      cases h
      exact ⟨rfl, by simp, Up.of (N := 23) (N' := 34) [] rfl rfl (by decide) (.set (.d _) RegsR.none) BlksR.at⟩
    · rw [if_neg (show ¬ (!r15) = true by first | (rw [hc18]; exact Bool.false_ne_true) | simpa using hc18 | (simp at hc18 ⊢; omega))] at h
      try simp only [go_sem, rd_pos hy14, rd_ge hy14, rd_map (D.int .i32) hy14]
      cases h
      exact ⟨rfl, Up.of (N := 23) (N' := 36) [] rfl rfl (by decide) (.set (.d _) (.set (.d _) RegsR.none)) BlksR.at⟩
  · rw [if_neg (show ¬ (decide (x0 < (r1.1.l.length : Int))) = true by first | (rw [hc12]; exact Bool.false_ne_true) | simpa using hc12 | (simp at hc12 ⊢; omega))] at h
    try simp only [go_sem]
    cases h
    exact ⟨rfl, by simp, Up.of (N := 23) (N' := 27) [] rfl rfl (by decide) RegsR.none BlksR.at⟩
noncomputable def P23 (a0 : List UInt8) : Option (Bool) :=
  (dec (eT2 (eSl (D.int .i32)) D.bool) (pc prog 58 [.str a0])).bind fun r1 =>
  if (!(bif (!r1.2) then true else ((r1.1.l.length : Int) == 0))) = true then
    (rd r1.1.l (0)).bind fun y5 =>
    (dec D.bool (pc prog 14 [.int .i32 y5])).bind fun r7 =>
    if (!r7) = true then
      some false
    else
      (loopV (L23_0_step r1) 1).bind fun r19 =>
      match r19 with
      | (.inl q21) =>
        some true
      | (.inr q22) =>
        some false
  else
    some false
theorem ok23 (a0 : List UInt8) (r : Bool) (h : P23 a0 = some r) : pc prog 23 [.str a0] = some (D.bool r) := by
  unfold P23 at h
  refine pc_of (fn := c23) rfl rfl ?_
  delta c23
  try simp only [go_sem]
  obtain ⟨r1, hr2, h⟩ := Option.bind_eq_some_iff.1 h
  replace hr2 := dec_some hr2
  first | refine WVal_pc hr2 ?_ | (simp only [eT2_eq, eT3_eq, eT4_eq, eT5_eq] at hr2; refine WVal_pc hr2 ?_)
  try simp only [go_sem]
  refine WGuard_pure (v := .d (.list r1.1.n (r1.1.l.map (D.int .i32)))) (fun hb26 => by skip; simp only [go_sem, hb26]) ?_
  try simp only [go_sem]
  refine WGuard_pure (v := .d (.int .i64 (r1.1.l.length : Int))) (fun hb25 => by skip; simp only [go_sem, hb25]) ?_
  try simp only [go_sem]
  refine WGuard_pure (v := .d (.bool ((r1.1.l.length : Int) == 0))) (fun hb24 => by skip; simp only [go_sem, hb24]) ?_
  try simp only [go_sem]
  refine WGuard_pure (v := .d (.list r1.1.n (r1.1.l.map (D.int .i32)))) (fun hb23 => by skip; simp only [go_sem, hb23]) ?_
  try simp only [go_sem]
  first | refine WGuard_splitN (fun hc3 => ?_) (fun hc4 => ?_) | refine WGuard_split (fun hc3 => ?_) (fun hc4 => ?_)
  · rw [if_pos (show (!(bif (!r1.2) then true else ((r1.1.l.length : Int) == 0))) = true by first | exact hc3 | (rw [hc3]; rfl) | simpa using hc3)] at h
    try simp only [go_sem, hc3]
    obtain ⟨y5, hy6, h⟩ := Option.bind_eq_some_iff.1 h
    try simp only [go_sem, (show (r1.1.l.map (D.int .i32))[0]? = some ((D.int .i32) y5) from rd_map (D.int .i32) hy6)]
    obtain ⟨r7, hr8, h⟩ := Option.bind_eq_some_iff.1 h
    replace hr8 := dec_some hr8
    first | refine WVal_pc hr8 ?_ | (simp only [eT2_eq, eT3_eq, eT4_eq, eT5_eq] at hr8; refine WVal_pc hr8 ?_)
    try simp only [go_sem, (show (r1.1.l.map (D.int .i32))[0]? = some ((D.int .i32) y5) from rd_map (D.int .i32) hy6)]
    first | refine WBr_splitN (fun hc9 => ?_) (fun hc10 => ?_) | refine WBr_split (fun hc9 => ?_) (fun hc10 => ?_)
    · rw [if_pos (show (!r7) = true by first | exact hc9 | (rw [hc9]; rfl) | simpa using hc9)] at h
      try simp only [go_sem, (show (r1.1.l.map (D.int .i32))[0]? = some ((D.int .i32) y5) from rd_map (D.int .i32) hy6)]
      cases h
      first | rfl | (simp only [go_sem, (show (r1.1.l.map (D.int .i32))[0]? = some ((D.int .i32) y5) from rd_map (D.int .i32) hy6)]; done) | (simp only [go_sem, (show (r1.1.l.map (D.int .i32))[0]? = some ((D.int .i32) y5) from rd_map (D.int .i32) hy6)]; rfl) | (simp [eName, eRegistry, eDefinition, eForest, eCustom, enames_span, eNode, eforest_trait, eAttr, eforest_key, hc3, hc9]; done)
    · rw [if_neg (show ¬ (!r7) = true by first | (rw [hc10]; exact Bool.false_ne_true) | simpa using hc10 | (simp at hc10 ⊢; omega))] at h
      try simp only [go_sem, (show (r1.1.l.map (D.int .i32))[0]? = some ((D.int .i32) y5) from rd_map (D.int .i32) hy6)]
      obtain ⟨r19, hl20, h⟩ := Option.bind_eq_some_iff.1 h
      refine Wp.loopR locs (n := 0) (a := c23B0) rfl (L23_0_S r1) (L23_0_F r1) (L23_0_ok r1) hl20 ?_ (by (repeat (first | refine Clo.block ?_ | refine Clo.seq locs rfl ?_)); (first | exact Clo.ret | exact Clo.lpost | exact Clo.cpost)) ?_
      · show Up 0 (L23_0_S r1 1) _
        delta L23_0_S
        exact Up.of (N := 23) (N' := 23) [] rfl rfl (by decide) (.set (.d _) (.set (.d _) RegsR.none)) BlksR.at
      · rcases r19 with (q21 | q22)
        · dsimp only at h
          dsimp only [L23_0_F]
          try simp only [go_sem, (show (r1.1.l.map (D.int .i32))[0]? = some ((D.int .i32) y5) from rd_map (D.int .i32) hy6)]
          cases h
          first | rfl | (simp only [go_sem, (show (r1.1.l.map (D.int .i32))[0]? = some ((D.int .i32) y5) from rd_map (D.int .i32) hy6)]; done) | (simp only [go_sem, (show (r1.1.l.map (D.int .i32))[0]? = some ((D.int .i32) y5) from rd_map (D.int .i32) hy6)]; rfl) | (simp [eName, eRegistry, eDefinition, eForest, eCustom, enames_span, eNode, eforest_trait, eAttr, eforest_key, hc3, hc10]; done)
        · dsimp only at h
          dsimp only [L23_0_F]
          try simp only [go_sem, (show (r1.1.l.map (D.int .i32))[0]? = some ((D.int .i32) y5) from rd_map (D.int .i32) hy6)]
          cases h
          first | rfl | (simp only [go_sem, (show (r1.1.l.map (D.int .i32))[0]? = some ((D.int .i32) y5) from rd_map (D.int .i32) hy6)]; done) | (simp only [go_sem, (show (r1.1.l.map (D.int .i32))[0]? = some ((D.int .i32) y5) from rd_map (D.int .i32) hy6)]; rfl) | (simp [eName, eRegistry, eDefinition, eForest, eCustom, enames_span, eNode, eforest_trait, eAttr, eforest_key, hc3, hc10]; done)
  · rw [if_neg (show ¬ (!(bif (!r1.2) then true else ((r1.1.l.length : Int) == 0))) = true by first | (rw [hc4]; exact Bool.false_ne_true) | simpa using hc4 | (simp at hc4 ⊢; omega))] at h
    try simp only [go_sem, hc4]
    cases h
    first | rfl | (simp only [go_sem]; done) | (simp only [go_sem]; rfl) | (simp [eName, eRegistry, eDefinition, eForest, eCustom, enames_span, eNode, eforest_trait, eAttr, eforest_key, hc4]; done)
noncomputable def P24 (a0 : List UInt8) : Option (Bool) :=
  (dec D.bool (pc prog 23 [.str a0])).bind fun r1 =>
  if r1 = true then
    (dec (D.int .i64) (pc prog 59 [.str a0])).bind fun r5 =>
    some (decide (r5 < 0))
  else
    some false
theorem ok24 (a0 : List UInt8) (r : Bool) (h : P24 a0 = some r) : pc prog 24 [.str a0] = some (D.bool r) := by
  unfold P24 at h
  refine pc_of (fn := c24) rfl rfl ?_
  delta c24
  try simp only [go_sem]
  obtain ⟨r1, hr2, h⟩ := Option.bind_eq_some_iff.1 h
  replace hr2 := dec_some hr2
  first | refine WVal_pc hr2 ?_ | (simp only [eT2_eq, eT3_eq, eT4_eq, eT5_eq] at hr2; refine WVal_pc hr2 ?_)
  try simp only [go_sem]
  refine WGuard_pure (v := .d (.str a0)) (fun hb7 => by skip; simp only [go_sem, hb7]) ?_
  try simp only [go_sem]
  first | refine WGuard_splitN (fun hc3 => ?_) (fun hc4 => ?_) | refine WGuard_split (fun hc3 => ?_) (fun hc4 => ?_)
  · rw [if_pos (show r1 = true by first | exact hc3 | (rw [hc3]; rfl) | simpa using hc3)] at h
    try simp only [go_sem, hc3]
    obtain ⟨r5, hr6, h⟩ := Option.bind_eq_some_iff.1 h
    replace hr6 := dec_some hr6
    first | refine WVal_pc hr6 ?_ | (simp only [eT2_eq, eT3_eq, eT4_eq, eT5_eq] at hr6; refine WVal_pc hr6 ?_)
    try simp only [go_sem]
    cases h
    first | rfl | (simp only [go_sem]; done) | (simp only [go_sem]; rfl) | (simp [eName, eRegistry, eDefinition, eForest, eCustom, enames_span, eNode, eforest_trait, eAttr, eforest_key, hc3]; done)
  · rw [if_neg (show ¬ r1 = true by first | (rw [hc4]; exact Bool.false_ne_true) | simpa using hc4 | (simp at hc4 ⊢; omega))] at h
    try simp only [go_sem, hc4]
    cases h
    first | rfl | (simp only [go_sem]; done) | (simp only [go_sem]; rfl) | (simp [eName, eRegistry, eDefinition, eForest, eCustom, enames_span, eNode, eforest_trait, eAttr, eforest_key, hc4]; done)
noncomputable def P25 (a0 : List UInt8) : Option (Bool) :=
  (dec (D.int .i64) (pc prog 59 [.str a0])).bind fun r1 =>
  if (decide (r1 < 0)) = true then
    (dec D.bool (pc prog 24 [.str a0])).bind fun r5 =>
    some r5
  else
    (cut a0 (0) r1).bind fun y7 =>
    (dec D.bool (pc prog 24 [.str y7])).bind fun r9 =>
    if r9 = true then
      (cut a0 (IntKind.wrap .i64 (r1 + 1)) (a0.length : Int)).bind fun y13 =>
      (dec D.bool (pc prog 24 [.str y13])).bind fun r15 =>
      some r15
    else
      some false
theorem ok25 (a0 : List UInt8) (r : Bool) (h : P25 a0 = some r) : pc prog 25 [.str a0] = some (D.bool r) := by
  unfold P25 at h
  refine pc_of (fn := c25) rfl rfl ?_
  delta c25
  try simp only [go_sem]
  obtain ⟨r1, hr2, h⟩ := Option.bind_eq_some_iff.1 h
  replace hr2 := dec_some hr2
  first | refine WVal_pc hr2 ?_ | (simp only [eT2_eq, eT3_eq, eT4_eq, eT5_eq] at hr2; refine WVal_pc hr2 ?_)
  try simp only [go_sem]
  first | refine WBr_splitN (fun hc3 => ?_) (fun hc4 => ?_) | refine WBr_split (fun hc3 => ?_) (fun hc4 => ?_)
  · rw [if_pos (show (decide (r1 < 0)) = true by first | exact hc3 | (rw [hc3]; rfl) | simpa using hc3)] at h
    try simp only [go_sem]
    obtain ⟨r5, hr6, h⟩ := Option.bind_eq_some_iff.1 h
    replace hr6 := dec_some hr6
    first | refine WVal_pc hr6 ?_ | (simp only [eT2_eq, eT3_eq, eT4_eq, eT5_eq] at hr6; refine WVal_pc hr6 ?_)
    try simp only [go_sem]
    cases h
    first | rfl | (simp only [go_sem]; done) | (simp only [go_sem]; rfl) | (simp [eName, eRegistry, eDefinition, eForest, eCustom, enames_span, eNode, eforest_trait, eAttr, eforest_key, hc3]; done)
  · rw [if_neg (show ¬ (decide (r1 < 0)) = true by first | (rw [hc4]; exact Bool.false_ne_true) | simpa using hc4 | (simp at hc4 ⊢; omega))] at h
    try simp only [go_sem]
    obtain ⟨y7, hy8, h⟩ := Option.bind_eq_some_iff.1 h
    refine WVal_sliceS (l := a0) (lo := none) (hi := (some r1)) (by simp only [go_sem, optI]; first | done | rfl | (split <;> rfl) | (split <;> split <;> rfl)) hy8 ?_
    try simp only [go_sem]
    obtain ⟨r9, hr10, h⟩ := Option.bind_eq_some_iff.1 h
    replace hr10 := dec_some hr10
    first | refine WVal_pc hr10 ?_ | (simp only [eT2_eq, eT3_eq, eT4_eq, eT5_eq] at hr10; refine WVal_pc hr10 ?_)
    try simp only [go_sem]
    refine WGuard_pure (v := .d (.str a0)) (fun hb19 => by skip; simp only [go_sem, hc4, hb19]) ?_
    try simp only [go_sem]
    refine WGuard_pure (v := .d (.int .i64 r1)) (fun hb18 => by skip; simp only [go_sem, hc4, hb18]) ?_
    try simp only [go_sem]
    refine WGuard_pure (v := .d (.int .i64 (IntKind.wrap .i64 (r1 + 1)))) (fun hb17 => by skip; simp only [go_sem, hc4, hb17]) ?_
    try simp only [go_sem]
    first | refine WGuard_splitN (fun hc11 => ?_) (fun hc12 => ?_) | refine WGuard_split (fun hc11 => ?_) (fun hc12 => ?_)
    · rw [if_pos (show r9 = true by first | exact hc11 | (rw [hc11]; rfl) | simpa using hc11)] at h
      try simp only [go_sem, hc11]
      obtain ⟨y13, hy14, h⟩ := Option.bind_eq_some_iff.1 h
      refine WVal_sliceS (l := a0) (lo := (some (IntKind.wrap .i64 (r1 + 1)))) (hi := none) (by simp only [go_sem, optI]; first | done | rfl | (split <;> rfl) | (split <;> split <;> rfl)) hy14 ?_
      try simp only [go_sem]
      obtain ⟨r15, hr16, h⟩ := Option.bind_eq_some_iff.1 h
      replace hr16 := dec_some hr16
      first | refine WVal_pc hr16 ?_ | (simp only [eT2_eq, eT3_eq, eT4_eq, eT5_eq] at hr16; refine WVal_pc hr16 ?_)
      try simp only [go_sem]
      cases h
      first | rfl | (simp only [go_sem]; done) | (simp only [go_sem]; rfl) | (simp [eName, eRegistry, eDefinition, eForest, eCustom, enames_span, eNode, eforest_trait, eAttr, eforest_key, hc4, hc11]; done)
    · rw [if_neg (show ¬ r9 = true by first | (rw [hc12]; exact Bool.false_ne_true) | simpa using hc12 | (simp at hc12 ⊢; omega))] at h
      try simp only [go_sem, hc12]
      cases h
      first | rfl | (simp only [go_sem]; done) | (simp only [go_sem]; rfl) | (simp [eName, eRegistry, eDefinition, eForest, eCustom, enames_span, eNode, eforest_trait, eAttr, eforest_key, hc4, hc12]; done)
def L26_0_S (a0 : List UInt8) (x0 : Nat) : St := ⟨((((Regs.none.set 0 (.d (.str a0))).set 1 (.d (.fn 60))).set 2 (.clo 61 [] [.ptr 3 0 0])).set 10 (.it 24)), ((((Heap.at 25).set 1 (some (.els 1 [.d (.str ([97, 110, 110, 111, 116, 97, 116, 105, 111, 110, 45, 120, 109, 108])), .d (.str ([99, 111, 108, 111, 114, 45, 112, 114, 111, 102, 105, 108, 101])), .d (.str ([102, 111, 110, 116, 45, 102, 97, 99, 101])), .d (.str ([102, 111, 110, 116, 45, 102, 97, 99, 101, 45, 115, 114, 99])), .d (.str ([102, 111, 110, 116, 45, 102, 97, 99, 101, 45, 117, 114, 105])), .d (.str ([102, 111, 110, 116, 45, 102, 97, 99, 101, 45, 102, 111, 114, 109, 97, 116])), .d (.str ([102, 111, 110, 116, 45, 102, 97, 99, 101, 45, 110, 97, 109, 101])), .d (.str ([109, 105, 115, 115, 105, 110, 103, 45, 103, 108, 121, 112, 104]))] 0))).set 3 (some (.els 1 [.d (.fn 60)] 0))).set 24 (some (.it a0 x0)))⟩
def L26_0_F (a0 : List UInt8) : ((Unit) ⊕ (Unit)) → Ex × St := fun r => match r with
  | (.inl r) => (.exit 0, ⟨(Regs.none.set 0 (.d (.str a0))), (((Heap.at 25).set 1 (some (.els 1 [.d (.str ([97, 110, 110, 111, 116, 97, 116, 105, 111, 110, 45, 120, 109, 108])), .d (.str ([99, 111, 108, 111, 114, 45, 112, 114, 111, 102, 105, 108, 101])), .d (.str ([102, 111, 110, 116, 45, 102, 97, 99, 101])), .d (.str ([102, 111, 110, 116, 45, 102, 97, 99, 101, 45, 115, 114, 99])), .d (.str ([102, 111, 110, 116, 45, 102, 97, 99, 101, 45, 117, 114, 105])), .d (.str ([102, 111, 110, 116, 45, 102, 97, 99, 101, 45, 102, 111, 114, 109, 97, 116])), .d (.str ([102, 111, 110, 116, 45, 102, 97, 99, 101, 45, 110, 97, 109, 101])), .d (.str ([109, 105, 115, 115, 105, 110, 103, 45, 103, 108, 121, 112, 104]))] 0))).set 3 (some (.els 1 [.d (.fn 60)] 0)))⟩)
  | (.inr r) => (.ret, ⟨(Regs.none.set 6 (.d (.bool false))), (((Heap.at 25).set 1 (some (.els 1 [.d (.str ([97, 110, 110, 111, 116, 97, 116, 105, 111, 110, 45, 120, 109, 108])), .d (.str ([99, 111, 108, 111, 114, 45, 112, 114, 111, 102, 105, 108, 101])), .d (.str ([102, 111, 110, 116, 45, 102, 97, 99, 101])), .d (.str ([102, 111, 110, 116, 45, 102, 97, 99, 101, 45, 115, 114, 99])), .d (.str ([102, 111, 110, 116, 45, 102, 97, 99, 101, 45, 117, 114, 105])), .d (.str ([102, 111, 110, 116, 45, 102, 97, 99, 101, 45, 102, 111, 114, 109, 97, 116])), .d (.str ([102, 111, 110, 116, 45, 102, 97, 99, 101, 45, 110, 97, 109, 101])), .d (.str ([109, 105, 115, 115, 105, 110, 103, 45, 103, 108, 121, 112, 104]))] 0))).set 3 (some (.els 1 [.d (.fn 60)] 0)))⟩)
noncomputable def L26_0_step (a0 : List UInt8) (x0 : Nat) : Option ((Nat) ⊕ ((Unit) ⊕ (Unit))) :=
  if (decide (x0 < a0.length)) = true then
    if (((x0 : Nat) : Int) == 0) = true then
      if (bif (decide (97 ≤ ((dcr a0 x0).1 : Int))) then (decide (((dcr a0 x0).1 : Int) ≤ 122)) else false) = true then
        some (.inl (x0 + (dcr a0 x0).2))
      else
        some (.inr (.inr ()))
    else
      if (!(bif (decide (97 ≤ ((dcr a0 x0).1 : Int))) then (decide (((dcr a0 x0).1 : Int) ≤ 122)) else false)) = true then
        (dec D.bool (pc prog 52 [.int .i32 ((dcr a0 x0).1 : Int), .list false (([(⟨45, 45⟩ : names_span), (⟨46, 46⟩ : names_span), (⟨95, 95⟩ : names_span), (⟨48, 57⟩ : names_span), (⟨183, 183⟩ : names_span), (⟨192, 214⟩ : names_span), (⟨216, 246⟩ : names_span), (⟨248, 893⟩ : names_span), (⟨8255, 8256⟩ : names_span)]).map enames_span)])).bind fun r13 =>
        if (!r13) = true then
          (dec (eSl enames_span) (pc prog 53 [])).bind fun r17 =>
          (dec D.bool (pc prog 52 [.int .i32 ((dcr a0 x0).1 : Int), .list r17.n (r17.l.map enames_span)])).bind fun r19 =>
          if (!r19) = true then
            some (.inr (.inr ()))
          else
            some (.inl (x0 + (dcr a0 x0).2))
        else
          some (.inl (x0 + (dcr a0 x0).2))
      else
        some (.inl (x0 + (dcr a0 x0).2))
  else
    some (.inr (.inl ()))
theorem L26_0_ok (a0 : List UInt8) (x0 : Nat) (o : (Nat) ⊕ ((Unit) ⊕ (Unit))) (h : L26_0_step a0 x0 = some o) : Wp prog c55B0 (L26_0_S a0 x0) (LPost 22 (L26_0_S a0) (L26_0_F a0) o) := by
  unfold L26_0_step at h
  delta c55B0 L26_0_S
  try simp only [go_sem]
  rcases Bool.eq_false_or_eq_true ((decide (x0 < a0.length))) with hc1 | hc2
  · rw [if_pos (show (decide (x0 < a0.length)) = true by first | exact hc1 | (rw [hc1]; rfl) | simpa using hc1)] at h
    try simp only [go_sem, hc1]
    try simp only [go_sem, nextIt_lt (of_decide_eq_true hc1)]
    first | refine WGuard_splitN (fun hc3 => ?_) (fun hc4 => ?_) | refine WGuard_split (fun hc3 => ?_) (fun hc4 => ?_)
    · rw [if_pos (show (((x0 : Nat) : Int) == 0) = true by first | exact hc3 | (rw [hc3]; rfl) | simpa using hc3)] at h
      try simp only [go_sem, nextIt_lt (of_decide_eq_true hc1), hc3]
      refine WVal_inl (fn := c60) rfl rfl ?_
      delta c60
      try simp only [go_sem, nextIt_lt (of_decide_eq_true hc1)]
      refine WGuard_pure (v := .d (.int .i32 ((dcr a0 x0).1 : Int))) (fun hb10 => by skip; simp only [go_sem, nextIt_lt (of_decide_eq_true hc1), hc1, hc3, hb10]) ?_
      try simp only [go_sem, nextIt_lt (of_decide_eq_true hc1)]
      refine WGuard_pure (v := .d (.bool (decide (((dcr a0 x0).1 : Int) ≤ 122)))) (fun hb9 => by skip; simp only [go_sem, nextIt_lt (of_decide_eq_true hc1), hc1, hc3, hb9]) ?_
      try simp only [go_sem, nextIt_lt (of_decide_eq_true hc1)]
      first | refine WGuard_splitN (fun hc5 => ?_) (fun hc6 => ?_) | refine WGuard_split (fun hc5 => ?_) (fun hc6 => ?_)
      · rw [if_pos (show (bif (decide (97 ≤ ((dcr a0 x0).1 : Int))) then (decide (((dcr a0 x0).1 : Int) ≤ 122)) else false) = true by first | exact hc5 | (rw [hc5]; rfl) | simpa using hc5)] at h
        try simp only [go_sem, nextIt_lt (of_decide_eq_true hc1), hc5]
        refine WVal_inlC (fn := c61) rfl rfl ?_
        delta c61
        try simp only [go_sem, nextIt_lt (of_decide_eq_true hc1)]
        refine WVal_inl (fn := c60) rfl rfl ?_
        delta c60
        try simp only [go_sem, nextIt_lt (of_decide_eq_true hc1)]
        refine WGuard_pure (v := .d (.int .i32 ((dcr a0 x0).1 : Int))) (fun hb8 => by skip; simp only [go_sem, nextIt_lt (of_decide_eq_true hc1), hc1, hc3, hc5, hb8]) ?_
        try simp only [go_sem, nextIt_lt (of_decide_eq_true hc1)]
        refine WGuard_pure (v := .d (.bool (decide (((dcr a0 x0).1 : Int) ≤ 122)))) (fun hb7 => by skip; simp only [go_sem, nextIt_lt (of_decide_eq_true hc1), hc1, hc3, hc5, hb7]) ?_
        try simp only [go_sem, nextIt_lt (of_decide_eq_true hc1)]
        try simp only [go_sem, nextIt_lt (of_decide_eq_true hc1), hc1, hc3, hc5]
        try simp only [go_sem, nextIt_lt (of_decide_eq_true hc1), hc1, hc3, hc5]
        try simp only [go_sem, nextIt_lt (of_decide_eq_true hc1), hc1, hc3, hc5]
        try simp only [go_sem, nextIt_lt (of_decide_eq_true hc1), hc1, hc3, hc5]
        try simp only [go_sem, nextIt_lt (of_decide_eq_true hc1), hc1, hc3, hc5]
        try simp only [go_sem, nextIt_lt (of_decide_eq_true hc1), hc1, hc3, hc5]
        try simp only [go_sem, nextIt_lt (of_decide_eq_true hc1), hc1, hc3, hc5]
        try simp only [go_sem, nextIt_lt (of_decide_eq_true hc1), hc1, hc3, hc5]
        try simp only [go_sem, nextIt_lt (of_decide_eq_true hc1), hc1, hc3, hc5]
        try simp only [go_sem, nextIt_lt (of_decide_eq_true hc1), hc1, hc3, hc5]
        try simp only [go_sem, nextIt_lt (of_decide_eq_true hc1), hc1, hc3, hc5]
        try simp only [go_sem, nextIt_lt (of_decide_eq_true hc1), hc1, hc3, hc5]
        try simp only [go_sem, nextIt_lt (of_decide_eq_true hc1), hc1, hc3, hc5]
        cases h
        exact ⟨rfl, Up.of (N := 25) (N' := 85) [] rfl rfl (by decide) (.set (.it'' rfl) (.set (.clo' .nil (.cons (.ptr' rfl) .nil)) (.set (.d _) (.set (.d _) RegsR.none)))) (.set BlkR.it (.set BlkR.refl_d (.set (BlkR.els (Nat.le_refl _) (.cons (.d _) (.cons (.d _) (.cons (.d _) (.cons (.d _) (.cons (.d _) (.cons (.d _) (.cons (.d _) (.cons (.d _) .nil))))))))) BlksR.at)))⟩
      · rw [if_neg (show ¬ (bif (decide (97 ≤ ((dcr a0 x0).1 : Int))) then (decide (((dcr a0 x0).1 : Int) ≤ 122)) else false) = true by first | (rw [hc6]; exact Bool.false_ne_true) | simpa using hc6 | (simp at hc6 ⊢; omega))] at h
        try simp only [go_sem, nextIt_lt (of_decide_eq_true hc1), hc6]
        cases h
        exact ⟨rfl, by simp, Up.of (N := 25) (N' := 54) [] rfl rfl (by decide) (.set (.d _) RegsR.none) (.set BlkR.refl_d (.set (BlkR.els (Nat.le_refl _) (.cons (.d _) (.cons (.d _) (.cons (.d _) (.cons (.d _) (.cons (.d _) (.cons (.d _) (.cons (.d _) (.cons (.d _) .nil))))))))) BlksR.at))⟩
    · rw [if_neg (show ¬ (((x0 : Nat) : Int) == 0) = true by first | (rw [hc4]; exact Bool.false_ne_true) | simpa using hc4 | (simp at hc4 ⊢; omega))] at h
      try simp only [go_sem, nextIt_lt (of_decide_eq_true hc1), hc4]
      refine WVal_inlC (fn := c61) rfl rfl ?_
      delta c61
      try simp only [go_sem, nextIt_lt (of_decide_eq_true hc1)]
      refine WVal_inl (fn := c60) rfl rfl ?_
      delta c60
      try simp only [go_sem, nextIt_lt (of_decide_eq_true hc1)]
      refine WGuard_pure (v := .d (.int .i32 ((dcr a0 x0).1 : Int))) (fun hb26 => by skip; simp only [go_sem, nextIt_lt (of_decide_eq_true hc1), hc1, hc4, hb26]) ?_
      try simp only [go_sem, nextIt_lt (of_decide_eq_true hc1)]
      refine WGuard_pure (v := .d (.bool (decide (((dcr a0 x0).1 : Int) ≤ 122)))) (fun hb25 => by skip; simp only [go_sem, nextIt_lt (of_decide_eq_true hc1), hc1, hc4, hb25]) ?_
      try simp only [go_sem, nextIt_lt (of_decide_eq_true hc1)]
      refine WGuard_pure (v := .d (.int .i32 ((dcr a0 x0).1 : Int))) (fun hb24 => by skip; simp only [go_sem, nextIt_lt (of_decide_eq_true hc1), hc1, hc4, hb24]) ?_
      try simp only [go_sem, nextIt_lt (of_decide_eq_true hc1)]
      first | refine WGuard_splitN (fun hc11 => ?_) (fun hc12 => ?_) | refine WGuard_split (fun hc11 => ?_) (fun hc12 => ?_)
      · rw [if_pos (show (!(bif (decide (97 ≤ ((dcr a0 x0).1 : Int))) then (decide (((dcr a0 x0).1 : Int) ≤ 122)) else false)) = true by first | exact hc11 | (rw [hc11]; rfl) | simpa using hc11)] at h
        try simp only [go_sem, nextIt_lt (of_decide_eq_true hc1), hc11]
        obtain ⟨r13, hr14, h⟩ := Option.bind_eq_some_iff.1 h
        replace hr14 := dec_some hr14
        first | refine WVal_pc hr14 ?_ | (simp only [eT2_eq, eT3_eq, eT4_eq, eT5_eq] at hr14; refine WVal_pc hr14 ?_)
        try simp only [go_sem, nextIt_lt (of_decide_eq_true hc1)]
        refine WGuard_pure (v := .d (.int .i32 ((dcr a0 x0).1 : Int))) (fun hb23 => by skip; simp only [go_sem, nextIt_lt (of_decide_eq_true hc1), hc1, hc4, hc11, hb23]) ?_
        try simp only [go_sem, nextIt_lt (of_decide_eq_true hc1)]
        first | refine WGuard_splitN (fun hc15 => ?_) (fun hc16 => ?_) | refine WGuard_split (fun hc15 => ?_) (fun hc16 => ?_)
        · rw [if_pos (show (!r13) = true by first | exact hc15 | (rw [hc15]; rfl) | simpa using hc15)] at h
          try simp only [go_sem, nextIt_lt (of_decide_eq_true hc1), hc15]
          obtain ⟨r17, hr18, h⟩ := Option.bind_eq_some_iff.1 h
          replace hr18 := dec_some hr18
          first | refine WVal_pc hr18 ?_ | (simp only [eT2_eq, eT3_eq, eT4_eq, eT5_eq] at hr18; refine WVal_pc hr18 ?_)
          try simp only [go_sem, nextIt_lt (of_decide_eq_true hc1)]
          obtain ⟨r19, hr20, h⟩ := Option.bind_eq_some_iff.1 h
          replace hr20 := dec_some hr20
          first | refine WVal_pc hr20 ?_ | (simp only [eT2_eq, eT3_eq, eT4_eq, eT5_eq] at hr20; refine WVal_pc hr20 ?_)
          try simp only [go_sem, nextIt_lt (of_decide_eq_true hc1)]
          first | refine WBr_splitN (fun hc21 => ?_) (fun hc22 => ?_) | refine WBr_split (fun hc21 => ?_) (fun hc22 => ?_)
          · rw [if_pos (show (!r19) = true by first | exact hc21 | (rw [hc21]; rfl) | simpa using hc21)] at h
            try simp only [go_sem, nextIt_lt (of_decide_eq_true hc1)]
            cases h
            exact ⟨rfl, by simp, Up.of (N := 25) (N' := 78) [] rfl rfl (by decide) (.set (.d _) RegsR.none) (.set BlkR.refl_d (.set (BlkR.els (Nat.le_refl _) (.cons (.d _) (.cons (.d _) (.cons (.d _) (.cons (.d _) (.cons (.d _) (.cons (.d _) (.cons (.d _) (.cons (.d _) .nil))))))))) BlksR.at))⟩
          · rw [if_neg (show ¬ (!r19) = true by first | (rw [hc22]; exact Bool.false_ne_true) | simpa using hc22 | (simp at hc22 ⊢; omega))] at h
            try simp only [go_sem, nextIt_lt (of_decide_eq_true hc1)]
            cases h
            exact ⟨rfl, Up.of (N := 25) (N' := 77) [] rfl rfl (by decide) (.set (.it'' rfl) (.set (.clo' .nil (.cons (.ptr' rfl) .nil)) (.set (.d _) (.set (.d _) RegsR.none)))) (.set BlkR.it (.set BlkR.refl_d (.set (BlkR.els (Nat.le_refl _) (.cons (.d _) (.cons (.d _) (.cons (.d _) (.cons (.d _) (.cons (.d _) (.cons (.d _) (.cons (.d _) (.cons (.d _) .nil))))))))) BlksR.at)))⟩
        · rw [if_neg (show ¬ (!r13) = true by first | (rw [hc16]; exact Bool.false_ne_true) | simpa using hc16 | (simp at hc16 ⊢; omega))] at h
          try simp only [go_sem, nextIt_lt (of_decide_eq_true hc1), hc16]
          cases h
          exact ⟨rfl, Up.of (N := 25) (N' := 77) [] rfl rfl (by decide) (.set (.it'' rfl) (.set (.clo' .nil (.cons (.ptr' rfl) .nil)) (.set (.d _) (.set (.d _) RegsR.none)))) (.set BlkR.it (.set BlkR.refl_d (.set (BlkR.els (Nat.le_refl _) (.cons (.d _) (.cons (.d _) (.cons (.d _) (.cons (.d _) (.cons (.d _) (.cons (.d _) (.cons (.d _) (.cons (.d _) .nil))))))))) BlksR.at)))⟩
      · rw [if_neg (show ¬ (!(bif (decide (97 ≤ ((dcr a0 x0).1 : Int))) then (decide (((dcr a0 x0).1 : Int) ≤ 122)) else false)) = true by first | (rw [hc12]; exact Bool.false_ne_true) | simpa using hc12 | (simp at hc12 ⊢; omega))] at h
        try simp only [go_sem, nextIt_lt (of_decide_eq_true hc1), hc12]
        cases h
        exact ⟨rfl, Up.of (N := 25) (N' := 77) [] rfl rfl (by decide) (.set (.it'' rfl) (.set (.clo' .nil (.cons (.ptr' rfl) .nil)) (.set (.d _) (.set (.d _) RegsR.none)))) (.set BlkR.it (.set BlkR.refl_d (.set (BlkR.els (Nat.le_refl _) (.cons (.d _) (.cons (.d _) (.cons (.d _) (.cons (.d _) (.cons (.d _) (.cons (.d _) (.cons (.d _) (.cons (.d _) .nil))))))))) BlksR.at)))⟩
  · rw [if_neg (show ¬ (decide (x0 < a0.length)) = true by first | (rw [hc2]; exact Bool.false_ne_true) | simpa using hc2 | (simp at hc2 ⊢; omega))] at h
    try simp only [go_sem, hc2]
    try simp only [go_sem, nextIt_ge (of_decide_eq_false hc2)]
    cases h
    exact ⟨rfl, by simp, Up.of (N := 25) (N' := 27) [] rfl rfl (by decide) (.set (.d _) RegsR.none) (.set BlkR.refl_d (.set (BlkR.els (Nat.le_refl _) (.cons (.d _) (.cons (.d _) (.cons (.d _) (.cons (.d _) (.cons (.d _) (.cons (.d _) (.cons (.d _) (.cons (.d _) .nil))))))))) BlksR.at))⟩
noncomputable def P26 (a0 : List UInt8) : Option (Bool) :=
  (loopV (L26_0_step a0) 0).bind fun r27 =>
  match r27 with
  | (.inl q29) =>
    if (!(a0 == [])) = true then
      (dec D.bool (pc prog 88 [.str a0])).bind fun r32 =>
      if r32 = true then
        (dec D.bool (pc prog 56 [.str a0, .str ([45])])).bind fun r36 =>
        if r36 = true then
          (dec D.bool (pc prog 62 [.list false (([[97, 110, 110, 111, 116, 97, 116, 105, 111, 110, 45, 120, 109, 108], [99, 111, 108, 111, 114, 45, 112, 114, 111, 102, 105, 108, 101], [102, 111, 110, 116, 45, 102, 97, 99, 101], [102, 111, 110, 116, 45, 102, 97, 99, 101, 45, 115, 114, 99], [102, 111, 110, 116, 45, 102, 97, 99, 101, 45, 117, 114, 105], [102, 111, 110, 116, 45, 102, 97, 99, 101, 45, 102, 111, 114, 109, 97, 116], [102, 111, 110, 116, 45, 102, 97, 99, 101, 45, 110, 97, 109, 101], [109, 105, 115, 115, 105, 110, 103, 45, 103, 108, 121, 112, 104]]).map D.str), .str a0])).bind fun r40 =>
          some (!r40)
        else
          some false
      else
        some false
    else
      some false
  | (.inr q44) =>
    some false
theorem ok26 (a0 : List UInt8) (r : Bool) (h : P26 a0 = some r) : pc prog 26 [.str a0] = some (D.bool r) := by
  unfold P26 at h
  refine pc_of (fn := c26) rfl rfl ?_
  delta c26
  try simp only [go_sem]
  refine WVal_inl (fn := c55) rfl rfl ?_
  delta c55
  try simp only [go_sem]
  obtain ⟨r27, hl28, h⟩ := Option.bind_eq_some_iff.1 h
  refine Wp.loopR locs (n := 22) (a := c55B0) rfl (L26_0_S a0) (L26_0_F a0) (L26_0_ok a0) hl28 ?_ (by (repeat (first | refine Clo.block ?_ | refine Clo.seq locs rfl ?_)); refine Clo.inl locs (n' := 0) rfl rfl rfl ?_ ?_ (show 7 + 15 ≤ _ from by decide) (by decide) ?_; ((repeat (first | exact SelfR.no | exact SelfR.none | refine SelfR.set ?_ ?_ | refine SelfR.args ?_ | exact SelfL.nil | refine SelfL.cons ?_ ?_ | exact Self.d | exact Self.undef | exact Self.rp | exact Self.ptr (by decide) | exact Self.sl (by decide) | exact Self.mb (by decide) | exact Self.map (by decide) | exact Self.yld (by decide) | exact Self.it (by decide) | refine Self.clo ?_ ?_ | refine Self.ofCells ?_ | refine Self.agg ?_ | refine Self.tuple ?_ | refine Self.bif ?_ ?_)); (repeat (first | exact SelfR.no | exact SelfR.none | refine SelfR.set ?_ ?_ | refine SelfR.args ?_ | exact SelfL.nil | refine SelfL.cons ?_ ?_ | exact Self.d | exact Self.undef | exact Self.rp | exact Self.ptr (by decide) | exact Self.sl (by decide) | exact Self.mb (by decide) | exact Self.map (by decide) | exact Self.yld (by decide) | exact Self.it (by decide) | refine Self.clo ?_ ?_ | refine Self.ofCells ?_ | refine Self.agg ?_ | refine Self.tuple ?_ | refine Self.bif ?_ ?_))); (repeat (first | refine Clo.block ?_ | refine Clo.seq locs rfl ?_)); (first | exact Clo.ret | exact Clo.lpost | exact Clo.cpost)) ?_
  · show Up 22 (L26_0_S a0 0) _
    delta L26_0_S
    exact Up.of (N := 25) (N' := 25) [] rfl rfl (by decide) (.set (.it'' rfl) (.set (.clo' .nil (.cons (.ptr' rfl) .nil)) (.set (.d _) (.set (.d _) RegsR.none)))) (.set BlkR.it (.set BlkR.refl_d (.set (BlkR.els (Nat.le_refl _) (.cons (.d _) (.cons (.d _) (.cons (.d _) (.cons (.d _) (.cons (.d _) (.cons (.d _) (.cons (.d _) (.cons (.d _) .nil))))))))) BlksR.at)))
  · rcases r27 with (q29 | q44)
    · dsimp only at h
      dsimp only [L26_0_F]
      try simp only [go_sem]
      refine WGuard_pure (v := .d (.str a0)) (fun hb43 => by skip; simp only [go_sem, hb43]) ?_
      try simp only [go_sem]
      first | refine WGuard_splitN (fun hc30 => ?_) (fun hc31 => ?_) | refine WGuard_split (fun hc30 => ?_) (fun hc31 => ?_)
      · rw [if_pos (show (!(a0 == [])) = true by first | exact hc30 | (rw [hc30]; rfl) | simpa using hc30)] at h
        try simp only [go_sem, hc30]
        obtain ⟨r32, hr33, h⟩ := Option.bind_eq_some_iff.1 h
        replace hr33 := dec_some hr33
        first | refine WVal_pc hr33 ?_ | (simp only [eT2_eq, eT3_eq, eT4_eq, eT5_eq] at hr33; refine WVal_pc hr33 ?_)
        try simp only [go_sem]
        refine WGuard_pure (v := .d (.str a0)) (fun hb42 => by skip; simp only [go_sem, hc30, hb42]) ?_
        try simp only [go_sem]
        first | refine WGuard_splitN (fun hc34 => ?_) (fun hc35 => ?_) | refine WGuard_split (fun hc34 => ?_) (fun hc35 => ?_)
        · rw [if_pos (show r32 = true by first | exact hc34 | (rw [hc34]; rfl) | simpa using hc34)] at h
          try simp only [go_sem, hc34]
          obtain ⟨r36, hr37, h⟩ := Option.bind_eq_some_iff.1 h
          replace hr37 := dec_some hr37
          first | refine WVal_pc hr37 ?_ | (simp only [eT2_eq, eT3_eq, eT4_eq, eT5_eq] at hr37; refine WVal_pc hr37 ?_)
          try simp only [go_sem]
          first | refine WGuard_splitN (fun hc38 => ?_) (fun hc39 => ?_) | refine WGuard_split (fun hc38 => ?_) (fun hc39 => ?_)
          · rw [if_pos (show r36 = true by first | exact hc38 | (rw [hc38]; rfl) | simpa using hc38)] at h
            try simp only [go_sem, hc38]
            obtain ⟨r40, hr41, h⟩ := Option.bind_eq_some_iff.1 h
            replace hr41 := dec_some hr41
            first | refine WVal_pc hr41 ?_ | (simp only [eT2_eq, eT3_eq, eT4_eq, eT5_eq] at hr41; refine WVal_pc hr41 ?_)
            try simp only [go_sem]
            cases h
            first | rfl | (simp only [go_sem]; done) | (simp only [go_sem]; rfl) | (simp [eName, eRegistry, eDefinition, eForest, eCustom, enames_span, eNode, eforest_trait, eAttr, eforest_key, hc30, hc34, hc38]; done)
          · rw [if_neg (show ¬ r36 = true by first | (rw [hc39]; exact Bool.false_ne_true) | simpa using hc39 | (simp at hc39 ⊢; omega))] at h
            try simp only [go_sem, hc39]
            cases h
            first | rfl | (simp only [go_sem]; done) | (simp only [go_sem]; rfl) | (simp [eName, eRegistry, eDefinition, eForest, eCustom, enames_span, eNode, eforest_trait, eAttr, eforest_key, hc30, hc34, hc39]; done)
        · rw [if_neg (show ¬ r32 = true by first | (rw [hc35]; exact Bool.false_ne_true) | simpa using hc35 | (simp at hc35 ⊢; omega))] at h
          try simp only [go_sem, hc35]
          cases h
          first | rfl | (simp only [go_sem]; done) | (simp only [go_sem]; rfl) | (simp [eName, eRegistry, eDefinition, eForest, eCustom, enames_span, eNode, eforest_trait, eAttr, eforest_key, hc30, hc35]; done)
      · rw [if_neg (show ¬ (!(a0 == [])) = true by first | (rw [hc31]; exact Bool.false_ne_true) | simpa using hc31 | (simp at hc31 ⊢; omega))] at h
        try simp only [go_sem, hc31]
        cases h
        first | rfl | (simp only [go_sem]; done) | (simp only [go_sem]; rfl) | (simp [eName, eRegistry, eDefinition, eForest, eCustom, enames_span, eNode, eforest_trait, eAttr, eforest_key, hc31]; done)
    · dsimp only at h
      dsimp only [L26_0_F]
      try simp only [go_sem]
      cases h
      first | rfl | (simp only [go_sem]; done) | (simp only [go_sem]; rfl) | (simp [eName, eRegistry, eDefinition, eForest, eCustom, enames_span, eNode, eforest_trait, eAttr, eforest_key]; done)
def L27_0_S (a0 : List UInt8) (r1 : Sl (Int) × Bool) (x0 : Bool × Int) : St := ⟨((((Regs.none.set 0 (.d (.str a0))).set 3 (.d (.list r1.1.n (r1.1.l.map (D.int .i32))))).set 5 (.d (.bool x0.1))).set 6 (.d (.int .i64 x0.2))), (Heap.at 29)⟩
def L27_0_F (a0 : List UInt8) (r1 : Sl (Int) × Bool) : ((Bool) ⊕ (Unit)) → Ex × St := fun r => match r with
  | (.inl r) => (.exit 0, ⟨((Regs.none.set 0 (.d (.str a0))).set 5 (.d (.bool r))), (Heap.at 29)⟩)
  | (.inr r) => (.ret, ⟨(Regs.none.set 2 (.d (.bool false))), (Heap.at 29)⟩)
noncomputable def L27_0_step (a0 : List UInt8) (r1 : Sl (Int) × Bool) (x0 : Bool × Int) : Option ((Bool × Int) ⊕ ((Bool) ⊕ (Unit))) :=
  if (decide (x0.2 < (r1.1.l.length : Int))) = true then
    (rd r1.1.l x0.2).bind fun y13 =>
    (dec D.bool (pc prog 63 [.int .i32 y13])).bind fun r15 =>
    if (!r15) = true then
      some (.inr (.inr ()))
    else
      if (!x0.1) = true then
        some (.inl ((y13 == 45), (IntKind.wrap .i64 (x0.2 + 1))))
      else
        some (.inl (true, (IntKind.wrap .i64 (x0.2 + 1))))
  else
    some (.inr (.inl x0.1))
theorem L27_0_ok (a0 : List UInt8) (r1 : Sl (Int) × Bool) (x0 : Bool × Int) (o : (Bool × Int) ⊕ ((Bool) ⊕ (Unit))) (h : L27_0_step a0 r1 x0 = some o) : Wp prog c27B0 (L27_0_S a0 r1 x0) (LPost 0 (L27_0_S a0 r1) (L27_0_F a0 r1) o) := by
  unfold L27_0_step at h
  delta c27B0 L27_0_S
  try simp only [go_sem]
  first | refine WBr_splitN (fun hc11 => ?_) (fun hc12 => ?_) | refine WBr_split (fun hc11 => ?_) (fun hc12 => ?_)
  · rw [if_pos (show (decide (x0.2 < (r1.1.l.length : Int))) = true by first | exact hc11 | (rw [hc11]; rfl) | simpa using hc11)] at h
    try simp only [go_sem]
    obtain ⟨y13, hy14, h⟩ := Option.bind_eq_some_iff.1 h
    try simp only [go_sem, rd_pos hy14, rd_ge hy14, rd_map (D.int .i32) hy14]
    obtain ⟨r15, hr16, h⟩ := Option.bind_eq_some_iff.1 h
    replace hr16 := dec_some hr16
    first | refine WVal_pc hr16 ?_ | (simp only [eT2_eq, eT3_eq, eT4_eq, eT5_eq] at hr16; refine WVal_pc hr16 ?_)
    try simp only [go_sem, rd_pos hy14, rd_ge hy14, rd_map (D.int .i32) hy14]
    first | refine WBr_splitN (fun hc17 => ?_) (fun hc18 => ?_) | refine WBr_split (fun hc17 => ?_) (fun hc18 => ?_)
    · rw [if_pos (show (!r15) = true by first | exact hc17 | (rw [hc17]; rfl) | simpa using hc17)] at h
      try simp only [go_sem, rd_pos hy14, rd_ge hy14, rd_map (D.int .i32) hy14]
      cases h
      exact ⟨rfl, by simp, Up.of (N := 29) (N' := 40) [] rfl rfl (by decide) (.set (.d _) RegsR.none) BlksR.at⟩
    · rw [if_neg (show ¬ (!r15) = true by first | (rw [hc18]; exact Bool.false_ne_true) | simpa using hc18 | (simp at hc18 ⊢; omega))] at h
      try simp only [go_sem, rd_pos hy14, rd_ge hy14, rd_map (D.int .i32) hy14]
      refine WGuard_pure (v := .d (.list r1.1.n (r1.1.l.map (D.int .i32)))) (fun hb22 => by skip; simp only [go_sem, rd_pos hy14, rd_ge hy14, rd_map (D.int .i32) hy14, hc11, hc18, hb22]) ?_
      try simp only [go_sem, rd_pos hy14, rd_ge hy14, rd_map (D.int .i32) hy14]
      refine WGuard_pure (v := .d (.int .i64 x0.2)) (fun hb21 => by skip; simp only [go_sem, rd_pos hy14, rd_ge hy14, rd_map (D.int .i32) hy14, hc11, hc18, hb21]) ?_
      try simp only [go_sem, rd_pos hy14, rd_ge hy14, rd_map (D.int .i32) hy14]
      first | refine WGuard_splitN (fun hc19 => ?_) (fun hc20 => ?_) | refine WGuard_split (fun hc19 => ?_) (fun hc20 => ?_)
      · rw [if_pos (show (!x0.1) = true by first | exact hc19 | (rw [hc19]; rfl) | simpa using hc19)] at h
        try simp only [go_sem, rd_pos hy14, rd_ge hy14, rd_map (D.int .i32) hy14, hc19]
        cases h
        exact ⟨rfl, Up.of (N := 29) (N' := 51) [] rfl rfl (by decide) (.set (.d _) (.set (.d _) (.set (.d _) (.set (.d _) RegsR.none)))) BlksR.at⟩
      · rw [if_neg (show ¬ (!x0.1) = true by first | (rw [hc20]; exact Bool.false_ne_true) | simpa using hc20 | (simp at hc20 ⊢; omega))] at h
        try simp only [go_sem, rd_pos hy14, rd_ge hy14, rd_map (D.int .i32) hy14, hc20]
        cases h
        exact ⟨rfl, Up.of (N := 29) (N' := 51) [] rfl rfl (by decide) (.set (.d _) (.set (.d _) (.set (.d _) (.set (.d _) RegsR.none)))) BlksR.at⟩
  · rw [if_neg (show ¬ (decide (x0.2 < (r1.1.l.length : Int))) = true by first | (rw [hc12]; exact Bool.false_ne_true) | simpa using hc12 | (simp at hc12 ⊢; omega))] at h
    try simp only [go_sem]
    cases h
    exact ⟨rfl, by simp, Up.of (N := 29) (N' := 33) [] rfl rfl (by decide) (.set (.d _) (.set (.d _) RegsR.none)) BlksR.at⟩
noncomputable def P27 (a0 : List UInt8) : Option (Bool) :=
  (dec (eT2 (eSl (D.int .i32)) D.bool) (pc prog 58 [.str a0])).bind fun r1 =>
  if (!(bif (!r1.2) then true else ((r1.1.l.length : Int) == 0))) = true then
    (rd r1.1.l (0)).bind fun y5 =>
    if (!(decide (y5 < 97))) = true then
      if (decide (122 < y5)) = true then
        some false
      else
        (loopV (L27_0_step a0 r1) (false, 0)).bind fun r23 =>
        match r23 with
        | (.inl q25) =>
          if q25 = true then
            (dec D.bool (pc prog 64 [.str a0, .list false (([[97, 110, 110, 111, 116, 97, 116, 105, 111, 110, 45, 120, 109, 108], [99, 111, 108, 111, 114, 45, 112, 114, 111, 102, 105, 108, 101], [102, 111, 110, 116, 45, 102, 97, 99, 101], [102, 111, 110, 116, 45, 102, 97, 99, 101, 45, 115, 114, 99], [102, 111, 110, 116, 45, 102, 97, 99, 101, 45, 117, 114, 105], [102, 111, 110, 116, 45, 102, 97, 99, 101, 45, 102, 111, 114, 109, 97, 116], [102, 111, 110, 116, 45, 102, 97, 99, 101, 45, 110, 97, 109, 101], [109, 105, 115, 115, 105, 110, 103, 45, 103, 108, 121, 112, 104]]).map D.str)])).bind fun r28 =>
            some (!r28)
          else
            some false
        | (.inr q31) =>
          some false
    else
      some false
  else
    some false
theorem ok27 (a0 : List UInt8) (r : Bool) (h : P27 a0 = some r) : pc prog 27 [.str a0] = some (D.bool r) := by
  unfold P27 at h
  refine pc_of (fn := c27) rfl rfl ?_
  delta c27
  try simp only [go_sem]
  obtain ⟨r1, hr2, h⟩ := Option.bind_eq_some_iff.1 h
  replace hr2 := dec_some hr2
  first | refine WVal_pc hr2 ?_ | (simp only [eT2_eq, eT3_eq, eT4_eq, eT5_eq] at hr2; refine WVal_pc hr2 ?_)
  try simp only [go_sem]
  refine WGuard_pure (v := .d (.list r1.1.n (r1.1.l.map (D.int .i32)))) (fun hb36 => by skip; simp only [go_sem, hb36]) ?_
  try simp only [go_sem]
  refine WGuard_pure (v := .d (.int .i64 (r1.1.l.length : Int))) (fun hb35 => by skip; simp only [go_sem, hb35]) ?_
  try simp only [go_sem]
  refine WGuard_pure (v := .d (.bool ((r1.1.l.length : Int) == 0))) (fun hb34 => by skip; simp only [go_sem, hb34]) ?_
  try simp only [go_sem]
  refine WGuard_pure (v := .d (.list r1.1.n (r1.1.l.map (D.int .i32)))) (fun hb33 => by skip; simp only [go_sem, hb33]) ?_
  try simp only [go_sem]
  first | refine WGuard_splitN (fun hc3 => ?_) (fun hc4 => ?_) | refine WGuard_split (fun hc3 => ?_) (fun hc4 => ?_)
  · rw [if_pos (show (!(bif (!r1.2) then true else ((r1.1.l.length : Int) == 0))) = true by first | exact hc3 | (rw [hc3]; rfl) | simpa using hc3)] at h
    try simp only [go_sem, hc3]
    obtain ⟨y5, hy6, h⟩ := Option.bind_eq_some_iff.1 h
    try simp only [go_sem, (show (r1.1.l.map (D.int .i32))[0]? = some ((D.int .i32) y5) from rd_map (D.int .i32) hy6)]
    refine WGuard_pure (v := .d (.list r1.1.n (r1.1.l.map (D.int .i32)))) (fun hb32 => by skip; simp only [go_sem, (show (r1.1.l.map (D.int .i32))[0]? = some ((D.int .i32) y5) from rd_map (D.int .i32) hy6), hc3, hb32]) ?_
    try simp only [go_sem, (show (r1.1.l.map (D.int .i32))[0]? = some ((D.int .i32) y5) from rd_map (D.int .i32) hy6)]
    first | refine WGuard_splitN (fun hc7 => ?_) (fun hc8 => ?_) | refine WGuard_split (fun hc7 => ?_) (fun hc8 => ?_)
    · rw [if_pos (show (!(decide (y5 < 97))) = true by first | exact hc7 | (rw [hc7]; rfl) | simpa using hc7)] at h
      try simp only [go_sem, (show (r1.1.l.map (D.int .i32))[0]? = some ((D.int .i32) y5) from rd_map (D.int .i32) hy6), hc7]
      first | refine WBr_splitN (fun hc9 => ?_) (fun hc10 => ?_) | refine WBr_split (fun hc9 => ?_) (fun hc10 => ?_)
      · rw [if_pos (show (decide (122 < y5)) = true by first | exact hc9 | (rw [hc9]; rfl) | simpa using hc9)] at h
        try simp only [go_sem, (show (r1.1.l.map (D.int .i32))[0]? = some ((D.int .i32) y5) from rd_map (D.int .i32) hy6)]
        cases h
        first | rfl | (simp only [go_sem, (show (r1.1.l.map (D.int .i32))[0]? = some ((D.int .i32) y5) from rd_map (D.int .i32) hy6)]; done) | (simp only [go_sem, (show (r1.1.l.map (D.int .i32))[0]? = some ((D.int .i32) y5) from rd_map (D.int .i32) hy6)]; rfl) | (simp [eName, eRegistry, eDefinition, eForest, eCustom, enames_span, eNode, eforest_trait, eAttr, eforest_key, hc3, hc7, hc9]; done)
      · rw [if_neg (show ¬ (decide (122 < y5)) = true by first | (rw [hc10]; exact Bool.false_ne_true) | simpa using hc10 | (simp at hc10 ⊢; omega))] at h
        try simp only [go_sem, (show (r1.1.l.map (D.int .i32))[0]? = some ((D.int .i32) y5) from rd_map (D.int .i32) hy6)]
        obtain ⟨r23, hl24, h⟩ := Option.bind_eq_some_iff.1 h
        refine Wp.loopR locs (n := 0) (a := c27B0) rfl (L27_0_S a0 r1) (L27_0_F a0 r1) (L27_0_ok a0 r1) hl24 ?_ (by (repeat (first | refine Clo.block ?_ | refine Clo.seq locs rfl ?_)); (first | exact Clo.ret | exact Clo.lpost | exact Clo.cpost)) ?_
        · show Up 0 (L27_0_S a0 r1 (false, 0)) _
          delta L27_0_S
          exact Up.of (N := 29) (N' := 29) [] rfl rfl (by decide) (.set (.d _) (.set (.d _) (.set (.d _) (.set (.d _) RegsR.none)))) BlksR.at
        · rcases r23 with (q25 | q31)
          · dsimp only at h
            dsimp only [L27_0_F]
            try simp only [go_sem, (show (r1.1.l.map (D.int .i32))[0]? = some ((D.int .i32) y5) from rd_map (D.int .i32) hy6)]
            refine WGuard_pure (v := .d (.str a0)) (fun hb30 => by skip; simp only [go_sem, (show (r1.1.l.map (D.int .i32))[0]? = some ((D.int .i32) y5) from rd_map (D.int .i32) hy6), hc3, hc7, hc10, hb30]) ?_
            try simp only [go_sem, (show (r1.1.l.map (D.int .i32))[0]? = some ((D.int .i32) y5) from rd_map (D.int .i32) hy6)]
            first | refine WGuard_splitN (fun hc26 => ?_) (fun hc27 => ?_) | refine WGuard_split (fun hc26 => ?_) (fun hc27 => ?_)
            · rw [if_pos (show q25 = true by first | exact hc26 | (rw [hc26]; rfl) | simpa using hc26)] at h
              try simp only [go_sem, (show (r1.1.l.map (D.int .i32))[0]? = some ((D.int .i32) y5) from rd_map (D.int .i32) hy6), hc26]
              obtain ⟨r28, hr29, h⟩ := Option.bind_eq_some_iff.1 h
              replace hr29 := dec_some hr29
              first | refine WVal_pc hr29 ?_ | (simp only [eT2_eq, eT3_eq, eT4_eq, eT5_eq] at hr29; refine WVal_pc hr29 ?_)
              try simp only [go_sem, (show (r1.1.l.map (D.int .i32))[0]? = some ((D.int .i32) y5) from rd_map (D.int .i32) hy6)]
              cases h
              first | rfl | (simp only [go_sem, (show (r1.1.l.map (D.int .i32))[0]? = some ((D.int .i32) y5) from rd_map (D.int .i32) hy6)]; done) | (simp only [go_sem, (show (r1.1.l.map (D.int .i32))[0]? = some ((D.int .i32) y5) from rd_map (D.int .i32) hy6)]; rfl) | (simp [eName, eRegistry, eDefinition, eForest, eCustom, enames_span, eNode, eforest_trait, eAttr, eforest_key, hc3, hc7, hc10, hc26]; done)
            · rw [if_neg (show ¬ q25 = true by first | (rw [hc27]; exact Bool.false_ne_true) | simpa using hc27 | (simp at hc27 ⊢; omega))] at h
              try simp only [go_sem, (show (r1.1.l.map (D.int .i32))[0]? = some ((D.int .i32) y5) from rd_map (D.int .i32) hy6), hc27]
              cases h
              first | rfl | (simp only [go_sem, (show (r1.1.l.map (D.int .i32))[0]? = some ((D.int .i32) y5) from rd_map (D.int .i32) hy6)]; done) | (simp only [go_sem, (show (r1.1.l.map (D.int .i32))[0]? = some ((D.int .i32) y5) from rd_map (D.int .i32) hy6)]; rfl) | (simp [eName, eRegistry, eDefinition, eForest, eCustom, enames_span, eNode, eforest_trait, eAttr, eforest_key, hc3, hc7, hc10, hc27]; done)
          · dsimp only at h
            dsimp only [L27_0_F]
            try simp only [go_sem, (show (r1.1.l.map (D.int .i32))[0]? = some ((D.int .i32) y5) from rd_map (D.int .i32) hy6)]
            cases h
            first | rfl | (simp only [go_sem, (show (r1.1.l.map (D.int .i32))[0]? = some ((D.int .i32) y5) from rd_map (D.int .i32) hy6)]; done) | (simp only [go_sem, (show (r1.1.l.map (D.int .i32))[0]? = some ((D.int .i32) y5) from rd_map (D.int .i32) hy6)]; rfl) | (simp [eName, eRegistry, eDefinition, eForest, eCustom, enames_span, eNode, eforest_trait, eAttr, eforest_key, hc3, hc7, hc10]; done)
    · rw [if_neg (show ¬ (!(decide (y5 < 97))) = true by first | (rw [hc8]; exact Bool.false_ne_true) | simpa using hc8 | (simp at hc8 ⊢; omega))] at h
      try simp only [go_sem, (show (r1.1.l.map (D.int .i32))[0]? = some ((D.int .i32) y5) from rd_map (D.int .i32) hy6), hc8]
      cases h
      first | rfl | (simp only [go_sem, (show (r1.1.l.map (D.int .i32))[0]? = some ((D.int .i32) y5) from rd_map (D.int .i32) hy6)]; done) | (simp only [go_sem, (show (r1.1.l.map (D.int .i32))[0]? = some ((D.int .i32) y5) from rd_map (D.int .i32) hy6)]; rfl) | (simp [eName, eRegistry, eDefinition, eForest, eCustom, enames_span, eNode, eforest_trait, eAttr, eforest_key, hc3, hc8]; done)
  · rw [if_neg (show ¬ (!(bif (!r1.2) then true else ((r1.1.l.length : Int) == 0))) = true by first | (rw [hc4]; exact Bool.false_ne_true) | simpa using hc4 | (simp at hc4 ⊢; omega))] at h
    try simp only [go_sem, hc4]
    cases h
    first | rfl | (simp only [go_sem]; done) | (simp only [go_sem]; rfl) | (simp [eName, eRegistry, eDefinition, eForest, eCustom, enames_span, eNode, eforest_trait, eAttr, eforest_key, hc4]; done)
noncomputable def P28 (a0 : List UInt8) : Option (Bool) :=
  (dec D.bool (pc prog 26 [.str a0])).bind fun r1 =>
  if (!r1) = true then
    (dec D.bool (pc prog 62 [.list false (([[97, 114, 116, 105, 99, 108, 101], [97, 115, 105, 100, 101], [98, 108, 111, 99, 107, 113, 117, 111, 116, 101], [98, 111, 100, 121], [100, 105, 118], [102, 111, 111, 116, 101, 114], [104, 49], [104, 50], [104, 51], [104, 52], [104, 53], [104, 54], [104, 101, 97, 100, 101, 114], [109, 97, 105, 110], [110, 97, 118], [112], [115, 101, 99, 116, 105, 111, 110], [115, 112, 97, 110]]).map D.str), .str a0])).bind fun r5 =>
    some r5
  else
    some true
theorem ok28 (a0 : List UInt8) (r : Bool) (h : P28 a0 = some r) : pc prog 28 [.str a0] = some (D.bool r) := by
  unfold P28 at h
  refine pc_of (fn := c28) rfl rfl ?_
  delta c28
  try simp only [go_sem]
  obtain ⟨r1, hr2, h⟩ := Option.bind_eq_some_iff.1 h
  replace hr2 := dec_some hr2
  first | refine WVal_pc hr2 ?_ | (simp only [eT2_eq, eT3_eq, eT4_eq, eT5_eq] at hr2; refine WVal_pc hr2 ?_)
  try simp only [go_sem]
  first | refine WGuard_splitN (fun hc3 => ?_) (fun hc4 => ?_) | refine WGuard_split (fun hc3 => ?_) (fun hc4 => ?_)
  · rw [if_pos (show (!r1) = true by first | exact hc3 | (rw [hc3]; rfl) | simpa using hc3)] at h
    try simp only [go_sem, hc3]
    obtain ⟨r5, hr6, h⟩ := Option.bind_eq_some_iff.1 h
    replace hr6 := dec_some hr6
    first | refine WVal_pc hr6 ?_ | (simp only [eT2_eq, eT3_eq, eT4_eq, eT5_eq] at hr6; refine WVal_pc hr6 ?_)
    try simp only [go_sem]
    cases h
    first | rfl | (simp only [go_sem]; done) | (simp only [go_sem]; rfl) | (simp [eName, eRegistry, eDefinition, eForest, eCustom, enames_span, eNode, eforest_trait, eAttr, eforest_key, hc3]; done)
  · rw [if_neg (show ¬ (!r1) = true by first | (rw [hc4]; exact Bool.false_ne_true) | simpa using hc4 | (simp at hc4 ⊢; omega))] at h
    try simp only [go_sem, hc4]
    cases h
    first | rfl | (simp only [go_sem]; done) | (simp only [go_sem]; rfl) | (simp [eName, eRegistry, eDefinition, eForest, eCustom, enames_span, eNode, eforest_trait, eAttr, eforest_key, hc4]; done)
noncomputable def P29 (a0 : List UInt8) : Option (Bool) :=
  (dec D.bool (pc prog 27 [.str a0])).bind fun r1 =>
  if (!r1) = true then
    (dec D.bool (pc prog 64 [.str a0, .list false (([[97, 114, 116, 105, 99, 108, 101], [97, 115, 105, 100, 101], [98, 108, 111, 99, 107, 113, 117, 111, 116, 101], [98, 111, 100, 121], [100, 105, 118], [102, 111, 111, 116, 101, 114], [104, 49], [104, 50], [104, 51], [104, 52], [104, 53], [104, 54], [104, 101, 97, 100, 101, 114], [109, 97, 105, 110], [110, 97, 118], [112], [115, 101, 99, 116, 105, 111, 110], [115, 112, 97, 110]]).map D.str)])).bind fun r5 =>
    some r5
  else
    some true
theorem ok29 (a0 : List UInt8) (r : Bool) (h : P29 a0 = some r) : pc prog 29 [.str a0] = some (D.bool r) := by
  unfold P29 at h
  refine pc_of (fn := c29) rfl rfl ?_
  delta c29
  try simp only [go_sem]
  obtain ⟨r1, hr2, h⟩ := Option.bind_eq_some_iff.1 h
  replace hr2 := dec_some hr2
  first | refine WVal_pc hr2 ?_ | (simp only [eT2_eq, eT3_eq, eT4_eq, eT5_eq] at hr2; refine WVal_pc hr2 ?_)
  try simp only [go_sem]
  refine WGuard_pure (v := .d (.str a0)) (fun hb7 => by skip; simp only [go_sem, hb7]) ?_
  try simp only [go_sem]
  first | refine WGuard_splitN (fun hc3 => ?_) (fun hc4 => ?_) | refine WGuard_split (fun hc3 => ?_) (fun hc4 => ?_)
  · rw [if_pos (show (!r1) = true by first | exact hc3 | (rw [hc3]; rfl) | simpa using hc3)] at h
    try simp only [go_sem, hc3]
    obtain ⟨r5, hr6, h⟩ := Option.bind_eq_some_iff.1 h
    replace hr6 := dec_some hr6
    first | refine WVal_pc hr6 ?_ | (simp only [eT2_eq, eT3_eq, eT4_eq, eT5_eq] at hr6; refine WVal_pc hr6 ?_)
    try simp only [go_sem]
    cases h
    first | rfl | (simp only [go_sem]; done) | (simp only [go_sem]; rfl) | (simp [eName, eRegistry, eDefinition, eForest, eCustom, enames_span, eNode, eforest_trait, eAttr, eforest_key, hc3]; done)
  · rw [if_neg (show ¬ (!r1) = true by first | (rw [hc4]; exact Bool.false_ne_true) | simpa using hc4 | (simp at hc4 ⊢; omega))] at h
    try simp only [go_sem, hc4]
    cases h
    first | rfl | (simp only [go_sem]; done) | (simp only [go_sem]; rfl) | (simp [eName, eRegistry, eDefinition, eForest, eCustom, enames_span, eNode, eforest_trait, eAttr, eforest_key, hc4]; done)
noncomputable def P30 (a0 : List UInt8) : Option (List UInt8 × List UInt8) :=
  (dec (D.int .i64) (pc prog 59 [.str a0])).bind fun r1 =>
  if (!(decide (r1 < 0))) = true then
    (dec D.bool (pc prog 25 [.str a0])).bind fun r5 =>
    if (!r5) = true then
      some ([], a0)
    else
      (cut a0 (0) r1).bind fun y9 =>
      (cut a0 (IntKind.wrap .i64 (r1 + 1)) (a0.length : Int)).bind fun y11 =>
      some (y9, y11)
  else
    some ([], a0)
theorem ok30 (a0 : List UInt8) (r : List UInt8 × List UInt8) (h : P30 a0 = some r) : pc prog 30 [.str a0] = some ((eT2 D.str D.str) r) := by
  unfold P30 at h
  refine pc_of (fn := c30) rfl rfl ?_
  delta c30
  try simp only [go_sem]
  obtain ⟨r1, hr2, h⟩ := Option.bind_eq_some_iff.1 h
  replace hr2 := dec_some hr2
  first | refine WVal_pc hr2 ?_ | (simp only [eT2_eq, eT3_eq, eT4_eq, eT5_eq] at hr2; refine WVal_pc hr2 ?_)
  try simp only [go_sem]
  refine WGuard_pure (v := .d (.str a0)) (fun hb13 => by skip; simp only [go_sem, hb13]) ?_
  try simp only [go_sem]
  first | refine WGuard_splitN (fun hc3 => ?_) (fun hc4 => ?_) | refine WGuard_split (fun hc3 => ?_) (fun hc4 => ?_)
  · rw [if_pos (show (!(decide (r1 < 0))) = true by first | exact hc3 | (rw [hc3]; rfl) | simpa using hc3)] at h
    try simp only [go_sem, hc3]
    obtain ⟨r5, hr6, h⟩ := Option.bind_eq_some_iff.1 h
    replace hr6 := dec_some hr6
    first | refine WVal_pc hr6 ?_ | (simp only [eT2_eq, eT3_eq, eT4_eq, eT5_eq] at hr6; refine WVal_pc hr6 ?_)
    try simp only [go_sem]
    first | refine WBr_splitN (fun hc7 => ?_) (fun hc8 => ?_) | refine WBr_split (fun hc7 => ?_) (fun hc8 => ?_)
    · rw [if_pos (show (!r5) = true by first | exact hc7 | (rw [hc7]; rfl) | simpa using hc7)] at h
      try simp only [go_sem]
      cases h
      first | rfl | (simp only [go_sem]; done) | (simp only [go_sem]; rfl) | (simp [eName, eRegistry, eDefinition, eForest, eCustom, enames_span, eNode, eforest_trait, eAttr, eforest_key, hc3, hc7]; done)
    · rw [if_neg (show ¬ (!r5) = true by first | (rw [hc8]; exact Bool.false_ne_true) | simpa using hc8 | (simp at hc8 ⊢; omega))] at h
      try simp only [go_sem]
      obtain ⟨y9, hy10, h⟩ := Option.bind_eq_some_iff.1 h
      refine WVal_sliceS (l := a0) (lo := none) (hi := (some r1)) (by simp only [go_sem, optI]; first | done | rfl | (split <;> rfl) | (split <;> split <;> rfl)) hy10 ?_
      try simp only [go_sem]
      obtain ⟨y11, hy12, h⟩ := Option.bind_eq_some_iff.1 h
      refine WVal_sliceS (l := a0) (lo := (some (IntKind.wrap .i64 (r1 + 1)))) (hi := none) (by simp only [go_sem, optI]; first | done | rfl | (split <;> rfl) | (split <;> split <;> rfl)) hy12 ?_
      try simp only [go_sem]
      cases h
      first | rfl | (simp only [go_sem]; done) | (simp only [go_sem]; rfl) | (simp [eName, eRegistry, eDefinition, eForest, eCustom, enames_span, eNode, eforest_trait, eAttr, eforest_key, hc3, hc8]; done)
  · rw [if_neg (show ¬ (!(decide (r1 < 0))) = true by first | (rw [hc4]; exact Bool.false_ne_true) | simpa using hc4 | (simp at hc4 ⊢; omega))] at h
    try simp only [go_sem, hc4]
    cases h
    first | rfl | (simp only [go_sem]; done) | (simp only [go_sem]; rfl) | (simp [eName, eRegistry, eDefinition, eForest, eCustom, enames_span, eNode, eforest_trait, eAttr, eforest_key, hc4]; done)
noncomputable def P31 (a0 : Name) : Option (List UInt8) :=
  if (a0.prefix_ == []) = true then
    some a0.local_
  else
    if a0.prefix_.length + ([58] : List UInt8).length ≤ maxStr then
      if (a0.prefix_ ++ [58]).length + a0.local_.length ≤ maxStr then
        some ((a0.prefix_ ++ [58]) ++ a0.local_)
      else none
    else none
theorem ok31 (a0 : Name) (r : List UInt8) (h : P31 a0 = some r) : pc prog 31 [eName a0] = some (D.str r) := by
  unfold P31 at h
  refine pc_of (fn := c31) rfl rfl ?_
  delta c31
  try simp only [go_sem]
  first | refine WBr_splitN (fun hc1 => ?_) (fun hc2 => ?_) | refine WBr_split (fun hc1 => ?_) (fun hc2 => ?_)
  · rw [if_pos (show (a0.prefix_ == []) = true by first | exact hc1 | (rw [hc1]; rfl) | simpa using hc1)] at h
    try simp only [go_sem]
    cases h
    first | rfl | (simp only [go_sem]; done) | (simp only [go_sem]; rfl) | (simp [eName, eRegistry, eDefinition, eForest, eCustom, enames_span, eNode, eforest_trait, eAttr, eforest_key, hc1]; done)
  · rw [if_neg (show ¬ (a0.prefix_ == []) = true by first | (rw [hc2]; exact Bool.false_ne_true) | simpa using hc2 | (simp at hc2 ⊢; omega))] at h
    try simp only [go_sem]
    obtain ⟨hm3, h⟩ := ite_some h
    try simp only [go_sem, strOp_add' hm3]
    obtain ⟨hm4, h⟩ := ite_some h
    try simp only [go_sem, strOp_add' hm3, strOp_add' hm4]
    cases h
    first | rfl | (simp only [go_sem, strOp_add' hm3, strOp_add' hm4]; done) | (simp only [go_sem, strOp_add' hm3, strOp_add' hm4]; rfl) | (simp [eName, eRegistry, eDefinition, eForest, eCustom, enames_span, eNode, eforest_trait, eAttr, eforest_key, hc2]; done)
noncomputable def P32 (a0 : Name) : Option (List UInt8) :=
  if (a0.prefix_ == []) = true then
    some a0.local_
  else
    if a0.prefix_.length + ([58] : List UInt8).length ≤ maxStr then
      if (a0.prefix_ ++ [58]).length + a0.local_.length ≤ maxStr then
        some ((a0.prefix_ ++ [58]) ++ a0.local_)
      else none
    else none
theorem ok32 (a0 : Name) (r : List UInt8) (h : P32 a0 = some r) : pc prog 32 [eName a0] = some (D.str r) := by
  unfold P32 at h
  refine pc_of (fn := c32) rfl rfl ?_
  delta c32
  try simp only [go_sem]
  first | refine WBr_splitN (fun hc1 => ?_) (fun hc2 => ?_) | refine WBr_split (fun hc1 => ?_) (fun hc2 => ?_)
  · rw [if_pos (show (a0.prefix_ == []) = true by first | exact hc1 | (rw [hc1]; rfl) | simpa using hc1)] at h
    try simp only [go_sem]
    cases h
    first | rfl | (simp only [go_sem]; done) | (simp only [go_sem]; rfl) | (simp [eName, eRegistry, eDefinition, eForest, eCustom, enames_span, eNode, eforest_trait, eAttr, eforest_key, hc1]; done)
  · rw [if_neg (show ¬ (a0.prefix_ == []) = true by first | (rw [hc2]; exact Bool.false_ne_true) | simpa using hc2 | (simp at hc2 ⊢; omega))] at h
    try simp only [go_sem]
    obtain ⟨hm3, h⟩ := ite_some h
    try simp only [go_sem, strOp_add' hm3]
    obtain ⟨hm4, h⟩ := ite_some h
    try simp only [go_sem, strOp_add' hm3, strOp_add' hm4]
    cases h
    first | rfl | (simp only [go_sem, strOp_add' hm3, strOp_add' hm4]; done) | (simp only [go_sem, strOp_add' hm3, strOp_add' hm4]; rfl) | (simp [eName, eRegistry, eDefinition, eForest, eCustom, enames_span, eNode, eforest_trait, eAttr, eforest_key, hc2]; done)
noncomputable def P33 (a0 : List UInt8) : Option (Int) :=
  if (decide (1024 < (a0.length : Int))) = true then
    some (4)
  else
    (dec D.bool (pc prog 21 [.str a0])).bind fun r3 =>
    if (!r3) = true then
      some (12)
    else
      some (0)
theorem ok33 (a0 : List UInt8) (r : Int) (h : P33 a0 = some r) : pc prog 33 [.str a0] = some ((D.int .i64) r) := by
  unfold P33 at h
  refine pc_of (fn := c33) rfl rfl ?_
  delta c33
  try simp only [go_sem]
  first | refine WBr_splitN (fun hc1 => ?_) (fun hc2 => ?_) | refine WBr_split (fun hc1 => ?_) (fun hc2 => ?_)
  · rw [if_pos (show (decide (1024 < (a0.length : Int))) = true by first | exact hc1 | (rw [hc1]; rfl) | simpa using hc1)] at h
    try simp only [go_sem]
    cases h
    first | rfl | (simp only [go_sem]; done) | (simp only [go_sem]; rfl) | (simp [eName, eRegistry, eDefinition, eForest, eCustom, enames_span, eNode, eforest_trait, eAttr, eforest_key, hc1]; done)
  · rw [if_neg (show ¬ (decide (1024 < (a0.length : Int))) = true by first | (rw [hc2]; exact Bool.false_ne_true) | simpa using hc2 | (simp at hc2 ⊢; omega))] at h
    try simp only [go_sem]
    obtain ⟨r3, hr4, h⟩ := Option.bind_eq_some_iff.1 h
    replace hr4 := dec_some hr4
    first | refine WVal_pc hr4 ?_ | (simp only [eT2_eq, eT3_eq, eT4_eq, eT5_eq] at hr4; refine WVal_pc hr4 ?_)
    try simp only [go_sem]
    first | refine WBr_splitN (fun hc5 => ?_) (fun hc6 => ?_) | refine WBr_split (fun hc5 => ?_) (fun hc6 => ?_)
    · rw [if_pos (show (!r3) = true by first | exact hc5 | (rw [hc5]; rfl) | simpa using hc5)] at h
      try simp only [go_sem]
      cases h
      first | rfl | (simp only [go_sem]; done) | (simp only [go_sem]; rfl) | (simp [eName, eRegistry, eDefinition, eForest, eCustom, enames_span, eNode, eforest_trait, eAttr, eforest_key, hc2, hc5]; done)
    · rw [if_neg (show ¬ (!r3) = true by first | (rw [hc6]; exact Bool.false_ne_true) | simpa using hc6 | (simp at hc6 ⊢; omega))] at h
      try simp only [go_sem]
      cases h
      first | rfl | (simp only [go_sem]; done) | (simp only [go_sem]; rfl) | (simp [eName, eRegistry, eDefinition, eForest, eCustom, enames_span, eNode, eforest_trait, eAttr, eforest_key, hc2, hc6]; done)
noncomputable def P34 (a0 : List UInt8) : Option (Int) :=
  if (decide (1024 < (a0.length : Int))) = true then
    some (4)
  else
    (dec D.bool (pc prog 25 [.str a0])).bind fun r3 =>
    if (!r3) = true then
      some (12)
    else
      some (0)
theorem ok34 (a0 : List UInt8) (r : Int) (h : P34 a0 = some r) : pc prog 34 [.str a0] = some ((D.int .i64) r) := by
  unfold P34 at h
  refine pc_of (fn := c34) rfl rfl ?_
  delta c34
  try simp only [go_sem]
  first | refine WBr_splitN (fun hc1 => ?_) (fun hc2 => ?_) | refine WBr_split (fun hc1 => ?_) (fun hc2 => ?_)
  · rw [if_pos (show (decide (1024 < (a0.length : Int))) = true by first | exact hc1 | (rw [hc1]; rfl) | simpa using hc1)] at h
    try simp only [go_sem]
    cases h
    first | rfl | (simp only [go_sem]; done) | (simp only [go_sem]; rfl) | (simp [eName, eRegistry, eDefinition, eForest, eCustom, enames_span, eNode, eforest_trait, eAttr, eforest_key, hc1]; done)
  · rw [if_neg (show ¬ (decide (1024 < (a0.length : Int))) = true by first | (rw [hc2]; exact Bool.false_ne_true) | simpa using hc2 | (simp at hc2 ⊢; omega))] at h
    try simp only [go_sem]
    obtain ⟨r3, hr4, h⟩ := Option.bind_eq_some_iff.1 h
    replace hr4 := dec_some hr4
    first | refine WVal_pc hr4 ?_ | (simp only [eT2_eq, eT3_eq, eT4_eq, eT5_eq] at hr4; refine WVal_pc hr4 ?_)
    try simp only [go_sem]
    first | refine WBr_splitN (fun hc5 => ?_) (fun hc6 => ?_) | refine WBr_split (fun hc5 => ?_) (fun hc6 => ?_)
    · rw [if_pos (show (!r3) = true by first | exact hc5 | (rw [hc5]; rfl) | simpa using hc5)] at h
      try simp only [go_sem]
      cases h
      first | rfl | (simp only [go_sem]; done) | (simp only [go_sem]; rfl) | (simp [eName, eRegistry, eDefinition, eForest, eCustom, enames_span, eNode, eforest_trait, eAttr, eforest_key, hc2, hc5]; done)
    · rw [if_neg (show ¬ (!r3) = true by first | (rw [hc6]; exact Bool.false_ne_true) | simpa using hc6 | (simp at hc6 ⊢; omega))] at h
      try simp only [go_sem]
      cases h
      first | rfl | (simp only [go_sem]; done) | (simp only [go_sem]; rfl) | (simp [eName, eRegistry, eDefinition, eForest, eCustom, enames_span, eNode, eforest_trait, eAttr, eforest_key, hc2, hc6]; done)
noncomputable def P35 (a0 : List UInt8) (a1 : List UInt8) : Option (Name × Int) :=
  if (decide (1024 < (a0.length : Int))) = true then
    some ((⟨[], [], []⟩ : Name), 4)
  else
    (dec (D.int .i64) (pc prog 33 [.str a1])).bind fun r3 =>
    if (!(r3 == 0)) = true then
      some ((⟨[], [], []⟩ : Name), r3)
    else
      (dec (eT2 D.str D.str) (pc prog 20 [.str a1])).bind fun r7 =>
      if (!(bif (!(r7.1 == [])) then (a0 == []) else false)) = true then
        if (bif (bif (r7.1 == [120, 109, 108]) then (!(a0 == [104, 116, 116, 112, 58, 47, 47, 119, 119, 119, 46, 119, 51, 46, 111, 114, 103, 47, 88, 77, 76, 47, 49, 57, 57, 56, 47, 110, 97, 109, 101, 115, 112, 97, 99, 101])) else false) then true else (!((bif (a1 == [120, 109, 108, 110, 115]) then true else (r7.1 == [120, 109, 108, 110, 115])) == (a0 == [104, 116, 116, 112, 58, 47, 47, 119, 119, 119, 46, 119, 51, 46, 111, 114, 103, 47, 50, 48, 48, 48, 47, 120, 109, 108, 110, 115, 47])))) = true then
          some ((⟨[], [], []⟩ : Name), 13)
        else
          some ((⟨a0, r7.1, r7.2⟩ : Name), 0)
      else
        some ((⟨[], [], []⟩ : Name), 13)
theorem ok35 (a0 : List UInt8) (a1 : List UInt8) (r : Name × Int) (h : P35 a0 a1 = some r) : pc prog 35 [.str a0, .str a1] = some ((eT2 eName (D.int .i64)) r) := by
  unfold P35 at h
  refine pc_of (fn := c35) rfl rfl ?_
  delta c35
  try simp only [go_sem]
  first | refine WBr_splitN (fun hc1 => ?_) (fun hc2 => ?_) | refine WBr_split (fun hc1 => ?_) (fun hc2 => ?_)
  · rw [if_pos (show (decide (1024 < (a0.length : Int))) = true by first | exact hc1 | (rw [hc1]; rfl) | simpa using hc1)] at h
    try simp only [go_sem]
    cases h
    first | rfl | (simp only [go_sem]; done) | (simp only [go_sem]; rfl) | (simp [eName, eRegistry, eDefinition, eForest, eCustom, enames_span, eNode, eforest_trait, eAttr, eforest_key, hc1]; done)
  · rw [if_neg (show ¬ (decide (1024 < (a0.length : Int))) = true by first | (rw [hc2]; exact Bool.false_ne_true) | simpa using hc2 | (simp at hc2 ⊢; omega))] at h
    try simp only [go_sem]
    obtain ⟨r3, hr4, h⟩ := Option.bind_eq_some_iff.1 h
    replace hr4 := dec_some hr4
    first | refine WVal_pc hr4 ?_ | (simp only [eT2_eq, eT3_eq, eT4_eq, eT5_eq] at hr4; refine WVal_pc hr4 ?_)
    try simp only [go_sem]
    first | refine WBr_splitN (fun hc5 => ?_) (fun hc6 => ?_) | refine WBr_split (fun hc5 => ?_) (fun hc6 => ?_)
    · rw [if_pos (show (!(r3 == 0)) = true by first | exact hc5 | (rw [hc5]; rfl) | simpa using hc5)] at h
      try simp only [go_sem]
      cases h
      first | rfl | (simp only [go_sem]; done) | (simp only [go_sem]; rfl) | (simp [eName, eRegistry, eDefinition, eForest, eCustom, enames_span, eNode, eforest_trait, eAttr, eforest_key, hc2, hc5]; done)
    · rw [if_neg (show ¬ (!(r3 == 0)) = true by first | (rw [hc6]; exact Bool.false_ne_true) | simpa using hc6 | (simp at hc6 ⊢; omega))] at h
      try simp only [go_sem]
      obtain ⟨r7, hr8, h⟩ := Option.bind_eq_some_iff.1 h
      replace hr8 := dec_some hr8
      first | refine WVal_pc hr8 ?_ | (simp only [eT2_eq, eT3_eq, eT4_eq, eT5_eq] at hr8; refine WVal_pc hr8 ?_)
      try simp only [go_sem]
      refine WGuard_pure (v := .d (.str r7.1)) (fun hb29 => by skip; simp only [go_sem, hc2, hc6, hb29]) ?_
      try simp only [go_sem]
      refine WGuard_pure (v := .d (.bool (r7.1 == [120, 109, 108, 110, 115]))) (fun hb28 => by skip; simp only [go_sem, hc2, hc6, hb28]) ?_
      try simp only [go_sem]
      refine WGuard_pure (v := .d (.str a0)) (fun hb27 => by skip; simp only [go_sem, hc2, hc6, hb27]) ?_
      try simp only [go_sem]
      refine WGuard_pure (v := .d (.bool (a0 == []))) (fun hb26 => by skip; simp only [go_sem, hc2, hc6, hb26]) ?_
      try simp only [go_sem]
      refine WGuard_pure (v := .d (.str r7.1)) (fun hb25 => by skip; simp only [go_sem, hc2, hc6, hb25]) ?_
      try simp only [go_sem]
      refine WGuard_pure (v := .d (.bool (r7.1 == [120, 109, 108]))) (fun hb24 => by skip; simp only [go_sem, hc2, hc6, hb24]) ?_
      try simp only [go_sem]
      refine WGuard_pure (v := .d (.bool (r7.1 == [120, 109, 108]))) (fun hb23 => by skip; simp only [go_sem, hc2, hc6, hb23]) ?_
      try simp only [go_sem]
      refine WGuard_pure (v := .d (.str a0)) (fun hb20 => by ((obtain ⟨hb21, hb22⟩ := bif_true hb20)); simp only [go_sem, hc2, hc6, hb22, hb21]) ?_
      try simp only [go_sem]
      refine WGuard_pure (v := .d (.bool (!(a0 == [104, 116, 116, 112, 58, 47, 47, 119, 119, 119, 46, 119, 51, 46, 111, 114, 103, 47, 88, 77, 76, 47, 49, 57, 57, 56, 47, 110, 97, 109, 101, 115, 112, 97, 99, 101])))) (fun hb17 => by ((obtain ⟨hb18, hb19⟩ := bif_true hb17)); simp only [go_sem, hc2, hc6, hb19, hb18]) ?_
      try simp only [go_sem]
      first | refine WGuard_splitN (fun hc9 => ?_) (fun hc10 => ?_) | refine WGuard_split (fun hc9 => ?_) (fun hc10 => ?_)
      · rw [if_pos (show (!(bif (!(r7.1 == [])) then (a0 == []) else false)) = true by first | exact hc9 | (rw [hc9]; rfl) | simpa using hc9)] at h
        try simp only [go_sem, hc9]
        refine WGuard_pure (v := .d (.bool (bif (a1 == [120, 109, 108, 110, 115]) then true else (r7.1 == [120, 109, 108, 110, 115])))) (fun hb16 => by skip; simp only [go_sem, hc2, hc6, hc9, hb16]) ?_
        try simp only [go_sem]
        refine WGuard_pure (v := .d (.str a0)) (fun hb15 => by skip; simp only [go_sem, hc2, hc6, hc9, hb15]) ?_
        try simp only [go_sem]
        refine WGuard_pure (v := .d (.bool (a0 == [104, 116, 116, 112, 58, 47, 47, 119, 119, 119, 46, 119, 51, 46, 111, 114, 103, 47, 50, 48, 48, 48, 47, 120, 109, 108, 110, 115, 47]))) (fun hb14 => by skip; simp only [go_sem, hc2, hc6, hc9, hb14]) ?_
        try simp only [go_sem]
        refine WGuard_pure (v := .d (.bool (!((bif (a1 == [120, 109, 108, 110, 115]) then true else (r7.1 == [120, 109, 108, 110, 115])) == (a0 == [104, 116, 116, 112, 58, 47, 47, 119, 119, 119, 46, 119, 51, 46, 111, 114, 103, 47, 50, 48, 48, 48, 47, 120, 109, 108, 110, 115, 47]))))) (fun hb13 => by skip; simp only [go_sem, hc2, hc6, hc9, hb13]) ?_
        try simp only [go_sem]
        first | refine WBr_splitN (fun hc11 => ?_) (fun hc12 => ?_) | refine WBr_split (fun hc11 => ?_) (fun hc12 => ?_)
        · rw [if_pos (show (bif (bif (r7.1 == [120, 109, 108]) then (!(a0 == [104, 116, 116, 112, 58, 47, 47, 119, 119, 119, 46, 119, 51, 46, 111, 114, 103, 47, 88, 77, 76, 47, 49, 57, 57, 56, 47, 110, 97, 109, 101, 115, 112, 97, 99, 101])) else false) then true else (!((bif (a1 == [120, 109, 108, 110, 115]) then true else (r7.1 == [120, 109, 108, 110, 115])) == (a0 == [104, 116, 116, 112, 58, 47, 47, 119, 119, 119, 46, 119, 51, 46, 111, 114, 103, 47, 50, 48, 48, 48, 47, 120, 109, 108, 110, 115, 47])))) = true by first | exact hc11 | (rw [hc11]; rfl) | simpa using hc11)] at h
          try simp only [go_sem]
          cases h
          first | rfl | (simp only [go_sem]; done) | (simp only [go_sem]; rfl) | (simp [eName, eRegistry, eDefinition, eForest, eCustom, enames_span, eNode, eforest_trait, eAttr, eforest_key, hc2, hc6, hc9, hc11]; done)
        · rw [if_neg (show ¬ (bif (bif (r7.1 == [120, 109, 108]) then (!(a0 == [104, 116, 116, 112, 58, 47, 47, 119, 119, 119, 46, 119, 51, 46, 111, 114, 103, 47, 88, 77, 76, 47, 49, 57, 57, 56, 47, 110, 97, 109, 101, 115, 112, 97, 99, 101])) else false) then true else (!((bif (a1 == [120, 109, 108, 110, 115]) then true else (r7.1 == [120, 109, 108, 110, 115])) == (a0 == [104, 116, 116, 112, 58, 47, 47, 119, 119, 119, 46, 119, 51, 46, 111, 114, 103, 47, 50, 48, 48, 48, 47, 120, 109, 108, 110, 115, 47])))) = true by first | (rw [hc12]; exact Bool.false_ne_true) | simpa using hc12 | (simp at hc12 ⊢; omega))] at h
          try simp only [go_sem]
          cases h
          first | rfl | (simp only [go_sem]; done) | (simp only [go_sem]; rfl) | (simp [eName, eRegistry, eDefinition, eForest, eCustom, enames_span, eNode, eforest_trait, eAttr, eforest_key, hc2, hc6, hc9, hc12]; done)
      · rw [if_neg (show ¬ (!(bif (!(r7.1 == [])) then (a0 == []) else false)) = true by first | (rw [hc10]; exact Bool.false_ne_true) | simpa using hc10 | (simp at hc10 ⊢; omega))] at h
        try simp only [go_sem, hc10]
        cases h
        first | rfl | (simp only [go_sem]; done) | (simp only [go_sem]; rfl) | (simp [eName, eRegistry, eDefinition, eForest, eCustom, enames_span, eNode, eforest_trait, eAttr, eforest_key, hc2, hc6, hc10]; done)
noncomputable def P36 (a0 : List UInt8) (a1 : List UInt8) : Option (Name × Int) :=
  if (decide (1024 < (a0.length : Int))) = true then
    some ((⟨[], [], []⟩ : Name), 4)
  else
    (dec (D.int .i64) (pc prog 34 [.str a1])).bind fun r3 =>
    if (!(r3 == 0)) = true then
      some ((⟨[], [], []⟩ : Name), r3)
    else
      (dec (eT2 D.str D.str) (pc prog 30 [.str a1])).bind fun r7 =>
      if (!(bif (!(r7.1 == [])) then (a0 == []) else false)) = true then
        if (bif (bif (r7.1 == [120, 109, 108]) then (!(a0 == [104, 116, 116, 112, 58, 47, 47, 119, 119, 119, 46, 119, 51, 46, 111, 114, 103, 47, 88, 77, 76, 47, 49, 57, 57, 56, 47, 110, 97, 109, 101, 115, 112, 97, 99, 101])) else false) then true else (!((bif (a1 == [120, 109, 108, 110, 115]) then true else (r7.1 == [120, 109, 108, 110, 115])) == (a0 == [104, 116, 116, 112, 58, 47, 47, 119, 119, 119, 46, 119, 51, 46, 111, 114, 103, 47, 50, 48, 48, 48, 47, 120, 109, 108, 110, 115, 47])))) = true then
          some ((⟨[], [], []⟩ : Name), 13)
        else
          some ((⟨a0, r7.1, r7.2⟩ : Name), 0)
      else
        some ((⟨[], [], []⟩ : Name), 13)
theorem ok36 (a0 : List UInt8) (a1 : List UInt8) (r : Name × Int) (h : P36 a0 a1 = some r) : pc prog 36 [.str a0, .str a1] = some ((eT2 eName (D.int .i64)) r) := by
  unfold P36 at h
  refine pc_of (fn := c36) rfl rfl ?_
  delta c36
  try simp only [go_sem]
  first | refine WBr_splitN (fun hc1 => ?_) (fun hc2 => ?_) | refine WBr_split (fun hc1 => ?_) (fun hc2 => ?_)
  · rw [if_pos (show (decide (1024 < (a0.length : Int))) = true by first | exact hc1 | (rw [hc1]; rfl) | simpa using hc1)] at h
    try simp only [go_sem]
    cases h
    first | rfl | (simp only [go_sem]; done) | (simp only [go_sem]; rfl) | (simp [eName, eRegistry, eDefinition, eForest, eCustom, enames_span, eNode, eforest_trait, eAttr, eforest_key, hc1]; done)
  · rw [if_neg (show ¬ (decide (1024 < (a0.length : Int))) = true by first | (rw [hc2]; exact Bool.false_ne_true) | simpa using hc2 | (simp at hc2 ⊢; omega))] at h
    try simp only [go_sem]
    obtain ⟨r3, hr4, h⟩ := Option.bind_eq_some_iff.1 h
    replace hr4 := dec_some hr4
    first | refine WVal_pc hr4 ?_ | (simp only [eT2_eq, eT3_eq, eT4_eq, eT5_eq] at hr4; refine WVal_pc hr4 ?_)
    try simp only [go_sem]
    first | refine WBr_splitN (fun hc5 => ?_) (fun hc6 => ?_) | refine WBr_split (fun hc5 => ?_) (fun hc6 => ?_)
    · rw [if_pos (show (!(r3 == 0)) = true by first | exact hc5 | (rw [hc5]; rfl) | simpa using hc5)] at h
      try simp only [go_sem]
      cases h
      first | rfl | (simp only [go_sem]; done) | (simp only [go_sem]; rfl) | (simp [eName, eRegistry, eDefinition, eForest, eCustom, enames_span, eNode, eforest_trait, eAttr, eforest_key, hc2, hc5]; done)
    · rw [if_neg (show ¬ (!(r3 == 0)) = true by first | (rw [hc6]; exact Bool.false_ne_true) | simpa using hc6 | (simp at hc6 ⊢; omega))] at h
      try simp only [go_sem]
      obtain ⟨r7, hr8, h⟩ := Option.bind_eq_some_iff.1 h
      replace hr8 := dec_some hr8
      first | refine WVal_pc hr8 ?_ | (simp only [eT2_eq, eT3_eq, eT4_eq, eT5_eq] at hr8; refine WVal_pc hr8 ?_)
      try simp only [go_sem]
      refine WGuard_pure (v := .d (.str r7.1)) (fun hb29 => by skip; simp only [go_sem, hc2, hc6, hb29]) ?_
      try simp only [go_sem]
      refine WGuard_pure (v := .d (.bool (r7.1 == [120, 109, 108, 110, 115]))) (fun hb28 => by skip; simp only [go_sem, hc2, hc6, hb28]) ?_
      try simp only [go_sem]
      refine WGuard_pure (v := .d (.str a0)) (fun hb27 => by skip; simp only [go_sem, hc2, hc6, hb27]) ?_
      try simp only [go_sem]
      refine WGuard_pure (v := .d (.bool (a0 == []))) (fun hb26 => by skip; simp only [go_sem, hc2, hc6, hb26]) ?_
      try simp only [go_sem]
      refine WGuard_pure (v := .d (.str r7.1)) (fun hb25 => by skip; simp only [go_sem, hc2, hc6, hb25]) ?_
      try simp only [go_sem]
      refine WGuard_pure (v := .d (.bool (r7.1 == [120, 109, 108]))) (fun hb24 => by skip; simp only [go_sem, hc2, hc6, hb24]) ?_
      try simp only [go_sem]
      refine WGuard_pure (v := .d (.bool (r7.1 == [120, 109, 108]))) (fun hb23 => by skip; simp only [go_sem, hc2, hc6, hb23]) ?_
      try simp only [go_sem]
      refine WGuard_pure (v := .d (.str a0)) (fun hb20 => by ((obtain ⟨hb21, hb22⟩ := bif_true hb20)); simp only [go_sem, hc2, hc6, hb22, hb21]) ?_
      try simp only [go_sem]
      refine WGuard_pure (v := .d (.bool (!(a0 == [104, 116, 116, 112, 58, 47, 47, 119, 119, 119, 46, 119, 51, 46, 111, 114, 103, 47, 88, 77, 76, 47, 49, 57, 57, 56, 47, 110, 97, 109, 101, 115, 112, 97, 99, 101])))) (fun hb17 => by ((obtain ⟨hb18, hb19⟩ := bif_true hb17)); simp only [go_sem, hc2, hc6, hb19, hb18]) ?_
      try simp only [go_sem]
      first | refine WGuard_splitN (fun hc9 => ?_) (fun hc10 => ?_) | refine WGuard_split (fun hc9 => ?_) (fun hc10 => ?_)
      · rw [if_pos (show (!(bif (!(r7.1 == [])) then (a0 == []) else false)) = true by first | exact hc9 | (rw [hc9]; rfl) | simpa using hc9)] at h
        try simp only [go_sem, hc9]
        refine WGuard_pure (v := .d (.bool (bif (a1 == [120, 109, 108, 110, 115]) then true else (r7.1 == [120, 109, 108, 110, 115])))) (fun hb16 => by skip; simp only [go_sem, hc2, hc6, hc9, hb16]) ?_
        try simp only [go_sem]
        refine WGuard_pure (v := .d (.str a0)) (fun hb15 => by skip; simp only [go_sem, hc2, hc6, hc9, hb15]) ?_
        try simp only [go_sem]
        refine WGuard_pure (v := .d (.bool (a0 == [104, 116, 116, 112, 58, 47, 47, 119, 119, 119, 46, 119, 51, 46, 111, 114, 103, 47, 50, 48, 48, 48, 47, 120, 109, 108, 110, 115, 47]))) (fun hb14 => by skip; simp only [go_sem, hc2, hc6, hc9, hb14]) ?_
        try simp only [go_sem]
        refine WGuard_pure (v := .d (.bool (!((bif (a1 == [120, 109, 108, 110, 115]) then true else (r7.1 == [120, 109, 108, 110, 115])) == (a0 == [104, 116, 116, 112, 58, 47, 47, 119, 119, 119, 46, 119, 51, 46, 111, 114, 103, 47, 50, 48, 48, 48, 47, 120, 109, 108, 110, 115, 47]))))) (fun hb13 => by skip; simp only [go_sem, hc2, hc6, hc9, hb13]) ?_
        try simp only [go_sem]
        first | refine WBr_splitN (fun hc11 => ?_) (fun hc12 => ?_) | refine WBr_split (fun hc11 => ?_) (fun hc12 => ?_)
        · rw [if_pos (show (bif (bif (r7.1 == [120, 109, 108]) then (!(a0 == [104, 116, 116, 112, 58, 47, 47, 119, 119, 119, 46, 119, 51, 46, 111, 114, 103, 47, 88, 77, 76, 47, 49, 57, 57, 56, 47, 110, 97, 109, 101, 115, 112, 97, 99, 101])) else false) then true else (!((bif (a1 == [120, 109, 108, 110, 115]) then true else (r7.1 == [120, 109, 108, 110, 115])) == (a0 == [104, 116, 116, 112, 58, 47, 47, 119, 119, 119, 46, 119, 51, 46, 111, 114, 103, 47, 50, 48, 48, 48, 47, 120, 109, 108, 110, 115, 47])))) = true by first | exact hc11 | (rw [hc11]; rfl) | simpa using hc11)] at h
          try simp only [go_sem]
          cases h
          first | rfl | (simp only [go_sem]; done) | (simp only [go_sem]; rfl) | (simp [eName, eRegistry, eDefinition, eForest, eCustom, enames_span, eNode, eforest_trait, eAttr, eforest_key, hc2, hc6, hc9, hc11]; done)
        · rw [if_neg (show ¬ (bif (bif (r7.1 == [120, 109, 108]) then (!(a0 == [104, 116, 116, 112, 58, 47, 47, 119, 119, 119, 46, 119, 51, 46, 111, 114, 103, 47, 88, 77, 76, 47, 49, 57, 57, 56, 47, 110, 97, 109, 101, 115, 112, 97, 99, 101])) else false) then true else (!((bif (a1 == [120, 109, 108, 110, 115]) then true else (r7.1 == [120, 109, 108, 110, 115])) == (a0 == [104, 116, 116, 112, 58, 47, 47, 119, 119, 119, 46, 119, 51, 46, 111, 114, 103, 47, 50, 48, 48, 48, 47, 120, 109, 108, 110, 115, 47])))) = true by first | (rw [hc12]; exact Bool.false_ne_true) | simpa using hc12 | (simp at hc12 ⊢; omega))] at h
          try simp only [go_sem]
          cases h
          first | rfl | (simp only [go_sem]; done) | (simp only [go_sem]; rfl) | (simp [eName, eRegistry, eDefinition, eForest, eCustom, enames_span, eNode, eforest_trait, eAttr, eforest_key, hc2, hc6, hc9, hc12]; done)
      · rw [if_neg (show ¬ (!(bif (!(r7.1 == [])) then (a0 == []) else false)) = true by first | (rw [hc10]; exact Bool.false_ne_true) | simpa using hc10 | (simp at hc10 ⊢; omega))] at h
        try simp only [go_sem, hc10]
        cases h
        first | rfl | (simp only [go_sem]; done) | (simp only [go_sem]; rfl) | (simp [eName, eRegistry, eDefinition, eForest, eCustom, enames_span, eNode, eforest_trait, eAttr, eforest_key, hc2, hc6, hc10]; done)
noncomputable def P37 (a0 : Name) : Option (Bool) :=
  (dec D.str (pc prog 31 [eName a0])).bind fun r1 =>
  (dec (eT2 eName (D.int .i64)) (pc prog 35 [.str a0.space, .str r1])).bind fun r3 =>
  some (bif (r3.2 == 0) then (decide (r3.1 = a0)) else false)
theorem ok37 (a0 : Name) (r : Bool) (h : P37 a0 = some r) : pc prog 37 [eName a0] = some (D.bool r) := by
  unfold P37 at h
  refine pc_of (fn := c37) rfl rfl ?_
  delta c37
  try simp only [go_sem]
  obtain ⟨r1, hr2, h⟩ := Option.bind_eq_some_iff.1 h
  replace hr2 := dec_some hr2
  first | refine WVal_pc hr2 ?_ | (simp only [eT2_eq, eT3_eq, eT4_eq, eT5_eq] at hr2; refine WVal_pc hr2 ?_)
  try simp only [go_sem]
  obtain ⟨r3, hr4, h⟩ := Option.bind_eq_some_iff.1 h
  replace hr4 := dec_some hr4
  first | refine WVal_pc hr4 ?_ | (simp only [eT2_eq, eT3_eq, eT4_eq, eT5_eq] at hr4; refine WVal_pc hr4 ?_)
  try simp only [go_sem]
  refine WGuard_pure (v := .d (eName r3.1)) (fun hb7 => by skip; simp only [go_sem, hb7]) ?_
  try simp only [go_sem]
  refine WGuard_pure (v := .d (eName a0)) (fun hb6 => by skip; simp only [go_sem, hb6]) ?_
  try simp only [go_sem]
  refine WGuard_pure (v := .d (.bool (decide (r3.1 = a0)))) (fun hb5 => by skip; simp only [go_sem, hb5]) ?_
  try simp only [go_sem]
  cases h
  first | rfl | (simp only [go_sem]; done) | (simp only [go_sem]; rfl) | (simp [eName, eRegistry, eDefinition, eForest, eCustom, enames_span, eNode, eforest_trait, eAttr, eforest_key]; done)
noncomputable def P38 (a0 : Name) : Option (Bool) :=
  (dec D.str (pc prog 32 [eName a0])).bind fun r1 =>
  (dec (eT2 eName (D.int .i64)) (pc prog 36 [.str a0.space, .str r1])).bind fun r3 =>
  some (bif (r3.2 == 0) then (decide (r3.1 = a0)) else false)
theorem ok38 (a0 : Name) (r : Bool) (h : P38 a0 = some r) : pc prog 38 [eName a0] = some (D.bool r) := by
  unfold P38 at h
  refine pc_of (fn := c38) rfl rfl ?_
  delta c38
  try simp only [go_sem]
  obtain ⟨r1, hr2, h⟩ := Option.bind_eq_some_iff.1 h
  replace hr2 := dec_some hr2
  first | refine WVal_pc hr2 ?_ | (simp only [eT2_eq, eT3_eq, eT4_eq, eT5_eq] at hr2; refine WVal_pc hr2 ?_)
  try simp only [go_sem]
  obtain ⟨r3, hr4, h⟩ := Option.bind_eq_some_iff.1 h
  replace hr4 := dec_some hr4
  first | refine WVal_pc hr4 ?_ | (simp only [eT2_eq, eT3_eq, eT4_eq, eT5_eq] at hr4; refine WVal_pc hr4 ?_)
  try simp only [go_sem]
  refine WGuard_pure (v := .d (eName r3.1)) (fun hb7 => by skip; simp only [go_sem, hb7]) ?_
  try simp only [go_sem]
  refine WGuard_pure (v := .d (eName a0)) (fun hb6 => by skip; simp only [go_sem, hb6]) ?_
  try simp only [go_sem]
  refine WGuard_pure (v := .d (.bool (decide (r3.1 = a0)))) (fun hb5 => by skip; simp only [go_sem, hb5]) ?_
  try simp only [go_sem]
  cases h
  first | rfl | (simp only [go_sem]; done) | (simp only [go_sem]; rfl) | (simp [eName, eRegistry, eDefinition, eForest, eCustom, enames_span, eNode, eforest_trait, eAttr, eforest_key]; done)
def L52_0_S (a0 : Int) (a1 : Sl (names_span)) (x0 : Int) : St := ⟨((((Regs.none.set 0 (.d (.list a1.n (a1.l.map enames_span)))).set 1 (.clo 87 [] [.ptr 0 0 0])).set 7 (.d (.int .i64 (a1.l.length : Int)))).set 8 (.d (.int .i64 x0))), ((Heap.at 16).set 0 (some (.els 1 [.d (.int .i32 a0)] 0)))⟩
def L52_0_F (a0 : Int) (a1 : Sl (names_span)) : ((Unit) ⊕ (Int)) → Ex × St := fun r => match r with
  | (.inl r) => (.exit 0, ⟨Regs.none, ((Heap.at 16).set 0 (some (.els 1 [.d (.int .i32 a0)] 0)))⟩)
  | (.inr r) => (.ret, ⟨(Regs.none.set 4 (.d (.int .i64 r))), ((Heap.at 16).set 0 (some (.els 1 [.d (.int .i32 a0)] 0)))⟩)
noncomputable def L52_0_step (a0 : Int) (a1 : Sl (names_span)) (x0 : Int) : Option ((Int) ⊕ ((Unit) ⊕ (Int))) :=
  if (decide (x0 < (a1.l.length : Int))) = true then
    (rd a1.l x0).bind fun y3 =>
    if (bif (decide (y3.from_ ≤ a0)) then (decide (a0 ≤ y3.to)) else false) = true then
      some (.inr (.inr x0))
    else
      some (.inl (IntKind.wrap .i64 (x0 + 1)))
  else
    some (.inr (.inl ()))
theorem L52_0_ok (a0 : Int) (a1 : Sl (names_span)) (x0 : Int) (o : (Int) ⊕ ((Unit) ⊕ (Int))) (h : L52_0_step a0 a1 x0 = some o) : Wp prog c108B0 (L52_0_S a0 a1 x0) (LPost 12 (L52_0_S a0 a1) (L52_0_F a0 a1) o) := by
  unfold L52_0_step at h
  delta c108B0 L52_0_S
  try simp only [go_sem]
  first | refine WBr_splitN (fun hc1 => ?_) (fun hc2 => ?_) | refine WBr_split (fun hc1 => ?_) (fun hc2 => ?_)
  · rw [if_pos (show (decide (x0 < (a1.l.length : Int))) = true by first | exact hc1 | (rw [hc1]; rfl) | simpa using hc1)] at h
    try simp only [go_sem]
    obtain ⟨y3, hy4, h⟩ := Option.bind_eq_some_iff.1 h
    try simp only [go_sem, rd_pos hy4, rd_ge hy4, rd_map enames_span hy4]
    refine WVal_inlC (fn := c87) rfl rfl ?_
    delta c87
    try simp only [go_sem, rd_pos hy4, rd_ge hy4, rd_map enames_span hy4]
    refine WGuard_pure (v := .d (.int .i32 a0)) (fun hb10 => by skip; simp only [go_sem, rd_pos hy4, rd_ge hy4, rd_map enames_span hy4, hc1, hb10]) ?_
    try simp only [go_sem, rd_pos hy4, rd_ge hy4, rd_map enames_span hy4]
    refine WGuard_pure (v := .ptr 25 0 1) (fun hb9 => by skip; simp only [go_sem, rd_pos hy4, rd_ge hy4, rd_map enames_span hy4, hc1, hb9]) ?_
    try simp only [go_sem, rd_pos hy4, rd_ge hy4, rd_map enames_span hy4]
    refine WGuard_pure (v := .d (.int .i32 y3.to)) (fun hb8 => by skip; simp only [go_sem, rd_pos hy4, rd_ge hy4, rd_map enames_span hy4, hc1, hb8]) ?_
    try simp only [go_sem, rd_pos hy4, rd_ge hy4, rd_map enames_span hy4]
    refine WGuard_pure (v := .d (.bool (decide (a0 ≤ y3.to)))) (fun hb7 => by skip; simp only [go_sem, rd_pos hy4, rd_ge hy4, rd_map enames_span hy4, hc1, hb7]) ?_
    try simp only [go_sem, rd_pos hy4, rd_ge hy4, rd_map enames_span hy4]
    first | refine WBr_splitN (fun hc5 => ?_) (fun hc6 => ?_) | refine WBr_split (fun hc5 => ?_) (fun hc6 => ?_)
    · rw [if_pos (show (bif (decide (y3.from_ ≤ a0)) then (decide (a0 ≤ y3.to)) else false) = true by first | exact hc5 | (rw [hc5]; rfl) | simpa using hc5)] at h
      try simp only [go_sem, rd_pos hy4, rd_ge hy4, rd_map enames_span hy4]
      cases h
      exact ⟨rfl, by simp, Up.of (N := 16) (N' := 40) [] rfl rfl (by decide) (.set (.d _) RegsR.none) (.set BlkR.refl_d BlksR.at)⟩
    · rw [if_neg (show ¬ (bif (decide (y3.from_ ≤ a0)) then (decide (a0 ≤ y3.to)) else false) = true by first | (rw [hc6]; exact Bool.false_ne_true) | simpa using hc6 | (simp at hc6 ⊢; omega))] at h
      try simp only [go_sem, rd_pos hy4, rd_ge hy4, rd_map enames_span hy4]
      cases h
      exact ⟨rfl, Up.of (N := 16) (N' := 40) [] rfl rfl (by decide) (.set (.d _) (.set (.d _) (.set (.clo' .nil (.cons (.ptr' rfl) .nil)) (.set (.d _) RegsR.none)))) (.set BlkR.refl_d BlksR.at)⟩
  · rw [if_neg (show ¬ (decide (x0 < (a1.l.length : Int))) = true by first | (rw [hc2]; exact Bool.false_ne_true) | simpa using hc2 | (simp at hc2 ⊢; omega))] at h
    try simp only [go_sem]
    cases h
    exact ⟨rfl, by simp, Up.of (N := 16) (N' := 17) [] rfl rfl (by decide) RegsR.none (.set BlkR.refl_d BlksR.at)⟩
noncomputable def P52 (a0 : Int) (a1 : Sl (names_span)) : Option (Bool) :=
  (loopV (L52_0_step a0 a1) 0).bind fun r11 =>
  match r11 with
  | (.inl q13) =>
    some false
  | (.inr q14) =>
    some (decide (0 ≤ q14))
theorem ok52 (a0 : Int) (a1 : Sl (names_span)) (r : Bool) (h : P52 a0 a1 = some r) : pc prog 52 [.int .i32 a0, .list a1.n (a1.l.map enames_span)] = some (D.bool r) := by
  unfold P52 at h
  refine pc_of (fn := c52) rfl rfl ?_
  delta c52
  try simp only [go_sem]
  refine WVal_inl (fn := c86) rfl rfl ?_
  delta c86
  try simp only [go_sem]
  refine WVal_inl (fn := c108) rfl rfl ?_
  delta c108
  try simp only [go_sem]
  obtain ⟨r11, hl12, h⟩ := Option.bind_eq_some_iff.1 h
  refine Wp.loopR locs (n := 12) (a := c108B0) rfl (L52_0_S a0 a1) (L52_0_F a0 a1) (L52_0_ok a0 a1) hl12 ?_ (by (repeat (first | refine Clo.block ?_ | refine Clo.seq locs rfl ?_)); refine Clo.inl locs (n' := 6) rfl rfl rfl ?_ ?_ (show 7 + 5 ≤ _ from by decide) (by decide) ?_; ((repeat (first | exact SelfR.no | exact SelfR.none | refine SelfR.set ?_ ?_ | refine SelfR.args ?_ | exact SelfL.nil | refine SelfL.cons ?_ ?_ | exact Self.d | exact Self.undef | exact Self.rp | exact Self.ptr (by decide) | exact Self.sl (by decide) | exact Self.mb (by decide) | exact Self.map (by decide) | exact Self.yld (by decide) | exact Self.it (by decide) | refine Self.clo ?_ ?_ | refine Self.ofCells ?_ | refine Self.agg ?_ | refine Self.tuple ?_ | refine Self.bif ?_ ?_)); (repeat (first | exact SelfR.no | exact SelfR.none | refine SelfR.set ?_ ?_ | refine SelfR.args ?_ | exact SelfL.nil | refine SelfL.cons ?_ ?_ | exact Self.d | exact Self.undef | exact Self.rp | exact Self.ptr (by decide) | exact Self.sl (by decide) | exact Self.mb (by decide) | exact Self.map (by decide) | exact Self.yld (by decide) | exact Self.it (by decide) | refine Self.clo ?_ ?_ | refine Self.ofCells ?_ | refine Self.agg ?_ | refine Self.tuple ?_ | refine Self.bif ?_ ?_))); (repeat (first | refine Clo.block ?_ | refine Clo.seq locs rfl ?_)); refine Clo.inl locs (n' := 0) rfl rfl rfl ?_ ?_ (show 2 + 4 ≤ _ from by decide) (by decide) ?_; ((repeat (first | exact SelfR.no | exact SelfR.none | refine SelfR.set ?_ ?_ | refine SelfR.args ?_ | exact SelfL.nil | refine SelfL.cons ?_ ?_ | exact Self.d | exact Self.undef | exact Self.rp | exact Self.ptr (by decide) | exact Self.sl (by decide) | exact Self.mb (by decide) | exact Self.map (by decide) | exact Self.yld (by decide) | exact Self.it (by decide) | refine Self.clo ?_ ?_ | refine Self.ofCells ?_ | refine Self.agg ?_ | refine Self.tuple ?_ | refine Self.bif ?_ ?_)); (repeat (first | exact SelfR.no | exact SelfR.none | refine SelfR.set ?_ ?_ | refine SelfR.args ?_ | exact SelfL.nil | refine SelfL.cons ?_ ?_ | exact Self.d | exact Self.undef | exact Self.rp | exact Self.ptr (by decide) | exact Self.sl (by decide) | exact Self.mb (by decide) | exact Self.map (by decide) | exact Self.yld (by decide) | exact Self.it (by decide) | refine Self.clo ?_ ?_ | refine Self.ofCells ?_ | refine Self.agg ?_ | refine Self.tuple ?_ | refine Self.bif ?_ ?_))); (repeat (first | refine Clo.block ?_ | refine Clo.seq locs rfl ?_)); (first | exact Clo.ret | exact Clo.lpost | exact Clo.cpost)) ?_
  · show Up 12 (L52_0_S a0 a1 0) _
    delta L52_0_S
    exact Up.of (N := 16) (N' := 16) [] rfl rfl (by decide) (.set (.d _) (.set (.d _) (.set (.clo' .nil (.cons (.ptr' rfl) .nil)) (.set (.d _) RegsR.none)))) (.set BlkR.refl_d BlksR.at)
  · rcases r11 with (q13 | q14)
    · dsimp only at h
      dsimp only [L52_0_F]
      try simp only [go_sem]
      cases h
      first | rfl | (simp only [go_sem]; done) | (simp only [go_sem]; rfl) | (simp [eName, eRegistry, eDefinition, eForest, eCustom, enames_span, eNode, eforest_trait, eAttr, eforest_key]; done)
    · dsimp only at h
      dsimp only [L52_0_F]
      try simp only [go_sem]
      cases h
      first | rfl | (simp only [go_sem]; done) | (simp only [go_sem]; rfl) | (simp [eName, eRegistry, eDefinition, eForest, eCustom, enames_span, eNode, eforest_trait, eAttr, eforest_key]; done)
noncomputable def P54 (a0 : Int) : Option (Bool) :=
  if (!(bif (decide (880 ≤ a0)) then (decide (a0 ≤ 893)) else false)) = true then
    if (!(bif (decide (895 ≤ a0)) then (decide (a0 ≤ 8191)) else false)) = true then
      if (!(bif (decide (8204 ≤ a0)) then (decide (a0 ≤ 8205)) else false)) = true then
        if (!(bif (decide (8304 ≤ a0)) then (decide (a0 ≤ 8591)) else false)) = true then
          if (!(bif (decide (11264 ≤ a0)) then (decide (a0 ≤ 12271)) else false)) = true then
            if (!(bif (decide (12289 ≤ a0)) then (decide (a0 ≤ 55295)) else false)) = true then
              if (!(bif (decide (63744 ≤ a0)) then (decide (a0 ≤ 64975)) else false)) = true then
                if (!(bif (decide (65008 ≤ a0)) then (decide (a0 ≤ 65533)) else false)) = true then
                  some (bif (decide (65536 ≤ a0)) then (decide (a0 ≤ 983039)) else false)
                else
                  some true
              else
                some true
            else
              some true
          else
            some true
        else
          some true
      else
        some true
    else
      some true
  else
    some true
theorem ok54 (a0 : Int) (r : Bool) (h : P54 a0 = some r) : pc prog 54 [.int .i32 a0] = some (D.bool r) := by
  unfold P54 at h
  refine pc_of (fn := c54) rfl rfl ?_
  delta c54
  try simp only [go_sem]
  refine WGuard_pure (v := .d (.int .i32 a0)) (fun hb90 => by skip; simp only [go_sem, hb90]) ?_
  try simp only [go_sem]
  refine WGuard_pure (v := .d (.bool (decide (a0 ≤ 893)))) (fun hb89 => by skip; simp only [go_sem, hb89]) ?_
  try simp only [go_sem]
  refine WGuard_pure (v := .d (.int .i32 a0)) (fun hb88 => by skip; simp only [go_sem, hb88]) ?_
  try simp only [go_sem]
  refine WGuard_pure (v := .d (.bool (decide (895 ≤ a0)))) (fun hb87 => by skip; simp only [go_sem, hb87]) ?_
  try simp only [go_sem]
  refine WGuard_pure (v := .d (.bool (decide (895 ≤ a0)))) (fun hb86 => by skip; simp only [go_sem, hb86]) ?_
  try simp only [go_sem]
  refine WGuard_pure (v := .d (.int .i32 a0)) (fun hb83 => by ((obtain ⟨hb84, hb85⟩ := bif_true hb83)); simp only [go_sem, hb85, hb84]) ?_
  try simp only [go_sem]
  refine WGuard_pure (v := .d (.bool (decide (a0 ≤ 8191)))) (fun hb80 => by ((obtain ⟨hb81, hb82⟩ := bif_true hb80)); simp only [go_sem, hb82, hb81]) ?_
  try simp only [go_sem]
  first | refine WGuard_splitN (fun hc1 => ?_) (fun hc2 => ?_) | refine WGuard_split (fun hc1 => ?_) (fun hc2 => ?_)
  · rw [if_pos (show (!(bif (decide (880 ≤ a0)) then (decide (a0 ≤ 893)) else false)) = true by first | exact hc1 | (rw [hc1]; rfl) | simpa using hc1)] at h
    try simp only [go_sem, hc1]
    refine WGuard_pure (v := .d (.int .i32 a0)) (fun hb79 => by skip; simp only [go_sem, hc1, hb79]) ?_
    try simp only [go_sem]
    refine WGuard_pure (v := .d (.bool (decide (8204 ≤ a0)))) (fun hb78 => by skip; simp only [go_sem, hc1, hb78]) ?_
    try simp only [go_sem]
    refine WGuard_pure (v := .d (.bool (decide (8204 ≤ a0)))) (fun hb77 => by skip; simp only [go_sem, hc1, hb77]) ?_
    try simp only [go_sem]
    refine WGuard_pure (v := .d (.int .i32 a0)) (fun hb74 => by ((obtain ⟨hb75, hb76⟩ := bif_true hb74)); simp only [go_sem, hc1, hb76, hb75]) ?_
    try simp only [go_sem]
    refine WGuard_pure (v := .d (.bool (decide (a0 ≤ 8205)))) (fun hb71 => by ((obtain ⟨hb72, hb73⟩ := bif_true hb71)); simp only [go_sem, hc1, hb73, hb72]) ?_
    try simp only [go_sem]
    first | refine WGuard_splitN (fun hc3 => ?_) (fun hc4 => ?_) | refine WGuard_split (fun hc3 => ?_) (fun hc4 => ?_)
    · rw [if_pos (show (!(bif (decide (895 ≤ a0)) then (decide (a0 ≤ 8191)) else false)) = true by first | exact hc3 | (rw [hc3]; rfl) | simpa using hc3)] at h
      try simp only [go_sem, hc3]
      refine WGuard_pure (v := .d (.int .i32 a0)) (fun hb70 => by skip; simp only [go_sem, hc1, hc3, hb70]) ?_
      try simp only [go_sem]
      refine WGuard_pure (v := .d (.bool (decide (8304 ≤ a0)))) (fun hb69 => by skip; simp only [go_sem, hc1, hc3, hb69]) ?_
      try simp only [go_sem]
      refine WGuard_pure (v := .d (.bool (decide (8304 ≤ a0)))) (fun hb68 => by skip; simp only [go_sem, hc1, hc3, hb68]) ?_
      try simp only [go_sem]
      refine WGuard_pure (v := .d (.int .i32 a0)) (fun hb65 => by ((obtain ⟨hb66, hb67⟩ := bif_true hb65)); simp only [go_sem, hc1, hc3, hb67, hb66]) ?_
      try simp only [go_sem]
      refine WGuard_pure (v := .d (.bool (decide (a0 ≤ 8591)))) (fun hb62 => by ((obtain ⟨hb63, hb64⟩ := bif_true hb62)); simp only [go_sem, hc1, hc3, hb64, hb63]) ?_
      try simp only [go_sem]
      first | refine WGuard_splitN (fun hc5 => ?_) (fun hc6 => ?_) | refine WGuard_split (fun hc5 => ?_) (fun hc6 => ?_)
      · rw [if_pos (show (!(bif (decide (8204 ≤ a0)) then (decide (a0 ≤ 8205)) else false)) = true by first | exact hc5 | (rw [hc5]; rfl) | simpa using hc5)] at h
        try simp only [go_sem, hc5]
        refine WGuard_pure (v := .d (.int .i32 a0)) (fun hb61 => by skip; simp only [go_sem, hc1, hc3, hc5, hb61]) ?_
        try simp only [go_sem]
        refine WGuard_pure (v := .d (.bool (decide (11264 ≤ a0)))) (fun hb60 => by skip; simp only [go_sem, hc1, hc3, hc5, hb60]) ?_
        try simp only [go_sem]
        refine WGuard_pure (v := .d (.bool (decide (11264 ≤ a0)))) (fun hb59 => by skip; simp only [go_sem, hc1, hc3, hc5, hb59]) ?_
        try simp only [go_sem]
        refine WGuard_pure (v := .d (.int .i32 a0)) (fun hb56 => by ((obtain ⟨hb57, hb58⟩ := bif_true hb56)); simp only [go_sem, hc1, hc3, hc5, hb58, hb57]) ?_
        try simp only [go_sem]
        refine WGuard_pure (v := .d (.bool (decide (a0 ≤ 12271)))) (fun hb53 => by ((obtain ⟨hb54, hb55⟩ := bif_true hb53)); simp only [go_sem, hc1, hc3, hc5, hb55, hb54]) ?_
        try simp only [go_sem]
        first | refine WGuard_splitN (fun hc7 => ?_) (fun hc8 => ?_) | refine WGuard_split (fun hc7 => ?_) (fun hc8 => ?_)
        · rw [if_pos (show (!(bif (decide (8304 ≤ a0)) then (decide (a0 ≤ 8591)) else false)) = true by first | exact hc7 | (rw [hc7]; rfl) | simpa using hc7)] at h
          try simp only [go_sem, hc7]
          refine WGuard_pure (v := .d (.int .i32 a0)) (fun hb52 => by skip; simp only [go_sem, hc1, hc3, hc5, hc7, hb52]) ?_
          try simp only [go_sem]
          refine WGuard_pure (v := .d (.bool (decide (12289 ≤ a0)))) (fun hb51 => by skip; simp only [go_sem, hc1, hc3, hc5, hc7, hb51]) ?_
          try simp only [go_sem]
          refine WGuard_pure (v := .d (.bool (decide (12289 ≤ a0)))) (fun hb50 => by skip; simp only [go_sem, hc1, hc3, hc5, hc7, hb50]) ?_
          try simp only [go_sem]
          refine WGuard_pure (v := .d (.int .i32 a0)) (fun hb47 => by ((obtain ⟨hb48, hb49⟩ := bif_true hb47)); simp only [go_sem, hc1, hc3, hc5, hc7, hb49, hb48]) ?_
          try simp only [go_sem]
          refine WGuard_pure (v := .d (.bool (decide (a0 ≤ 55295)))) (fun hb44 => by ((obtain ⟨hb45, hb46⟩ := bif_true hb44)); simp only [go_sem, hc1, hc3, hc5, hc7, hb46, hb45]) ?_
          try simp only [go_sem]
          first | refine WGuard_splitN (fun hc9 => ?_) (fun hc10 => ?_) | refine WGuard_split (fun hc9 => ?_) (fun hc10 => ?_)
          · rw [if_pos (show (!(bif (decide (11264 ≤ a0)) then (decide (a0 ≤ 12271)) else false)) = true by first | exact hc9 | (rw [hc9]; rfl) | simpa using hc9)] at h
            try simp only [go_sem, hc9]
            refine WGuard_pure (v := .d (.int .i32 a0)) (fun hb43 => by skip; simp only [go_sem, hc1, hc3, hc5, hc7, hc9, hb43]) ?_
            try simp only [go_sem]
            refine WGuard_pure (v := .d (.bool (decide (63744 ≤ a0)))) (fun hb42 => by skip; simp only [go_sem, hc1, hc3, hc5, hc7, hc9, hb42]) ?_
            try simp only [go_sem]
            refine WGuard_pure (v := .d (.bool (decide (63744 ≤ a0)))) (fun hb41 => by skip; simp only [go_sem, hc1, hc3, hc5, hc7, hc9, hb41]) ?_
            try simp only [go_sem]
            refine WGuard_pure (v := .d (.int .i32 a0)) (fun hb38 => by ((obtain ⟨hb39, hb40⟩ := bif_true hb38)); simp only [go_sem, hc1, hc3, hc5, hc7, hc9, hb40, hb39]) ?_
            try simp only [go_sem]
            refine WGuard_pure (v := .d (.bool (decide (a0 ≤ 64975)))) (fun hb35 => by ((obtain ⟨hb36, hb37⟩ := bif_true hb35)); simp only [go_sem, hc1, hc3, hc5, hc7, hc9, hb37, hb36]) ?_
            try simp only [go_sem]
            first | refine WGuard_splitN (fun hc11 => ?_) (fun hc12 => ?_) | refine WGuard_split (fun hc11 => ?_) (fun hc12 => ?_)
            · rw [if_pos (show (!(bif (decide (12289 ≤ a0)) then (decide (a0 ≤ 55295)) else false)) = true by first | exact hc11 | (rw [hc11]; rfl) | simpa using hc11)] at h
              try simp only [go_sem, hc11]
              refine WGuard_pure (v := .d (.int .i32 a0)) (fun hb34 => by skip; simp only [go_sem, hc1, hc3, hc5, hc7, hc9, hc11, hb34]) ?_
              try simp only [go_sem]
              refine WGuard_pure (v := .d (.bool (decide (65008 ≤ a0)))) (fun hb33 => by skip; simp only [go_sem, hc1, hc3, hc5, hc7, hc9, hc11, hb33]) ?_
              try simp only [go_sem]
              refine WGuard_pure (v := .d (.bool (decide (65008 ≤ a0)))) (fun hb32 => by skip; simp only [go_sem, hc1, hc3, hc5, hc7, hc9, hc11, hb32]) ?_
              try simp only [go_sem]
              refine WGuard_pure (v := .d (.int .i32 a0)) (fun hb29 => by ((obtain ⟨hb30, hb31⟩ := bif_true hb29)); simp only [go_sem, hc1, hc3, hc5, hc7, hc9, hc11, hb31, hb30]) ?_
              try simp only [go_sem]
              refine WGuard_pure (v := .d (.bool (decide (a0 ≤ 65533)))) (fun hb26 => by ((obtain ⟨hb27, hb28⟩ := bif_true hb26)); simp only [go_sem, hc1, hc3, hc5, hc7, hc9, hc11, hb28, hb27]) ?_
              try simp only [go_sem]
              first | refine WGuard_splitN (fun hc13 => ?_) (fun hc14 => ?_) | refine WGuard_split (fun hc13 => ?_) (fun hc14 => ?_)
              · rw [if_pos (show (!(bif (decide (63744 ≤ a0)) then (decide (a0 ≤ 64975)) else false)) = true by first | exact hc13 | (rw [hc13]; rfl) | simpa using hc13)] at h
                try simp only [go_sem, hc13]
                refine WGuard_pure (v := .d (.int .i32 a0)) (fun hb25 => by skip; simp only [go_sem, hc1, hc3, hc5, hc7, hc9, hc11, hc13, hb25]) ?_
                try simp only [go_sem]
                refine WGuard_pure (v := .d (.bool (decide (65536 ≤ a0)))) (fun hb24 => by skip; simp only [go_sem, hc1, hc3, hc5, hc7, hc9, hc11, hc13, hb24]) ?_
                try simp only [go_sem]
                refine WGuard_pure (v := .d (.bool (decide (65536 ≤ a0)))) (fun hb23 => by skip; simp only [go_sem, hc1, hc3, hc5, hc7, hc9, hc11, hc13, hb23]) ?_
                try simp only [go_sem]
                refine WGuard_pure (v := .d (.int .i32 a0)) (fun hb20 => by ((obtain ⟨hb21, hb22⟩ := bif_true hb20)); simp only [go_sem, hc1, hc3, hc5, hc7, hc9, hc11, hc13, hb22, hb21]) ?_
                try simp only [go_sem]
                refine WGuard_pure (v := .d (.bool (decide (a0 ≤ 983039)))) (fun hb17 => by ((obtain ⟨hb18, hb19⟩ := bif_true hb17)); simp only [go_sem, hc1, hc3, hc5, hc7, hc9, hc11, hc13, hb19, hb18]) ?_
                try simp only [go_sem]
                first | refine WGuard_splitN (fun hc15 => ?_) (fun hc16 => ?_) | refine WGuard_split (fun hc15 => ?_) (fun hc16 => ?_)
                · rw [if_pos (show (!(bif (decide (65008 ≤ a0)) then (decide (a0 ≤ 65533)) else false)) = true by first | exact hc15 | (rw [hc15]; rfl) | simpa using hc15)] at h
                  try simp only [go_sem, hc15]
                  cases h
                  first | rfl | (simp only [go_sem]; done) | (simp only [go_sem]; rfl) | (simp [eName, eRegistry, eDefinition, eForest, eCustom, enames_span, eNode, eforest_trait, eAttr, eforest_key, hc1, hc3, hc5, hc7, hc9, hc11, hc13, hc15]; done)
                · rw [if_neg (show ¬ (!(bif (decide (65008 ≤ a0)) then (decide (a0 ≤ 65533)) else false)) = true by first | (rw [hc16]; exact Bool.false_ne_true) | simpa using hc16 | (simp at hc16 ⊢; omega))] at h
                  try simp only [go_sem, hc16]
                  cases h
                  first | rfl | (simp only [go_sem]; done) | (simp only [go_sem]; rfl) | (simp [eName, eRegistry, eDefinition, eForest, eCustom, enames_span, eNode, eforest_trait, eAttr, eforest_key, hc1, hc3, hc5, hc7, hc9, hc11, hc13, hc16]; done)
              · rw [if_neg (show ¬ (!(bif (decide (63744 ≤ a0)) then (decide (a0 ≤ 64975)) else false)) = true by first | (rw [hc14]; exact Bool.false_ne_true) | simpa using hc14 | (simp at hc14 ⊢; omega))] at h
                try simp only [go_sem, hc14]
                cases h
                first | rfl | (simp only [go_sem]; done) | (simp only [go_sem]; rfl) | (simp [eName, eRegistry, eDefinition, eForest, eCustom, enames_span, eNode, eforest_trait, eAttr, eforest_key, hc1, hc3, hc5, hc7, hc9, hc11, hc14]; done)
            · rw [if_neg (show ¬ (!(bif (decide (12289 ≤ a0)) then (decide (a0 ≤ 55295)) else false)) = true by first | (rw [hc12]; exact Bool.false_ne_true) | simpa using hc12 | (simp at hc12 ⊢; omega))] at h
              try simp only [go_sem, hc12]
              cases h
              first | rfl | (simp only [go_sem]; done) | (simp only [go_sem]; rfl) | (simp [eName, eRegistry, eDefinition, eForest, eCustom, enames_span, eNode, eforest_trait, eAttr, eforest_key, hc1, hc3, hc5, hc7, hc9, hc12]; done)
          · rw [if_neg (show ¬ (!(bif (decide (11264 ≤ a0)) then (decide (a0 ≤ 12271)) else false)) = true by first | (rw [hc10]; exact Bool.false_ne_true) | simpa using hc10 | (simp at hc10 ⊢; omega))] at h
            try simp only [go_sem, hc10]
            cases h
            first | rfl | (simp only [go_sem]; done) | (simp only [go_sem]; rfl) | (simp [eName, eRegistry, eDefinition, eForest, eCustom, enames_span, eNode, eforest_trait, eAttr, eforest_key, hc1, hc3, hc5, hc7, hc10]; done)
        · rw [if_neg (show ¬ (!(bif (decide (8304 ≤ a0)) then (decide (a0 ≤ 8591)) else false)) = true by first | (rw [hc8]; exact Bool.false_ne_true) | simpa using hc8 | (simp at hc8 ⊢; omega))] at h
          try simp only [go_sem, hc8]
          cases h
          first | rfl | (simp only [go_sem]; done) | (simp only [go_sem]; rfl) | (simp [eName, eRegistry, eDefinition, eForest, eCustom, enames_span, eNode, eforest_trait, eAttr, eforest_key, hc1, hc3, hc5, hc8]; done)
      · rw [if_neg (show ¬ (!(bif (decide (8204 ≤ a0)) then (decide (a0 ≤ 8205)) else false)) = true by first | (rw [hc6]; exact Bool.false_ne_true) | simpa using hc6 | (simp at hc6 ⊢; omega))] at h
        try simp only [go_sem, hc6]
        cases h
        first | rfl | (simp only [go_sem]; done) | (simp only [go_sem]; rfl) | (simp [eName, eRegistry, eDefinition, eForest, eCustom, enames_span, eNode, eforest_trait, eAttr, eforest_key, hc1, hc3, hc6]; done)
    · rw [if_neg (show ¬ (!(bif (decide (895 ≤ a0)) then (decide (a0 ≤ 8191)) else false)) = true by first | (rw [hc4]; exact Bool.false_ne_true) | simpa using hc4 | (simp at hc4 ⊢; omega))] at h
      try simp only [go_sem, hc4]
      cases h
      first | rfl | (simp only [go_sem]; done) | (simp only [go_sem]; rfl) | (simp [eName, eRegistry, eDefinition, eForest, eCustom, enames_span, eNode, eforest_trait, eAttr, eforest_key, hc1, hc4]; done)
  · rw [if_neg (show ¬ (!(bif (decide (880 ≤ a0)) then (decide (a0 ≤ 893)) else false)) = true by first | (rw [hc2]; exact Bool.false_ne_true) | simpa using hc2 | (simp at hc2 ⊢; omega))] at h
    try simp only [go_sem, hc2]
    cases h
    first | rfl | (simp only [go_sem]; done) | (simp only [go_sem]; rfl) | (simp [eName, eRegistry, eDefinition, eForest, eCustom, enames_span, eNode, eforest_trait, eAttr, eforest_key, hc2]; done)
noncomputable def P56 (a0 : List UInt8) (a1 : List UInt8) : Option (Bool) :=
  (dec (D.int .i64) (pc prog 89 [.str a0, .str a1])).bind fun r1 =>
  some (decide (0 ≤ r1))
theorem ok56 (a0 : List UInt8) (a1 : List UInt8) (r : Bool) (h : P56 a0 a1 = some r) : pc prog 56 [.str a0, .str a1] = some (D.bool r) := by
  unfold P56 at h
  refine pc_of (fn := c56) rfl rfl ?_
  delta c56
  try simp only [go_sem]
  obtain ⟨r1, hr2, h⟩ := Option.bind_eq_some_iff.1 h
  replace hr2 := dec_some hr2
  first | refine WVal_pc hr2 ?_ | (simp only [eT2_eq, eT3_eq, eT4_eq, eT5_eq] at hr2; refine WVal_pc hr2 ?_)
  try simp only [go_sem]
  cases h
  first | rfl | (simp only [go_sem]; done) | (simp only [go_sem]; rfl) | (simp [eName, eRegistry, eDefinition, eForest, eCustom, enames_span, eNode, eforest_trait, eAttr, eforest_key]; done)
noncomputable def P57 (a0 : List UInt8) (a1 : List UInt8) : Option (List UInt8 × List UInt8 × Bool) :=
  (dec (eT3 D.str D.str D.bool) (pc prog 90 [.str a0, .str a1])).bind fun r1 =>
  some (r1.1, r1.2.1, r1.2.2)
theorem ok57 (a0 : List UInt8) (a1 : List UInt8) (r : List UInt8 × List UInt8 × Bool) (h : P57 a0 a1 = some r) : pc prog 57 [.str a0, .str a1] = some ((eT3 D.str D.str D.bool) r) := by
  unfold P57 at h
  refine pc_of (fn := c57) rfl rfl ?_
  delta c57
  try simp only [go_sem]
  obtain ⟨r1, hr2, h⟩ := Option.bind_eq_some_iff.1 h
  replace hr2 := dec_some hr2
  first | refine WVal_pc hr2 ?_ | (simp only [eT2_eq, eT3_eq, eT4_eq, eT5_eq] at hr2; refine WVal_pc hr2 ?_)
  try simp only [go_sem]
  cases h
  first | rfl | (simp only [go_sem]; done) | (simp only [go_sem]; rfl) | (simp [eName, eRegistry, eDefinition, eForest, eCustom, enames_span, eNode, eforest_trait, eAttr, eforest_key]; done)
def L58_0_S (a0 : List UInt8) (x0 : List (Int) × Int) : St := ⟨(((Regs.none.set 0 (.d (.str a0))).set 4 (mb 3 (x0.1.map fun z => V.d ((D.int .i32) z)))).set 5 (.d (.int .i64 x0.2))), ((Heap.at 4).set 3 (mbB 1 x0.1.length (x0.1.map fun z => V.d ((D.int .i32) z))))⟩
def L58_0_F (a0 : List UInt8) : ((List (Int)) ⊕ (Unit)) → Ex × St := fun r => match r with
  | (.inl r) => (.exit 0, ⟨(Regs.none.set 4 (mb 3 (r.map fun z => V.d ((D.int .i32) z)))), ((Heap.at 4).set 3 (mbB 1 r.length (r.map fun z => V.d ((D.int .i32) z))))⟩)
  | (.inr r) => (.ret, ⟨((Regs.none.set 2 (.d (.list true []))).set 3 (.d (.bool false))), (Heap.at 4)⟩)
noncomputable def L58_0_step (a0 : List UInt8) (x0 : List (Int) × Int) : Option ((List (Int) × Int) ⊕ ((List (Int)) ⊕ (Unit))) :=
  if (decide (x0.2 < (a0.length : Int))) = true then
    (dec (eT2 (D.int .i32) (D.int .i64)) (pc prog 91 [.str a0, .int .i64 x0.2])).bind fun r3 =>
    if (r3.2 == 0) = true then
      some (.inr (.inr ()))
    else
      if (x0.1.length + 1) * 4 ≤ AI.roomBytes then
        some (.inl ((x0.1 ++ [r3.1]), (IntKind.wrap .i64 (x0.2 + r3.2))))
      else none
  else
    some (.inr (.inl x0.1))
theorem L58_0_ok (a0 : List UInt8) (x0 : List (Int) × Int) (o : (List (Int) × Int) ⊕ ((List (Int)) ⊕ (Unit))) (h : L58_0_step a0 x0 = some o) : Wp prog c58B0 (L58_0_S a0 x0) (LPost 0 (L58_0_S a0) (L58_0_F a0) o) := by
  unfold L58_0_step at h
  delta c58B0 L58_0_S
  try simp only [go_sem]
  first | refine WBr_splitN (fun hc1 => ?_) (fun hc2 => ?_) | refine WBr_split (fun hc1 => ?_) (fun hc2 => ?_)
  · rw [if_pos (show (decide (x0.2 < (a0.length : Int))) = true by first | exact hc1 | (rw [hc1]; rfl) | simpa using hc1)] at h
    try simp only [go_sem]
    obtain ⟨r3, hr4, h⟩ := Option.bind_eq_some_iff.1 h
    replace hr4 := dec_some hr4
    first | refine WVal_pc hr4 ?_ | (simp only [eT2_eq, eT3_eq, eT4_eq, eT5_eq] at hr4; refine WVal_pc hr4 ?_)
    try simp only [go_sem]
    first | refine WBr_splitN (fun hc5 => ?_) (fun hc6 => ?_) | refine WBr_split (fun hc5 => ?_) (fun hc6 => ?_)
    · rw [if_pos (show (r3.2 == 0) = true by first | exact hc5 | (rw [hc5]; rfl) | simpa using hc5)] at h
      try simp only [go_sem]
      cases h
      exact ⟨rfl, by simp, Up.of (N := 4) (N' := 20) [] rfl rfl (by decide) (.set (.d _) (.set (.d _) RegsR.none)) BlksR.at⟩
    · rw [if_neg (show ¬ (r3.2 == 0) = true by first | (rw [hc6]; exact Bool.false_ne_true) | simpa using hc6 | (simp at hc6 ⊢; omega))] at h
      try simp only [go_sem]
      obtain ⟨hm7, h⟩ := ite_some h
      refine WVal_appM (l := x0.1.map fun z => V.d ((D.int .i32) z)) (new := [V.d (.int .i32 r3.1)]) (sz := 1) (fz := x0.1.length) (by simp only [go_sem, List.map_append, List.map_cons, List.map_nil]) (by intro h; simpa using h) (by simp only [go_sem, elsOf_sl, elsB_all, elsB_one, elsOf_list, mapVd]) (by simp) (by simp only [go_sem]) (by simpa using hm7) ?_
      try simp only [go_sem, hm7]
      cases h
      refine ⟨rfl, Up.of (N := 4) (N' := 27) [(3, 21)] rfl rfl (by decide) ?_ ?_⟩
      · refine RegsR.set ?_ (RegsR.set ?_ (RegsR.set ?_ RegsR.none))
        all_goals (try simp only [go_sem, List.map_append, List.map_cons, List.map_nil, hm7])
        all_goals (first | exact VR.d _ | exact VR.mb_sl (by simp) rfl (by simp) | (simp only [eName, eRegistry, eDefinition, eForest, eCustom, enames_span, eNode, eforest_trait, eAttr, eforest_key, hc1, hc6]; exact VR.d _))
      · refine BlksR.set (show BlkR _ _ (Heap.get _ 21) from ?_) (BlksR.at)
        all_goals (try simp only [go_sem, List.map_append, List.map_cons, List.map_nil, hm7])
        all_goals (first | ((repeat' first | trivial | exact BlkR.refl_d | exact BlkR.map_d | exact BlkR.map_0 | exact BlkR.it | exact BR.map .nil | refine BlkR.els (by simp) ?_ | refine BlkR.mb_els (by simp) ?_ | refine BlkR.mb (by simp) ?_ | exact VR.d _ | exact VR.ptr' rfl | exact VR.mb rfl | exact VR.sl'' rfl (by simp) | exact VR.mb_sl (by simp) rfl (by simp) | exact VR.undef _ | refine VR.clo' ?_ ?_ | exact VRL.nil | exact VRL.refl_d _ _ | refine VRL.append ?_ ?_ | refine VRL.cons ?_ ?_ | refine VRL.ofC ?_ | refine VRL.ofCa ?_ rfl | refine VRL.ofCells ?_ | refine VRL.tuple ?_ | refine VRL.agg ?_); done) | (simp only [eName, eRegistry, eDefinition, eForest, eCustom, enames_span, eNode, eforest_trait, eAttr, eforest_key, hc1, hc6]; exact BlkR.refl_d))
  · rw [if_neg (show ¬ (decide (x0.2 < (a0.length : Int))) = true by first | (rw [hc2]; exact Bool.false_ne_true) | simpa using hc2 | (simp at hc2 ⊢; omega))] at h
    try simp only [go_sem]
    cases h
    refine ⟨rfl, by simp, Up.of (N := 4) (N' := 8) [] rfl rfl (by decide) ?_ ?_⟩
    · refine RegsR.set ?_ RegsR.none
      all_goals (try simp only [go_sem, List.map_append, List.map_cons, List.map_nil])
      all_goals (first | exact VR.d _ | exact VR.mb rfl | (simp only [eName, eRegistry, eDefinition, eForest, eCustom, enames_span, eNode, eforest_trait, eAttr, eforest_key, hc2]; exact VR.d _))
    · refine BlksR.set (show BlkR _ _ (Heap.get _ 3) from ?_) (BlksR.at)
      all_goals (try simp only [go_sem, List.map_append, List.map_cons, List.map_nil])
      all_goals (first | ((repeat' first | trivial | exact BlkR.refl_d | exact BlkR.map_d | exact BlkR.map_0 | exact BlkR.it | exact BR.map .nil | refine BlkR.els (by simp) ?_ | refine BlkR.mb_els (by simp) ?_ | refine BlkR.mb (by simp) ?_ | exact VR.d _ | exact VR.ptr' rfl | exact VR.mb rfl | exact VR.sl'' rfl (by simp) | exact VR.mb_sl (by simp) rfl (by simp) | exact VR.undef _ | refine VR.clo' ?_ ?_ | exact VRL.nil | exact VRL.refl_d _ _ | refine VRL.append ?_ ?_ | refine VRL.cons ?_ ?_ | refine VRL.ofC ?_ | refine VRL.ofCa ?_ rfl | refine VRL.ofCells ?_ | refine VRL.tuple ?_ | refine VRL.agg ?_); done) | (simp only [eName, eRegistry, eDefinition, eForest, eCustom, enames_span, eNode, eforest_trait, eAttr, eforest_key, hc2]; exact BlkR.refl_d))
noncomputable def P58 (a0 : List UInt8) : Option (Sl (Int) × Bool) :=
  (loopV (L58_0_step a0) ([], 0)).bind fun r8 =>
  match r8 with
  | (.inl q10) =>
    some (⟨q10.isEmpty, q10⟩, true)
  | (.inr q11) =>
    some (⟨true, []⟩, false)
theorem ok58 (a0 : List UInt8) (r : Sl (Int) × Bool) (h : P58 a0 = some r) : pc prog 58 [.str a0] = some ((eT2 (eSl (D.int .i32)) D.bool) r) := by
  unfold P58 at h
  refine pc_of (fn := c58) rfl rfl ?_
  delta c58
  try simp only [go_sem]
  obtain ⟨r8, hl9, h⟩ := Option.bind_eq_some_iff.1 h
  refine Wp.loopR locs (n := 0) (a := c58B0) rfl (L58_0_S a0) (L58_0_F a0) (L58_0_ok a0) hl9 ?_ (by (repeat (first | refine Clo.block ?_ | refine Clo.seq locs rfl ?_)); (first | exact Clo.ret | exact Clo.lpost | exact Clo.cpost)) ?_
  · show Up 0 (L58_0_S a0 ([], 0)) _
    delta L58_0_S
    refine Up.of (N := 4) (N' := 4) [] rfl rfl (by decide) ?_ ?_
    · refine RegsR.set ?_ (RegsR.set ?_ (RegsR.set ?_ RegsR.none))
      all_goals (try simp only [go_sem, List.map_append, List.map_cons, List.map_nil])
      all_goals (first | exact VR.d _ | exact VR.mb rfl)
    · refine BlksR.set (show BlkR _ _ (Heap.get _ 3) from ?_) (BlksR.at)
      all_goals (try simp only [go_sem, List.map_append, List.map_cons, List.map_nil])
      all_goals (first | ((repeat' first | trivial | exact BlkR.refl_d | exact BlkR.map_d | exact BlkR.map_0 | exact BlkR.it | exact BR.map .nil | refine BlkR.els (by simp) ?_ | refine BlkR.mb_els (by simp) ?_ | refine BlkR.mb (by simp) ?_ | exact VR.d _ | exact VR.ptr' rfl | exact VR.mb rfl | exact VR.sl'' rfl (by simp) | exact VR.mb_sl (by simp) rfl (by simp) | exact VR.undef _ | refine VR.clo' ?_ ?_ | exact VRL.nil | exact VRL.refl_d _ _ | refine VRL.append ?_ ?_ | refine VRL.cons ?_ ?_ | refine VRL.ofC ?_ | refine VRL.ofCa ?_ rfl | refine VRL.ofCells ?_ | refine VRL.tuple ?_ | refine VRL.agg ?_); done) | (simp only [eName, eRegistry, eDefinition, eForest, eCustom, enames_span, eNode, eforest_trait, eAttr, eforest_key]; exact BlkR.refl_d))
  · rcases r8 with (q10 | q11)
    · dsimp only at h
      dsimp only [L58_0_F]
      try simp only [go_sem]
      cases h
      refine Reads.ofv (v' := V.ofTuple [mb 3 (q10.map fun z => V.d ((D.int .i32) z)), .d (.bool true)]) (by first | rfl | simp only [go_sem, List.map_append, List.map_cons, List.map_nil]) (Rd.tuple (RdL.cons (Rd.mb (e := (D.int .i32)) (l := q10) (sz := 1) (fz := q10.length) (by simp only [go_sem, List.map_append, List.map_cons, List.map_nil])) (RdL.cons Rd.d RdL.nil))) rfl
    · dsimp only at h
      dsimp only [L58_0_F]
      try simp only [go_sem]
      cases h
      first | rfl | (simp only [go_sem]; done) | (simp only [go_sem]; rfl) | (simp [eName, eRegistry, eDefinition, eForest, eCustom, enames_span, eNode, eforest_trait, eAttr, eforest_key]; done)
def L59_0_S (a0 : List UInt8) (x0 : Int) : St := ⟨((Regs.none.set 0 (.d (.str a0))).set 3 (.d (.int .i64 x0))), (Heap.at 2)⟩
def L59_0_F (a0 : List UInt8) : ((Unit) ⊕ (Int)) → Ex × St := fun r => match r with
  | (.inl r) => (.exit 0, ⟨Regs.none, (Heap.at 2)⟩)
  | (.inr r) => (.ret, ⟨(Regs.none.set 2 (.d (.int .i64 r))), (Heap.at 2)⟩)
noncomputable def L59_0_step (a0 : List UInt8) (x0 : Int) : Option ((Int) ⊕ ((Unit) ⊕ (Int))) :=
  if (decide (x0 < (a0.length : Int))) = true then
    (rd a0 x0).bind fun y3 =>
    if ((y3.toNat : Int) == 58) = true then
      some (.inr (.inr x0))
    else
      some (.inl (IntKind.wrap .i64 (x0 + 1)))
  else
    some (.inr (.inl ()))
theorem L59_0_ok (a0 : List UInt8) (x0 : Int) (o : (Int) ⊕ ((Unit) ⊕ (Int))) (h : L59_0_step a0 x0 = some o) : Wp prog c59B0 (L59_0_S a0 x0) (LPost 0 (L59_0_S a0) (L59_0_F a0) o) := by
  unfold L59_0_step at h
  delta c59B0 L59_0_S
  try simp only [go_sem]
  first | refine WBr_splitN (fun hc1 => ?_) (fun hc2 => ?_) | refine WBr_split (fun hc1 => ?_) (fun hc2 => ?_)
  · rw [if_pos (show (decide (x0 < (a0.length : Int))) = true by first | exact hc1 | (rw [hc1]; rfl) | simpa using hc1)] at h
    try simp only [go_sem]
    obtain ⟨y3, hy4, h⟩ := Option.bind_eq_some_iff.1 h
    try simp only [go_sem, rd_pos hy4, rd_ge hy4, rd_get hy4]
    first | refine WBr_splitN (fun hc5 => ?_) (fun hc6 => ?_) | refine WBr_split (fun hc5 => ?_) (fun hc6 => ?_)
    · rw [if_pos (show ((y3.toNat : Int) == 58) = true by first | exact hc5 | (rw [hc5]; rfl) | simpa using hc5)] at h
      try simp only [go_sem, rd_pos hy4, rd_ge hy4, rd_get hy4]
      cases h
      exact ⟨rfl, by simp, Up.of (N := 2) (N' := 12) [] rfl rfl (by decide) (.set (.d _) RegsR.none) BlksR.at⟩
    · rw [if_neg (show ¬ ((y3.toNat : Int) == 58) = true by first | (rw [hc6]; exact Bool.false_ne_true) | simpa using hc6 | (simp at hc6 ⊢; omega))] at h
      try simp only [go_sem, rd_pos hy4, rd_ge hy4, rd_get hy4]
      cases h
      exact ⟨rfl, Up.of (N := 2) (N' := 13) [] rfl rfl (by decide) (.set (.d _) (.set (.d _) RegsR.none)) BlksR.at⟩
  · rw [if_neg (show ¬ (decide (x0 < (a0.length : Int))) = true by first | (rw [hc2]; exact Bool.false_ne_true) | simpa using hc2 | (simp at hc2 ⊢; omega))] at h
    try simp only [go_sem]
    cases h
    exact ⟨rfl, by simp, Up.of (N := 2) (N' := 6) [] rfl rfl (by decide) RegsR.none BlksR.at⟩
noncomputable def P59 (a0 : List UInt8) : Option (Int) :=
  (loopV (L59_0_step a0) 0).bind fun r7 =>
  match r7 with
  | (.inl q9) =>
    some (-1)
  | (.inr q10) =>
    some q10
theorem ok59 (a0 : List UInt8) (r : Int) (h : P59 a0 = some r) : pc prog 59 [.str a0] = some ((D.int .i64) r) := by
  unfold P59 at h
  refine pc_of (fn := c59) rfl rfl ?_
  delta c59
  try simp only [go_sem]
  obtain ⟨r7, hl8, h⟩ := Option.bind_eq_some_iff.1 h
  refine Wp.loopR locs (n := 0) (a := c59B0) rfl (L59_0_S a0) (L59_0_F a0) (L59_0_ok a0) hl8 ?_ (by (repeat (first | refine Clo.block ?_ | refine Clo.seq locs rfl ?_)); (first | exact Clo.ret | exact Clo.lpost | exact Clo.cpost)) ?_
  · show Up 0 (L59_0_S a0 0) _
    delta L59_0_S
    exact Up.of (N := 2) (N' := 2) [] rfl rfl (by decide) (.set (.d _) (.set (.d _) RegsR.none)) BlksR.at
  · rcases r7 with (q9 | q10)
    · dsimp only at h
      dsimp only [L59_0_F]
      try simp only [go_sem]
      cases h
      first | rfl | (simp only [go_sem]; done) | (simp only [go_sem]; rfl) | (simp [eName, eRegistry, eDefinition, eForest, eCustom, enames_span, eNode, eforest_trait, eAttr, eforest_key]; done)
    · dsimp only at h
      dsimp only [L59_0_F]
      try simp only [go_sem]
      cases h
      first | rfl | (simp only [go_sem]; done) | (simp only [go_sem]; rfl) | (simp [eName, eRegistry, eDefinition, eForest, eCustom, enames_span, eNode, eforest_trait, eAttr, eforest_key]; done)
noncomputable def P62 (a0 : Sl (List UInt8)) (a1 : List UInt8) : Option (Bool) :=
  (dec (D.int .i64) (pc prog 92 [.list a0.n (a0.l.map D.str), .str a1])).bind fun r1 =>
  some (decide (0 ≤ r1))
theorem ok62 (a0 : Sl (List UInt8)) (a1 : List UInt8) (r : Bool) (h : P62 a0 a1 = some r) : pc prog 62 [.list a0.n (a0.l.map D.str), .str a1] = some (D.bool r) := by
  unfold P62 at h
  refine pc_of (fn := c62) rfl rfl ?_
  delta c62
  try simp only [go_sem]
  obtain ⟨r1, hr2, h⟩ := Option.bind_eq_some_iff.1 h
  replace hr2 := dec_some hr2
  first | refine WVal_pc hr2 ?_ | (simp only [eT2_eq, eT3_eq, eT4_eq, eT5_eq] at hr2; refine WVal_pc hr2 ?_)
  try simp only [go_sem]
  cases h
  first | rfl | (simp only [go_sem]; done) | (simp only [go_sem]; rfl) | (simp [eName, eRegistry, eDefinition, eForest, eCustom, enames_span, eNode, eforest_trait, eAttr, eforest_key]; done)
noncomputable def P63 (a0 : Int) : Option (Bool) :=
  if (!(bif (bif (a0 == 45) then true else (a0 == 46)) then true else (a0 == 95))) = true then
    if (!(bif (decide (48 ≤ a0)) then (decide (a0 ≤ 57)) else false)) = true then
      if (!(bif (bif (decide (97 ≤ a0)) then (decide (a0 ≤ 122)) else false) then true else (a0 == 183))) = true then
        if (!(bif (decide (192 ≤ a0)) then (decide (a0 ≤ 214)) else false)) = true then
          if (!(bif (decide (216 ≤ a0)) then (decide (a0 ≤ 246)) else false)) = true then
            if (!(bif (decide (248 ≤ a0)) then (decide (a0 ≤ 893)) else false)) = true then
              if (!(bif (decide (8255 ≤ a0)) then (decide (a0 ≤ 8256)) else false)) = true then
                if (decide (895 ≤ a0)) = true then
                  (dec D.bool (pc prog 54 [.int .i32 a0])).bind fun r17 =>
                  some r17
                else
                  some false
              else
                some true
            else
              some true
          else
            some true
        else
          some true
      else
        some true
    else
      some true
  else
    some true
theorem ok63 (a0 : Int) (r : Bool) (h : P63 a0 = some r) : pc prog 63 [.int .i32 a0] = some (D.bool r) := by
  unfold P63 at h
  refine pc_of (fn := c63) rfl rfl ?_
  delta c63
  try simp only [go_sem]
  refine WGuard_pure (v := .d (.int .i32 a0)) (fun hb84 => by skip; simp only [go_sem, hb84]) ?_
  try simp only [go_sem]
  refine WGuard_pure (v := .d (.bool (a0 == 46))) (fun hb83 => by skip; simp only [go_sem, hb83]) ?_
  try simp only [go_sem]
  refine WGuard_pure (v := .d (.int .i32 a0)) (fun hb82 => by skip; simp only [go_sem, hb82]) ?_
  try simp only [go_sem]
  refine WGuard_pure (v := .d (.bool (a0 == 95))) (fun hb81 => by skip; simp only [go_sem, hb81]) ?_
  try simp only [go_sem]
  refine WGuard_pure (v := .d (.int .i32 a0)) (fun hb80 => by skip; simp only [go_sem, hb80]) ?_
  try simp only [go_sem]
  refine WGuard_pure (v := .d (.bool (decide (48 ≤ a0)))) (fun hb79 => by skip; simp only [go_sem, hb79]) ?_
  try simp only [go_sem]
  refine WGuard_pure (v := .d (.bool (decide (48 ≤ a0)))) (fun hb78 => by skip; simp only [go_sem, hb78]) ?_
  try simp only [go_sem]
  refine WGuard_pure (v := .d (.int .i32 a0)) (fun hb75 => by ((obtain ⟨hb76, hb77⟩ := bif_true hb75)); simp only [go_sem, hb77, hb76]) ?_
  try simp only [go_sem]
  refine WGuard_pure (v := .d (.bool (decide (a0 ≤ 57)))) (fun hb72 => by ((obtain ⟨hb73, hb74⟩ := bif_true hb72)); simp only [go_sem, hb74, hb73]) ?_
  try simp only [go_sem]
  first | refine WGuard_splitN (fun hc1 => ?_) (fun hc2 => ?_) | refine WGuard_split (fun hc1 => ?_) (fun hc2 => ?_)
  · rw [if_pos (show (!(bif (bif (a0 == 45) then true else (a0 == 46)) then true else (a0 == 95))) = true by first | exact hc1 | (rw [hc1]; rfl) | simpa using hc1)] at h
    try simp only [go_sem, hc1]
    refine WGuard_pure (v := .d (.int .i32 a0)) (fun hb71 => by skip; simp only [go_sem, hc1, hb71]) ?_
    try simp only [go_sem]
    refine WGuard_pure (v := .d (.bool (decide (97 ≤ a0)))) (fun hb70 => by skip; simp only [go_sem, hc1, hb70]) ?_
    try simp only [go_sem]
    refine WGuard_pure (v := .d (.bool (decide (97 ≤ a0)))) (fun hb69 => by skip; simp only [go_sem, hc1, hb69]) ?_
    try simp only [go_sem]
    refine WGuard_pure (v := .d (.int .i32 a0)) (fun hb66 => by ((obtain ⟨hb67, hb68⟩ := bif_true hb66)); simp only [go_sem, hc1, hb68, hb67]) ?_
    try simp only [go_sem]
    refine WGuard_pure (v := .d (.bool (decide (a0 ≤ 122)))) (fun hb63 => by ((obtain ⟨hb64, hb65⟩ := bif_true hb63)); simp only [go_sem, hc1, hb65, hb64]) ?_
    try simp only [go_sem]
    first | refine WGuard_splitN (fun hc3 => ?_) (fun hc4 => ?_) | refine WGuard_split (fun hc3 => ?_) (fun hc4 => ?_)
    · rw [if_pos (show (!(bif (decide (48 ≤ a0)) then (decide (a0 ≤ 57)) else false)) = true by first | exact hc3 | (rw [hc3]; rfl) | simpa using hc3)] at h
      try simp only [go_sem, hc3]
      refine WGuard_pure (v := .d (.int .i32 a0)) (fun hb62 => by skip; simp only [go_sem, hc1, hc3, hb62]) ?_
      try simp only [go_sem]
      refine WGuard_pure (v := .d (.bool (a0 == 183))) (fun hb61 => by skip; simp only [go_sem, hc1, hc3, hb61]) ?_
      try simp only [go_sem]
      refine WGuard_pure (v := .d (.int .i32 a0)) (fun hb60 => by skip; simp only [go_sem, hc1, hc3, hb60]) ?_
      try simp only [go_sem]
      refine WGuard_pure (v := .d (.bool (decide (192 ≤ a0)))) (fun hb59 => by skip; simp only [go_sem, hc1, hc3, hb59]) ?_
      try simp only [go_sem]
      refine WGuard_pure (v := .d (.bool (decide (192 ≤ a0)))) (fun hb58 => by skip; simp only [go_sem, hc1, hc3, hb58]) ?_
      try simp only [go_sem]
      refine WGuard_pure (v := .d (.int .i32 a0)) (fun hb55 => by ((obtain ⟨hb56, hb57⟩ := bif_true hb55)); simp only [go_sem, hc1, hc3, hb57, hb56]) ?_
      try simp only [go_sem]
      refine WGuard_pure (v := .d (.bool (decide (a0 ≤ 214)))) (fun hb52 => by ((obtain ⟨hb53, hb54⟩ := bif_true hb52)); simp only [go_sem, hc1, hc3, hb54, hb53]) ?_
      try simp only [go_sem]
      first | refine WGuard_splitN (fun hc5 => ?_) (fun hc6 => ?_) | refine WGuard_split (fun hc5 => ?_) (fun hc6 => ?_)
      · rw [if_pos (show (!(bif (bif (decide (97 ≤ a0)) then (decide (a0 ≤ 122)) else false) then true else (a0 == 183))) = true by first | exact hc5 | (rw [hc5]; rfl) | simpa using hc5)] at h
        try simp only [go_sem, hc5]
        refine WGuard_pure (v := .d (.int .i32 a0)) (fun hb51 => by skip; simp only [go_sem, hc1, hc3, hc5, hb51]) ?_
        try simp only [go_sem]
        refine WGuard_pure (v := .d (.bool (decide (216 ≤ a0)))) (fun hb50 => by skip; simp only [go_sem, hc1, hc3, hc5, hb50]) ?_
        try simp only [go_sem]
        refine WGuard_pure (v := .d (.bool (decide (216 ≤ a0)))) (fun hb49 => by skip; simp only [go_sem, hc1, hc3, hc5, hb49]) ?_
        try simp only [go_sem]
        refine WGuard_pure (v := .d (.int .i32 a0)) (fun hb46 => by ((obtain ⟨hb47, hb48⟩ := bif_true hb46)); simp only [go_sem, hc1, hc3, hc5, hb48, hb47]) ?_
        try simp only [go_sem]
        refine WGuard_pure (v := .d (.bool (decide (a0 ≤ 246)))) (fun hb43 => by ((obtain ⟨hb44, hb45⟩ := bif_true hb43)); simp only [go_sem, hc1, hc3, hc5, hb45, hb44]) ?_
        try simp only [go_sem]
        first | refine WGuard_splitN (fun hc7 => ?_) (fun hc8 => ?_) | refine WGuard_split (fun hc7 => ?_) (fun hc8 => ?_)
        · rw [if_pos (show (!(bif (decide (192 ≤ a0)) then (decide (a0 ≤ 214)) else false)) = true by first | exact hc7 | (rw [hc7]; rfl) | simpa using hc7)] at h
          try simp only [go_sem, hc7]
          refine WGuard_pure (v := .d (.int .i32 a0)) (fun hb42 => by skip; simp only [go_sem, hc1, hc3, hc5, hc7, hb42]) ?_
          try simp only [go_sem]
          refine WGuard_pure (v := .d (.bool (decide (248 ≤ a0)))) (fun hb41 => by skip; simp only [go_sem, hc1, hc3, hc5, hc7, hb41]) ?_
          try simp only [go_sem]
          refine WGuard_pure (v := .d (.bool (decide (248 ≤ a0)))) (fun hb40 => by skip; simp only [go_sem, hc1, hc3, hc5, hc7, hb40]) ?_
          try simp only [go_sem]
          refine WGuard_pure (v := .d (.int .i32 a0)) (fun hb37 => by ((obtain ⟨hb38, hb39⟩ := bif_true hb37)); simp only [go_sem, hc1, hc3, hc5, hc7, hb39, hb38]) ?_
          try simp only [go_sem]
          refine WGuard_pure (v := .d (.bool (decide (a0 ≤ 893)))) (fun hb34 => by ((obtain ⟨hb35, hb36⟩ := bif_true hb34)); simp only [go_sem, hc1, hc3, hc5, hc7, hb36, hb35]) ?_
          try simp only [go_sem]
          first | refine WGuard_splitN (fun hc9 => ?_) (fun hc10 => ?_) | refine WGuard_split (fun hc9 => ?_) (fun hc10 => ?_)
          · rw [if_pos (show (!(bif (decide (216 ≤ a0)) then (decide (a0 ≤ 246)) else false)) = true by first | exact hc9 | (rw [hc9]; rfl) | simpa using hc9)] at h
            try simp only [go_sem, hc9]
            refine WGuard_pure (v := .d (.int .i32 a0)) (fun hb33 => by skip; simp only [go_sem, hc1, hc3, hc5, hc7, hc9, hb33]) ?_
            try simp only [go_sem]
            refine WGuard_pure (v := .d (.bool (decide (8255 ≤ a0)))) (fun hb32 => by skip; simp only [go_sem, hc1, hc3, hc5, hc7, hc9, hb32]) ?_
            try simp only [go_sem]
            refine WGuard_pure (v := .d (.bool (decide (8255 ≤ a0)))) (fun hb31 => by skip; simp only [go_sem, hc1, hc3, hc5, hc7, hc9, hb31]) ?_
            try simp only [go_sem]
            refine WGuard_pure (v := .d (.int .i32 a0)) (fun hb28 => by ((obtain ⟨hb29, hb30⟩ := bif_true hb28)); simp only [go_sem, hc1, hc3, hc5, hc7, hc9, hb30, hb29]) ?_
            try simp only [go_sem]
            refine WGuard_pure (v := .d (.bool (decide (a0 ≤ 8256)))) (fun hb25 => by ((obtain ⟨hb26, hb27⟩ := bif_true hb25)); simp only [go_sem, hc1, hc3, hc5, hc7, hc9, hb27, hb26]) ?_
            try simp only [go_sem]
            first | refine WGuard_splitN (fun hc11 => ?_) (fun hc12 => ?_) | refine WGuard_split (fun hc11 => ?_) (fun hc12 => ?_)
            · rw [if_pos (show (!(bif (decide (248 ≤ a0)) then (decide (a0 ≤ 893)) else false)) = true by first | exact hc11 | (rw [hc11]; rfl) | simpa using hc11)] at h
              try simp only [go_sem, hc11]
              refine WGuard_pure (v := .d (.int .i32 a0)) (fun hb24 => by skip; simp only [go_sem, hc1, hc3, hc5, hc7, hc9, hc11, hb24]) ?_
              try simp only [go_sem]
              refine WGuard_pure (v := .d (.bool (decide (895 ≤ a0)))) (fun hb23 => by skip; simp only [go_sem, hc1, hc3, hc5, hc7, hc9, hc11, hb23]) ?_
              try simp only [go_sem]
              refine WGuard_pure (v := .d (.bool (decide (895 ≤ a0)))) (fun hb22 => by skip; simp only [go_sem, hc1, hc3, hc5, hc7, hc9, hc11, hb22]) ?_
              try simp only [go_sem]
              refine WGuard_pure (v := .d (.int .i32 a0)) (fun hb19 => by ((obtain ⟨hb20, hb21⟩ := bif_true hb19)); simp only [go_sem, hc1, hc3, hc5, hc7, hc9, hc11, hb21, hb20]) ?_
              try simp only [go_sem]
              rcases Bool.eq_false_or_eq_true ((bif (decide (8255 ≤ a0)) then (decide (a0 ≤ 8256)) else false)) with hc14 | hc13
              rotate_left
              · rw [if_pos (show (!(bif (decide (8255 ≤ a0)) then (decide (a0 ≤ 8256)) else false)) = true by first | exact hc13 | (rw [hc13]; rfl) | simpa using hc13)] at h
                try simp only [go_sem, hc13]
                first | refine WGuard_splitN (fun hc15 => ?_) (fun hc16 => ?_) | refine WGuard_split (fun hc15 => ?_) (fun hc16 => ?_)
                · rw [if_pos (show (decide (895 ≤ a0)) = true by first | exact hc15 | (rw [hc15]; rfl) | simpa using hc15)] at h
                  try simp only [go_sem, hc15]
                  obtain ⟨r17, hr18, h⟩ := Option.bind_eq_some_iff.1 h
                  replace hr18 := dec_some hr18
                  first | refine WVal_pc hr18 ?_ | (simp only [eT2_eq, eT3_eq, eT4_eq, eT5_eq] at hr18; refine WVal_pc hr18 ?_)
                  try simp only [go_sem]
                  try simp only [go_sem, hc1, hc3, hc5, hc7, hc9, hc11, hc13, hc15]
                  cases h
                  first | rfl | (simp only [go_sem]; done) | (simp only [go_sem]; rfl) | (simp [eName, eRegistry, eDefinition, eForest, eCustom, enames_span, eNode, eforest_trait, eAttr, eforest_key, hc1, hc3, hc5, hc7, hc9, hc11, hc13, hc15]; done)
                · rw [if_neg (show ¬ (decide (895 ≤ a0)) = true by first | (rw [hc16]; exact Bool.false_ne_true) | simpa using hc16 | (simp at hc16 ⊢; omega))] at h
                  try simp only [go_sem, hc16]
                  try simp only [go_sem, hc1, hc3, hc5, hc7, hc9, hc11, hc13, hc16]
                  cases h
                  first | rfl | (simp only [go_sem]; done) | (simp only [go_sem]; rfl) | (simp [eName, eRegistry, eDefinition, eForest, eCustom, enames_span, eNode, eforest_trait, eAttr, eforest_key, hc1, hc3, hc5, hc7, hc9, hc11, hc13, hc16]; done)
              · rw [if_neg (show ¬ (!(bif (decide (8255 ≤ a0)) then (decide (a0 ≤ 8256)) else false)) = true by first | (rw [hc14]; exact Bool.false_ne_true) | simpa using hc14 | (simp at hc14 ⊢; omega))] at h
                try simp only [go_sem, hc14]
                try simp only [go_sem, hc1, hc3, hc5, hc7, hc9, hc11, hc14]
                try simp only [go_sem, hc1, hc3, hc5, hc7, hc9, hc11, hc14]
                cases h
                first | rfl | (simp only [go_sem]; done) | (simp only [go_sem]; rfl) | (simp [eName, eRegistry, eDefinition, eForest, eCustom, enames_span, eNode, eforest_trait, eAttr, eforest_key, hc1, hc3, hc5, hc7, hc9, hc11, hc14]; done)
            · rw [if_neg (show ¬ (!(bif (decide (248 ≤ a0)) then (decide (a0 ≤ 893)) else false)) = true by first | (rw [hc12]; exact Bool.false_ne_true) | simpa using hc12 | (simp at hc12 ⊢; omega))] at h
              try simp only [go_sem, hc12]
              cases h
              first | rfl | (simp only [go_sem]; done) | (simp only [go_sem]; rfl) | (simp [eName, eRegistry, eDefinition, eForest, eCustom, enames_span, eNode, eforest_trait, eAttr, eforest_key, hc1, hc3, hc5, hc7, hc9, hc12]; done)
          · rw [if_neg (show ¬ (!(bif (decide (216 ≤ a0)) then (decide (a0 ≤ 246)) else false)) = true by first | (rw [hc10]; exact Bool.false_ne_true) | simpa using hc10 | (simp at hc10 ⊢; omega))] at h
            try simp only [go_sem, hc10]
            cases h
            first | rfl | (simp only [go_sem]; done) | (simp only [go_sem]; rfl) | (simp [eName, eRegistry, eDefinition, eForest, eCustom, enames_span, eNode, eforest_trait, eAttr, eforest_key, hc1, hc3, hc5, hc7, hc10]; done)
        · rw [if_neg (show ¬ (!(bif (decide (192 ≤ a0)) then (decide (a0 ≤ 214)) else false)) = true by first | (rw [hc8]; exact Bool.false_ne_true) | simpa using hc8 | (simp at hc8 ⊢; omega))] at h
          try simp only [go_sem, hc8]
          cases h
          first | rfl | (simp only [go_sem]; done) | (simp only [go_sem]; rfl) | (simp [eName, eRegistry, eDefinition, eForest, eCustom, enames_span, eNode, eforest_trait, eAttr, eforest_key, hc1, hc3, hc5, hc8]; done)
      · rw [if_neg (show ¬ (!(bif (bif (decide (97 ≤ a0)) then (decide (a0 ≤ 122)) else false) then true else (a0 == 183))) = true by first | (rw [hc6]; exact Bool.false_ne_true) | simpa using hc6 | (simp at hc6 ⊢; omega))] at h
        try simp only [go_sem, hc6]
        cases h
        first | rfl | (simp only [go_sem]; done) | (simp only [go_sem]; rfl) | (simp [eName, eRegistry, eDefinition, eForest, eCustom, enames_span, eNode, eforest_trait, eAttr, eforest_key, hc1, hc3, hc6]; done)
    · rw [if_neg (show ¬ (!(bif (decide (48 ≤ a0)) then (decide (a0 ≤ 57)) else false)) = true by first | (rw [hc4]; exact Bool.false_ne_true) | simpa using hc4 | (simp at hc4 ⊢; omega))] at h
      try simp only [go_sem, hc4]
      cases h
      first | rfl | (simp only [go_sem]; done) | (simp only [go_sem]; rfl) | (simp [eName, eRegistry, eDefinition, eForest, eCustom, enames_span, eNode, eforest_trait, eAttr, eforest_key, hc1, hc4]; done)
  · rw [if_neg (show ¬ (!(bif (bif (a0 == 45) then true else (a0 == 46)) then true else (a0 == 95))) = true by first | (rw [hc2]; exact Bool.false_ne_true) | simpa using hc2 | (simp at hc2 ⊢; omega))] at h
    try simp only [go_sem, hc2]
    cases h
    first | rfl | (simp only [go_sem]; done) | (simp only [go_sem]; rfl) | (simp [eName, eRegistry, eDefinition, eForest, eCustom, enames_span, eNode, eforest_trait, eAttr, eforest_key, hc2]; done)
def L64_0_S (a0 : List UInt8) (a1 : Sl (List UInt8)) (x0 : Int) : St := ⟨(((Regs.none.set 0 (.d (.str a0))).set 1 (.d (.list a1.n (a1.l.map D.str)))).set 5 (.d (.int .i64 x0))), (Heap.at 2)⟩
def L64_0_F (a0 : List UInt8) (a1 : Sl (List UInt8)) : ((Unit) ⊕ (Unit)) → Ex × St := fun r => match r with
  | (.inl r) => (.exit 0, ⟨Regs.none, (Heap.at 2)⟩)
  | (.inr r) => (.ret, ⟨(Regs.none.set 4 (.d (.bool true))), (Heap.at 2)⟩)
noncomputable def L64_0_step (a0 : List UInt8) (a1 : Sl (List UInt8)) (x0 : Int) : Option ((Int) ⊕ ((Unit) ⊕ (Unit))) :=
  if (decide (x0 < (a1.l.length : Int))) = true then
    (rd a1.l x0).bind fun y3 =>
    if (y3 == a0) = true then
      some (.inr (.inr ()))
    else
      some (.inl (IntKind.wrap .i64 (x0 + 1)))
  else
    some (.inr (.inl ()))
theorem L64_0_ok (a0 : List UInt8) (a1 : Sl (List UInt8)) (x0 : Int) (o : (Int) ⊕ ((Unit) ⊕ (Unit))) (h : L64_0_step a0 a1 x0 = some o) : Wp prog c64B0 (L64_0_S a0 a1 x0) (LPost 0 (L64_0_S a0 a1) (L64_0_F a0 a1) o) := by
  unfold L64_0_step at h
  delta c64B0 L64_0_S
  try simp only [go_sem]
  first | refine WBr_splitN (fun hc1 => ?_) (fun hc2 => ?_) | refine WBr_split (fun hc1 => ?_) (fun hc2 => ?_)
  · rw [if_pos (show (decide (x0 < (a1.l.length : Int))) = true by first | exact hc1 | (rw [hc1]; rfl) | simpa using hc1)] at h
    try simp only [go_sem]
    obtain ⟨y3, hy4, h⟩ := Option.bind_eq_some_iff.1 h
    try simp only [go_sem, rd_pos hy4, rd_ge hy4, rd_map D.str hy4]
    first | refine WBr_splitN (fun hc5 => ?_) (fun hc6 => ?_) | refine WBr_split (fun hc5 => ?_) (fun hc6 => ?_)
    · rw [if_pos (show (y3 == a0) = true by first | exact hc5 | (rw [hc5]; rfl) | simpa using hc5)] at h
      try simp only [go_sem, rd_pos hy4, rd_ge hy4, rd_map D.str hy4]
      cases h
      exact ⟨rfl, by simp, Up.of (N := 2) (N' := 13) [] rfl rfl (by decide) (.set (.d _) RegsR.none) BlksR.at⟩
    · rw [if_neg (show ¬ (y3 == a0) = true by first | (rw [hc6]; exact Bool.false_ne_true) | simpa using hc6 | (simp at hc6 ⊢; omega))] at h
      try simp only [go_sem, rd_pos hy4, rd_ge hy4, rd_map D.str hy4]
      cases h
      exact ⟨rfl, Up.of (N := 2) (N' := 15) [] rfl rfl (by decide) (.set (.d _) (.set (.d _) (.set (.d _) RegsR.none))) BlksR.at⟩
  · rw [if_neg (show ¬ (decide (x0 < (a1.l.length : Int))) = true by first | (rw [hc2]; exact Bool.false_ne_true) | simpa using hc2 | (simp at hc2 ⊢; omega))] at h
    try simp only [go_sem]
    cases h
    exact ⟨rfl, by simp, Up.of (N := 2) (N' := 6) [] rfl rfl (by decide) RegsR.none BlksR.at⟩
noncomputable def P64 (a0 : List UInt8) (a1 : Sl (List UInt8)) : Option (Bool) :=
  (loopV (L64_0_step a0 a1) 0).bind fun r7 =>
  match r7 with
  | (.inl q9) =>
    some false
  | (.inr q10) =>
    some true
theorem ok64 (a0 : List UInt8) (a1 : Sl (List UInt8)) (r : Bool) (h : P64 a0 a1 = some r) : pc prog 64 [.str a0, .list a1.n (a1.l.map D.str)] = some (D.bool r) := by
  unfold P64 at h
  refine pc_of (fn := c64) rfl rfl ?_
  delta c64
  try simp only [go_sem]
  obtain ⟨r7, hl8, h⟩ := Option.bind_eq_some_iff.1 h
  refine Wp.loopR locs (n := 0) (a := c64B0) rfl (L64_0_S a0 a1) (L64_0_F a0 a1) (L64_0_ok a0 a1) hl8 ?_ (by (repeat (first | refine Clo.block ?_ | refine Clo.seq locs rfl ?_)); (first | exact Clo.ret | exact Clo.lpost | exact Clo.cpost)) ?_
  · show Up 0 (L64_0_S a0 a1 0) _
    delta L64_0_S
    exact Up.of (N := 2) (N' := 2) [] rfl rfl (by decide) (.set (.d _) (.set (.d _) (.set (.d _) RegsR.none))) BlksR.at
  · rcases r7 with (q9 | q10)
    · dsimp only at h
      dsimp only [L64_0_F]
      try simp only [go_sem]
      cases h
      first | rfl | (simp only [go_sem]; done) | (simp only [go_sem]; rfl) | (simp [eName, eRegistry, eDefinition, eForest, eCustom, enames_span, eNode, eforest_trait, eAttr, eforest_key]; done)
    · dsimp only at h
      dsimp only [L64_0_F]
      try simp only [go_sem]
      cases h
      first | rfl | (simp only [go_sem]; done) | (simp only [go_sem]; rfl) | (simp [eName, eRegistry, eDefinition, eForest, eCustom, enames_span, eNode, eforest_trait, eAttr, eforest_key]; done)
noncomputable def P89 (a0 : List UInt8) (a1 : List UInt8) : Option (Int) :=
  (dec (D.int .i64) (pc prog 110 [.str a0, .str a1])).bind fun r1 =>
  some r1
theorem ok89 (a0 : List UInt8) (a1 : List UInt8) (r : Int) (h : P89 a0 a1 = some r) : pc prog 89 [.str a0, .str a1] = some ((D.int .i64) r) := by
  unfold P89 at h
  refine pc_of (fn := c89) rfl rfl ?_
  delta c89
  try simp only [go_sem]
  obtain ⟨r1, hr2, h⟩ := Option.bind_eq_some_iff.1 h
  replace hr2 := dec_some hr2
  first | refine WVal_pc hr2 ?_ | (simp only [eT2_eq, eT3_eq, eT4_eq, eT5_eq] at hr2; refine WVal_pc hr2 ?_)
  try simp only [go_sem]
  cases h
  first | rfl | (simp only [go_sem]; done) | (simp only [go_sem]; rfl) | (simp [eName, eRegistry, eDefinition, eForest, eCustom, enames_span, eNode, eforest_trait, eAttr, eforest_key]; done)
noncomputable def P90 (a0 : List UInt8) (a1 : List UInt8) : Option (List UInt8 × List UInt8 × Bool) :=
  (dec (D.int .i64) (pc prog 110 [.str a0, .str a1])).bind fun r1 =>
  if (decide (0 ≤ r1)) = true then
    (cut a0 (0) r1).bind fun y5 =>
    (cut a0 (IntKind.wrap .i64 (r1 + (a1.length : Int))) (a0.length : Int)).bind fun y7 =>
    some (y5, y7, true)
  else
    some (a0, [], false)
theorem ok90 (a0 : List UInt8) (a1 : List UInt8) (r : List UInt8 × List UInt8 × Bool) (h : P90 a0 a1 = some r) : pc prog 90 [.str a0, .str a1] = some ((eT3 D.str D.str D.bool) r) := by
  unfold P90 at h
  refine pc_of (fn := c90) rfl rfl ?_
  delta c90
  try simp only [go_sem]
  obtain ⟨r1, hr2, h⟩ := Option.bind_eq_some_iff.1 h
  replace hr2 := dec_some hr2
  first | refine WVal_pc hr2 ?_ | (simp only [eT2_eq, eT3_eq, eT4_eq, eT5_eq] at hr2; refine WVal_pc hr2 ?_)
  try simp only [go_sem]
  first | refine WBr_splitN (fun hc3 => ?_) (fun hc4 => ?_) | refine WBr_split (fun hc3 => ?_) (fun hc4 => ?_)
  · rw [if_pos (show (decide (0 ≤ r1)) = true by first | exact hc3 | (rw [hc3]; rfl) | simpa using hc3)] at h
    try simp only [go_sem]
    obtain ⟨y5, hy6, h⟩ := Option.bind_eq_some_iff.1 h
    refine WVal_sliceS (l := a0) (lo := none) (hi := (some r1)) (by simp only [go_sem, optI]; first | done | rfl | (split <;> rfl) | (split <;> split <;> rfl)) hy6 ?_
    try simp only [go_sem]
    obtain ⟨y7, hy8, h⟩ := Option.bind_eq_some_iff.1 h
    refine WVal_sliceS (l := a0) (lo := (some (IntKind.wrap .i64 (r1 + (a1.length : Int))))) (hi := none) (by simp only [go_sem, optI]; first | done | rfl | (split <;> rfl) | (split <;> split <;> rfl)) hy8 ?_
    try simp only [go_sem]
    cases h
    first | rfl | (simp only [go_sem]; done) | (simp only [go_sem]; rfl) | (simp [eName, eRegistry, eDefinition, eForest, eCustom, enames_span, eNode, eforest_trait, eAttr, eforest_key, hc3]; done)
  · rw [if_neg (show ¬ (decide (0 ≤ r1)) = true by first | (rw [hc4]; exact Bool.false_ne_true) | simpa using hc4 | (simp at hc4 ⊢; omega))] at h
    try simp only [go_sem]
    cases h
    first | rfl | (simp only [go_sem]; done) | (simp only [go_sem]; rfl) | (simp [eName, eRegistry, eDefinition, eForest, eCustom, enames_span, eNode, eforest_trait, eAttr, eforest_key, hc4]; done)
def L91_0_S (a0 : List UInt8) (a1 : Int) (q21 : Int × Int × Int) (x0 : Int × Int) : St := ⟨((((((Regs.none.set 0 (.d (.str a0))).set 1 (.d (.int .i64 a1))).set 7 (.d (.int .i64 q21.1))).set 8 (.d (.int .i64 x0.2))).set 9 (.d (.int .i64 q21.2.2))).set 10 (.d (.int .i64 x0.1))), (Heap.at 26)⟩
def L91_0_F (a0 : List UInt8) (a1 : Int) (q21 : Int × Int × Int) : ((Int) ⊕ (Unit)) → Ex × St := fun r => match r with
  | (.inl r) => (.exit 1, ⟨(((Regs.none.set 7 (.d (.int .i64 q21.1))).set 8 (.d (.int .i64 r))).set 9 (.d (.int .i64 q21.2.2))), (Heap.at 26)⟩)
  | (.inr r) => (.ret, ⟨((Regs.none.set 4 (.d (.int .i32 (0)))).set 5 (.d (.int .i64 (0)))), (Heap.at 26)⟩)
noncomputable def L91_0_step (a0 : List UInt8) (a1 : Int) (q21 : Int × Int × Int) (x0 : Int × Int) : Option ((Int × Int) ⊕ ((Int) ⊕ (Unit))) :=
  if (decide (x0.1 < q21.1)) = true then
    (rd a0 (IntKind.wrap .i64 (a1 + x0.1))).bind fun y26 =>
    if (bif (decide ((IntKind.wrap .i64 (y26.toNat : Int)) < 128)) then true else (decide (192 ≤ (IntKind.wrap .i64 (y26.toNat : Int))))) = true then
      some (.inr (.inr ()))
    else
      some (.inl ((IntKind.wrap .i64 (x0.1 + 1)), (IntKind.wrap .i64 ((IntKind.wrap .i64 ((IntKind.wrap .i64 (64 * x0.2)) + (IntKind.wrap .i64 (y26.toNat : Int)))) - 128))))
  else
    some (.inr (.inl x0.2))
theorem L91_0_ok (a0 : List UInt8) (a1 : Int) (q21 : Int × Int × Int) (x0 : Int × Int) (o : (Int × Int) ⊕ ((Int) ⊕ (Unit))) (h : L91_0_step a0 a1 q21 x0 = some o) : Wp prog c91B0 (L91_0_S a0 a1 q21 x0) (LPost 0 (L91_0_S a0 a1 q21) (L91_0_F a0 a1 q21) o) := by
  unfold L91_0_step at h
  delta c91B0 L91_0_S
  try simp only [go_sem]
  first | refine WBr_splitN (fun hc24 => ?_) (fun hc25 => ?_) | refine WBr_split (fun hc24 => ?_) (fun hc25 => ?_)
  · rw [if_pos (show (decide (x0.1 < q21.1)) = true by first | exact hc24 | (rw [hc24]; rfl) | simpa using hc24)] at h
    try simp only [go_sem]
    obtain ⟨y26, hy27, h⟩ := Option.bind_eq_some_iff.1 h
    try simp only [go_sem, rd_pos hy27, rd_ge hy27, rd_get hy27]
    refine WGuard_pure (v := .d (.int .i64 (IntKind.wrap .i64 (y26.toNat : Int)))) (fun hb31 => by skip; simp only [go_sem, rd_pos hy27, rd_ge hy27, rd_get hy27, hc24, hb31]) ?_
    try simp only [go_sem, rd_pos hy27, rd_ge hy27, rd_get hy27]
    refine WGuard_pure (v := .d (.bool (decide (192 ≤ (IntKind.wrap .i64 (y26.toNat : Int)))))) (fun hb30 => by skip; simp only [go_sem, rd_pos hy27, rd_ge hy27, rd_get hy27, hc24, hb30]) ?_
    try simp only [go_sem, rd_pos hy27, rd_ge hy27, rd_get hy27]
    first | refine WBr_splitN (fun hc28 => ?_) (fun hc29 => ?_) | refine WBr_split (fun hc28 => ?_) (fun hc29 => ?_)
    · rw [if_pos (show (bif (decide ((IntKind.wrap .i64 (y26.toNat : Int)) < 128)) then true else (decide (192 ≤ (IntKind.wrap .i64 (y26.toNat : Int))))) = true by first | exact hc28 | (rw [hc28]; rfl) | simpa using hc28)] at h
      try simp only [go_sem, rd_pos hy27, rd_ge hy27, rd_get hy27]
      cases h
      exact ⟨rfl, by simp, Up.of (N := 26) (N' := 44) [] rfl rfl (by decide) (.set (.d _) (.set (.d _) RegsR.none)) BlksR.at⟩
    · rw [if_neg (show ¬ (bif (decide ((IntKind.wrap .i64 (y26.toNat : Int)) < 128)) then true else (decide (192 ≤ (IntKind.wrap .i64 (y26.toNat : Int))))) = true by first | (rw [hc29]; exact Bool.false_ne_true) | simpa using hc29 | (simp at hc29 ⊢; omega))] at h
      try simp only [go_sem, rd_pos hy27, rd_ge hy27, rd_get hy27]
      cases h
      exact ⟨rfl, Up.of (N := 26) (N' := 51) [] rfl rfl (by decide) (.set (.d _) (.set (.d _) (.set (.d _) (.set (.d _) (.set (.d _) (.set (.d _) RegsR.none)))))) BlksR.at⟩
  · rw [if_neg (show ¬ (decide (x0.1 < q21.1)) = true by first | (rw [hc25]; exact Bool.false_ne_true) | simpa using hc25 | (simp at hc25 ⊢; omega))] at h
    try simp only [go_sem]
    cases h
    exact ⟨rfl, by simp, Up.of (N := 26) (N' := 29) [] rfl rfl (by decide) (.set (.d _) (.set (.d _) (.set (.d _) RegsR.none))) BlksR.at⟩
noncomputable def P91 (a0 : List UInt8) (a1 : Int) : Option (Int × Int) :=
  (rd a0 a1).bind fun y1 =>
  if (decide ((IntKind.wrap .i64 (y1.toNat : Int)) < 128)) = true then
    some ((IntKind.wrap .i32 (IntKind.wrap .i64 (y1.toNat : Int))), 1)
  else
    (if (bif (decide (194 ≤ (IntKind.wrap .i64 (y1.toNat : Int)))) then (decide ((IntKind.wrap .i64 (y1.toNat : Int)) < 224)) else false) = true then
      some (.inl (2, (IntKind.wrap .i64 ((IntKind.wrap .i64 (y1.toNat : Int)) - 192)), 128))
    else
      (if (bif (decide (224 ≤ (IntKind.wrap .i64 (y1.toNat : Int)))) then (decide ((IntKind.wrap .i64 (y1.toNat : Int)) < 240)) else false) = true then
        some (.inl (3, (IntKind.wrap .i64 ((IntKind.wrap .i64 (y1.toNat : Int)) - 224)), 2048))
      else
        if (bif (decide (240 ≤ (IntKind.wrap .i64 (y1.toNat : Int)))) then (decide ((IntKind.wrap .i64 (y1.toNat : Int)) < 245)) else false) = true then
          some (.inl (4, (IntKind.wrap .i64 ((IntKind.wrap .i64 (y1.toNat : Int)) - 240)), 65536))
        else
          some (.inr ()) : Option ((Int × Int × Int) ⊕ (Unit))).bind fun r13 =>
      match r13 with
      | (.inl q15) =>
        some (.inl (q15.1, q15.2.1, q15.2.2))
      | (.inr q16) =>
        some (.inr ()) : Option ((Int × Int × Int) ⊕ (Unit))).bind fun r19 =>
    match r19 with
    | (.inl q21) =>
      if (decide ((a0.length : Int) < (IntKind.wrap .i64 (a1 + q21.1)))) = true then
        some (0, 0)
      else
        (loopV (L91_0_step a0 a1 q21) (1, q21.2.1)).bind fun r32 =>
        match r32 with
        | (.inl q34) =>
          if (!(bif (decide (q34 < q21.2.2)) then true else (decide (1114111 < q34)))) = true then
            if (bif (decide (55296 ≤ q34)) then (decide (q34 ≤ 57343)) else false) = true then
              some (0, 0)
            else
              some ((IntKind.wrap .i32 q34), q21.1)
          else
            some (0, 0)
        | (.inr q50) =>
          some (0, 0)
    | (.inr q51) =>
      some (0, 0)
theorem ok91 (a0 : List UInt8) (a1 : Int) (r : Int × Int) (h : P91 a0 a1 = some r) : pc prog 91 [.str a0, .int .i64 a1] = some ((eT2 (D.int .i32) (D.int .i64)) r) := by
  unfold P91 at h
  refine pc_of (fn := c91) rfl rfl ?_
  delta c91
  try simp only [go_sem]
  obtain ⟨y1, hy2, h⟩ := Option.bind_eq_some_iff.1 h
  try simp only [go_sem, rd_pos hy2, rd_ge hy2, rd_get hy2]
  first | refine WBr_splitN (fun hc3 => ?_) (fun hc4 => ?_) | refine WBr_split (fun hc3 => ?_) (fun hc4 => ?_)
  · rw [if_pos (show (decide ((IntKind.wrap .i64 (y1.toNat : Int)) < 128)) = true by first | exact hc3 | (rw [hc3]; rfl) | simpa using hc3)] at h
    try simp only [go_sem, rd_pos hy2, rd_ge hy2, rd_get hy2]
    cases h
    first | rfl | (simp only [go_sem, rd_pos hy2, rd_ge hy2, rd_get hy2]; done) | (simp only [go_sem, rd_pos hy2, rd_ge hy2, rd_get hy2]; rfl) | (simp [eName, eRegistry, eDefinition, eForest, eCustom, enames_span, eNode, eforest_trait, eAttr, eforest_key, hc3]; done)
  · rw [if_neg (show ¬ (decide ((IntKind.wrap .i64 (y1.toNat : Int)) < 128)) = true by first | (rw [hc4]; exact Bool.false_ne_true) | simpa using hc4 | (simp at hc4 ⊢; omega))] at h
    try simp only [go_sem, rd_pos hy2, rd_ge hy2, rd_get hy2]
    refine WGuard_pure (v := .d (.int .i64 (IntKind.wrap .i64 (y1.toNat : Int)))) (fun hb53 => by skip; simp only [go_sem, rd_pos hy2, rd_ge hy2, rd_get hy2, hc4, hb53]) ?_
    try simp only [go_sem, rd_pos hy2, rd_ge hy2, rd_get hy2]
    refine WGuard_pure (v := .d (.bool (decide ((IntKind.wrap .i64 (y1.toNat : Int)) < 224)))) (fun hb52 => by skip; simp only [go_sem, rd_pos hy2, rd_ge hy2, rd_get hy2, hc4, hb52]) ?_
    try simp only [go_sem, rd_pos hy2, rd_ge hy2, rd_get hy2]
    obtain ⟨r19, hl20, h⟩ := Option.bind_eq_some_iff.1 h
    refine WBr.cut (n := 0) ((fun r => match r with   | (.inl r) => (.normal, ⟨(((((Regs.none.set 0 (.d (.str a0))).set 1 (.d (.int .i64 a1))).set 7 (.d (.int .i64 r.1))).set 8 (.d (.int .i64 r.2.1))).set 9 (.d (.int .i64 r.2.2))), (Heap.at 19)⟩)   | (.inr r) => (.ret, ⟨((Regs.none.set 4 (.d (.int .i32 (0)))).set 5 (.d (.int .i64 (0)))), (Heap.at 19)⟩) : ((Int × Int × Int) ⊕ (Unit)) → Ex × St) r19).1 ((fun r => match r with   | (.inl r) => (.normal, ⟨(((((Regs.none.set 0 (.d (.str a0))).set 1 (.d (.int .i64 a1))).set 7 (.d (.int .i64 r.1))).set 8 (.d (.int .i64 r.2.1))).set 9 (.d (.int .i64 r.2.2))), (Heap.at 19)⟩)   | (.inr r) => (.ret, ⟨((Regs.none.set 4 (.d (.int .i32 (0)))).set 5 (.d (.int .i64 (0)))), (Heap.at 19)⟩) : ((Int × Int × Int) ⊕ (Unit)) → Ex × St) r19).2 ?_ (by (repeat (first | refine Clo.block ?_ | refine Clo.seq locs rfl ?_)); (first | exact Clo.ret | exact Clo.lpost | exact Clo.cpost)) ?_
    · replace h := hl20
      first | refine WBr_splitN (fun hc5 => ?_) (fun hc6 => ?_) | refine WBr_split (fun hc5 => ?_) (fun hc6 => ?_)
      · rw [if_pos (show (bif (decide (194 ≤ (IntKind.wrap .i64 (y1.toNat : Int)))) then (decide ((IntKind.wrap .i64 (y1.toNat : Int)) < 224)) else false) = true by first | exact hc5 | (rw [hc5]; rfl) | simpa using hc5)] at h
        try simp only [go_sem, rd_pos hy2, rd_ge hy2, rd_get hy2]
        cases h
        exact ⟨rfl, Up.of (N := 19) (N' := 24) [] rfl rfl (by decide) (.set (.d _) (.set (.d _) (.set (.d _) (.set (.d _) (.set (.d _) RegsR.none))))) BlksR.at⟩
      · rw [if_neg (show ¬ (bif (decide (194 ≤ (IntKind.wrap .i64 (y1.toNat : Int)))) then (decide ((IntKind.wrap .i64 (y1.toNat : Int)) < 224)) else false) = true by first | (rw [hc6]; exact Bool.false_ne_true) | simpa using hc6 | (simp at hc6 ⊢; omega))] at h
        try simp only [go_sem, rd_pos hy2, rd_ge hy2, rd_get hy2]
        refine WGuard_pure (v := .d (.int .i64 (IntKind.wrap .i64 (y1.toNat : Int)))) (fun hb18 => by skip; simp only [go_sem, rd_pos hy2, rd_ge hy2, rd_get hy2, hc4, hc6, hb18]) ?_
        try simp only [go_sem, rd_pos hy2, rd_ge hy2, rd_get hy2]
        refine WGuard_pure (v := .d (.bool (decide ((IntKind.wrap .i64 (y1.toNat : Int)) < 240)))) (fun hb17 => by skip; simp only [go_sem, rd_pos hy2, rd_ge hy2, rd_get hy2, hc4, hc6, hb17]) ?_
        try simp only [go_sem, rd_pos hy2, rd_ge hy2, rd_get hy2]
        obtain ⟨r13, hl14, h⟩ := Option.bind_eq_some_iff.1 h
        refine WBr.cut (n := 0) ((fun r => match r with   | (.inl r) => (.normal, ⟨(((((Regs.none.set 0 (.d (.str a0))).set 1 (.d (.int .i64 a1))).set 7 (.d (.int .i64 r.1))).set 8 (.d (.int .i64 r.2.1))).set 9 (.d (.int .i64 r.2.2))), (Heap.at 26)⟩)   | (.inr r) => (.ret, ⟨((Regs.none.set 4 (.d (.int .i32 (0)))).set 5 (.d (.int .i64 (0)))), (Heap.at 26)⟩) : ((Int × Int × Int) ⊕ (Unit)) → Ex × St) r13).1 ((fun r => match r with   | (.inl r) => (.normal, ⟨(((((Regs.none.set 0 (.d (.str a0))).set 1 (.d (.int .i64 a1))).set 7 (.d (.int .i64 r.1))).set 8 (.d (.int .i64 r.2.1))).set 9 (.d (.int .i64 r.2.2))), (Heap.at 26)⟩)   | (.inr r) => (.ret, ⟨((Regs.none.set 4 (.d (.int .i32 (0)))).set 5 (.d (.int .i64 (0)))), (Heap.at 26)⟩) : ((Int × Int × Int) ⊕ (Unit)) → Ex × St) r13).2 ?_ (by (repeat (first | refine Clo.block ?_ | refine Clo.seq locs rfl ?_)); (first | exact Clo.ret | exact Clo.lpost | exact Clo.cpost)) ?_
        · replace h := hl14
          first | refine WBr_splitN (fun hc7 => ?_) (fun hc8 => ?_) | refine WBr_split (fun hc7 => ?_) (fun hc8 => ?_)
          · rw [if_pos (show (bif (decide (224 ≤ (IntKind.wrap .i64 (y1.toNat : Int)))) then (decide ((IntKind.wrap .i64 (y1.toNat : Int)) < 240)) else false) = true by first | exact hc7 | (rw [hc7]; rfl) | simpa using hc7)] at h
            try simp only [go_sem, rd_pos hy2, rd_ge hy2, rd_get hy2]
            cases h
            exact ⟨rfl, Up.of (N := 26) (N' := 31) [] rfl rfl (by decide) (.set (.d _) (.set (.d _) (.set (.d _) (.set (.d _) (.set (.d _) RegsR.none))))) BlksR.at⟩
          · rw [if_neg (show ¬ (bif (decide (224 ≤ (IntKind.wrap .i64 (y1.toNat : Int)))) then (decide ((IntKind.wrap .i64 (y1.toNat : Int)) < 240)) else false) = true by first | (rw [hc8]; exact Bool.false_ne_true) | simpa using hc8 | (simp at hc8 ⊢; omega))] at h
            try simp only [go_sem, rd_pos hy2, rd_ge hy2, rd_get hy2]
            refine WGuard_pure (v := .d (.int .i64 (IntKind.wrap .i64 (y1.toNat : Int)))) (fun hb12 => by skip; simp only [go_sem, rd_pos hy2, rd_ge hy2, rd_get hy2, hc4, hc6, hc8, hb12]) ?_
            try simp only [go_sem, rd_pos hy2, rd_ge hy2, rd_get hy2]
            refine WGuard_pure (v := .d (.bool (decide ((IntKind.wrap .i64 (y1.toNat : Int)) < 245)))) (fun hb11 => by skip; simp only [go_sem, rd_pos hy2, rd_ge hy2, rd_get hy2, hc4, hc6, hc8, hb11]) ?_
            try simp only [go_sem, rd_pos hy2, rd_ge hy2, rd_get hy2]
            first | refine WBr_splitN (fun hc9 => ?_) (fun hc10 => ?_) | refine WBr_split (fun hc9 => ?_) (fun hc10 => ?_)
            · rw [if_pos (show (bif (decide (240 ≤ (IntKind.wrap .i64 (y1.toNat : Int)))) then (decide ((IntKind.wrap .i64 (y1.toNat : Int)) < 245)) else false) = true by first | exact hc9 | (rw [hc9]; rfl) | simpa using hc9)] at h
              try simp only [go_sem, rd_pos hy2, rd_ge hy2, rd_get hy2]
              cases h
              exact ⟨rfl, Up.of (N := 26) (N' := 38) [] rfl rfl (by decide) (.set (.d _) (.set (.d _) (.set (.d _) (.set (.d _) (.set (.d _) RegsR.none))))) BlksR.at⟩
            · rw [if_neg (show ¬ (bif (decide (240 ≤ (IntKind.wrap .i64 (y1.toNat : Int)))) then (decide ((IntKind.wrap .i64 (y1.toNat : Int)) < 245)) else false) = true by first | (rw [hc10]; exact Bool.false_ne_true) | simpa using hc10 | (simp at hc10 ⊢; omega))] at h
              try simp only [go_sem, rd_pos hy2, rd_ge hy2, rd_get hy2]
              cases h
              exact ⟨rfl, Up.of (N := 26) (N' := 35) [] rfl rfl (by decide) (.set (.d _) (.set (.d _) RegsR.none)) BlksR.at⟩
        · rcases r13 with (q15 | q16)
          · dsimp only at h ⊢
            try simp only [go_sem, rd_pos hy2, rd_ge hy2, rd_get hy2]
            cases h
            exact ⟨rfl, Up.of (N := 19) (N' := 26) [] rfl rfl (by decide) (.set (.d _) (.set (.d _) (.set (.d _) (.set (.d _) (.set (.d _) RegsR.none))))) BlksR.at⟩
          · dsimp only at h ⊢
            try simp only [go_sem, rd_pos hy2, rd_ge hy2, rd_get hy2]
            cases h
            exact ⟨rfl, Up.of (N := 19) (N' := 26) [] rfl rfl (by decide) (.set (.d _) (.set (.d _) RegsR.none)) BlksR.at⟩
    · rcases r19 with (q21 | q51)
      · dsimp only at h ⊢
        try simp only [go_sem, rd_pos hy2, rd_ge hy2, rd_get hy2]
        first | refine WBr_splitN (fun hc22 => ?_) (fun hc23 => ?_) | refine WBr_split (fun hc22 => ?_) (fun hc23 => ?_)
        · rw [if_pos (show (decide ((a0.length : Int) < (IntKind.wrap .i64 (a1 + q21.1)))) = true by first | exact hc22 | (rw [hc22]; rfl) | simpa using hc22)] at h
          try simp only [go_sem, rd_pos hy2, rd_ge hy2, rd_get hy2]
          cases h
          first | rfl | (simp only [go_sem, rd_pos hy2, rd_ge hy2, rd_get hy2]; done) | (simp only [go_sem, rd_pos hy2, rd_ge hy2, rd_get hy2]; rfl) | (simp [eName, eRegistry, eDefinition, eForest, eCustom, enames_span, eNode, eforest_trait, eAttr, eforest_key, hc4, hc22]; done)
        · rw [if_neg (show ¬ (decide ((a0.length : Int) < (IntKind.wrap .i64 (a1 + q21.1)))) = true by first | (rw [hc23]; exact Bool.false_ne_true) | simpa using hc23 | (simp at hc23 ⊢; omega))] at h
          try simp only [go_sem, rd_pos hy2, rd_ge hy2, rd_get hy2]
          obtain ⟨r32, hl33, h⟩ := Option.bind_eq_some_iff.1 h
          refine Wp.loopR locs (n := 0) (a := c91B0) rfl (L91_0_S a0 a1 q21) (L91_0_F a0 a1 q21) (L91_0_ok a0 a1 q21) hl33 ?_ (by (repeat (first | refine Clo.block ?_ | refine Clo.seq locs rfl ?_)); (first | exact Clo.ret | exact Clo.lpost | exact Clo.cpost)) ?_
          · show Up 0 (L91_0_S a0 a1 q21 (1, q21.2.1)) _
            delta L91_0_S
            exact Up.of (N := 26) (N' := 26) [] rfl rfl (by decide) (.set (.d _) (.set (.d _) (.set (.d _) (.set (.d _) (.set (.d _) (.set (.d _) RegsR.none)))))) BlksR.at
          · rcases r32 with (q34 | q50)
            · dsimp only at h
              dsimp only [L91_0_F]
              try simp only [go_sem, rd_pos hy2, rd_ge hy2, rd_get hy2]
              refine WGuard_pure (v := .d (.int .i64 q34)) (fun hb49 => by skip; simp only [go_sem, rd_pos hy2, rd_ge hy2, rd_get hy2, hc4, hc23, hb49]) ?_
              try simp only [go_sem, rd_pos hy2, rd_ge hy2, rd_get hy2]
              refine WGuard_pure (v := .d (.bool (decide (1114111 < q34)))) (fun hb48 => by skip; simp only [go_sem, rd_pos hy2, rd_ge hy2, rd_get hy2, hc4, hc23, hb48]) ?_
              try simp only [go_sem, rd_pos hy2, rd_ge hy2, rd_get hy2]
              refine WGuard_pure (v := .d (.int .i64 q34)) (fun hb47 => by skip; simp only [go_sem, rd_pos hy2, rd_ge hy2, rd_get hy2, hc4, hc23, hb47]) ?_
              try simp only [go_sem, rd_pos hy2, rd_ge hy2, rd_get hy2]
              refine WGuard_pure (v := .d (.bool (decide (55296 ≤ q34)))) (fun hb46 => by skip; simp only [go_sem, rd_pos hy2, rd_ge hy2, rd_get hy2, hc4, hc23, hb46]) ?_
              try simp only [go_sem, rd_pos hy2, rd_ge hy2, rd_get hy2]
              refine WGuard_pure (v := .d (.bool (decide (55296 ≤ q34)))) (fun hb45 => by skip; simp only [go_sem, rd_pos hy2, rd_ge hy2, rd_get hy2, hc4, hc23, hb45]) ?_
              try simp only [go_sem, rd_pos hy2, rd_ge hy2, rd_get hy2]
              refine WGuard_pure (v := .d (.int .i64 q34)) (fun hb42 => by ((obtain ⟨hb43, hb44⟩ := bif_true hb42)); simp only [go_sem, rd_pos hy2, rd_ge hy2, rd_get hy2, hc4, hc23, hb44, hb43]) ?_
              try simp only [go_sem, rd_pos hy2, rd_ge hy2, rd_get hy2]
              refine WGuard_pure (v := .d (.bool (decide (q34 ≤ 57343)))) (fun hb39 => by ((obtain ⟨hb40, hb41⟩ := bif_true hb39)); simp only [go_sem, rd_pos hy2, rd_ge hy2, rd_get hy2, hc4, hc23, hb41, hb40]) ?_
              try simp only [go_sem, rd_pos hy2, rd_ge hy2, rd_get hy2]
              first | refine WGuard_splitN (fun hc35 => ?_) (fun hc36 => ?_) | refine WGuard_split (fun hc35 => ?_) (fun hc36 => ?_)
              · rw [if_pos (show (!(bif (decide (q34 < q21.2.2)) then true else (decide (1114111 < q34)))) = true by first | exact hc35 | (rw [hc35]; rfl) | simpa using hc35)] at h
                try simp only [go_sem, rd_pos hy2, rd_ge hy2, rd_get hy2, hc35]
                first | refine WBr_splitN (fun hc37 => ?_) (fun hc38 => ?_) | refine WBr_split (fun hc37 => ?_) (fun hc38 => ?_)
                · rw [if_pos (show (bif (decide (55296 ≤ q34)) then (decide (q34 ≤ 57343)) else false) = true by first | exact hc37 | (rw [hc37]; rfl) | simpa using hc37)] at h
                  try simp only [go_sem, rd_pos hy2, rd_ge hy2, rd_get hy2]
                  cases h
                  first | rfl | (simp only [go_sem, rd_pos hy2, rd_ge hy2, rd_get hy2]; done) | (simp only [go_sem, rd_pos hy2, rd_ge hy2, rd_get hy2]; rfl) | (simp [eName, eRegistry, eDefinition, eForest, eCustom, enames_span, eNode, eforest_trait, eAttr, eforest_key, hc4, hc23, hc35, hc37]; done)
                · rw [if_neg (show ¬ (bif (decide (55296 ≤ q34)) then (decide (q34 ≤ 57343)) else false) = true by first | (rw [hc38]; exact Bool.false_ne_true) | simpa using hc38 | (simp at hc38 ⊢; omega))] at h
                  try simp only [go_sem, rd_pos hy2, rd_ge hy2, rd_get hy2]
                  cases h
                  first | rfl | (simp only [go_sem, rd_pos hy2, rd_ge hy2, rd_get hy2]; done) | (simp only [go_sem, rd_pos hy2, rd_ge hy2, rd_get hy2]; rfl) | (simp [eName, eRegistry, eDefinition, eForest, eCustom, enames_span, eNode, eforest_trait, eAttr, eforest_key, hc4, hc23, hc35, hc38]; done)
              · rw [if_neg (show ¬ (!(bif (decide (q34 < q21.2.2)) then true else (decide (1114111 < q34)))) = true by first | (rw [hc36]; exact Bool.false_ne_true) | simpa using hc36 | (simp at hc36 ⊢; omega))] at h
                try simp only [go_sem, rd_pos hy2, rd_ge hy2, rd_get hy2, hc36]
                cases h
                first | rfl | (simp only [go_sem, rd_pos hy2, rd_ge hy2, rd_get hy2]; done) | (simp only [go_sem, rd_pos hy2, rd_ge hy2, rd_get hy2]; rfl) | (simp [eName, eRegistry, eDefinition, eForest, eCustom, enames_span, eNode, eforest_trait, eAttr, eforest_key, hc4, hc23, hc36]; done)
            · dsimp only at h
              dsimp only [L91_0_F]
              try simp only [go_sem, rd_pos hy2, rd_ge hy2, rd_get hy2]
              cases h
              first | rfl | (simp only [go_sem, rd_pos hy2, rd_ge hy2, rd_get hy2]; done) | (simp only [go_sem, rd_pos hy2, rd_ge hy2, rd_get hy2]; rfl) | (simp [eName, eRegistry, eDefinition, eForest, eCustom, enames_span, eNode, eforest_trait, eAttr, eforest_key, hc4, hc23]; done)
      · dsimp only at h ⊢
        try simp only [go_sem, rd_pos hy2, rd_ge hy2, rd_get hy2]
        cases h
        first | rfl | (simp only [go_sem, rd_pos hy2, rd_ge hy2, rd_get hy2]; done) | (simp only [go_sem, rd_pos hy2, rd_ge hy2, rd_get hy2]; rfl) | (simp [eName, eRegistry, eDefinition, eForest, eCustom, enames_span, eNode, eforest_trait, eAttr, eforest_key, hc4]; done)
def L92_0_S (a0 : Sl (List UInt8)) (a1 : List UInt8) (x0 : Int) : St := ⟨((((Regs.none.set 0 (.d (.list a0.n (a0.l.map D.str)))).set 1 (.d (.str a1))).set 7 (.d (.int .i64 (a0.l.length : Int)))).set 8 (.d (.int .i64 x0))), (Heap.at 4)⟩
def L92_0_F (a0 : Sl (List UInt8)) (a1 : List UInt8) : ((Unit) ⊕ (Int)) → Ex × St := fun r => match r with
  | (.inl r) => (.exit 0, ⟨Regs.none, (Heap.at 4)⟩)
  | (.inr r) => (.ret, ⟨(Regs.none.set 4 (.d (.int .i64 r))), (Heap.at 4)⟩)
noncomputable def L92_0_step (a0 : Sl (List UInt8)) (a1 : List UInt8) (x0 : Int) : Option ((Int) ⊕ ((Unit) ⊕ (Int))) :=
  if (decide (x0 < (a0.l.length : Int))) = true then
    (rd a0.l x0).bind fun y3 =>
    if (a1 == y3) = true then
      some (.inr (.inr x0))
    else
      some (.inl (IntKind.wrap .i64 (x0 + 1)))
  else
    some (.inr (.inl ()))
theorem L92_0_ok (a0 : Sl (List UInt8)) (a1 : List UInt8) (x0 : Int) (o : (Int) ⊕ ((Unit) ⊕ (Int))) (h : L92_0_step a0 a1 x0 = some o) : Wp prog c92B0 (L92_0_S a0 a1 x0) (LPost 0 (L92_0_S a0 a1) (L92_0_F a0 a1) o) := by
  unfold L92_0_step at h
  delta c92B0 L92_0_S
  try simp only [go_sem]
  first | refine WBr_splitN (fun hc1 => ?_) (fun hc2 => ?_) | refine WBr_split (fun hc1 => ?_) (fun hc2 => ?_)
  · rw [if_pos (show (decide (x0 < (a0.l.length : Int))) = true by first | exact hc1 | (rw [hc1]; rfl) | simpa using hc1)] at h
    try simp only [go_sem]
    obtain ⟨y3, hy4, h⟩ := Option.bind_eq_some_iff.1 h
    try simp only [go_sem, rd_pos hy4, rd_ge hy4, rd_map D.str hy4]
    first | refine WBr_splitN (fun hc5 => ?_) (fun hc6 => ?_) | refine WBr_split (fun hc5 => ?_) (fun hc6 => ?_)
    · rw [if_pos (show (a1 == y3) = true by first | exact hc5 | (rw [hc5]; rfl) | simpa using hc5)] at h
      try simp only [go_sem, rd_pos hy4, rd_ge hy4, rd_map D.str hy4]
      cases h
      exact ⟨rfl, by simp, Up.of (N := 4) (N' := 15) [] rfl rfl (by decide) (.set (.d _) RegsR.none) BlksR.at⟩
    · rw [if_neg (show ¬ (a1 == y3) = true by first | (rw [hc6]; exact Bool.false_ne_true) | simpa using hc6 | (simp at hc6 ⊢; omega))] at h
      try simp only [go_sem, rd_pos hy4, rd_ge hy4, rd_map D.str hy4]
      cases h
      exact ⟨rfl, Up.of (N := 4) (N' := 15) [] rfl rfl (by decide) (.set (.d _) (.set (.d _) (.set (.d _) (.set (.d _) RegsR.none)))) BlksR.at⟩
  · rw [if_neg (show ¬ (decide (x0 < (a0.l.length : Int))) = true by first | (rw [hc2]; exact Bool.false_ne_true) | simpa using hc2 | (simp at hc2 ⊢; omega))] at h
    try simp only [go_sem]
    cases h
    exact ⟨rfl, by simp, Up.of (N := 4) (N' := 5) [] rfl rfl (by decide) RegsR.none BlksR.at⟩
noncomputable def P92 (a0 : Sl (List UInt8)) (a1 : List UInt8) : Option (Int) :=
  (loopV (L92_0_step a0 a1) 0).bind fun r7 =>
  match r7 with
  | (.inl q9) =>
    some (-1)
  | (.inr q10) =>
    some q10
theorem ok92 (a0 : Sl (List UInt8)) (a1 : List UInt8) (r : Int) (h : P92 a0 a1 = some r) : pc prog 92 [.list a0.n (a0.l.map D.str), .str a1] = some ((D.int .i64) r) := by
  unfold P92 at h
  refine pc_of (fn := c92) rfl rfl ?_
  delta c92
  try simp only [go_sem]
  obtain ⟨r7, hl8, h⟩ := Option.bind_eq_some_iff.1 h
  refine Wp.loopR locs (n := 0) (a := c92B0) rfl (L92_0_S a0 a1) (L92_0_F a0 a1) (L92_0_ok a0 a1) hl8 ?_ (by (repeat (first | refine Clo.block ?_ | refine Clo.seq locs rfl ?_)); (first | exact Clo.ret | exact Clo.lpost | exact Clo.cpost)) ?_
  · show Up 0 (L92_0_S a0 a1 0) _
    delta L92_0_S
    exact Up.of (N := 4) (N' := 4) [] rfl rfl (by decide) (.set (.d _) (.set (.d _) (.set (.d _) (.set (.d _) RegsR.none)))) BlksR.at
  · rcases r7 with (q9 | q10)
    · dsimp only at h
      dsimp only [L92_0_F]
      try simp only [go_sem]
      cases h
      first | rfl | (simp only [go_sem]; done) | (simp only [go_sem]; rfl) | (simp [eName, eRegistry, eDefinition, eForest, eCustom, enames_span, eNode, eforest_trait, eAttr, eforest_key]; done)
    · dsimp only at h
      dsimp only [L92_0_F]
      try simp only [go_sem]
      cases h
      first | rfl | (simp only [go_sem]; done) | (simp only [go_sem]; rfl) | (simp [eName, eRegistry, eDefinition, eForest, eCustom, enames_span, eNode, eforest_trait, eAttr, eforest_key]; done)
end Go.Proofs.YtejglgffianhgaaDoor.N
