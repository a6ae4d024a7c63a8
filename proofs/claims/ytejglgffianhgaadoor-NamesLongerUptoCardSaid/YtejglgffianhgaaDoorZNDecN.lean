/- Shaken copy of a longer text: what one law needs. Its conditions: none. -/
import Derived.Test.YtejglgffianhgaaDoorZNDec0
set_option linter.unusedSimpArgs false
set_option linter.unusedVariables false
set_option maxHeartbeats 1000000
namespace Go.Proofs.YtejglgffianhgaaDoor.N
open Go.AI
noncomputable def P4 (a0 : List UInt8) (a1 : List UInt8) (a2 : Int) : Option (Bool) :=
  (dec D.bool (pc prog 17 [])).bind fun r1 =>
  if (!r1) = true then
    some false
  else
    if (bif (decide (a2 < 55296)) then true else (decide (57343 < a2))) = true then
      (dec D.bool (pc prog 18 [.str a0])).bind fun r7 =>
      if (bif (bif r7 then (decide (0 < a2)) else false) then (decide (a2 ≤ 1114111)) else false) = true then
        if a0.length + (runeB a2).length ≤ maxStr then
          (dec D.bool (pc prog 18 [.str (a0 ++ (runeB a2))])).bind fun r12 =>
          (dec D.bool (pc prog 15 [.int .i32 a2])).bind fun r14 =>
          if (!(r12 == r14)) = true then
            some false
          else
            (dec D.bool (pc prog 19 [.str a0])).bind fun r18 =>
            if r18 = true then
              (dec D.bool (pc prog 19 [.str a1])).bind fun r22 =>
              if r22 = true then
                if a0.length + ([58] : List UInt8).length ≤ maxStr then
                  if (a0 ++ [58]).length + a1.length ≤ maxStr then
                    (dec (eT2 D.str D.str) (pc prog 20 [.str ((a0 ++ [58]) ++ a1)])).bind fun r28 =>
                    if a0.length + ([58] : List UInt8).length ≤ maxStr then
                      if (a0 ++ [58]).length + a1.length ≤ maxStr then
                        (dec D.bool (pc prog 21 [.str ((a0 ++ [58]) ++ a1)])).bind fun r32 =>
                        if (bif (bif r32 then (r28.1 == a0) else false) then (r28.2 == a1) else false) = true then
                          if a0.length + ([58] : List UInt8).length ≤ maxStr then
                            if (a0 ++ [58]).length + a1.length ≤ maxStr then
                              if ((a0 ++ [58]) ++ a1).length + ([58] : List UInt8).length ≤ maxStr then
                                if (((a0 ++ [58]) ++ a1) ++ [58]).length + a0.length ≤ maxStr then
                                  (dec D.bool (pc prog 21 [.str ((((a0 ++ [58]) ++ a1) ++ [58]) ++ a0)])).bind fun r40 =>
                                  some (!r40)
                                else none
                              else none
                            else none
                          else none
                        else
                          some false
                      else none
                    else none
                  else none
                else none
              else
                if a0.length + ([58] : List UInt8).length ≤ maxStr then
                  if (a0 ++ [58]).length + a1.length ≤ maxStr then
                    (dec D.bool (pc prog 21 [.str ((a0 ++ [58]) ++ a1)])).bind fun r51 =>
                    if r51 = true then
                      (dec D.bool (pc prog 22 [.str a0])).bind fun r55 =>
                      if (!r55) = true then
                        (dec D.bool (pc prog 22 [.str a1])).bind fun r59 =>
                        some r59
                      else
                        some true
                    else
                      some true
                  else none
                else none
            else
              if a0.length + ([58] : List UInt8).length ≤ maxStr then
                if (a0 ++ [58]).length + a1.length ≤ maxStr then
                  (dec D.bool (pc prog 21 [.str ((a0 ++ [58]) ++ a1)])).bind fun r65 =>
                  if r65 = true then
                    (dec D.bool (pc prog 22 [.str a0])).bind fun r69 =>
                    if (!r69) = true then
                      (dec D.bool (pc prog 22 [.str a1])).bind fun r73 =>
                      some r73
                    else
                      some true
                  else
                    some true
                else none
              else none
        else none
      else
        (dec D.bool (pc prog 19 [.str a0])).bind fun r78 =>
        if r78 = true then
          (dec D.bool (pc prog 19 [.str a1])).bind fun r82 =>
          if r82 = true then
            if a0.length + ([58] : List UInt8).length ≤ maxStr then
              if (a0 ++ [58]).length + a1.length ≤ maxStr then
                (dec (eT2 D.str D.str) (pc prog 20 [.str ((a0 ++ [58]) ++ a1)])).bind fun r88 =>
                if a0.length + ([58] : List UInt8).length ≤ maxStr then
                  if (a0 ++ [58]).length + a1.length ≤ maxStr then
                    (dec D.bool (pc prog 21 [.str ((a0 ++ [58]) ++ a1)])).bind fun r92 =>
                    if (bif (bif r92 then (r88.1 == a0) else false) then (r88.2 == a1) else false) = true then
                      if a0.length + ([58] : List UInt8).length ≤ maxStr then
                        if (a0 ++ [58]).length + a1.length ≤ maxStr then
                          if ((a0 ++ [58]) ++ a1).length + ([58] : List UInt8).length ≤ maxStr then
                            if (((a0 ++ [58]) ++ a1) ++ [58]).length + a0.length ≤ maxStr then
                              (dec D.bool (pc prog 21 [.str ((((a0 ++ [58]) ++ a1) ++ [58]) ++ a0)])).bind fun r100 =>
                              some (!r100)
                            else none
                          else none
                        else none
                      else none
                    else
                      some false
                  else none
                else none
              else none
            else none
          else
            if a0.length + ([58] : List UInt8).length ≤ maxStr then
              if (a0 ++ [58]).length + a1.length ≤ maxStr then
                (dec D.bool (pc prog 21 [.str ((a0 ++ [58]) ++ a1)])).bind fun r111 =>
                if r111 = true then
                  (dec D.bool (pc prog 22 [.str a0])).bind fun r115 =>
                  if (!r115) = true then
                    (dec D.bool (pc prog 22 [.str a1])).bind fun r119 =>
                    some r119
                  else
                    some true
                else
                  some true
              else none
            else none
        else
          if a0.length + ([58] : List UInt8).length ≤ maxStr then
            if (a0 ++ [58]).length + a1.length ≤ maxStr then
              (dec D.bool (pc prog 21 [.str ((a0 ++ [58]) ++ a1)])).bind fun r125 =>
              if r125 = true then
                (dec D.bool (pc prog 22 [.str a0])).bind fun r129 =>
                if (!r129) = true then
                  (dec D.bool (pc prog 22 [.str a1])).bind fun r133 =>
                  some r133
                else
                  some true
              else
                some true
            else none
          else none
    else
      (dec D.bool (pc prog 19 [.str a0])).bind fun r145 =>
      if r145 = true then
        (dec D.bool (pc prog 19 [.str a1])).bind fun r149 =>
        if r149 = true then
          if a0.length + ([58] : List UInt8).length ≤ maxStr then
            if (a0 ++ [58]).length + a1.length ≤ maxStr then
              (dec (eT2 D.str D.str) (pc prog 20 [.str ((a0 ++ [58]) ++ a1)])).bind fun r155 =>
              if a0.length + ([58] : List UInt8).length ≤ maxStr then
                if (a0 ++ [58]).length + a1.length ≤ maxStr then
                  (dec D.bool (pc prog 21 [.str ((a0 ++ [58]) ++ a1)])).bind fun r159 =>
                  if (bif (bif r159 then (r155.1 == a0) else false) then (r155.2 == a1) else false) = true then
                    if a0.length + ([58] : List UInt8).length ≤ maxStr then
                      if (a0 ++ [58]).length + a1.length ≤ maxStr then
                        if ((a0 ++ [58]) ++ a1).length + ([58] : List UInt8).length ≤ maxStr then
                          if (((a0 ++ [58]) ++ a1) ++ [58]).length + a0.length ≤ maxStr then
                            (dec D.bool (pc prog 21 [.str ((((a0 ++ [58]) ++ a1) ++ [58]) ++ a0)])).bind fun r167 =>
                            some (!r167)
                          else none
                        else none
                      else none
                    else none
                  else
                    some false
                else none
              else none
            else none
          else none
        else
          if a0.length + ([58] : List UInt8).length ≤ maxStr then
            if (a0 ++ [58]).length + a1.length ≤ maxStr then
              (dec D.bool (pc prog 21 [.str ((a0 ++ [58]) ++ a1)])).bind fun r178 =>
              if r178 = true then
                (dec D.bool (pc prog 22 [.str a0])).bind fun r182 =>
                if (!r182) = true then
                  (dec D.bool (pc prog 22 [.str a1])).bind fun r186 =>
                  some r186
                else
                  some true
              else
                some true
            else none
          else none
      else
        if a0.length + ([58] : List UInt8).length ≤ maxStr then
          if (a0 ++ [58]).length + a1.length ≤ maxStr then
            (dec D.bool (pc prog 21 [.str ((a0 ++ [58]) ++ a1)])).bind fun r192 =>
            if r192 = true then
              (dec D.bool (pc prog 22 [.str a0])).bind fun r196 =>
              if (!r196) = true then
                (dec D.bool (pc prog 22 [.str a1])).bind fun r200 =>
                some r200
              else
                some true
            else
              some true
          else none
        else none
theorem ok4 (a0 : List UInt8) (a1 : List UInt8) (a2 : Int) (r : Bool) (h : P4 a0 a1 a2 = some r) : pc prog 4 [.str a0, .str a1, .int .i32 a2] = some (D.bool r) := by
  unfold P4 at h
  refine pc_of (fn := c4) rfl rfl ?_
  delta c4
  try simp only [go_sem]
  obtain ⟨r1, hr2, h⟩ := Option.bind_eq_some_iff.1 h
  replace hr2 := dec_some hr2
  first | refine WVal_pc hr2 ?_ | (simp only [eT2_eq, eT3_eq, eT4_eq, eT5_eq] at hr2; refine WVal_pc hr2 ?_)
  try simp only [go_sem]
  first | refine WBr_splitN (fun hc3 => ?_) (fun hc4 => ?_) | refine WBr_split (fun hc3 => ?_) (fun hc4 => ?_)
  · rw [if_pos (show (!r1) = true by first | exact hc3 | (rw [hc3]; rfl) | simpa using hc3)] at h
    try simp only [go_sem]
    cases h
    first | rfl | (simp only [go_sem]; done) | (simp only [go_sem]; rfl) | (simp [eName, eRegistry, eDefinition, eForest, eCustom, enames_span, eNode, eforest_trait, eAttr, eforest_key, hc3]; done)
  · rw [if_neg (show ¬ (!r1) = true by first | (rw [hc4]; exact Bool.false_ne_true) | simpa using hc4 | (simp at hc4 ⊢; omega))] at h
    try simp only [go_sem]
    refine WGuard_pure (v := .d (.int .i32 a2)) (fun hb206 => by skip; simp only [go_sem, hc4, hb206]) ?_
    try simp only [go_sem]
    refine WGuard_pure (v := .d (.bool (decide (57343 < a2)))) (fun hb205 => by skip; simp only [go_sem, hc4, hb205]) ?_
    try simp only [go_sem]
    first | refine WBr_splitN (fun hc5 => ?_) (fun hc6 => ?_) | refine WBr_split (fun hc5 => ?_) (fun hc6 => ?_)
    · rw [if_pos (show (bif (decide (a2 < 55296)) then true else (decide (57343 < a2))) = true by first | exact hc5 | (rw [hc5]; rfl) | simpa using hc5)] at h
      try simp only [go_sem]
      obtain ⟨r7, hr8, h⟩ := Option.bind_eq_some_iff.1 h
      replace hr8 := dec_some hr8
      first | refine WVal_pc hr8 ?_ | (simp only [eT2_eq, eT3_eq, eT4_eq, eT5_eq] at hr8; refine WVal_pc hr8 ?_)
      try simp only [go_sem]
      refine WGuard_pure (v := .d (.int .i32 a2)) (fun hb144 => by skip; simp only [go_sem, hc4, hc5, hb144]) ?_
      try simp only [go_sem]
      refine WGuard_pure (v := .d (.bool (decide (0 < a2)))) (fun hb143 => by skip; simp only [go_sem, hc4, hc5, hb143]) ?_
      try simp only [go_sem]
      refine WGuard_pure (v := .d (.int .i32 a2)) (fun hb142 => by skip; simp only [go_sem, hc4, hc5, hb142]) ?_
      try simp only [go_sem]
      refine WGuard_pure (v := .d (.bool (decide (a2 ≤ 1114111)))) (fun hb141 => by skip; simp only [go_sem, hc4, hc5, hb141]) ?_
      try simp only [go_sem]
      refine WGuard_pure (v := .d (.str a0)) (fun hb140 => by skip; simp only [go_sem, hc4, hc5, hb140]) ?_
      try simp only [go_sem]
      refine WGuard_pure (v := .d (.int .i32 a2)) (fun hb139 => by skip; simp only [go_sem, hc4, hc5, hb139]) ?_
      try simp only [go_sem]
      refine WGuard_pure (v := .d (.str (runeB a2))) (fun hb138 => by skip; simp only [go_sem, hc4, hc5, hb138]) ?_
      try simp only [go_sem]
      first | refine WGuard_splitN (fun hc9 => ?_) (fun hc10 => ?_) | refine WGuard_split (fun hc9 => ?_) (fun hc10 => ?_)
      · rw [if_pos (show (bif (bif r7 then (decide (0 < a2)) else false) then (decide (a2 ≤ 1114111)) else false) = true by first | exact hc9 | (rw [hc9]; rfl) | simpa using hc9)] at h
        try simp only [go_sem, hc9]
        obtain ⟨hm11, h⟩ := ite_some h
        try simp only [go_sem, strOp_add' hm11]
        obtain ⟨r12, hr13, h⟩ := Option.bind_eq_some_iff.1 h
        replace hr13 := dec_some hr13
        first | refine WVal_pc hr13 ?_ | (simp only [eT2_eq, eT3_eq, eT4_eq, eT5_eq] at hr13; refine WVal_pc hr13 ?_)
        try simp only [go_sem, strOp_add' hm11]
        obtain ⟨r14, hr15, h⟩ := Option.bind_eq_some_iff.1 h
        replace hr15 := dec_some hr15
        first | refine WVal_pc hr15 ?_ | (simp only [eT2_eq, eT3_eq, eT4_eq, eT5_eq] at hr15; refine WVal_pc hr15 ?_)
        try simp only [go_sem, strOp_add' hm11]
        first | refine WBr_splitN (fun hc16 => ?_) (fun hc17 => ?_) | refine WBr_split (fun hc16 => ?_) (fun hc17 => ?_)
        · rw [if_pos (show (!(r12 == r14)) = true by first | exact hc16 | (rw [hc16]; rfl) | simpa using hc16)] at h
          try simp only [go_sem, strOp_add' hm11]
          cases h
          first | rfl | (simp only [go_sem, strOp_add' hm11]; done) | (simp only [go_sem, strOp_add' hm11]; rfl) | (simp [eName, eRegistry, eDefinition, eForest, eCustom, enames_span, eNode, eforest_trait, eAttr, eforest_key, hc4, hc5, hc9, hc16]; done)
        · rw [if_neg (show ¬ (!(r12 == r14)) = true by first | (rw [hc17]; exact Bool.false_ne_true) | simpa using hc17 | (simp at hc17 ⊢; omega))] at h
          try simp only [go_sem, strOp_add' hm11]
          obtain ⟨r18, hr19, h⟩ := Option.bind_eq_some_iff.1 h
          replace hr19 := dec_some hr19
          first | refine WVal_pc hr19 ?_ | (simp only [eT2_eq, eT3_eq, eT4_eq, eT5_eq] at hr19; refine WVal_pc hr19 ?_)
          try simp only [go_sem, strOp_add' hm11]
          refine WGuard_pure (v := .d (.str a1)) (fun hb77 => by skip; simp only [go_sem, strOp_add' hm11, hc4, hc5, hc9, hc17, hb77]) ?_
          try simp only [go_sem, strOp_add' hm11]
          first | refine WGuard_splitN (fun hc20 => ?_) (fun hc21 => ?_) | refine WGuard_split (fun hc20 => ?_) (fun hc21 => ?_)
          · rw [if_pos (show r18 = true by first | exact hc20 | (rw [hc20]; rfl) | simpa using hc20)] at h
            try simp only [go_sem, strOp_add' hm11, hc20]
            obtain ⟨r22, hr23, h⟩ := Option.bind_eq_some_iff.1 h
            replace hr23 := dec_some hr23
            first | refine WVal_pc hr23 ?_ | (simp only [eT2_eq, eT3_eq, eT4_eq, eT5_eq] at hr23; refine WVal_pc hr23 ?_)
            try simp only [go_sem, strOp_add' hm11]
            first | refine WBr_splitN (fun hc24 => ?_) (fun hc25 => ?_) | refine WBr_split (fun hc24 => ?_) (fun hc25 => ?_)
            · rw [if_pos (show r22 = true by first | exact hc24 | (rw [hc24]; rfl) | simpa using hc24)] at h
              try simp only [go_sem, strOp_add' hm11]
              obtain ⟨hm26, h⟩ := ite_some h
              try simp only [go_sem, strOp_add' hm11, strOp_add' hm26]
              obtain ⟨hm27, h⟩ := ite_some h
              try simp only [go_sem, strOp_add' hm11, strOp_add' hm26, strOp_add' hm27]
              obtain ⟨r28, hr29, h⟩ := Option.bind_eq_some_iff.1 h
              replace hr29 := dec_some hr29
              first | refine WVal_pc hr29 ?_ | (simp only [eT2_eq, eT3_eq, eT4_eq, eT5_eq] at hr29; refine WVal_pc hr29 ?_)
              try simp only [go_sem, strOp_add' hm11, strOp_add' hm26, strOp_add' hm27]
              obtain ⟨hm30, h⟩ := ite_some h
              try simp only [go_sem, strOp_add' hm11, strOp_add' hm26, strOp_add' hm27, strOp_add' hm30]
              obtain ⟨hm31, h⟩ := ite_some h
              try simp only [go_sem, strOp_add' hm11, strOp_add' hm26, strOp_add' hm27, strOp_add' hm30, strOp_add' hm31]
              obtain ⟨r32, hr33, h⟩ := Option.bind_eq_some_iff.1 h
              replace hr33 := dec_some hr33
              first | refine WVal_pc hr33 ?_ | (simp only [eT2_eq, eT3_eq, eT4_eq, eT5_eq] at hr33; refine WVal_pc hr33 ?_)
              try simp only [go_sem, strOp_add' hm11, strOp_add' hm26, strOp_add' hm27, strOp_add' hm30, strOp_add' hm31]
              refine WGuard_pure (v := .d (.str r28.1)) (fun hb48 => by skip; simp only [go_sem, strOp_add' hm11, strOp_add' hm26, strOp_add' hm27, strOp_add' hm30, strOp_add' hm31, hc4, hc5, hc9, hc17, hc20, hc24, hb48]) ?_
              try simp only [go_sem, strOp_add' hm11, strOp_add' hm26, strOp_add' hm27, strOp_add' hm30, strOp_add' hm31]
              refine WGuard_pure (v := .d (.str a0)) (fun hb47 => by skip; simp only [go_sem, strOp_add' hm11, strOp_add' hm26, strOp_add' hm27, strOp_add' hm30, strOp_add' hm31, hc4, hc5, hc9, hc17, hc20, hc24, hb47]) ?_
              try simp only [go_sem, strOp_add' hm11, strOp_add' hm26, strOp_add' hm27, strOp_add' hm30, strOp_add' hm31]
              refine WGuard_pure (v := .d (.bool (r28.1 == a0))) (fun hb46 => by skip; simp only [go_sem, strOp_add' hm11, strOp_add' hm26, strOp_add' hm27, strOp_add' hm30, strOp_add' hm31, hc4, hc5, hc9, hc17, hc20, hc24, hb46]) ?_
              try simp only [go_sem, strOp_add' hm11, strOp_add' hm26, strOp_add' hm27, strOp_add' hm30, strOp_add' hm31]
              refine WGuard_pure (v := .d (.str r28.2)) (fun hb45 => by skip; simp only [go_sem, strOp_add' hm11, strOp_add' hm26, strOp_add' hm27, strOp_add' hm30, strOp_add' hm31, hc4, hc5, hc9, hc17, hc20, hc24, hb45]) ?_
              try simp only [go_sem, strOp_add' hm11, strOp_add' hm26, strOp_add' hm27, strOp_add' hm30, strOp_add' hm31]
              refine WGuard_pure (v := .d (.str a1)) (fun hb44 => by skip; simp only [go_sem, strOp_add' hm11, strOp_add' hm26, strOp_add' hm27, strOp_add' hm30, strOp_add' hm31, hc4, hc5, hc9, hc17, hc20, hc24, hb44]) ?_
              try simp only [go_sem, strOp_add' hm11, strOp_add' hm26, strOp_add' hm27, strOp_add' hm30, strOp_add' hm31]
              refine WGuard_pure (v := .d (.bool (r28.2 == a1))) (fun hb43 => by skip; simp only [go_sem, strOp_add' hm11, strOp_add' hm26, strOp_add' hm27, strOp_add' hm30, strOp_add' hm31, hc4, hc5, hc9, hc17, hc20, hc24, hb43]) ?_
              try simp only [go_sem, strOp_add' hm11, strOp_add' hm26, strOp_add' hm27, strOp_add' hm30, strOp_add' hm31]
              refine WGuard_pure (v := .d (.str a0)) (fun hb42 => by skip; simp only [go_sem, strOp_add' hm11, strOp_add' hm26, strOp_add' hm27, strOp_add' hm30, strOp_add' hm31, hc4, hc5, hc9, hc17, hc20, hc24, hb42]) ?_
              try simp only [go_sem, strOp_add' hm11, strOp_add' hm26, strOp_add' hm27, strOp_add' hm30, strOp_add' hm31]
              first | refine WGuard_splitN (fun hc34 => ?_) (fun hc35 => ?_) | refine WGuard_split (fun hc34 => ?_) (fun hc35 => ?_)
              · rw [if_pos (show (bif (bif r32 then (r28.1 == a0) else false) then (r28.2 == a1) else false) = true by first | exact hc34 | (rw [hc34]; rfl) | simpa using hc34)] at h
                try simp only [go_sem, strOp_add' hm11, strOp_add' hm26, strOp_add' hm27, strOp_add' hm30, strOp_add' hm31, hc34]
                obtain ⟨hm36, h⟩ := ite_some h
                try simp only [go_sem, strOp_add' hm11, strOp_add' hm26, strOp_add' hm27, strOp_add' hm30, strOp_add' hm31, strOp_add' hm36]
                obtain ⟨hm37, h⟩ := ite_some h
                try simp only [go_sem, strOp_add' hm11, strOp_add' hm26, strOp_add' hm27, strOp_add' hm30, strOp_add' hm31, strOp_add' hm36, strOp_add' hm37]
                obtain ⟨hm38, h⟩ := ite_some h
                try simp only [go_sem, strOp_add' hm11, strOp_add' hm26, strOp_add' hm27, strOp_add' hm30, strOp_add' hm31, strOp_add' hm36, strOp_add' hm37, strOp_add' hm38]
                obtain ⟨hm39, h⟩ := ite_some h
                try simp only [go_sem, strOp_add' hm11, strOp_add' hm26, strOp_add' hm27, strOp_add' hm30, strOp_add' hm31, strOp_add' hm36, strOp_add' hm37, strOp_add' hm38, strOp_add' hm39]
                obtain ⟨r40, hr41, h⟩ := Option.bind_eq_some_iff.1 h
                replace hr41 := dec_some hr41
                first | refine WVal_pc hr41 ?_ | (simp only [eT2_eq, eT3_eq, eT4_eq, eT5_eq] at hr41; refine WVal_pc hr41 ?_)
                try simp only [go_sem, strOp_add' hm11, strOp_add' hm26, strOp_add' hm27, strOp_add' hm30, strOp_add' hm31, strOp_add' hm36, strOp_add' hm37, strOp_add' hm38, strOp_add' hm39]
                cases h
                first | rfl | (simp only [go_sem, strOp_add' hm11, strOp_add' hm26, strOp_add' hm27, strOp_add' hm30, strOp_add' hm31, strOp_add' hm36, strOp_add' hm37, strOp_add' hm38, strOp_add' hm39]; done) | (simp only [go_sem, strOp_add' hm11, strOp_add' hm26, strOp_add' hm27, strOp_add' hm30, strOp_add' hm31, strOp_add' hm36, strOp_add' hm37, strOp_add' hm38, strOp_add' hm39]; rfl) | (simp [eName, eRegistry, eDefinition, eForest, eCustom, enames_span, eNode, eforest_trait, eAttr, eforest_key, hc4, hc5, hc9, hc17, hc20, hc24, hc34]; done)
              · rw [if_neg (show ¬ (bif (bif r32 then (r28.1 == a0) else false) then (r28.2 == a1) else false) = true by first | (rw [hc35]; exact Bool.false_ne_true) | simpa using hc35 | (simp at hc35 ⊢; omega))] at h
                try simp only [go_sem, strOp_add' hm11, strOp_add' hm26, strOp_add' hm27, strOp_add' hm30, strOp_add' hm31, hc35]
                cases h
                first | rfl | (simp only [go_sem, strOp_add' hm11, strOp_add' hm26, strOp_add' hm27, strOp_add' hm30, strOp_add' hm31]; done) | (simp only [go_sem, strOp_add' hm11, strOp_add' hm26, strOp_add' hm27, strOp_add' hm30, strOp_add' hm31]; rfl) | (simp [eName, eRegistry, eDefinition, eForest, eCustom, enames_span, eNode, eforest_trait, eAttr, eforest_key, hc4, hc5, hc9, hc17, hc20, hc24, hc35]; done)
            · rw [if_neg (show ¬ r22 = true by first | (rw [hc25]; exact Bool.false_ne_true) | simpa using hc25 | (simp at hc25 ⊢; omega))] at h
              try simp only [go_sem, strOp_add' hm11]
              obtain ⟨hm49, h⟩ := ite_some h
              try simp only [go_sem, strOp_add' hm11, strOp_add' hm49]
              obtain ⟨hm50, h⟩ := ite_some h
              try simp only [go_sem, strOp_add' hm11, strOp_add' hm49, strOp_add' hm50]
              obtain ⟨r51, hr52, h⟩ := Option.bind_eq_some_iff.1 h
              replace hr52 := dec_some hr52
              first | refine WVal_pc hr52 ?_ | (simp only [eT2_eq, eT3_eq, eT4_eq, eT5_eq] at hr52; refine WVal_pc hr52 ?_)
              try simp only [go_sem, strOp_add' hm11, strOp_add' hm49, strOp_add' hm50]
              refine WGuard_pure (v := .d (.str a0)) (fun hb62 => by skip; simp only [go_sem, strOp_add' hm11, strOp_add' hm49, strOp_add' hm50, hc4, hc5, hc9, hc17, hc20, hc25, hb62]) ?_
              try simp only [go_sem, strOp_add' hm11, strOp_add' hm49, strOp_add' hm50]
              first | refine WGuard_splitN (fun hc53 => ?_) (fun hc54 => ?_) | refine WGuard_split (fun hc53 => ?_) (fun hc54 => ?_)
              · rw [if_pos (show r51 = true by first | exact hc53 | (rw [hc53]; rfl) | simpa using hc53)] at h
                try simp only [go_sem, strOp_add' hm11, strOp_add' hm49, strOp_add' hm50, hc53]
                obtain ⟨r55, hr56, h⟩ := Option.bind_eq_some_iff.1 h
                replace hr56 := dec_some hr56
                first | refine WVal_pc hr56 ?_ | (simp only [eT2_eq, eT3_eq, eT4_eq, eT5_eq] at hr56; refine WVal_pc hr56 ?_)
                try simp only [go_sem, strOp_add' hm11, strOp_add' hm49, strOp_add' hm50]
                refine WGuard_pure (v := .d (.str a1)) (fun hb61 => by skip; simp only [go_sem, strOp_add' hm11, strOp_add' hm49, strOp_add' hm50, hc4, hc5, hc9, hc17, hc20, hc25, hc53, hb61]) ?_
                try simp only [go_sem, strOp_add' hm11, strOp_add' hm49, strOp_add' hm50]
                first | refine WGuard_splitN (fun hc57 => ?_) (fun hc58 => ?_) | refine WGuard_split (fun hc57 => ?_) (fun hc58 => ?_)
                · rw [if_pos (show (!r55) = true by first | exact hc57 | (rw [hc57]; rfl) | simpa using hc57)] at h
                  try simp only [go_sem, strOp_add' hm11, strOp_add' hm49, strOp_add' hm50, hc57]
                  obtain ⟨r59, hr60, h⟩ := Option.bind_eq_some_iff.1 h
                  replace hr60 := dec_some hr60
                  first | refine WVal_pc hr60 ?_ | (simp only [eT2_eq, eT3_eq, eT4_eq, eT5_eq] at hr60; refine WVal_pc hr60 ?_)
                  try simp only [go_sem, strOp_add' hm11, strOp_add' hm49, strOp_add' hm50]
                  cases h
                  first | rfl | (simp only [go_sem, strOp_add' hm11, strOp_add' hm49, strOp_add' hm50]; done) | (simp only [go_sem, strOp_add' hm11, strOp_add' hm49, strOp_add' hm50]; rfl) | (simp [eName, eRegistry, eDefinition, eForest, eCustom, enames_span, eNode, eforest_trait, eAttr, eforest_key, hc4, hc5, hc9, hc17, hc20, hc25, hc53, hc57]; done)
                · rw [if_neg (show ¬ (!r55) = true by first | (rw [hc58]; exact Bool.false_ne_true) | simpa using hc58 | (simp at hc58 ⊢; omega))] at h
                  try simp only [go_sem, strOp_add' hm11, strOp_add' hm49, strOp_add' hm50, hc58]
                  cases h
                  first | rfl | (simp only [go_sem, strOp_add' hm11, strOp_add' hm49, strOp_add' hm50]; done) | (simp only [go_sem, strOp_add' hm11, strOp_add' hm49, strOp_add' hm50]; rfl) | (simp [eName, eRegistry, eDefinition, eForest, eCustom, enames_span, eNode, eforest_trait, eAttr, eforest_key, hc4, hc5, hc9, hc17, hc20, hc25, hc53, hc58]; done)
              · rw [if_neg (show ¬ r51 = true by first | (rw [hc54]; exact Bool.false_ne_true) | simpa using hc54 | (simp at hc54 ⊢; omega))] at h
                try simp only [go_sem, strOp_add' hm11, strOp_add' hm49, strOp_add' hm50, hc54]
                cases h
                first | rfl | (simp only [go_sem, strOp_add' hm11, strOp_add' hm49, strOp_add' hm50]; done) | (simp only [go_sem, strOp_add' hm11, strOp_add' hm49, strOp_add' hm50]; rfl) | (simp [eName, eRegistry, eDefinition, eForest, eCustom, enames_span, eNode, eforest_trait, eAttr, eforest_key, hc4, hc5, hc9, hc17, hc20, hc25, hc54]; done)
          · rw [if_neg (show ¬ r18 = true by first | (rw [hc21]; exact Bool.false_ne_true) | simpa using hc21 | (simp at hc21 ⊢; omega))] at h
            try simp only [go_sem, strOp_add' hm11, hc21]
            obtain ⟨hm63, h⟩ := ite_some h
            try simp only [go_sem, strOp_add' hm11, strOp_add' hm63]
            obtain ⟨hm64, h⟩ := ite_some h
            try simp only [go_sem, strOp_add' hm11, strOp_add' hm63, strOp_add' hm64]
            obtain ⟨r65, hr66, h⟩ := Option.bind_eq_some_iff.1 h
            replace hr66 := dec_some hr66
            first | refine WVal_pc hr66 ?_ | (simp only [eT2_eq, eT3_eq, eT4_eq, eT5_eq] at hr66; refine WVal_pc hr66 ?_)
            try simp only [go_sem, strOp_add' hm11, strOp_add' hm63, strOp_add' hm64]
            refine WGuard_pure (v := .d (.str a0)) (fun hb76 => by skip; simp only [go_sem, strOp_add' hm11, strOp_add' hm63, strOp_add' hm64, hc4, hc5, hc9, hc17, hc21, hb76]) ?_
            try simp only [go_sem, strOp_add' hm11, strOp_add' hm63, strOp_add' hm64]
            first | refine WGuard_splitN (fun hc67 => ?_) (fun hc68 => ?_) | refine WGuard_split (fun hc67 => ?_) (fun hc68 => ?_)
            · rw [if_pos (show r65 = true by first | exact hc67 | (rw [hc67]; rfl) | simpa using hc67)] at h
              try simp only [go_sem, strOp_add' hm11, strOp_add' hm63, strOp_add' hm64, hc67]
              obtain ⟨r69, hr70, h⟩ := Option.bind_eq_some_iff.1 h
              replace hr70 := dec_some hr70
              first | refine WVal_pc hr70 ?_ | (simp only [eT2_eq, eT3_eq, eT4_eq, eT5_eq] at hr70; refine WVal_pc hr70 ?_)
              try simp only [go_sem, strOp_add' hm11, strOp_add' hm63, strOp_add' hm64]
              refine WGuard_pure (v := .d (.str a1)) (fun hb75 => by skip; simp only [go_sem, strOp_add' hm11, strOp_add' hm63, strOp_add' hm64, hc4, hc5, hc9, hc17, hc21, hc67, hb75]) ?_
              try simp only [go_sem, strOp_add' hm11, strOp_add' hm63, strOp_add' hm64]
              first | refine WGuard_splitN (fun hc71 => ?_) (fun hc72 => ?_) | refine WGuard_split (fun hc71 => ?_) (fun hc72 => ?_)
              · rw [if_pos (show (!r69) = true by first | exact hc71 | (rw [hc71]; rfl) | simpa using hc71)] at h
                try simp only [go_sem, strOp_add' hm11, strOp_add' hm63, strOp_add' hm64, hc71]
                obtain ⟨r73, hr74, h⟩ := Option.bind_eq_some_iff.1 h
                replace hr74 := dec_some hr74
                first | refine WVal_pc hr74 ?_ | (simp only [eT2_eq, eT3_eq, eT4_eq, eT5_eq] at hr74; refine WVal_pc hr74 ?_)
                try simp only [go_sem, strOp_add' hm11, strOp_add' hm63, strOp_add' hm64]
                cases h
                first | rfl | (simp only [go_sem, strOp_add' hm11, strOp_add' hm63, strOp_add' hm64]; done) | (simp only [go_sem, strOp_add' hm11, strOp_add' hm63, strOp_add' hm64]; rfl) | (simp [eName, eRegistry, eDefinition, eForest, eCustom, enames_span, eNode, eforest_trait, eAttr, eforest_key, hc4, hc5, hc9, hc17, hc21, hc67, hc71]; done)
              · rw [if_neg (show ¬ (!r69) = true by first | (rw [hc72]; exact Bool.false_ne_true) | simpa using hc72 | (simp at hc72 ⊢; omega))] at h
                try simp only [go_sem, strOp_add' hm11, strOp_add' hm63, strOp_add' hm64, hc72]
                cases h
                first | rfl | (simp only [go_sem, strOp_add' hm11, strOp_add' hm63, strOp_add' hm64]; done) | (simp only [go_sem, strOp_add' hm11, strOp_add' hm63, strOp_add' hm64]; rfl) | (simp [eName, eRegistry, eDefinition, eForest, eCustom, enames_span, eNode, eforest_trait, eAttr, eforest_key, hc4, hc5, hc9, hc17, hc21, hc67, hc72]; done)
            · rw [if_neg (show ¬ r65 = true by first | (rw [hc68]; exact Bool.false_ne_true) | simpa using hc68 | (simp at hc68 ⊢; omega))] at h
              try simp only [go_sem, strOp_add' hm11, strOp_add' hm63, strOp_add' hm64, hc68]
              cases h
              first | rfl | (simp only [go_sem, strOp_add' hm11, strOp_add' hm63, strOp_add' hm64]; done) | (simp only [go_sem, strOp_add' hm11, strOp_add' hm63, strOp_add' hm64]; rfl) | (simp [eName, eRegistry, eDefinition, eForest, eCustom, enames_span, eNode, eforest_trait, eAttr, eforest_key, hc4, hc5, hc9, hc17, hc21, hc68]; done)
      · rw [if_neg (show ¬ (bif (bif r7 then (decide (0 < a2)) else false) then (decide (a2 ≤ 1114111)) else false) = true by first | (rw [hc10]; exact Bool.false_ne_true) | simpa using hc10 | (simp at hc10 ⊢; omega))] at h
        try simp only [go_sem, hc10]
        obtain ⟨r78, hr79, h⟩ := Option.bind_eq_some_iff.1 h
        replace hr79 := dec_some hr79
        first | refine WVal_pc hr79 ?_ | (simp only [eT2_eq, eT3_eq, eT4_eq, eT5_eq] at hr79; refine WVal_pc hr79 ?_)
        try simp only [go_sem]
        refine WGuard_pure (v := .d (.str a1)) (fun hb137 => by skip; simp only [go_sem, hc4, hc5, hc10, hb137]) ?_
        try simp only [go_sem]
        first | refine WGuard_splitN (fun hc80 => ?_) (fun hc81 => ?_) | refine WGuard_split (fun hc80 => ?_) (fun hc81 => ?_)
        · rw [if_pos (show r78 = true by first | exact hc80 | (rw [hc80]; rfl) | simpa using hc80)] at h
          try simp only [go_sem, hc80]
          obtain ⟨r82, hr83, h⟩ := Option.bind_eq_some_iff.1 h
          replace hr83 := dec_some hr83
          first | refine WVal_pc hr83 ?_ | (simp only [eT2_eq, eT3_eq, eT4_eq, eT5_eq] at hr83; refine WVal_pc hr83 ?_)
          try simp only [go_sem]
          first | refine WBr_splitN (fun hc84 => ?_) (fun hc85 => ?_) | refine WBr_split (fun hc84 => ?_) (fun hc85 => ?_)
          · rw [if_pos (show r82 = true by first | exact hc84 | (rw [hc84]; rfl) | simpa using hc84)] at h
            try simp only [go_sem]
            obtain ⟨hm86, h⟩ := ite_some h
            try simp only [go_sem, strOp_add' hm86]
            obtain ⟨hm87, h⟩ := ite_some h
            try simp only [go_sem, strOp_add' hm86, strOp_add' hm87]
            obtain ⟨r88, hr89, h⟩ := Option.bind_eq_some_iff.1 h
            replace hr89 := dec_some hr89
            first | refine WVal_pc hr89 ?_ | (simp only [eT2_eq, eT3_eq, eT4_eq, eT5_eq] at hr89; refine WVal_pc hr89 ?_)
            try simp only [go_sem, strOp_add' hm86, strOp_add' hm87]
            obtain ⟨hm90, h⟩ := ite_some h
            try simp only [go_sem, strOp_add' hm86, strOp_add' hm87, strOp_add' hm90]
            obtain ⟨hm91, h⟩ := ite_some h
            try simp only [go_sem, strOp_add' hm86, strOp_add' hm87, strOp_add' hm90, strOp_add' hm91]
            obtain ⟨r92, hr93, h⟩ := Option.bind_eq_some_iff.1 h
            replace hr93 := dec_some hr93
            first | refine WVal_pc hr93 ?_ | (simp only [eT2_eq, eT3_eq, eT4_eq, eT5_eq] at hr93; refine WVal_pc hr93 ?_)
            try simp only [go_sem, strOp_add' hm86, strOp_add' hm87, strOp_add' hm90, strOp_add' hm91]
            refine WGuard_pure (v := .d (.str r88.1)) (fun hb108 => by skip; simp only [go_sem, strOp_add' hm86, strOp_add' hm87, strOp_add' hm90, strOp_add' hm91, hc4, hc5, hc10, hc80, hc84, hb108]) ?_
            try simp only [go_sem, strOp_add' hm86, strOp_add' hm87, strOp_add' hm90, strOp_add' hm91]
            refine WGuard_pure (v := .d (.str a0)) (fun hb107 => by skip; simp only [go_sem, strOp_add' hm86, strOp_add' hm87, strOp_add' hm90, strOp_add' hm91, hc4, hc5, hc10, hc80, hc84, hb107]) ?_
            try simp only [go_sem, strOp_add' hm86, strOp_add' hm87, strOp_add' hm90, strOp_add' hm91]
            refine WGuard_pure (v := .d (.bool (r88.1 == a0))) (fun hb106 => by skip; simp only [go_sem, strOp_add' hm86, strOp_add' hm87, strOp_add' hm90, strOp_add' hm91, hc4, hc5, hc10, hc80, hc84, hb106]) ?_
            try simp only [go_sem, strOp_add' hm86, strOp_add' hm87, strOp_add' hm90, strOp_add' hm91]
            refine WGuard_pure (v := .d (.str r88.2)) (fun hb105 => by skip; simp only [go_sem, strOp_add' hm86, strOp_add' hm87, strOp_add' hm90, strOp_add' hm91, hc4, hc5, hc10, hc80, hc84, hb105]) ?_
            try simp only [go_sem, strOp_add' hm86, strOp_add' hm87, strOp_add' hm90, strOp_add' hm91]
            refine WGuard_pure (v := .d (.str a1)) (fun hb104 => by skip; simp only [go_sem, strOp_add' hm86, strOp_add' hm87, strOp_add' hm90, strOp_add' hm91, hc4, hc5, hc10, hc80, hc84, hb104]) ?_
            try simp only [go_sem, strOp_add' hm86, strOp_add' hm87, strOp_add' hm90, strOp_add' hm91]
            refine WGuard_pure (v := .d (.bool (r88.2 == a1))) (fun hb103 => by skip; simp only [go_sem, strOp_add' hm86, strOp_add' hm87, strOp_add' hm90, strOp_add' hm91, hc4, hc5, hc10, hc80, hc84, hb103]) ?_
            try simp only [go_sem, strOp_add' hm86, strOp_add' hm87, strOp_add' hm90, strOp_add' hm91]
            refine WGuard_pure (v := .d (.str a0)) (fun hb102 => by skip; simp only [go_sem, strOp_add' hm86, strOp_add' hm87, strOp_add' hm90, strOp_add' hm91, hc4, hc5, hc10, hc80, hc84, hb102]) ?_
            try simp only [go_sem, strOp_add' hm86, strOp_add' hm87, strOp_add' hm90, strOp_add' hm91]
            first | refine WGuard_splitN (fun hc94 => ?_) (fun hc95 => ?_) | refine WGuard_split (fun hc94 => ?_) (fun hc95 => ?_)
            · rw [if_pos (show (bif (bif r92 then (r88.1 == a0) else false) then (r88.2 == a1) else false) = true by first | exact hc94 | (rw [hc94]; rfl) | simpa using hc94)] at h
              try simp only [go_sem, strOp_add' hm86, strOp_add' hm87, strOp_add' hm90, strOp_add' hm91, hc94]
              obtain ⟨hm96, h⟩ := ite_some h
              try simp only [go_sem, strOp_add' hm86, strOp_add' hm87, strOp_add' hm90, strOp_add' hm91, strOp_add' hm96]
              obtain ⟨hm97, h⟩ := ite_some h
              try simp only [go_sem, strOp_add' hm86, strOp_add' hm87, strOp_add' hm90, strOp_add' hm91, strOp_add' hm96, strOp_add' hm97]
              obtain ⟨hm98, h⟩ := ite_some h
              try simp only [go_sem, strOp_add' hm86, strOp_add' hm87, strOp_add' hm90, strOp_add' hm91, strOp_add' hm96, strOp_add' hm97, strOp_add' hm98]
              obtain ⟨hm99, h⟩ := ite_some h
              try simp only [go_sem, strOp_add' hm86, strOp_add' hm87, strOp_add' hm90, strOp_add' hm91, strOp_add' hm96, strOp_add' hm97, strOp_add' hm98, strOp_add' hm99]
              obtain ⟨r100, hr101, h⟩ := Option.bind_eq_some_iff.1 h
              replace hr101 := dec_some hr101
              first | refine WVal_pc hr101 ?_ | (simp only [eT2_eq, eT3_eq, eT4_eq, eT5_eq] at hr101; refine WVal_pc hr101 ?_)
              try simp only [go_sem, strOp_add' hm86, strOp_add' hm87, strOp_add' hm90, strOp_add' hm91, strOp_add' hm96, strOp_add' hm97, strOp_add' hm98, strOp_add' hm99]
              cases h
              first | rfl | (simp only [go_sem, strOp_add' hm86, strOp_add' hm87, strOp_add' hm90, strOp_add' hm91, strOp_add' hm96, strOp_add' hm97, strOp_add' hm98, strOp_add' hm99]; done) | (simp only [go_sem, strOp_add' hm86, strOp_add' hm87, strOp_add' hm90, strOp_add' hm91, strOp_add' hm96, strOp_add' hm97, strOp_add' hm98, strOp_add' hm99]; rfl) | (simp [eName, eRegistry, eDefinition, eForest, eCustom, enames_span, eNode, eforest_trait, eAttr, eforest_key, hc4, hc5, hc10, hc80, hc84, hc94]; done)
            · rw [if_neg (show ¬ (bif (bif r92 then (r88.1 == a0) else false) then (r88.2 == a1) else false) = true by first | (rw [hc95]; exact Bool.false_ne_true) | simpa using hc95 | (simp at hc95 ⊢; omega))] at h
              try simp only [go_sem, strOp_add' hm86, strOp_add' hm87, strOp_add' hm90, strOp_add' hm91, hc95]
              cases h
              first | rfl | (simp only [go_sem, strOp_add' hm86, strOp_add' hm87, strOp_add' hm90, strOp_add' hm91]; done) | (simp only [go_sem, strOp_add' hm86, strOp_add' hm87, strOp_add' hm90, strOp_add' hm91]; rfl) | (simp [eName, eRegistry, eDefinition, eForest, eCustom, enames_span, eNode, eforest_trait, eAttr, eforest_key, hc4, hc5, hc10, hc80, hc84, hc95]; done)
          · rw [if_neg (show ¬ r82 = true by first | (rw [hc85]; exact Bool.false_ne_true) | simpa using hc85 | (simp at hc85 ⊢; omega))] at h
            try simp only [go_sem]
            obtain ⟨hm109, h⟩ := ite_some h
            try simp only [go_sem, strOp_add' hm109]
            obtain ⟨hm110, h⟩ := ite_some h
            try simp only [go_sem, strOp_add' hm109, strOp_add' hm110]
            obtain ⟨r111, hr112, h⟩ := Option.bind_eq_some_iff.1 h
            replace hr112 := dec_some hr112
            first | refine WVal_pc hr112 ?_ | (simp only [eT2_eq, eT3_eq, eT4_eq, eT5_eq] at hr112; refine WVal_pc hr112 ?_)
            try simp only [go_sem, strOp_add' hm109, strOp_add' hm110]
            refine WGuard_pure (v := .d (.str a0)) (fun hb122 => by skip; simp only [go_sem, strOp_add' hm109, strOp_add' hm110, hc4, hc5, hc10, hc80, hc85, hb122]) ?_
            try simp only [go_sem, strOp_add' hm109, strOp_add' hm110]
            first | refine WGuard_splitN (fun hc113 => ?_) (fun hc114 => ?_) | refine WGuard_split (fun hc113 => ?_) (fun hc114 => ?_)
            · rw [if_pos (show r111 = true by first | exact hc113 | (rw [hc113]; rfl) | simpa using hc113)] at h
              try simp only [go_sem, strOp_add' hm109, strOp_add' hm110, hc113]
              obtain ⟨r115, hr116, h⟩ := Option.bind_eq_some_iff.1 h
              replace hr116 := dec_some hr116
              first | refine WVal_pc hr116 ?_ | (simp only [eT2_eq, eT3_eq, eT4_eq, eT5_eq] at hr116; refine WVal_pc hr116 ?_)
              try simp only [go_sem, strOp_add' hm109, strOp_add' hm110]
              refine WGuard_pure (v := .d (.str a1)) (fun hb121 => by skip; simp only [go_sem, strOp_add' hm109, strOp_add' hm110, hc4, hc5, hc10, hc80, hc85, hc113, hb121]) ?_
              try simp only [go_sem, strOp_add' hm109, strOp_add' hm110]
              first | refine WGuard_splitN (fun hc117 => ?_) (fun hc118 => ?_) | refine WGuard_split (fun hc117 => ?_) (fun hc118 => ?_)
              · rw [if_pos (show (!r115) = true by first | exact hc117 | (rw [hc117]; rfl) | simpa using hc117)] at h
                try simp only [go_sem, strOp_add' hm109, strOp_add' hm110, hc117]
                obtain ⟨r119, hr120, h⟩ := Option.bind_eq_some_iff.1 h
                replace hr120 := dec_some hr120
                first | refine WVal_pc hr120 ?_ | (simp only [eT2_eq, eT3_eq, eT4_eq, eT5_eq] at hr120; refine WVal_pc hr120 ?_)
                try simp only [go_sem, strOp_add' hm109, strOp_add' hm110]
                cases h
                first | rfl | (simp only [go_sem, strOp_add' hm109, strOp_add' hm110]; done) | (simp only [go_sem, strOp_add' hm109, strOp_add' hm110]; rfl) | (simp [eName, eRegistry, eDefinition, eForest, eCustom, enames_span, eNode, eforest_trait, eAttr, eforest_key, hc4, hc5, hc10, hc80, hc85, hc113, hc117]; done)
              · rw [if_neg (show ¬ (!r115) = true by first | (rw [hc118]; exact Bool.false_ne_true) | simpa using hc118 | (simp at hc118 ⊢; omega))] at h
                try simp only [go_sem, strOp_add' hm109, strOp_add' hm110, hc118]
                cases h
                first | rfl | (simp only [go_sem, strOp_add' hm109, strOp_add' hm110]; done) | (simp only [go_sem, strOp_add' hm109, strOp_add' hm110]; rfl) | (simp [eName, eRegistry, eDefinition, eForest, eCustom, enames_span, eNode, eforest_trait, eAttr, eforest_key, hc4, hc5, hc10, hc80, hc85, hc113, hc118]; done)
            · rw [if_neg (show ¬ r111 = true by first | (rw [hc114]; exact Bool.false_ne_true) | simpa using hc114 | (simp at hc114 ⊢; omega))] at h
              try simp only [go_sem, strOp_add' hm109, strOp_add' hm110, hc114]
              cases h
              first | rfl | (simp only [go_sem, strOp_add' hm109, strOp_add' hm110]; done) | (simp only [go_sem, strOp_add' hm109, strOp_add' hm110]; rfl) | (simp [eName, eRegistry, eDefinition, eForest, eCustom, enames_span, eNode, eforest_trait, eAttr, eforest_key, hc4, hc5, hc10, hc80, hc85, hc114]; done)
        · rw [if_neg (show ¬ r78 = true by first | (rw [hc81]; exact Bool.false_ne_true) | simpa using hc81 | (simp at hc81 ⊢; omega))] at h
          try simp only [go_sem, hc81]
          obtain ⟨hm123, h⟩ := ite_some h
          try simp only [go_sem, strOp_add' hm123]
          obtain ⟨hm124, h⟩ := ite_some h
          try simp only [go_sem, strOp_add' hm123, strOp_add' hm124]
          obtain ⟨r125, hr126, h⟩ := Option.bind_eq_some_iff.1 h
          replace hr126 := dec_some hr126
          first | refine WVal_pc hr126 ?_ | (simp only [eT2_eq, eT3_eq, eT4_eq, eT5_eq] at hr126; refine WVal_pc hr126 ?_)
          try simp only [go_sem, strOp_add' hm123, strOp_add' hm124]
          refine WGuard_pure (v := .d (.str a0)) (fun hb136 => by skip; simp only [go_sem, strOp_add' hm123, strOp_add' hm124, hc4, hc5, hc10, hc81, hb136]) ?_
          try simp only [go_sem, strOp_add' hm123, strOp_add' hm124]
          first | refine WGuard_splitN (fun hc127 => ?_) (fun hc128 => ?_) | refine WGuard_split (fun hc127 => ?_) (fun hc128 => ?_)
          · rw [if_pos (show r125 = true by first | exact hc127 | (rw [hc127]; rfl) | simpa using hc127)] at h
            try simp only [go_sem, strOp_add' hm123, strOp_add' hm124, hc127]
            obtain ⟨r129, hr130, h⟩ := Option.bind_eq_some_iff.1 h
            replace hr130 := dec_some hr130
            first | refine WVal_pc hr130 ?_ | (simp only [eT2_eq, eT3_eq, eT4_eq, eT5_eq] at hr130; refine WVal_pc hr130 ?_)
            try simp only [go_sem, strOp_add' hm123, strOp_add' hm124]
            refine WGuard_pure (v := .d (.str a1)) (fun hb135 => by skip; simp only [go_sem, strOp_add' hm123, strOp_add' hm124, hc4, hc5, hc10, hc81, hc127, hb135]) ?_
            try simp only [go_sem, strOp_add' hm123, strOp_add' hm124]
            first | refine WGuard_splitN (fun hc131 => ?_) (fun hc132 => ?_) | refine WGuard_split (fun hc131 => ?_) (fun hc132 => ?_)
            · rw [if_pos (show (!r129) = true by first | exact hc131 | (rw [hc131]; rfl) | simpa using hc131)] at h
              try simp only [go_sem, strOp_add' hm123, strOp_add' hm124, hc131]
              obtain ⟨r133, hr134, h⟩ := Option.bind_eq_some_iff.1 h
              replace hr134 := dec_some hr134
              first | refine WVal_pc hr134 ?_ | (simp only [eT2_eq, eT3_eq, eT4_eq, eT5_eq] at hr134; refine WVal_pc hr134 ?_)
              try simp only [go_sem, strOp_add' hm123, strOp_add' hm124]
              cases h
              first | rfl | (simp only [go_sem, strOp_add' hm123, strOp_add' hm124]; done) | (simp only [go_sem, strOp_add' hm123, strOp_add' hm124]; rfl) | (simp [eName, eRegistry, eDefinition, eForest, eCustom, enames_span, eNode, eforest_trait, eAttr, eforest_key, hc4, hc5, hc10, hc81, hc127, hc131]; done)
            · rw [if_neg (show ¬ (!r129) = true by first | (rw [hc132]; exact Bool.false_ne_true) | simpa using hc132 | (simp at hc132 ⊢; omega))] at h
              try simp only [go_sem, strOp_add' hm123, strOp_add' hm124, hc132]
              cases h
              first | rfl | (simp only [go_sem, strOp_add' hm123, strOp_add' hm124]; done) | (simp only [go_sem, strOp_add' hm123, strOp_add' hm124]; rfl) | (simp [eName, eRegistry, eDefinition, eForest, eCustom, enames_span, eNode, eforest_trait, eAttr, eforest_key, hc4, hc5, hc10, hc81, hc127, hc132]; done)
          · rw [if_neg (show ¬ r125 = true by first | (rw [hc128]; exact Bool.false_ne_true) | simpa using hc128 | (simp at hc128 ⊢; omega))] at h
            try simp only [go_sem, strOp_add' hm123, strOp_add' hm124, hc128]
            cases h
            first | rfl | (simp only [go_sem, strOp_add' hm123, strOp_add' hm124]; done) | (simp only [go_sem, strOp_add' hm123, strOp_add' hm124]; rfl) | (simp [eName, eRegistry, eDefinition, eForest, eCustom, enames_span, eNode, eforest_trait, eAttr, eforest_key, hc4, hc5, hc10, hc81, hc128]; done)
    · rw [if_neg (show ¬ (bif (decide (a2 < 55296)) then true else (decide (57343 < a2))) = true by first | (rw [hc6]; exact Bool.false_ne_true) | simpa using hc6 | (simp at hc6 ⊢; omega))] at h
      try simp only [go_sem]
      obtain ⟨r145, hr146, h⟩ := Option.bind_eq_some_iff.1 h
      replace hr146 := dec_some hr146
      first | refine WVal_pc hr146 ?_ | (simp only [eT2_eq, eT3_eq, eT4_eq, eT5_eq] at hr146; refine WVal_pc hr146 ?_)
      try simp only [go_sem]
      refine WGuard_pure (v := .d (.str a1)) (fun hb204 => by skip; simp only [go_sem, hc4, hc6, hb204]) ?_
      try simp only [go_sem]
      first | refine WGuard_splitN (fun hc147 => ?_) (fun hc148 => ?_) | refine WGuard_split (fun hc147 => ?_) (fun hc148 => ?_)
      · rw [if_pos (show r145 = true by first | exact hc147 | (rw [hc147]; rfl) | simpa using hc147)] at h
        try simp only [go_sem, hc147]
        obtain ⟨r149, hr150, h⟩ := Option.bind_eq_some_iff.1 h
        replace hr150 := dec_some hr150
        first | refine WVal_pc hr150 ?_ | (simp only [eT2_eq, eT3_eq, eT4_eq, eT5_eq] at hr150; refine WVal_pc hr150 ?_)
        try simp only [go_sem]
        first | refine WBr_splitN (fun hc151 => ?_) (fun hc152 => ?_) | refine WBr_split (fun hc151 => ?_) (fun hc152 => ?_)
        · rw [if_pos (show r149 = true by first | exact hc151 | (rw [hc151]; rfl) | simpa using hc151)] at h
          try simp only [go_sem]
          obtain ⟨hm153, h⟩ := ite_some h
          try simp only [go_sem, strOp_add' hm153]
          obtain ⟨hm154, h⟩ := ite_some h
          try simp only [go_sem, strOp_add' hm153, strOp_add' hm154]
          obtain ⟨r155, hr156, h⟩ := Option.bind_eq_some_iff.1 h
          replace hr156 := dec_some hr156
          first | refine WVal_pc hr156 ?_ | (simp only [eT2_eq, eT3_eq, eT4_eq, eT5_eq] at hr156; refine WVal_pc hr156 ?_)
          try simp only [go_sem, strOp_add' hm153, strOp_add' hm154]
          obtain ⟨hm157, h⟩ := ite_some h
          try simp only [go_sem, strOp_add' hm153, strOp_add' hm154, strOp_add' hm157]
          obtain ⟨hm158, h⟩ := ite_some h
          try simp only [go_sem, strOp_add' hm153, strOp_add' hm154, strOp_add' hm157, strOp_add' hm158]
          obtain ⟨r159, hr160, h⟩ := Option.bind_eq_some_iff.1 h
          replace hr160 := dec_some hr160
          first | refine WVal_pc hr160 ?_ | (simp only [eT2_eq, eT3_eq, eT4_eq, eT5_eq] at hr160; refine WVal_pc hr160 ?_)
          try simp only [go_sem, strOp_add' hm153, strOp_add' hm154, strOp_add' hm157, strOp_add' hm158]
          refine WGuard_pure (v := .d (.str r155.1)) (fun hb175 => by skip; simp only [go_sem, strOp_add' hm153, strOp_add' hm154, strOp_add' hm157, strOp_add' hm158, hc4, hc6, hc147, hc151, hb175]) ?_
          try simp only [go_sem, strOp_add' hm153, strOp_add' hm154, strOp_add' hm157, strOp_add' hm158]
          refine WGuard_pure (v := .d (.str a0)) (fun hb174 => by skip; simp only [go_sem, strOp_add' hm153, strOp_add' hm154, strOp_add' hm157, strOp_add' hm158, hc4, hc6, hc147, hc151, hb174]) ?_
          try simp only [go_sem, strOp_add' hm153, strOp_add' hm154, strOp_add' hm157, strOp_add' hm158]
          refine WGuard_pure (v := .d (.bool (r155.1 == a0))) (fun hb173 => by skip; simp only [go_sem, strOp_add' hm153, strOp_add' hm154, strOp_add' hm157, strOp_add' hm158, hc4, hc6, hc147, hc151, hb173]) ?_
          try simp only [go_sem, strOp_add' hm153, strOp_add' hm154, strOp_add' hm157, strOp_add' hm158]
          refine WGuard_pure (v := .d (.str r155.2)) (fun hb172 => by skip; simp only [go_sem, strOp_add' hm153, strOp_add' hm154, strOp_add' hm157, strOp_add' hm158, hc4, hc6, hc147, hc151, hb172]) ?_
          try simp only [go_sem, strOp_add' hm153, strOp_add' hm154, strOp_add' hm157, strOp_add' hm158]
          refine WGuard_pure (v := .d (.str a1)) (fun hb171 => by skip; simp only [go_sem, strOp_add' hm153, strOp_add' hm154, strOp_add' hm157, strOp_add' hm158, hc4, hc6, hc147, hc151, hb171]) ?_
          try simp only [go_sem, strOp_add' hm153, strOp_add' hm154, strOp_add' hm157, strOp_add' hm158]
          refine WGuard_pure (v := .d (.bool (r155.2 == a1))) (fun hb170 => by skip; simp only [go_sem, strOp_add' hm153, strOp_add' hm154, strOp_add' hm157, strOp_add' hm158, hc4, hc6, hc147, hc151, hb170]) ?_
          try simp only [go_sem, strOp_add' hm153, strOp_add' hm154, strOp_add' hm157, strOp_add' hm158]
          refine WGuard_pure (v := .d (.str a0)) (fun hb169 => by skip; simp only [go_sem, strOp_add' hm153, strOp_add' hm154, strOp_add' hm157, strOp_add' hm158, hc4, hc6, hc147, hc151, hb169]) ?_
          try simp only [go_sem, strOp_add' hm153, strOp_add' hm154, strOp_add' hm157, strOp_add' hm158]
          first | refine WGuard_splitN (fun hc161 => ?_) (fun hc162 => ?_) | refine WGuard_split (fun hc161 => ?_) (fun hc162 => ?_)
          · rw [if_pos (show (bif (bif r159 then (r155.1 == a0) else false) then (r155.2 == a1) else false) = true by first | exact hc161 | (rw [hc161]; rfl) | simpa using hc161)] at h
            try simp only [go_sem, strOp_add' hm153, strOp_add' hm154, strOp_add' hm157, strOp_add' hm158, hc161]
            obtain ⟨hm163, h⟩ := ite_some h
            try simp only [go_sem, strOp_add' hm153, strOp_add' hm154, strOp_add' hm157, strOp_add' hm158, strOp_add' hm163]
            obtain ⟨hm164, h⟩ := ite_some h
            try simp only [go_sem, strOp_add' hm153, strOp_add' hm154, strOp_add' hm157, strOp_add' hm158, strOp_add' hm163, strOp_add' hm164]
            obtain ⟨hm165, h⟩ := ite_some h
            try simp only [go_sem, strOp_add' hm153, strOp_add' hm154, strOp_add' hm157, strOp_add' hm158, strOp_add' hm163, strOp_add' hm164, strOp_add' hm165]
            obtain ⟨hm166, h⟩ := ite_some h
            try simp only [go_sem, strOp_add' hm153, strOp_add' hm154, strOp_add' hm157, strOp_add' hm158, strOp_add' hm163, strOp_add' hm164, strOp_add' hm165, strOp_add' hm166]
            obtain ⟨r167, hr168, h⟩ := Option.bind_eq_some_iff.1 h
            replace hr168 := dec_some hr168
            first | refine WVal_pc hr168 ?_ | (simp only [eT2_eq, eT3_eq, eT4_eq, eT5_eq] at hr168; refine WVal_pc hr168 ?_)
            try simp only [go_sem, strOp_add' hm153, strOp_add' hm154, strOp_add' hm157, strOp_add' hm158, strOp_add' hm163, strOp_add' hm164, strOp_add' hm165, strOp_add' hm166]
            cases h
            first | rfl | (simp only [go_sem, strOp_add' hm153, strOp_add' hm154, strOp_add' hm157, strOp_add' hm158, strOp_add' hm163, strOp_add' hm164, strOp_add' hm165, strOp_add' hm166]; done) | (simp only [go_sem, strOp_add' hm153, strOp_add' hm154, strOp_add' hm157, strOp_add' hm158, strOp_add' hm163, strOp_add' hm164, strOp_add' hm165, strOp_add' hm166]; rfl) | (simp [eName, eRegistry, eDefinition, eForest, eCustom, enames_span, eNode, eforest_trait, eAttr, eforest_key, hc4, hc6, hc147, hc151, hc161]; done)
          · rw [if_neg (show ¬ (bif (bif r159 then (r155.1 == a0) else false) then (r155.2 == a1) else false) = true by first | (rw [hc162]; exact Bool.false_ne_true) | simpa using hc162 | (simp at hc162 ⊢; omega))] at h
            try simp only [go_sem, strOp_add' hm153, strOp_add' hm154, strOp_add' hm157, strOp_add' hm158, hc162]
            cases h
            first | rfl | (simp only [go_sem, strOp_add' hm153, strOp_add' hm154, strOp_add' hm157, strOp_add' hm158]; done) | (simp only [go_sem, strOp_add' hm153, strOp_add' hm154, strOp_add' hm157, strOp_add' hm158]; rfl) | (simp [eName, eRegistry, eDefinition, eForest, eCustom, enames_span, eNode, eforest_trait, eAttr, eforest_key, hc4, hc6, hc147, hc151, hc162]; done)
        · rw [if_neg (show ¬ r149 = true by first | (rw [hc152]; exact Bool.false_ne_true) | simpa using hc152 | (simp at hc152 ⊢; omega))] at h
          try simp only [go_sem]
          obtain ⟨hm176, h⟩ := ite_some h
          try simp only [go_sem, strOp_add' hm176]
          obtain ⟨hm177, h⟩ := ite_some h
          try simp only [go_sem, strOp_add' hm176, strOp_add' hm177]
          obtain ⟨r178, hr179, h⟩ := Option.bind_eq_some_iff.1 h
          replace hr179 := dec_some hr179
          first | refine WVal_pc hr179 ?_ | (simp only [eT2_eq, eT3_eq, eT4_eq, eT5_eq] at hr179; refine WVal_pc hr179 ?_)
          try simp only [go_sem, strOp_add' hm176, strOp_add' hm177]
          refine WGuard_pure (v := .d (.str a0)) (fun hb189 => by skip; simp only [go_sem, strOp_add' hm176, strOp_add' hm177, hc4, hc6, hc147, hc152, hb189]) ?_
          try simp only [go_sem, strOp_add' hm176, strOp_add' hm177]
          first | refine WGuard_splitN (fun hc180 => ?_) (fun hc181 => ?_) | refine WGuard_split (fun hc180 => ?_) (fun hc181 => ?_)
          · rw [if_pos (show r178 = true by first | exact hc180 | (rw [hc180]; rfl) | simpa using hc180)] at h
            try simp only [go_sem, strOp_add' hm176, strOp_add' hm177, hc180]
            obtain ⟨r182, hr183, h⟩ := Option.bind_eq_some_iff.1 h
            replace hr183 := dec_some hr183
            first | refine WVal_pc hr183 ?_ | (simp only [eT2_eq, eT3_eq, eT4_eq, eT5_eq] at hr183; refine WVal_pc hr183 ?_)
            try simp only [go_sem, strOp_add' hm176, strOp_add' hm177]
            refine WGuard_pure (v := .d (.str a1)) (fun hb188 => by skip; simp only [go_sem, strOp_add' hm176, strOp_add' hm177, hc4, hc6, hc147, hc152, hc180, hb188]) ?_
            try simp only [go_sem, strOp_add' hm176, strOp_add' hm177]
            first | refine WGuard_splitN (fun hc184 => ?_) (fun hc185 => ?_) | refine WGuard_split (fun hc184 => ?_) (fun hc185 => ?_)
            · rw [if_pos (show (!r182) = true by first | exact hc184 | (rw [hc184]; rfl) | simpa using hc184)] at h
              try simp only [go_sem, strOp_add' hm176, strOp_add' hm177, hc184]
              obtain ⟨r186, hr187, h⟩ := Option.bind_eq_some_iff.1 h
              replace hr187 := dec_some hr187
              first | refine WVal_pc hr187 ?_ | (simp only [eT2_eq, eT3_eq, eT4_eq, eT5_eq] at hr187; refine WVal_pc hr187 ?_)
              try simp only [go_sem, strOp_add' hm176, strOp_add' hm177]
              cases h
              first | rfl | (simp only [go_sem, strOp_add' hm176, strOp_add' hm177]; done) | (simp only [go_sem, strOp_add' hm176, strOp_add' hm177]; rfl) | (simp [eName, eRegistry, eDefinition, eForest, eCustom, enames_span, eNode, eforest_trait, eAttr, eforest_key, hc4, hc6, hc147, hc152, hc180, hc184]; done)
            · rw [if_neg (show ¬ (!r182) = true by first | (rw [hc185]; exact Bool.false_ne_true) | simpa using hc185 | (simp at hc185 ⊢; omega))] at h
              try simp only [go_sem, strOp_add' hm176, strOp_add' hm177, hc185]
              cases h
              first | rfl | (simp only [go_sem, strOp_add' hm176, strOp_add' hm177]; done) | (simp only [go_sem, strOp_add' hm176, strOp_add' hm177]; rfl) | (simp [eName, eRegistry, eDefinition, eForest, eCustom, enames_span, eNode, eforest_trait, eAttr, eforest_key, hc4, hc6, hc147, hc152, hc180, hc185]; done)
          · rw [if_neg (show ¬ r178 = true by first | (rw [hc181]; exact Bool.false_ne_true) | simpa using hc181 | (simp at hc181 ⊢; omega))] at h
            try simp only [go_sem, strOp_add' hm176, strOp_add' hm177, hc181]
            cases h
            first | rfl | (simp only [go_sem, strOp_add' hm176, strOp_add' hm177]; done) | (simp only [go_sem, strOp_add' hm176, strOp_add' hm177]; rfl) | (simp [eName, eRegistry, eDefinition, eForest, eCustom, enames_span, eNode, eforest_trait, eAttr, eforest_key, hc4, hc6, hc147, hc152, hc181]; done)
      · rw [if_neg (show ¬ r145 = true by first | (rw [hc148]; exact Bool.false_ne_true) | simpa using hc148 | (simp at hc148 ⊢; omega))] at h
        try simp only [go_sem, hc148]
        obtain ⟨hm190, h⟩ := ite_some h
        try simp only [go_sem, strOp_add' hm190]
        obtain ⟨hm191, h⟩ := ite_some h
        try simp only [go_sem, strOp_add' hm190, strOp_add' hm191]
        obtain ⟨r192, hr193, h⟩ := Option.bind_eq_some_iff.1 h
        replace hr193 := dec_some hr193
        first | refine WVal_pc hr193 ?_ | (simp only [eT2_eq, eT3_eq, eT4_eq, eT5_eq] at hr193; refine WVal_pc hr193 ?_)
        try simp only [go_sem, strOp_add' hm190, strOp_add' hm191]
        refine WGuard_pure (v := .d (.str a0)) (fun hb203 => by skip; simp only [go_sem, strOp_add' hm190, strOp_add' hm191, hc4, hc6, hc148, hb203]) ?_
        try simp only [go_sem, strOp_add' hm190, strOp_add' hm191]
        first | refine WGuard_splitN (fun hc194 => ?_) (fun hc195 => ?_) | refine WGuard_split (fun hc194 => ?_) (fun hc195 => ?_)
        · rw [if_pos (show r192 = true by first | exact hc194 | (rw [hc194]; rfl) | simpa using hc194)] at h
          try simp only [go_sem, strOp_add' hm190, strOp_add' hm191, hc194]
          obtain ⟨r196, hr197, h⟩ := Option.bind_eq_some_iff.1 h
          replace hr197 := dec_some hr197
          first | refine WVal_pc hr197 ?_ | (simp only [eT2_eq, eT3_eq, eT4_eq, eT5_eq] at hr197; refine WVal_pc hr197 ?_)
          try simp only [go_sem, strOp_add' hm190, strOp_add' hm191]
          refine WGuard_pure (v := .d (.str a1)) (fun hb202 => by skip; simp only [go_sem, strOp_add' hm190, strOp_add' hm191, hc4, hc6, hc148, hc194, hb202]) ?_
          try simp only [go_sem, strOp_add' hm190, strOp_add' hm191]
          first | refine WGuard_splitN (fun hc198 => ?_) (fun hc199 => ?_) | refine WGuard_split (fun hc198 => ?_) (fun hc199 => ?_)
          · rw [if_pos (show (!r196) = true by first | exact hc198 | (rw [hc198]; rfl) | simpa using hc198)] at h
            try simp only [go_sem, strOp_add' hm190, strOp_add' hm191, hc198]
            obtain ⟨r200, hr201, h⟩ := Option.bind_eq_some_iff.1 h
            replace hr201 := dec_some hr201
            first | refine WVal_pc hr201 ?_ | (simp only [eT2_eq, eT3_eq, eT4_eq, eT5_eq] at hr201; refine WVal_pc hr201 ?_)
            try simp only [go_sem, strOp_add' hm190, strOp_add' hm191]
            cases h
            first | rfl | (simp only [go_sem, strOp_add' hm190, strOp_add' hm191]; done) | (simp only [go_sem, strOp_add' hm190, strOp_add' hm191]; rfl) | (simp [eName, eRegistry, eDefinition, eForest, eCustom, enames_span, eNode, eforest_trait, eAttr, eforest_key, hc4, hc6, hc148, hc194, hc198]; done)
          · rw [if_neg (show ¬ (!r196) = true by first | (rw [hc199]; exact Bool.false_ne_true) | simpa using hc199 | (simp at hc199 ⊢; omega))] at h
            try simp only [go_sem, strOp_add' hm190, strOp_add' hm191, hc199]
            cases h
            first | rfl | (simp only [go_sem, strOp_add' hm190, strOp_add' hm191]; done) | (simp only [go_sem, strOp_add' hm190, strOp_add' hm191]; rfl) | (simp [eName, eRegistry, eDefinition, eForest, eCustom, enames_span, eNode, eforest_trait, eAttr, eforest_key, hc4, hc6, hc148, hc194, hc199]; done)
        · rw [if_neg (show ¬ r192 = true by first | (rw [hc195]; exact Bool.false_ne_true) | simpa using hc195 | (simp at hc195 ⊢; omega))] at h
          try simp only [go_sem, strOp_add' hm190, strOp_add' hm191, hc195]
          cases h
          first | rfl | (simp only [go_sem, strOp_add' hm190, strOp_add' hm191]; done) | (simp only [go_sem, strOp_add' hm190, strOp_add' hm191]; rfl) | (simp [eName, eRegistry, eDefinition, eForest, eCustom, enames_span, eNode, eforest_trait, eAttr, eforest_key, hc4, hc6, hc148, hc195]; done)
noncomputable def P6 (a0 : List UInt8) : Option (Bool) :=
  (dec D.bool (pc prog 17 [])).bind fun r1 =>
  if (!r1) = true then
    some false
  else
    (dec D.bool (pc prog 19 [.str a0])).bind fun r5 =>
    (dec D.bool (pc prog 18 [.str a0])).bind fun r7 =>
    if r7 = true then
      (dec D.bool (pc prog 22 [.str a0])).bind fun r11 =>
      if (r5 == (!r11)) = true then
        (dec D.bool (pc prog 19 [.str a0])).bind fun r15 =>
        if r15 = true then
          (dec D.bool (pc prog 21 [.str a0])).bind fun r19 =>
          if r19 = true then
            (dec D.bool (pc prog 21 [.str a0])).bind fun r23 =>
            if r23 = true then
              (dec D.bool (pc prog 18 [.str a0])).bind fun r27 =>
              if (!r27) = true then
                some false
              else
                (dec D.bool (pc prog 26 [.str a0])).bind fun r31 =>
                if r31 = true then
                  (dec D.bool (pc prog 19 [.str a0])).bind fun r35 =>
                  if r35 = true then
                    (dec D.bool (pc prog 28 [.str a0])).bind fun r39 =>
                    some r39
                  else
                    some false
                else
                  some true
            else
              (dec D.bool (pc prog 26 [.str a0])).bind fun r43 =>
              if r43 = true then
                (dec D.bool (pc prog 19 [.str a0])).bind fun r47 =>
                if r47 = true then
                  (dec D.bool (pc prog 28 [.str a0])).bind fun r51 =>
                  some r51
                else
                  some false
              else
                some true
          else
            some false
        else
          (dec D.bool (pc prog 21 [.str a0])).bind fun r57 =>
          if r57 = true then
            (dec D.bool (pc prog 18 [.str a0])).bind fun r61 =>
            if (!r61) = true then
              some false
            else
              (dec D.bool (pc prog 26 [.str a0])).bind fun r65 =>
              if r65 = true then
                (dec D.bool (pc prog 19 [.str a0])).bind fun r69 =>
                if r69 = true then
                  (dec D.bool (pc prog 28 [.str a0])).bind fun r73 =>
                  some r73
                else
                  some false
              else
                some true
          else
            (dec D.bool (pc prog 26 [.str a0])).bind fun r77 =>
            if r77 = true then
              (dec D.bool (pc prog 19 [.str a0])).bind fun r81 =>
              if r81 = true then
                (dec D.bool (pc prog 28 [.str a0])).bind fun r85 =>
                some r85
              else
                some false
            else
              some true
      else
        some false
    else
      if (!r5) = true then
        (dec D.bool (pc prog 19 [.str a0])).bind fun r94 =>
        if r94 = true then
          (dec D.bool (pc prog 21 [.str a0])).bind fun r98 =>
          if r98 = true then
            (dec D.bool (pc prog 21 [.str a0])).bind fun r102 =>
            if r102 = true then
              (dec D.bool (pc prog 18 [.str a0])).bind fun r106 =>
              if (!r106) = true then
                some false
              else
                (dec D.bool (pc prog 26 [.str a0])).bind fun r110 =>
                if r110 = true then
                  (dec D.bool (pc prog 19 [.str a0])).bind fun r114 =>
                  if r114 = true then
                    (dec D.bool (pc prog 28 [.str a0])).bind fun r118 =>
                    some r118
                  else
                    some false
                else
                  some true
            else
              (dec D.bool (pc prog 26 [.str a0])).bind fun r122 =>
              if r122 = true then
                (dec D.bool (pc prog 19 [.str a0])).bind fun r126 =>
                if r126 = true then
                  (dec D.bool (pc prog 28 [.str a0])).bind fun r130 =>
                  some r130
                else
                  some false
              else
                some true
          else
            some false
        else
          (dec D.bool (pc prog 21 [.str a0])).bind fun r136 =>
          if r136 = true then
            (dec D.bool (pc prog 18 [.str a0])).bind fun r140 =>
            if (!r140) = true then
              some false
            else
              (dec D.bool (pc prog 26 [.str a0])).bind fun r144 =>
              if r144 = true then
                (dec D.bool (pc prog 19 [.str a0])).bind fun r148 =>
                if r148 = true then
                  (dec D.bool (pc prog 28 [.str a0])).bind fun r152 =>
                  some r152
                else
                  some false
              else
                some true
          else
            (dec D.bool (pc prog 26 [.str a0])).bind fun r156 =>
            if r156 = true then
              (dec D.bool (pc prog 19 [.str a0])).bind fun r160 =>
              if r160 = true then
                (dec D.bool (pc prog 28 [.str a0])).bind fun r164 =>
                some r164
              else
                some false
            else
              some true
      else
        some false
theorem ok6 (a0 : List UInt8) (r : Bool) (h : P6 a0 = some r) : pc prog 6 [.str a0] = some (D.bool r) := by
  unfold P6 at h
  refine pc_of (fn := c6) rfl rfl ?_
  delta c6
  try simp only [go_sem]
  obtain ⟨r1, hr2, h⟩ := Option.bind_eq_some_iff.1 h
  replace hr2 := dec_some hr2
  first | refine WVal_pc hr2 ?_ | (simp only [eT2_eq, eT3_eq, eT4_eq, eT5_eq] at hr2; refine WVal_pc hr2 ?_)
  try simp only [go_sem]
  first | refine WBr_splitN (fun hc3 => ?_) (fun hc4 => ?_) | refine WBr_split (fun hc3 => ?_) (fun hc4 => ?_)
  · rw [if_pos (show (!r1) = true by first | exact hc3 | (rw [hc3]; rfl) | simpa using hc3)] at h
    try simp only [go_sem]
    cases h
    first | rfl | (simp only [go_sem]; done) | (simp only [go_sem]; rfl) | (simp [eName, eRegistry, eDefinition, eForest, eCustom, enames_span, eNode, eforest_trait, eAttr, eforest_key, hc3]; done)
  · rw [if_neg (show ¬ (!r1) = true by first | (rw [hc4]; exact Bool.false_ne_true) | simpa using hc4 | (simp at hc4 ⊢; omega))] at h
    try simp only [go_sem]
    obtain ⟨r5, hr6, h⟩ := Option.bind_eq_some_iff.1 h
    replace hr6 := dec_some hr6
    first | refine WVal_pc hr6 ?_ | (simp only [eT2_eq, eT3_eq, eT4_eq, eT5_eq] at hr6; refine WVal_pc hr6 ?_)
    try simp only [go_sem]
    obtain ⟨r7, hr8, h⟩ := Option.bind_eq_some_iff.1 h
    replace hr8 := dec_some hr8
    first | refine WVal_pc hr8 ?_ | (simp only [eT2_eq, eT3_eq, eT4_eq, eT5_eq] at hr8; refine WVal_pc hr8 ?_)
    try simp only [go_sem]
    refine WGuard_pure (v := .d (.str a0)) (fun hb171 => by skip; simp only [go_sem, hc4, hb171]) ?_
    try simp only [go_sem]
    first | refine WGuard_splitN (fun hc9 => ?_) (fun hc10 => ?_) | refine WGuard_split (fun hc9 => ?_) (fun hc10 => ?_)
    · rw [if_pos (show r7 = true by first | exact hc9 | (rw [hc9]; rfl) | simpa using hc9)] at h
      try simp only [go_sem, hc9]
      obtain ⟨r11, hr12, h⟩ := Option.bind_eq_some_iff.1 h
      replace hr12 := dec_some hr12
      first | refine WVal_pc hr12 ?_ | (simp only [eT2_eq, eT3_eq, eT4_eq, eT5_eq] at hr12; refine WVal_pc hr12 ?_)
      try simp only [go_sem]
      refine WGuard_pure (v := .d (.str a0)) (fun hb91 => by skip; simp only [go_sem, hc4, hc9, hb91]) ?_
      try simp only [go_sem]
      first | refine WGuard_splitN (fun hc13 => ?_) (fun hc14 => ?_) | refine WGuard_split (fun hc13 => ?_) (fun hc14 => ?_)
      · rw [if_pos (show (r5 == (!r11)) = true by first | exact hc13 | (rw [hc13]; rfl) | simpa using hc13)] at h
        try simp only [go_sem, hc13]
        obtain ⟨r15, hr16, h⟩ := Option.bind_eq_some_iff.1 h
        replace hr16 := dec_some hr16
        first | refine WVal_pc hr16 ?_ | (simp only [eT2_eq, eT3_eq, eT4_eq, eT5_eq] at hr16; refine WVal_pc hr16 ?_)
        try simp only [go_sem]
        refine WGuard_pure (v := .d (.str a0)) (fun hb90 => by skip; simp only [go_sem, hc4, hc9, hc13, hb90]) ?_
        try simp only [go_sem]
        first | refine WGuard_splitN (fun hc17 => ?_) (fun hc18 => ?_) | refine WGuard_split (fun hc17 => ?_) (fun hc18 => ?_)
        · rw [if_pos (show r15 = true by first | exact hc17 | (rw [hc17]; rfl) | simpa using hc17)] at h
          try simp only [go_sem, hc17]
          obtain ⟨r19, hr20, h⟩ := Option.bind_eq_some_iff.1 h
          replace hr20 := dec_some hr20
          first | refine WVal_pc hr20 ?_ | (simp only [eT2_eq, eT3_eq, eT4_eq, eT5_eq] at hr20; refine WVal_pc hr20 ?_)
          try simp only [go_sem]
          refine WGuard_pure (v := .d (.str a0)) (fun hb56 => by skip; simp only [go_sem, hc4, hc9, hc13, hc17, hb56]) ?_
          try simp only [go_sem]
          first | refine WGuard_splitN (fun hc21 => ?_) (fun hc22 => ?_) | refine WGuard_split (fun hc21 => ?_) (fun hc22 => ?_)
          · rw [if_pos (show r19 = true by first | exact hc21 | (rw [hc21]; rfl) | simpa using hc21)] at h
            try simp only [go_sem, hc21]
            obtain ⟨r23, hr24, h⟩ := Option.bind_eq_some_iff.1 h
            replace hr24 := dec_some hr24
            first | refine WVal_pc hr24 ?_ | (simp only [eT2_eq, eT3_eq, eT4_eq, eT5_eq] at hr24; refine WVal_pc hr24 ?_)
            try simp only [go_sem]
            refine WGuard_pure (v := .d (.str a0)) (fun hb55 => by skip; simp only [go_sem, hc4, hc9, hc13, hc17, hc21, hb55]) ?_
            try simp only [go_sem]
            first | refine WGuard_splitN (fun hc25 => ?_) (fun hc26 => ?_) | refine WGuard_split (fun hc25 => ?_) (fun hc26 => ?_)
            · rw [if_pos (show r23 = true by first | exact hc25 | (rw [hc25]; rfl) | simpa using hc25)] at h
              try simp only [go_sem, hc25]
              obtain ⟨r27, hr28, h⟩ := Option.bind_eq_some_iff.1 h
              replace hr28 := dec_some hr28
              first | refine WVal_pc hr28 ?_ | (simp only [eT2_eq, eT3_eq, eT4_eq, eT5_eq] at hr28; refine WVal_pc hr28 ?_)
              try simp only [go_sem]
              first | refine WBr_splitN (fun hc29 => ?_) (fun hc30 => ?_) | refine WBr_split (fun hc29 => ?_) (fun hc30 => ?_)
              · rw [if_pos (show (!r27) = true by first | exact hc29 | (rw [hc29]; rfl) | simpa using hc29)] at h
                try simp only [go_sem]
                cases h
                first | rfl | (simp only [go_sem]; done) | (simp only [go_sem]; rfl) | (simp [eName, eRegistry, eDefinition, eForest, eCustom, enames_span, eNode, eforest_trait, eAttr, eforest_key, hc4, hc9, hc13, hc17, hc21, hc25, hc29]; done)
              · rw [if_neg (show ¬ (!r27) = true by first | (rw [hc30]; exact Bool.false_ne_true) | simpa using hc30 | (simp at hc30 ⊢; omega))] at h
                try simp only [go_sem]
                obtain ⟨r31, hr32, h⟩ := Option.bind_eq_some_iff.1 h
                replace hr32 := dec_some hr32
                first | refine WVal_pc hr32 ?_ | (simp only [eT2_eq, eT3_eq, eT4_eq, eT5_eq] at hr32; refine WVal_pc hr32 ?_)
                try simp only [go_sem]
                refine WGuard_pure (v := .d (.str a0)) (fun hb42 => by skip; simp only [go_sem, hc4, hc9, hc13, hc17, hc21, hc25, hc30, hb42]) ?_
                try simp only [go_sem]
                first | refine WGuard_splitN (fun hc33 => ?_) (fun hc34 => ?_) | refine WGuard_split (fun hc33 => ?_) (fun hc34 => ?_)
                · rw [if_pos (show r31 = true by first | exact hc33 | (rw [hc33]; rfl) | simpa using hc33)] at h
                  try simp only [go_sem, hc33]
                  obtain ⟨r35, hr36, h⟩ := Option.bind_eq_some_iff.1 h
                  replace hr36 := dec_some hr36
                  first | refine WVal_pc hr36 ?_ | (simp only [eT2_eq, eT3_eq, eT4_eq, eT5_eq] at hr36; refine WVal_pc hr36 ?_)
                  try simp only [go_sem]
                  refine WGuard_pure (v := .d (.str a0)) (fun hb41 => by skip; simp only [go_sem, hc4, hc9, hc13, hc17, hc21, hc25, hc30, hc33, hb41]) ?_
                  try simp only [go_sem]
                  first | refine WGuard_splitN (fun hc37 => ?_) (fun hc38 => ?_) | refine WGuard_split (fun hc37 => ?_) (fun hc38 => ?_)
                  · rw [if_pos (show r35 = true by first | exact hc37 | (rw [hc37]; rfl) | simpa using hc37)] at h
                    try simp only [go_sem, hc37]
                    obtain ⟨r39, hr40, h⟩ := Option.bind_eq_some_iff.1 h
                    replace hr40 := dec_some hr40
                    first | refine WVal_pc hr40 ?_ | (simp only [eT2_eq, eT3_eq, eT4_eq, eT5_eq] at hr40; refine WVal_pc hr40 ?_)
                    try simp only [go_sem]
                    cases h
                    first | rfl | (simp only [go_sem]; done) | (simp only [go_sem]; rfl) | (simp [eName, eRegistry, eDefinition, eForest, eCustom, enames_span, eNode, eforest_trait, eAttr, eforest_key, hc4, hc9, hc13, hc17, hc21, hc25, hc30, hc33, hc37]; done)
                  · rw [if_neg (show ¬ r35 = true by first | (rw [hc38]; exact Bool.false_ne_true) | simpa using hc38 | (simp at hc38 ⊢; omega))] at h
                    try simp only [go_sem, hc38]
                    cases h
                    first | rfl | (simp only [go_sem]; done) | (simp only [go_sem]; rfl) | (simp [eName, eRegistry, eDefinition, eForest, eCustom, enames_span, eNode, eforest_trait, eAttr, eforest_key, hc4, hc9, hc13, hc17, hc21, hc25, hc30, hc33, hc38]; done)
                · rw [if_neg (show ¬ r31 = true by first | (rw [hc34]; exact Bool.false_ne_true) | simpa using hc34 | (simp at hc34 ⊢; omega))] at h
                  try simp only [go_sem, hc34]
                  cases h
                  first | rfl | (simp only [go_sem]; done) | (simp only [go_sem]; rfl) | (simp [eName, eRegistry, eDefinition, eForest, eCustom, enames_span, eNode, eforest_trait, eAttr, eforest_key, hc4, hc9, hc13, hc17, hc21, hc25, hc30, hc34]; done)
            · rw [if_neg (show ¬ r23 = true by first | (rw [hc26]; exact Bool.false_ne_true) | simpa using hc26 | (simp at hc26 ⊢; omega))] at h
              try simp only [go_sem, hc26]
              obtain ⟨r43, hr44, h⟩ := Option.bind_eq_some_iff.1 h
              replace hr44 := dec_some hr44
              first | refine WVal_pc hr44 ?_ | (simp only [eT2_eq, eT3_eq, eT4_eq, eT5_eq] at hr44; refine WVal_pc hr44 ?_)
              try simp only [go_sem]
              refine WGuard_pure (v := .d (.str a0)) (fun hb54 => by skip; simp only [go_sem, hc4, hc9, hc13, hc17, hc21, hc26, hb54]) ?_
              try simp only [go_sem]
              first | refine WGuard_splitN (fun hc45 => ?_) (fun hc46 => ?_) | refine WGuard_split (fun hc45 => ?_) (fun hc46 => ?_)
              · rw [if_pos (show r43 = true by first | exact hc45 | (rw [hc45]; rfl) | simpa using hc45)] at h
                try simp only [go_sem, hc45]
                obtain ⟨r47, hr48, h⟩ := Option.bind_eq_some_iff.1 h
                replace hr48 := dec_some hr48
                first | refine WVal_pc hr48 ?_ | (simp only [eT2_eq, eT3_eq, eT4_eq, eT5_eq] at hr48; refine WVal_pc hr48 ?_)
                try simp only [go_sem]
                refine WGuard_pure (v := .d (.str a0)) (fun hb53 => by skip; simp only [go_sem, hc4, hc9, hc13, hc17, hc21, hc26, hc45, hb53]) ?_
                try simp only [go_sem]
                first | refine WGuard_splitN (fun hc49 => ?_) (fun hc50 => ?_) | refine WGuard_split (fun hc49 => ?_) (fun hc50 => ?_)
                · rw [if_pos (show r47 = true by first | exact hc49 | (rw [hc49]; rfl) | simpa using hc49)] at h
                  try simp only [go_sem, hc49]
                  obtain ⟨r51, hr52, h⟩ := Option.bind_eq_some_iff.1 h
                  replace hr52 := dec_some hr52
                  first | refine WVal_pc hr52 ?_ | (simp only [eT2_eq, eT3_eq, eT4_eq, eT5_eq] at hr52; refine WVal_pc hr52 ?_)
                  try simp only [go_sem]
                  cases h
                  first | rfl | (simp only [go_sem]; done) | (simp only [go_sem]; rfl) | (simp [eName, eRegistry, eDefinition, eForest, eCustom, enames_span, eNode, eforest_trait, eAttr, eforest_key, hc4, hc9, hc13, hc17, hc21, hc26, hc45, hc49]; done)
                · rw [if_neg (show ¬ r47 = true by first | (rw [hc50]; exact Bool.false_ne_true) | simpa using hc50 | (simp at hc50 ⊢; omega))] at h
                  try simp only [go_sem, hc50]
                  cases h
                  first | rfl | (simp only [go_sem]; done) | (simp only [go_sem]; rfl) | (simp [eName, eRegistry, eDefinition, eForest, eCustom, enames_span, eNode, eforest_trait, eAttr, eforest_key, hc4, hc9, hc13, hc17, hc21, hc26, hc45, hc50]; done)
              · rw [if_neg (show ¬ r43 = true by first | (rw [hc46]; exact Bool.false_ne_true) | simpa using hc46 | (simp at hc46 ⊢; omega))] at h
                try simp only [go_sem, hc46]
                cases h
                first | rfl | (simp only [go_sem]; done) | (simp only [go_sem]; rfl) | (simp [eName, eRegistry, eDefinition, eForest, eCustom, enames_span, eNode, eforest_trait, eAttr, eforest_key, hc4, hc9, hc13, hc17, hc21, hc26, hc46]; done)
          · rw [if_neg (show ¬ r19 = true by first | (rw [hc22]; exact Bool.false_ne_true) | simpa using hc22 | (simp at hc22 ⊢; omega))] at h
            try simp only [go_sem, hc22]
            cases h
            first | rfl | (simp only [go_sem]; done) | (simp only [go_sem]; rfl) | (simp [eName, eRegistry, eDefinition, eForest, eCustom, enames_span, eNode, eforest_trait, eAttr, eforest_key, hc4, hc9, hc13, hc17, hc22]; done)
        · rw [if_neg (show ¬ r15 = true by first | (rw [hc18]; exact Bool.false_ne_true) | simpa using hc18 | (simp at hc18 ⊢; omega))] at h
          try simp only [go_sem, hc18]
          obtain ⟨r57, hr58, h⟩ := Option.bind_eq_some_iff.1 h
          replace hr58 := dec_some hr58
          first | refine WVal_pc hr58 ?_ | (simp only [eT2_eq, eT3_eq, eT4_eq, eT5_eq] at hr58; refine WVal_pc hr58 ?_)
          try simp only [go_sem]
          refine WGuard_pure (v := .d (.str a0)) (fun hb89 => by skip; simp only [go_sem, hc4, hc9, hc13, hc18, hb89]) ?_
          try simp only [go_sem]
          first | refine WGuard_splitN (fun hc59 => ?_) (fun hc60 => ?_) | refine WGuard_split (fun hc59 => ?_) (fun hc60 => ?_)
          · rw [if_pos (show r57 = true by first | exact hc59 | (rw [hc59]; rfl) | simpa using hc59)] at h
            try simp only [go_sem, hc59]
            obtain ⟨r61, hr62, h⟩ := Option.bind_eq_some_iff.1 h
            replace hr62 := dec_some hr62
            first | refine WVal_pc hr62 ?_ | (simp only [eT2_eq, eT3_eq, eT4_eq, eT5_eq] at hr62; refine WVal_pc hr62 ?_)
            try simp only [go_sem]
            first | refine WBr_splitN (fun hc63 => ?_) (fun hc64 => ?_) | refine WBr_split (fun hc63 => ?_) (fun hc64 => ?_)
            · rw [if_pos (show (!r61) = true by first | exact hc63 | (rw [hc63]; rfl) | simpa using hc63)] at h
              try simp only [go_sem]
              cases h
              first | rfl | (simp only [go_sem]; done) | (simp only [go_sem]; rfl) | (simp [eName, eRegistry, eDefinition, eForest, eCustom, enames_span, eNode, eforest_trait, eAttr, eforest_key, hc4, hc9, hc13, hc18, hc59, hc63]; done)
            · rw [if_neg (show ¬ (!r61) = true by first | (rw [hc64]; exact Bool.false_ne_true) | simpa using hc64 | (simp at hc64 ⊢; omega))] at h
              try simp only [go_sem]
              obtain ⟨r65, hr66, h⟩ := Option.bind_eq_some_iff.1 h
              replace hr66 := dec_some hr66
              first | refine WVal_pc hr66 ?_ | (simp only [eT2_eq, eT3_eq, eT4_eq, eT5_eq] at hr66; refine WVal_pc hr66 ?_)
              try simp only [go_sem]
              refine WGuard_pure (v := .d (.str a0)) (fun hb76 => by skip; simp only [go_sem, hc4, hc9, hc13, hc18, hc59, hc64, hb76]) ?_
              try simp only [go_sem]
              first | refine WGuard_splitN (fun hc67 => ?_) (fun hc68 => ?_) | refine WGuard_split (fun hc67 => ?_) (fun hc68 => ?_)
              · rw [if_pos (show r65 = true by first | exact hc67 | (rw [hc67]; rfl) | simpa using hc67)] at h
                try simp only [go_sem, hc67]
                obtain ⟨r69, hr70, h⟩ := Option.bind_eq_some_iff.1 h
                replace hr70 := dec_some hr70
                first | refine WVal_pc hr70 ?_ | (simp only [eT2_eq, eT3_eq, eT4_eq, eT5_eq] at hr70; refine WVal_pc hr70 ?_)
                try simp only [go_sem]
                refine WGuard_pure (v := .d (.str a0)) (fun hb75 => by skip; simp only [go_sem, hc4, hc9, hc13, hc18, hc59, hc64, hc67, hb75]) ?_
                try simp only [go_sem]
                first | refine WGuard_splitN (fun hc71 => ?_) (fun hc72 => ?_) | refine WGuard_split (fun hc71 => ?_) (fun hc72 => ?_)
                · rw [if_pos (show r69 = true by first | exact hc71 | (rw [hc71]; rfl) | simpa using hc71)] at h
                  try simp only [go_sem, hc71]
                  obtain ⟨r73, hr74, h⟩ := Option.bind_eq_some_iff.1 h
                  replace hr74 := dec_some hr74
                  first | refine WVal_pc hr74 ?_ | (simp only [eT2_eq, eT3_eq, eT4_eq, eT5_eq] at hr74; refine WVal_pc hr74 ?_)
                  try simp only [go_sem]
                  cases h
                  first | rfl | (simp only [go_sem]; done) | (simp only [go_sem]; rfl) | (simp [eName, eRegistry, eDefinition, eForest, eCustom, enames_span, eNode, eforest_trait, eAttr, eforest_key, hc4, hc9, hc13, hc18, hc59, hc64, hc67, hc71]; done)
                · rw [if_neg (show ¬ r69 = true by first | (rw [hc72]; exact Bool.false_ne_true) | simpa using hc72 | (simp at hc72 ⊢; omega))] at h
                  try simp only [go_sem, hc72]
                  cases h
                  first | rfl | (simp only [go_sem]; done) | (simp only [go_sem]; rfl) | (simp [eName, eRegistry, eDefinition, eForest, eCustom, enames_span, eNode, eforest_trait, eAttr, eforest_key, hc4, hc9, hc13, hc18, hc59, hc64, hc67, hc72]; done)
              · rw [if_neg (show ¬ r65 = true by first | (rw [hc68]; exact Bool.false_ne_true) | simpa using hc68 | (simp at hc68 ⊢; omega))] at h
                try simp only [go_sem, hc68]
                cases h
                first | rfl | (simp only [go_sem]; done) | (simp only [go_sem]; rfl) | (simp [eName, eRegistry, eDefinition, eForest, eCustom, enames_span, eNode, eforest_trait, eAttr, eforest_key, hc4, hc9, hc13, hc18, hc59, hc64, hc68]; done)
          · rw [if_neg (show ¬ r57 = true by first | (rw [hc60]; exact Bool.false_ne_true) | simpa using hc60 | (simp at hc60 ⊢; omega))] at h
            try simp only [go_sem, hc60]
            obtain ⟨r77, hr78, h⟩ := Option.bind_eq_some_iff.1 h
            replace hr78 := dec_some hr78
            first | refine WVal_pc hr78 ?_ | (simp only [eT2_eq, eT3_eq, eT4_eq, eT5_eq] at hr78; refine WVal_pc hr78 ?_)
            try simp only [go_sem]
            refine WGuard_pure (v := .d (.str a0)) (fun hb88 => by skip; simp only [go_sem, hc4, hc9, hc13, hc18, hc60, hb88]) ?_
            try simp only [go_sem]
            first | refine WGuard_splitN (fun hc79 => ?_) (fun hc80 => ?_) | refine WGuard_split (fun hc79 => ?_) (fun hc80 => ?_)
            · rw [if_pos (show r77 = true by first | exact hc79 | (rw [hc79]; rfl) | simpa using hc79)] at h
              try simp only [go_sem, hc79]
              obtain ⟨r81, hr82, h⟩ := Option.bind_eq_some_iff.1 h
              replace hr82 := dec_some hr82
              first | refine WVal_pc hr82 ?_ | (simp only [eT2_eq, eT3_eq, eT4_eq, eT5_eq] at hr82; refine WVal_pc hr82 ?_)
              try simp only [go_sem]
              refine WGuard_pure (v := .d (.str a0)) (fun hb87 => by skip; simp only [go_sem, hc4, hc9, hc13, hc18, hc60, hc79, hb87]) ?_
              try simp only [go_sem]
              first | refine WGuard_splitN (fun hc83 => ?_) (fun hc84 => ?_) | refine WGuard_split (fun hc83 => ?_) (fun hc84 => ?_)
              · rw [if_pos (show r81 = true by first | exact hc83 | (rw [hc83]; rfl) | simpa using hc83)] at h
                try simp only [go_sem, hc83]
                obtain ⟨r85, hr86, h⟩ := Option.bind_eq_some_iff.1 h
                replace hr86 := dec_some hr86
                first | refine WVal_pc hr86 ?_ | (simp only [eT2_eq, eT3_eq, eT4_eq, eT5_eq] at hr86; refine WVal_pc hr86 ?_)
                try simp only [go_sem]
                cases h
                first | rfl | (simp only [go_sem]; done) | (simp only [go_sem]; rfl) | (simp [eName, eRegistry, eDefinition, eForest, eCustom, enames_span, eNode, eforest_trait, eAttr, eforest_key, hc4, hc9, hc13, hc18, hc60, hc79, hc83]; done)
              · rw [if_neg (show ¬ r81 = true by first | (rw [hc84]; exact Bool.false_ne_true) | simpa using hc84 | (simp at hc84 ⊢; omega))] at h
                try simp only [go_sem, hc84]
                cases h
                first | rfl | (simp only [go_sem]; done) | (simp only [go_sem]; rfl) | (simp [eName, eRegistry, eDefinition, eForest, eCustom, enames_span, eNode, eforest_trait, eAttr, eforest_key, hc4, hc9, hc13, hc18, hc60, hc79, hc84]; done)
            · rw [if_neg (show ¬ r77 = true by first | (rw [hc80]; exact Bool.false_ne_true) | simpa using hc80 | (simp at hc80 ⊢; omega))] at h
              try simp only [go_sem, hc80]
              cases h
              first | rfl | (simp only [go_sem]; done) | (simp only [go_sem]; rfl) | (simp [eName, eRegistry, eDefinition, eForest, eCustom, enames_span, eNode, eforest_trait, eAttr, eforest_key, hc4, hc9, hc13, hc18, hc60, hc80]; done)
      · rw [if_neg (show ¬ (r5 == (!r11)) = true by first | (rw [hc14]; exact Bool.false_ne_true) | simpa using hc14 | (simp at hc14 ⊢; omega))] at h
        try simp only [go_sem, hc14]
        cases h
        first | rfl | (simp only [go_sem]; done) | (simp only [go_sem]; rfl) | (simp [eName, eRegistry, eDefinition, eForest, eCustom, enames_span, eNode, eforest_trait, eAttr, eforest_key, hc4, hc9, hc14]; done)
    · rw [if_neg (show ¬ r7 = true by first | (rw [hc10]; exact Bool.false_ne_true) | simpa using hc10 | (simp at hc10 ⊢; omega))] at h
      try simp only [go_sem, hc10]
      refine WGuard_pure (v := .d (.str a0)) (fun hb170 => by skip; simp only [go_sem, hc4, hc10, hb170]) ?_
      try simp only [go_sem]
      first | refine WGuard_splitN (fun hc92 => ?_) (fun hc93 => ?_) | refine WGuard_split (fun hc92 => ?_) (fun hc93 => ?_)
      · rw [if_pos (show (!r5) = true by first | exact hc92 | (rw [hc92]; rfl) | simpa using hc92)] at h
        try simp only [go_sem, hc92]
        obtain ⟨r94, hr95, h⟩ := Option.bind_eq_some_iff.1 h
        replace hr95 := dec_some hr95
        first | refine WVal_pc hr95 ?_ | (simp only [eT2_eq, eT3_eq, eT4_eq, eT5_eq] at hr95; refine WVal_pc hr95 ?_)
        try simp only [go_sem]
        refine WGuard_pure (v := .d (.str a0)) (fun hb169 => by skip; simp only [go_sem, hc4, hc10, hc92, hb169]) ?_
        try simp only [go_sem]
        first | refine WGuard_splitN (fun hc96 => ?_) (fun hc97 => ?_) | refine WGuard_split (fun hc96 => ?_) (fun hc97 => ?_)
        · rw [if_pos (show r94 = true by first | exact hc96 | (rw [hc96]; rfl) | simpa using hc96)] at h
          try simp only [go_sem, hc96]
          obtain ⟨r98, hr99, h⟩ := Option.bind_eq_some_iff.1 h
          replace hr99 := dec_some hr99
          first | refine WVal_pc hr99 ?_ | (simp only [eT2_eq, eT3_eq, eT4_eq, eT5_eq] at hr99; refine WVal_pc hr99 ?_)
          try simp only [go_sem]
          refine WGuard_pure (v := .d (.str a0)) (fun hb135 => by skip; simp only [go_sem, hc4, hc10, hc92, hc96, hb135]) ?_
          try simp only [go_sem]
          first | refine WGuard_splitN (fun hc100 => ?_) (fun hc101 => ?_) | refine WGuard_split (fun hc100 => ?_) (fun hc101 => ?_)
          · rw [if_pos (show r98 = true by first | exact hc100 | (rw [hc100]; rfl) | simpa using hc100)] at h
            try simp only [go_sem, hc100]
            obtain ⟨r102, hr103, h⟩ := Option.bind_eq_some_iff.1 h
            replace hr103 := dec_some hr103
            first | refine WVal_pc hr103 ?_ | (simp only [eT2_eq, eT3_eq, eT4_eq, eT5_eq] at hr103; refine WVal_pc hr103 ?_)
            try simp only [go_sem]
            refine WGuard_pure (v := .d (.str a0)) (fun hb134 => by skip; simp only [go_sem, hc4, hc10, hc92, hc96, hc100, hb134]) ?_
            try simp only [go_sem]
            first | refine WGuard_splitN (fun hc104 => ?_) (fun hc105 => ?_) | refine WGuard_split (fun hc104 => ?_) (fun hc105 => ?_)
            · rw [if_pos (show r102 = true by first | exact hc104 | (rw [hc104]; rfl) | simpa using hc104)] at h
              try simp only [go_sem, hc104]
              obtain ⟨r106, hr107, h⟩ := Option.bind_eq_some_iff.1 h
              replace hr107 := dec_some hr107
              first | refine WVal_pc hr107 ?_ | (simp only [eT2_eq, eT3_eq, eT4_eq, eT5_eq] at hr107; refine WVal_pc hr107 ?_)
              try simp only [go_sem]
              first | refine WBr_splitN (fun hc108 => ?_) (fun hc109 => ?_) | refine WBr_split (fun hc108 => ?_) (fun hc109 => ?_)
              · rw [if_pos (show (!r106) = true by first | exact hc108 | (rw [hc108]; rfl) | simpa using hc108)] at h
                try simp only [go_sem]
                cases h
                first | rfl | (simp only [go_sem]; done) | (simp only [go_sem]; rfl) | (simp [eName, eRegistry, eDefinition, eForest, eCustom, enames_span, eNode, eforest_trait, eAttr, eforest_key, hc4, hc10, hc92, hc96, hc100, hc104, hc108]; done)
              · rw [if_neg (show ¬ (!r106) = true by first | (rw [hc109]; exact Bool.false_ne_true) | simpa using hc109 | (simp at hc109 ⊢; omega))] at h
                try simp only [go_sem]
                obtain ⟨r110, hr111, h⟩ := Option.bind_eq_some_iff.1 h
                replace hr111 := dec_some hr111
                first | refine WVal_pc hr111 ?_ | (simp only [eT2_eq, eT3_eq, eT4_eq, eT5_eq] at hr111; refine WVal_pc hr111 ?_)
                try simp only [go_sem]
                refine WGuard_pure (v := .d (.str a0)) (fun hb121 => by skip; simp only [go_sem, hc4, hc10, hc92, hc96, hc100, hc104, hc109, hb121]) ?_
                try simp only [go_sem]
                first | refine WGuard_splitN (fun hc112 => ?_) (fun hc113 => ?_) | refine WGuard_split (fun hc112 => ?_) (fun hc113 => ?_)
                · rw [if_pos (show r110 = true by first | exact hc112 | (rw [hc112]; rfl) | simpa using hc112)] at h
                  try simp only [go_sem, hc112]
                  obtain ⟨r114, hr115, h⟩ := Option.bind_eq_some_iff.1 h
                  replace hr115 := dec_some hr115
                  first | refine WVal_pc hr115 ?_ | (simp only [eT2_eq, eT3_eq, eT4_eq, eT5_eq] at hr115; refine WVal_pc hr115 ?_)
                  try simp only [go_sem]
                  refine WGuard_pure (v := .d (.str a0)) (fun hb120 => by skip; simp only [go_sem, hc4, hc10, hc92, hc96, hc100, hc104, hc109, hc112, hb120]) ?_
                  try simp only [go_sem]
                  first | refine WGuard_splitN (fun hc116 => ?_) (fun hc117 => ?_) | refine WGuard_split (fun hc116 => ?_) (fun hc117 => ?_)
                  · rw [if_pos (show r114 = true by first | exact hc116 | (rw [hc116]; rfl) | simpa using hc116)] at h
                    try simp only [go_sem, hc116]
                    obtain ⟨r118, hr119, h⟩ := Option.bind_eq_some_iff.1 h
                    replace hr119 := dec_some hr119
                    first | refine WVal_pc hr119 ?_ | (simp only [eT2_eq, eT3_eq, eT4_eq, eT5_eq] at hr119; refine WVal_pc hr119 ?_)
                    try simp only [go_sem]
                    cases h
                    first | rfl | (simp only [go_sem]; done) | (simp only [go_sem]; rfl) | (simp [eName, eRegistry, eDefinition, eForest, eCustom, enames_span, eNode, eforest_trait, eAttr, eforest_key, hc4, hc10, hc92, hc96, hc100, hc104, hc109, hc112, hc116]; done)
                  · rw [if_neg (show ¬ r114 = true by first | (rw [hc117]; exact Bool.false_ne_true) | simpa using hc117 | (simp at hc117 ⊢; omega))] at h
                    try simp only [go_sem, hc117]
                    cases h
                    first | rfl | (simp only [go_sem]; done) | (simp only [go_sem]; rfl) | (simp [eName, eRegistry, eDefinition, eForest, eCustom, enames_span, eNode, eforest_trait, eAttr, eforest_key, hc4, hc10, hc92, hc96, hc100, hc104, hc109, hc112, hc117]; done)
                · rw [if_neg (show ¬ r110 = true by first | (rw [hc113]; exact Bool.false_ne_true) | simpa using hc113 | (simp at hc113 ⊢; omega))] at h
                  try simp only [go_sem, hc113]
                  cases h
                  first | rfl | (simp only [go_sem]; done) | (simp only [go_sem]; rfl) | (simp [eName, eRegistry, eDefinition, eForest, eCustom, enames_span, eNode, eforest_trait, eAttr, eforest_key, hc4, hc10, hc92, hc96, hc100, hc104, hc109, hc113]; done)
            · rw [if_neg (show ¬ r102 = true by first | (rw [hc105]; exact Bool.false_ne_true) | simpa using hc105 | (simp at hc105 ⊢; omega))] at h
              try simp only [go_sem, hc105]
              obtain ⟨r122, hr123, h⟩ := Option.bind_eq_some_iff.1 h
              replace hr123 := dec_some hr123
              first | refine WVal_pc hr123 ?_ | (simp only [eT2_eq, eT3_eq, eT4_eq, eT5_eq] at hr123; refine WVal_pc hr123 ?_)
              try simp only [go_sem]
              refine WGuard_pure (v := .d (.str a0)) (fun hb133 => by skip; simp only [go_sem, hc4, hc10, hc92, hc96, hc100, hc105, hb133]) ?_
              try simp only [go_sem]
              first | refine WGuard_splitN (fun hc124 => ?_) (fun hc125 => ?_) | refine WGuard_split (fun hc124 => ?_) (fun hc125 => ?_)
              · rw [if_pos (show r122 = true by first | exact hc124 | (rw [hc124]; rfl) | simpa using hc124)] at h
                try simp only [go_sem, hc124]
                obtain ⟨r126, hr127, h⟩ := Option.bind_eq_some_iff.1 h
                replace hr127 := dec_some hr127
                first | refine WVal_pc hr127 ?_ | (simp only [eT2_eq, eT3_eq, eT4_eq, eT5_eq] at hr127; refine WVal_pc hr127 ?_)
                try simp only [go_sem]
                refine WGuard_pure (v := .d (.str a0)) (fun hb132 => by skip; simp only [go_sem, hc4, hc10, hc92, hc96, hc100, hc105, hc124, hb132]) ?_
                try simp only [go_sem]
                first | refine WGuard_splitN (fun hc128 => ?_) (fun hc129 => ?_) | refine WGuard_split (fun hc128 => ?_) (fun hc129 => ?_)
                · rw [if_pos (show r126 = true by first | exact hc128 | (rw [hc128]; rfl) | simpa using hc128)] at h
                  try simp only [go_sem, hc128]
                  obtain ⟨r130, hr131, h⟩ := Option.bind_eq_some_iff.1 h
                  replace hr131 := dec_some hr131
                  first | refine WVal_pc hr131 ?_ | (simp only [eT2_eq, eT3_eq, eT4_eq, eT5_eq] at hr131; refine WVal_pc hr131 ?_)
                  try simp only [go_sem]
                  cases h
                  first | rfl | (simp only [go_sem]; done) | (simp only [go_sem]; rfl) | (simp [eName, eRegistry, eDefinition, eForest, eCustom, enames_span, eNode, eforest_trait, eAttr, eforest_key, hc4, hc10, hc92, hc96, hc100, hc105, hc124, hc128]; done)
                · rw [if_neg (show ¬ r126 = true by first | (rw [hc129]; exact Bool.false_ne_true) | simpa using hc129 | (simp at hc129 ⊢; omega))] at h
                  try simp only [go_sem, hc129]
                  cases h
                  first | rfl | (simp only [go_sem]; done) | (simp only [go_sem]; rfl) | (simp [eName, eRegistry, eDefinition, eForest, eCustom, enames_span, eNode, eforest_trait, eAttr, eforest_key, hc4, hc10, hc92, hc96, hc100, hc105, hc124, hc129]; done)
              · rw [if_neg (show ¬ r122 = true by first | (rw [hc125]; exact Bool.false_ne_true) | simpa using hc125 | (simp at hc125 ⊢; omega))] at h
                try simp only [go_sem, hc125]
                cases h
                first | rfl | (simp only [go_sem]; done) | (simp only [go_sem]; rfl) | (simp [eName, eRegistry, eDefinition, eForest, eCustom, enames_span, eNode, eforest_trait, eAttr, eforest_key, hc4, hc10, hc92, hc96, hc100, hc105, hc125]; done)
          · rw [if_neg (show ¬ r98 = true by first | (rw [hc101]; exact Bool.false_ne_true) | simpa using hc101 | (simp at hc101 ⊢; omega))] at h
            try simp only [go_sem, hc101]
            cases h
            first | rfl | (simp only [go_sem]; done) | (simp only [go_sem]; rfl) | (simp [eName, eRegistry, eDefinition, eForest, eCustom, enames_span, eNode, eforest_trait, eAttr, eforest_key, hc4, hc10, hc92, hc96, hc101]; done)
        · rw [if_neg (show ¬ r94 = true by first | (rw [hc97]; exact Bool.false_ne_true) | simpa using hc97 | (simp at hc97 ⊢; omega))] at h
          try simp only [go_sem, hc97]
          obtain ⟨r136, hr137, h⟩ := Option.bind_eq_some_iff.1 h
          replace hr137 := dec_some hr137
          first | refine WVal_pc hr137 ?_ | (simp only [eT2_eq, eT3_eq, eT4_eq, eT5_eq] at hr137; refine WVal_pc hr137 ?_)
          try simp only [go_sem]
          refine WGuard_pure (v := .d (.str a0)) (fun hb168 => by skip; simp only [go_sem, hc4, hc10, hc92, hc97, hb168]) ?_
          try simp only [go_sem]
          first | refine WGuard_splitN (fun hc138 => ?_) (fun hc139 => ?_) | refine WGuard_split (fun hc138 => ?_) (fun hc139 => ?_)
          · rw [if_pos (show r136 = true by first | exact hc138 | (rw [hc138]; rfl) | simpa using hc138)] at h
            try simp only [go_sem, hc138]
            obtain ⟨r140, hr141, h⟩ := Option.bind_eq_some_iff.1 h
            replace hr141 := dec_some hr141
            first | refine WVal_pc hr141 ?_ | (simp only [eT2_eq, eT3_eq, eT4_eq, eT5_eq] at hr141; refine WVal_pc hr141 ?_)
            try simp only [go_sem]
            first | refine WBr_splitN (fun hc142 => ?_) (fun hc143 => ?_) | refine WBr_split (fun hc142 => ?_) (fun hc143 => ?_)
            · rw [if_pos (show (!r140) = true by first | exact hc142 | (rw [hc142]; rfl) | simpa using hc142)] at h
              try simp only [go_sem]
              cases h
              first | rfl | (simp only [go_sem]; done) | (simp only [go_sem]; rfl) | (simp [eName, eRegistry, eDefinition, eForest, eCustom, enames_span, eNode, eforest_trait, eAttr, eforest_key, hc4, hc10, hc92, hc97, hc138, hc142]; done)
            · rw [if_neg (show ¬ (!r140) = true by first | (rw [hc143]; exact Bool.false_ne_true) | simpa using hc143 | (simp at hc143 ⊢; omega))] at h
              try simp only [go_sem]
              obtain ⟨r144, hr145, h⟩ := Option.bind_eq_some_iff.1 h
              replace hr145 := dec_some hr145
              first | refine WVal_pc hr145 ?_ | (simp only [eT2_eq, eT3_eq, eT4_eq, eT5_eq] at hr145; refine WVal_pc hr145 ?_)
              try simp only [go_sem]
              refine WGuard_pure (v := .d (.str a0)) (fun hb155 => by skip; simp only [go_sem, hc4, hc10, hc92, hc97, hc138, hc143, hb155]) ?_
              try simp only [go_sem]
              first | refine WGuard_splitN (fun hc146 => ?_) (fun hc147 => ?_) | refine WGuard_split (fun hc146 => ?_) (fun hc147 => ?_)
              · rw [if_pos (show r144 = true by first | exact hc146 | (rw [hc146]; rfl) | simpa using hc146)] at h
                try simp only [go_sem, hc146]
                obtain ⟨r148, hr149, h⟩ := Option.bind_eq_some_iff.1 h
                replace hr149 := dec_some hr149
                first | refine WVal_pc hr149 ?_ | (simp only [eT2_eq, eT3_eq, eT4_eq, eT5_eq] at hr149; refine WVal_pc hr149 ?_)
                try simp only [go_sem]
                refine WGuard_pure (v := .d (.str a0)) (fun hb154 => by skip; simp only [go_sem, hc4, hc10, hc92, hc97, hc138, hc143, hc146, hb154]) ?_
                try simp only [go_sem]
                first | refine WGuard_splitN (fun hc150 => ?_) (fun hc151 => ?_) | refine WGuard_split (fun hc150 => ?_) (fun hc151 => ?_)
                · rw [if_pos (show r148 = true by first | exact hc150 | (rw [hc150]; rfl) | simpa using hc150)] at h
                  try simp only [go_sem, hc150]
                  obtain ⟨r152, hr153, h⟩ := Option.bind_eq_some_iff.1 h
                  replace hr153 := dec_some hr153
                  first | refine WVal_pc hr153 ?_ | (simp only [eT2_eq, eT3_eq, eT4_eq, eT5_eq] at hr153; refine WVal_pc hr153 ?_)
                  try simp only [go_sem]
                  cases h
                  first | rfl | (simp only [go_sem]; done) | (simp only [go_sem]; rfl) | (simp [eName, eRegistry, eDefinition, eForest, eCustom, enames_span, eNode, eforest_trait, eAttr, eforest_key, hc4, hc10, hc92, hc97, hc138, hc143, hc146, hc150]; done)
                · rw [if_neg (show ¬ r148 = true by first | (rw [hc151]; exact Bool.false_ne_true) | simpa using hc151 | (simp at hc151 ⊢; omega))] at h
                  try simp only [go_sem, hc151]
                  cases h
                  first | rfl | (simp only [go_sem]; done) | (simp only [go_sem]; rfl) | (simp [eName, eRegistry, eDefinition, eForest, eCustom, enames_span, eNode, eforest_trait, eAttr, eforest_key, hc4, hc10, hc92, hc97, hc138, hc143, hc146, hc151]; done)
              · rw [if_neg (show ¬ r144 = true by first | (rw [hc147]; exact Bool.false_ne_true) | simpa using hc147 | (simp at hc147 ⊢; omega))] at h
                try simp only [go_sem, hc147]
                cases h
                first | rfl | (simp only [go_sem]; done) | (simp only [go_sem]; rfl) | (simp [eName, eRegistry, eDefinition, eForest, eCustom, enames_span, eNode, eforest_trait, eAttr, eforest_key, hc4, hc10, hc92, hc97, hc138, hc143, hc147]; done)
          · rw [if_neg (show ¬ r136 = true by first | (rw [hc139]; exact Bool.false_ne_true) | simpa using hc139 | (simp at hc139 ⊢; omega))] at h
            try simp only [go_sem, hc139]
            obtain ⟨r156, hr157, h⟩ := Option.bind_eq_some_iff.1 h
            replace hr157 := dec_some hr157
            first | refine WVal_pc hr157 ?_ | (simp only [eT2_eq, eT3_eq, eT4_eq, eT5_eq] at hr157; refine WVal_pc hr157 ?_)
            try simp only [go_sem]
            refine WGuard_pure (v := .d (.str a0)) (fun hb167 => by skip; simp only [go_sem, hc4, hc10, hc92, hc97, hc139, hb167]) ?_
            try simp only [go_sem]
            first | refine WGuard_splitN (fun hc158 => ?_) (fun hc159 => ?_) | refine WGuard_split (fun hc158 => ?_) (fun hc159 => ?_)
            · rw [if_pos (show r156 = true by first | exact hc158 | (rw [hc158]; rfl) | simpa using hc158)] at h
              try simp only [go_sem, hc158]
              obtain ⟨r160, hr161, h⟩ := Option.bind_eq_some_iff.1 h
              replace hr161 := dec_some hr161
              first | refine WVal_pc hr161 ?_ | (simp only [eT2_eq, eT3_eq, eT4_eq, eT5_eq] at hr161; refine WVal_pc hr161 ?_)
              try simp only [go_sem]
              refine WGuard_pure (v := .d (.str a0)) (fun hb166 => by skip; simp only [go_sem, hc4, hc10, hc92, hc97, hc139, hc158, hb166]) ?_
              try simp only [go_sem]
              first | refine WGuard_splitN (fun hc162 => ?_) (fun hc163 => ?_) | refine WGuard_split (fun hc162 => ?_) (fun hc163 => ?_)
              · rw [if_pos (show r160 = true by first | exact hc162 | (rw [hc162]; rfl) | simpa using hc162)] at h
                try simp only [go_sem, hc162]
                obtain ⟨r164, hr165, h⟩ := Option.bind_eq_some_iff.1 h
                replace hr165 := dec_some hr165
                first | refine WVal_pc hr165 ?_ | (simp only [eT2_eq, eT3_eq, eT4_eq, eT5_eq] at hr165; refine WVal_pc hr165 ?_)
                try simp only [go_sem]
                cases h
                first | rfl | (simp only [go_sem]; done) | (simp only [go_sem]; rfl) | (simp [eName, eRegistry, eDefinition, eForest, eCustom, enames_span, eNode, eforest_trait, eAttr, eforest_key, hc4, hc10, hc92, hc97, hc139, hc158, hc162]; done)
              · rw [if_neg (show ¬ r160 = true by first | (rw [hc163]; exact Bool.false_ne_true) | simpa using hc163 | (simp at hc163 ⊢; omega))] at h
                try simp only [go_sem, hc163]
                cases h
                first | rfl | (simp only [go_sem]; done) | (simp only [go_sem]; rfl) | (simp [eName, eRegistry, eDefinition, eForest, eCustom, enames_span, eNode, eforest_trait, eAttr, eforest_key, hc4, hc10, hc92, hc97, hc139, hc158, hc163]; done)
            · rw [if_neg (show ¬ r156 = true by first | (rw [hc159]; exact Bool.false_ne_true) | simpa using hc159 | (simp at hc159 ⊢; omega))] at h
              try simp only [go_sem, hc159]
              cases h
              first | rfl | (simp only [go_sem]; done) | (simp only [go_sem]; rfl) | (simp [eName, eRegistry, eDefinition, eForest, eCustom, enames_span, eNode, eforest_trait, eAttr, eforest_key, hc4, hc10, hc92, hc97, hc139, hc159]; done)
      · rw [if_neg (show ¬ (!r5) = true by first | (rw [hc93]; exact Bool.false_ne_true) | simpa using hc93 | (simp at hc93 ⊢; omega))] at h
        try simp only [go_sem, hc93]
        cases h
        first | rfl | (simp only [go_sem]; done) | (simp only [go_sem]; rfl) | (simp [eName, eRegistry, eDefinition, eForest, eCustom, enames_span, eNode, eforest_trait, eAttr, eforest_key, hc4, hc10, hc93]; done)
noncomputable def P9 (a0 : List UInt8) (a1 : List UInt8) (a2 : Name) : Option (Bool) :=
  (dec D.bool (pc prog 17 [])).bind fun r1 =>
  if (!r1) = true then
    some false
  else
    (dec (eT2 eName (D.int .i64)) (pc prog 35 [.str a0, .str a1])).bind fun r5 =>
    if (r5.2 == 0) = true then
      (dec D.str (pc prog 31 [eName r5.1])).bind fun r9 =>
      if (!(bif (!(r9 == a1)) then true else (!(r5.1.space == a0)))) = true then
        (dec D.bool (pc prog 37 [eName r5.1])).bind fun r13 =>
        if (bif (!r13) then true else false) = true then
          some false
        else
          (dec D.bool (pc prog 37 [eName a2])).bind fun r17 =>
          if (!r17) = true then
            some true
          else
            (dec D.str (pc prog 31 [eName a2])).bind fun r21 =>
            (dec (eT2 eName (D.int .i64)) (pc prog 35 [.str a2.space, .str r21])).bind fun r23 =>
            some (bif (r23.2 == 0) then (decide (r23.1 = a2)) else false)
      else
        some false
    else
      if (!(decide (r5.1 = (⟨[], [], []⟩ : Name)))) = true then
        some false
      else
        (dec D.bool (pc prog 37 [eName a2])).bind fun r39 =>
        if (!r39) = true then
          some true
        else
          (dec D.str (pc prog 31 [eName a2])).bind fun r43 =>
          (dec (eT2 eName (D.int .i64)) (pc prog 35 [.str a2.space, .str r43])).bind fun r45 =>
          some (bif (r45.2 == 0) then (decide (r45.1 = a2)) else false)
theorem ok9 (a0 : List UInt8) (a1 : List UInt8) (a2 : Name) (r : Bool) (h : P9 a0 a1 a2 = some r) : pc prog 9 [.str a0, .str a1, eName a2] = some (D.bool r) := by
  unfold P9 at h
  refine pc_of (fn := c9) rfl rfl ?_
  delta c9
  try simp only [go_sem]
  obtain ⟨r1, hr2, h⟩ := Option.bind_eq_some_iff.1 h
  replace hr2 := dec_some hr2
  first | refine WVal_pc hr2 ?_ | (simp only [eT2_eq, eT3_eq, eT4_eq, eT5_eq] at hr2; refine WVal_pc hr2 ?_)
  try simp only [go_sem]
  first | refine WBr_splitN (fun hc3 => ?_) (fun hc4 => ?_) | refine WBr_split (fun hc3 => ?_) (fun hc4 => ?_)
  · rw [if_pos (show (!r1) = true by first | exact hc3 | (rw [hc3]; rfl) | simpa using hc3)] at h
    try simp only [go_sem]
    cases h
    first | rfl | (simp only [go_sem]; done) | (simp only [go_sem]; rfl) | (simp [eName, eRegistry, eDefinition, eForest, eCustom, enames_span, eNode, eforest_trait, eAttr, eforest_key, hc3]; done)
  · rw [if_neg (show ¬ (!r1) = true by first | (rw [hc4]; exact Bool.false_ne_true) | simpa using hc4 | (simp at hc4 ⊢; omega))] at h
    try simp only [go_sem]
    obtain ⟨r5, hr6, h⟩ := Option.bind_eq_some_iff.1 h
    replace hr6 := dec_some hr6
    first | refine WVal_pc hr6 ?_ | (simp only [eT2_eq, eT3_eq, eT4_eq, eT5_eq] at hr6; refine WVal_pc hr6 ?_)
    try simp only [go_sem]
    refine WGuard_pure (v := .d (eName r5.1)) (fun hb50 => by skip; simp only [go_sem, hc4, hb50]) ?_
    try simp only [go_sem]
    first | refine WGuard_splitN (fun hc7 => ?_) (fun hc8 => ?_) | refine WGuard_split (fun hc7 => ?_) (fun hc8 => ?_)
    · rw [if_pos (show (r5.2 == 0) = true by first | exact hc7 | (rw [hc7]; rfl) | simpa using hc7)] at h
      try simp only [go_sem, hc7]
      obtain ⟨r9, hr10, h⟩ := Option.bind_eq_some_iff.1 h
      replace hr10 := dec_some hr10
      first | refine WVal_pc hr10 ?_ | (simp only [eT2_eq, eT3_eq, eT4_eq, eT5_eq] at hr10; refine WVal_pc hr10 ?_)
      try simp only [go_sem]
      refine WGuard_pure (v := .ptr 10 0 0) (fun hb36 => by skip; simp only [go_sem, hc4, hc7, hb36]) ?_
      try simp only [go_sem]
      refine WGuard_pure (v := .d (.str r5.1.space)) (fun hb35 => by skip; simp only [go_sem, hc4, hc7, hb35]) ?_
      try simp only [go_sem]
      refine WGuard_pure (v := .d (.str a0)) (fun hb34 => by skip; simp only [go_sem, hc4, hc7, hb34]) ?_
      try simp only [go_sem]
      refine WGuard_pure (v := .d (.bool (!(r5.1.space == a0)))) (fun hb33 => by skip; simp only [go_sem, hc4, hc7, hb33]) ?_
      try simp only [go_sem]
      refine WGuard_pure (v := .d (eName r5.1)) (fun hb32 => by skip; simp only [go_sem, hc4, hc7, hb32]) ?_
      try simp only [go_sem]
      first | refine WGuard_splitN (fun hc11 => ?_) (fun hc12 => ?_) | refine WGuard_split (fun hc11 => ?_) (fun hc12 => ?_)
      · rw [if_pos (show (!(bif (!(r9 == a1)) then true else (!(r5.1.space == a0)))) = true by first | exact hc11 | (rw [hc11]; rfl) | simpa using hc11)] at h
        try simp only [go_sem, hc11]
        obtain ⟨r13, hr14, h⟩ := Option.bind_eq_some_iff.1 h
        replace hr14 := dec_some hr14
        first | refine WVal_pc hr14 ?_ | (simp only [eT2_eq, eT3_eq, eT4_eq, eT5_eq] at hr14; refine WVal_pc hr14 ?_)
        try simp only [go_sem]
        refine WGuard_pure (v := .d (.int .i64 r5.2)) (fun hb31 => by skip; simp only [go_sem, hc4, hc7, hc11, hb31]) ?_
        try simp only [go_sem]
        refine WGuard_pure (v := .d (.bool (!(r5.2 == 0)))) (fun hb30 => by skip; simp only [go_sem, hc4, hc7, hc11, hb30]) ?_
        try simp only [go_sem]
        refine WGuard_pure (v := .d (.bool (!(r5.2 == 0)))) (fun hb29 => by skip; simp only [go_sem, hc4, hc7, hc11, hb29]) ?_
        try simp only [go_sem]
        try simp only [go_sem, hc4, hc7, hc11]
        try simp only [go_sem, hc4, hc7, hc11]
        try simp only [go_sem, hc4, hc7, hc11]
        refine WGuard_pure (v := .d (.bool false)) (fun hb28 => by skip; simp only [go_sem, hc4, hc7, hc11, hb28]) ?_
        try simp only [go_sem]
        first | refine WBr_splitN (fun hc15 => ?_) (fun hc16 => ?_) | refine WBr_split (fun hc15 => ?_) (fun hc16 => ?_)
        · rw [if_pos (show (bif (!r13) then true else false) = true by first | exact hc15 | (rw [hc15]; rfl) | simpa using hc15)] at h
          try simp only [go_sem]
          cases h
          first | rfl | (simp only [go_sem]; done) | (simp only [go_sem]; rfl) | (simp [eName, eRegistry, eDefinition, eForest, eCustom, enames_span, eNode, eforest_trait, eAttr, eforest_key, hc4, hc7, hc11, hc15]; done)
        · rw [if_neg (show ¬ (bif (!r13) then true else false) = true by first | (rw [hc16]; exact Bool.false_ne_true) | simpa using hc16 | (simp at hc16 ⊢; omega))] at h
          try simp only [go_sem]
          obtain ⟨r17, hr18, h⟩ := Option.bind_eq_some_iff.1 h
          replace hr18 := dec_some hr18
          first | refine WVal_pc hr18 ?_ | (simp only [eT2_eq, eT3_eq, eT4_eq, eT5_eq] at hr18; refine WVal_pc hr18 ?_)
          try simp only [go_sem]
          first | refine WBr_splitN (fun hc19 => ?_) (fun hc20 => ?_) | refine WBr_split (fun hc19 => ?_) (fun hc20 => ?_)
          · rw [if_pos (show (!r17) = true by first | exact hc19 | (rw [hc19]; rfl) | simpa using hc19)] at h
            try simp only [go_sem]
            cases h
            first | rfl | (simp only [go_sem]; done) | (simp only [go_sem]; rfl) | (simp [eName, eRegistry, eDefinition, eForest, eCustom, enames_span, eNode, eforest_trait, eAttr, eforest_key, hc4, hc7, hc11, hc16, hc19]; done)
          · rw [if_neg (show ¬ (!r17) = true by first | (rw [hc20]; exact Bool.false_ne_true) | simpa using hc20 | (simp at hc20 ⊢; omega))] at h
            try simp only [go_sem]
            obtain ⟨r21, hr22, h⟩ := Option.bind_eq_some_iff.1 h
            replace hr22 := dec_some hr22
            first | refine WVal_pc hr22 ?_ | (simp only [eT2_eq, eT3_eq, eT4_eq, eT5_eq] at hr22; refine WVal_pc hr22 ?_)
            try simp only [go_sem]
            obtain ⟨r23, hr24, h⟩ := Option.bind_eq_some_iff.1 h
            replace hr24 := dec_some hr24
            first | refine WVal_pc hr24 ?_ | (simp only [eT2_eq, eT3_eq, eT4_eq, eT5_eq] at hr24; refine WVal_pc hr24 ?_)
            try simp only [go_sem]
            refine WGuard_pure (v := .d (eName r23.1)) (fun hb27 => by skip; simp only [go_sem, hc4, hc7, hc11, hc16, hc20, hb27]) ?_
            try simp only [go_sem]
            refine WGuard_pure (v := .d (eName a2)) (fun hb26 => by skip; simp only [go_sem, hc4, hc7, hc11, hc16, hc20, hb26]) ?_
            try simp only [go_sem]
            refine WGuard_pure (v := .d (.bool (decide (r23.1 = a2)))) (fun hb25 => by skip; simp only [go_sem, hc4, hc7, hc11, hc16, hc20, hb25]) ?_
            try simp only [go_sem]
            cases h
            first | rfl | (simp only [go_sem]; done) | (simp only [go_sem]; rfl) | (simp [eName, eRegistry, eDefinition, eForest, eCustom, enames_span, eNode, eforest_trait, eAttr, eforest_key, hc4, hc7, hc11, hc16, hc20]; done)
      · rw [if_neg (show ¬ (!(bif (!(r9 == a1)) then true else (!(r5.1.space == a0)))) = true by first | (rw [hc12]; exact Bool.false_ne_true) | simpa using hc12 | (simp at hc12 ⊢; omega))] at h
        try simp only [go_sem, hc12]
        cases h
        first | rfl | (simp only [go_sem]; done) | (simp only [go_sem]; rfl) | (simp [eName, eRegistry, eDefinition, eForest, eCustom, enames_span, eNode, eforest_trait, eAttr, eforest_key, hc4, hc7, hc12]; done)
    · rw [if_neg (show ¬ (r5.2 == 0) = true by first | (rw [hc8]; exact Bool.false_ne_true) | simpa using hc8 | (simp at hc8 ⊢; omega))] at h
      try simp only [go_sem, hc8]
      try simp only [go_sem, hc4, hc8]
      first | refine WBr_splitN (fun hc37 => ?_) (fun hc38 => ?_) | refine WBr_split (fun hc37 => ?_) (fun hc38 => ?_)
      · rw [if_pos (show (!(decide (r5.1 = (⟨[], [], []⟩ : Name)))) = true by first | exact hc37 | (rw [hc37]; rfl) | simpa using hc37)] at h
        try simp only [go_sem]
        cases h
        first | rfl | (simp only [go_sem]; done) | (simp only [go_sem]; rfl) | (simp [eName, eRegistry, eDefinition, eForest, eCustom, enames_span, eNode, eforest_trait, eAttr, eforest_key, hc4, hc8, hc37]; done)
      · rw [if_neg (show ¬ (!(decide (r5.1 = (⟨[], [], []⟩ : Name)))) = true by first | (rw [hc38]; exact Bool.false_ne_true) | simpa using hc38 | (simp at hc38 ⊢; omega))] at h
        try simp only [go_sem]
        obtain ⟨r39, hr40, h⟩ := Option.bind_eq_some_iff.1 h
        replace hr40 := dec_some hr40
        first | refine WVal_pc hr40 ?_ | (simp only [eT2_eq, eT3_eq, eT4_eq, eT5_eq] at hr40; refine WVal_pc hr40 ?_)
        try simp only [go_sem]
        first | refine WBr_splitN (fun hc41 => ?_) (fun hc42 => ?_) | refine WBr_split (fun hc41 => ?_) (fun hc42 => ?_)
        · rw [if_pos (show (!r39) = true by first | exact hc41 | (rw [hc41]; rfl) | simpa using hc41)] at h
          try simp only [go_sem]
          cases h
          first | rfl | (simp only [go_sem]; done) | (simp only [go_sem]; rfl) | (simp [eName, eRegistry, eDefinition, eForest, eCustom, enames_span, eNode, eforest_trait, eAttr, eforest_key, hc4, hc8, hc38, hc41]; done)
        · rw [if_neg (show ¬ (!r39) = true by first | (rw [hc42]; exact Bool.false_ne_true) | simpa using hc42 | (simp at hc42 ⊢; omega))] at h
          try simp only [go_sem]
          obtain ⟨r43, hr44, h⟩ := Option.bind_eq_some_iff.1 h
          replace hr44 := dec_some hr44
          first | refine WVal_pc hr44 ?_ | (simp only [eT2_eq, eT3_eq, eT4_eq, eT5_eq] at hr44; refine WVal_pc hr44 ?_)
          try simp only [go_sem]
          obtain ⟨r45, hr46, h⟩ := Option.bind_eq_some_iff.1 h
          replace hr46 := dec_some hr46
          first | refine WVal_pc hr46 ?_ | (simp only [eT2_eq, eT3_eq, eT4_eq, eT5_eq] at hr46; refine WVal_pc hr46 ?_)
          try simp only [go_sem]
          refine WGuard_pure (v := .d (eName r45.1)) (fun hb49 => by skip; simp only [go_sem, hc4, hc8, hc38, hc42, hb49]) ?_
          try simp only [go_sem]
          refine WGuard_pure (v := .d (eName a2)) (fun hb48 => by skip; simp only [go_sem, hc4, hc8, hc38, hc42, hb48]) ?_
          try simp only [go_sem]
          refine WGuard_pure (v := .d (.bool (decide (r45.1 = a2)))) (fun hb47 => by skip; simp only [go_sem, hc4, hc8, hc38, hc42, hb47]) ?_
          try simp only [go_sem]
          cases h
          first | rfl | (simp only [go_sem]; done) | (simp only [go_sem]; rfl) | (simp [eName, eRegistry, eDefinition, eForest, eCustom, enames_span, eNode, eforest_trait, eAttr, eforest_key, hc4, hc8, hc38, hc42]; done)
noncomputable def P13 (a0 : Int) : Option (Bool) :=
  (dec D.bool (pc prog 52 [.int .i32 a0, .list false (([(⟨58, 58⟩ : names_span), (⟨95, 95⟩ : names_span), (⟨65, 90⟩ : names_span), (⟨97, 122⟩ : names_span), (⟨192, 214⟩ : names_span), (⟨216, 246⟩ : names_span), (⟨248, 767⟩ : names_span), (⟨880, 893⟩ : names_span)]).map enames_span)])).bind fun r1 =>
  if (!r1) = true then
    (dec (eSl enames_span) (pc prog 53 [])).bind fun r5 =>
    (dec D.bool (pc prog 52 [.int .i32 a0, .list r5.n (r5.l.map enames_span)])).bind fun r7 =>
    some r7
  else
    some true
theorem ok13 (a0 : Int) (r : Bool) (h : P13 a0 = some r) : pc prog 13 [.int .i32 a0] = some (D.bool r) := by
  unfold P13 at h
  refine pc_of (fn := c13) rfl rfl ?_
  delta c13
  try simp only [go_sem]
  obtain ⟨r1, hr2, h⟩ := Option.bind_eq_some_iff.1 h
  replace hr2 := dec_some hr2
  first | refine WVal_pc hr2 ?_ | (simp only [eT2_eq, eT3_eq, eT4_eq, eT5_eq] at hr2; refine WVal_pc hr2 ?_)
  try simp only [go_sem]
  refine WGuard_pure (v := .d (.int .i32 a0)) (fun hb9 => by skip; simp only [go_sem, hb9]) ?_
  try simp only [go_sem]
  first | refine WGuard_splitN (fun hc3 => ?_) (fun hc4 => ?_) | refine WGuard_split (fun hc3 => ?_) (fun hc4 => ?_)
  · rw [if_pos (show (!r1) = true by first | exact hc3 | (rw [hc3]; rfl) | simpa using hc3)] at h
    try simp only [go_sem, hc3]
    obtain ⟨r5, hr6, h⟩ := Option.bind_eq_some_iff.1 h
    replace hr6 := dec_some hr6
    first | refine WVal_pc hr6 ?_ | (simp only [eT2_eq, eT3_eq, eT4_eq, eT5_eq] at hr6; refine WVal_pc hr6 ?_)
    try simp only [go_sem]
    obtain ⟨r7, hr8, h⟩ := Option.bind_eq_some_iff.1 h
    replace hr8 := dec_some hr8
    first | refine WVal_pc hr8 ?_ | (simp only [eT2_eq, eT3_eq, eT4_eq, eT5_eq] at hr8; refine WVal_pc hr8 ?_)
    try simp only [go_sem]
    cases h
    first | rfl | (simp only [go_sem]; done) | (simp only [go_sem]; rfl) | (simp [eName, eRegistry, eDefinition, eForest, eCustom, enames_span, eNode, eforest_trait, eAttr, eforest_key, hc3]; done)
  · rw [if_neg (show ¬ (!r1) = true by first | (rw [hc4]; exact Bool.false_ne_true) | simpa using hc4 | (simp at hc4 ⊢; omega))] at h
    try simp only [go_sem, hc4]
    cases h
    first | rfl | (simp only [go_sem]; done) | (simp only [go_sem]; rfl) | (simp [eName, eRegistry, eDefinition, eForest, eCustom, enames_span, eNode, eforest_trait, eAttr, eforest_key, hc4]; done)
noncomputable def P15 (a0 : Int) : Option (Bool) :=
  (dec D.bool (pc prog 13 [.int .i32 a0])).bind fun r1 =>
  if (!r1) = true then
    (dec D.bool (pc prog 52 [.int .i32 a0, .list false (([(⟨45, 45⟩ : names_span), (⟨46, 46⟩ : names_span), (⟨48, 57⟩ : names_span), (⟨183, 183⟩ : names_span), (⟨768, 879⟩ : names_span), (⟨8255, 8256⟩ : names_span)]).map enames_span)])).bind fun r5 =>
    some r5
  else
    some true
theorem ok15 (a0 : Int) (r : Bool) (h : P15 a0 = some r) : pc prog 15 [.int .i32 a0] = some (D.bool r) := by
  unfold P15 at h
  refine pc_of (fn := c15) rfl rfl ?_
  delta c15
  try simp only [go_sem]
  obtain ⟨r1, hr2, h⟩ := Option.bind_eq_some_iff.1 h
  replace hr2 := dec_some hr2
  first | refine WVal_pc hr2 ?_ | (simp only [eT2_eq, eT3_eq, eT4_eq, eT5_eq] at hr2; refine WVal_pc hr2 ?_)
  try simp only [go_sem]
  refine WGuard_pure (v := .d (.int .i32 a0)) (fun hb7 => by skip; simp only [go_sem, hb7]) ?_
  try simp only [go_sem]
  first | refine WGuard_splitN (fun hc3 => ?_) (fun hc4 => ?_) | refine WGuard_split (fun hc3 => ?_) (fun hc4 => ?_)
  · rw [if_pos (show (!r1) = true by first | exact hc3 | (rw [hc3]; rfl) | simpa using hc3)] at h
    try simp only [go_sem, hc3]
    obtain ⟨r5, hr6, h⟩ := Option.bind_eq_some_iff.1 h
    replace hr6 := dec_some hr6
    first | refine WVal_pc hr6 ?_ | (simp only [eT2_eq, eT3_eq, eT4_eq, eT5_eq] at hr6; refine WVal_pc hr6 ?_)
    try simp only [go_sem]
    cases h
    first | rfl | (simp only [go_sem]; done) | (simp only [go_sem]; rfl) | (simp [eName, eRegistry, eDefinition, eForest, eCustom, enames_span, eNode, eforest_trait, eAttr, eforest_key, hc3]; done)
  · rw [if_neg (show ¬ (!r1) = true by first | (rw [hc4]; exact Bool.false_ne_true) | simpa using hc4 | (simp at hc4 ⊢; omega))] at h
    try simp only [go_sem, hc4]
    cases h
    first | rfl | (simp only [go_sem]; done) | (simp only [go_sem]; rfl) | (simp [eName, eRegistry, eDefinition, eForest, eCustom, enames_span, eNode, eforest_trait, eAttr, eforest_key, hc4]; done)
def L18_0_S (a0 : List UInt8) (x0 : Nat) : St := ⟨((((Regs.none.set 0 (.d (.str a0))).set 1 (.d (.fn 13))).set 2 (.d (.fn 15))).set 10 (.it 6)), ((Heap.at 7).set 6 (some (.it a0 x0)))⟩
def L18_0_F (a0 : List UInt8) : ((Unit) ⊕ (Unit)) → Ex × St := fun r => match r with
  | (.inl r) => (.exit 0, ⟨(Regs.none.set 0 (.d (.str a0))), (Heap.at 7)⟩)
  | (.inr r) => (.ret, ⟨(Regs.none.set 6 (.d (.bool false))), (Heap.at 7)⟩)
noncomputable def L18_0_step (a0 : List UInt8) (x0 : Nat) : Option ((Nat) ⊕ ((Unit) ⊕ (Unit))) :=
  if (decide (x0 < a0.length)) = true then
    if (((x0 : Nat) : Int) == 0) = true then
      (dec D.bool (pc prog 52 [.int .i32 ((dcr a0 x0).1 : Int), .list false (([(⟨58, 58⟩ : names_span), (⟨95, 95⟩ : names_span), (⟨65, 90⟩ : names_span), (⟨97, 122⟩ : names_span), (⟨192, 214⟩ : names_span), (⟨216, 246⟩ : names_span), (⟨248, 767⟩ : names_span), (⟨880, 893⟩ : names_span)]).map enames_span)])).bind fun r5 =>
      if (!r5) = true then
        (dec (eSl enames_span) (pc prog 53 [])).bind fun r9 =>
        (dec D.bool (pc prog 52 [.int .i32 ((dcr a0 x0).1 : Int), .list r9.n (r9.l.map enames_span)])).bind fun r11 =>
        if r11 = true then
          (dec D.bool (pc prog 13 [.int .i32 ((dcr a0 x0).1 : Int)])).bind fun r15 =>
          if (!r15) = true then
            (dec D.bool (pc prog 52 [.int .i32 ((dcr a0 x0).1 : Int), .list false (([(⟨45, 45⟩ : names_span), (⟨46, 46⟩ : names_span), (⟨48, 57⟩ : names_span), (⟨183, 183⟩ : names_span), (⟨768, 879⟩ : names_span), (⟨8255, 8256⟩ : names_span)]).map enames_span)])).bind fun r19 =>
            if (!r19) = true then
              some (.inr (.inr ()))
            else
              some (.inl (x0 + (dcr a0 x0).2))
          else
            some (.inl (x0 + (dcr a0 x0).2))
        else
          some (.inr (.inr ()))
      else
        (dec D.bool (pc prog 13 [.int .i32 ((dcr a0 x0).1 : Int)])).bind fun r24 =>
        if (!r24) = true then
          (dec D.bool (pc prog 52 [.int .i32 ((dcr a0 x0).1 : Int), .list false (([(⟨45, 45⟩ : names_span), (⟨46, 46⟩ : names_span), (⟨48, 57⟩ : names_span), (⟨183, 183⟩ : names_span), (⟨768, 879⟩ : names_span), (⟨8255, 8256⟩ : names_span)]).map enames_span)])).bind fun r28 =>
          if (!r28) = true then
            some (.inr (.inr ()))
          else
            some (.inl (x0 + (dcr a0 x0).2))
        else
          some (.inl (x0 + (dcr a0 x0).2))
    else
      (dec D.bool (pc prog 13 [.int .i32 ((dcr a0 x0).1 : Int)])).bind fun r34 =>
      if (!r34) = true then
        (dec D.bool (pc prog 52 [.int .i32 ((dcr a0 x0).1 : Int), .list false (([(⟨45, 45⟩ : names_span), (⟨46, 46⟩ : names_span), (⟨48, 57⟩ : names_span), (⟨183, 183⟩ : names_span), (⟨768, 879⟩ : names_span), (⟨8255, 8256⟩ : names_span)]).map enames_span)])).bind fun r38 =>
        if (!r38) = true then
          some (.inr (.inr ()))
        else
          some (.inl (x0 + (dcr a0 x0).2))
      else
        some (.inl (x0 + (dcr a0 x0).2))
  else
    some (.inr (.inl ()))
theorem L18_0_ok (a0 : List UInt8) (x0 : Nat) (o : (Nat) ⊕ ((Unit) ⊕ (Unit))) (h : L18_0_step a0 x0 = some o) : Wp prog c55B0 (L18_0_S a0 x0) (LPost 4 (L18_0_S a0) (L18_0_F a0) o) := by
  unfold L18_0_step at h
  delta c55B0 L18_0_S
  try simp only [go_sem]
  rcases Bool.eq_false_or_eq_true ((decide (x0 < a0.length))) with hc1 | hc2
  · rw [if_pos (show (decide (x0 < a0.length)) = true by first | exact hc1 | (rw [hc1]; rfl) | simpa using hc1)] at h
    try simp only [go_sem, hc1]
    try simp only [go_sem, nextIt_lt (of_decide_eq_true hc1)]
    first | refine WGuard_splitN (fun hc3 => ?_) (fun hc4 => ?_) | refine WGuard_split (fun hc3 => ?_) (fun hc4 => ?_)
    · rw [if_pos (show (((x0 : Nat) : Int) == 0) = true by first | exact hc3 | (rw [hc3]; rfl) | simpa using hc3)] at h
      try simp only [go_sem, nextIt_lt (of_decide_eq_true hc1), hc3]
      refine WVal_inl (fn := c13) rfl rfl ?_
      delta c13
      try simp only [go_sem, nextIt_lt (of_decide_eq_true hc1)]
      obtain ⟨r5, hr6, h⟩ := Option.bind_eq_some_iff.1 h
      replace hr6 := dec_some hr6
      first | refine WVal_pc hr6 ?_ | (simp only [eT2_eq, eT3_eq, eT4_eq, eT5_eq] at hr6; refine WVal_pc hr6 ?_)
      try simp only [go_sem, nextIt_lt (of_decide_eq_true hc1)]
      refine WGuard_pure (v := .d (.int .i32 ((dcr a0 x0).1 : Int))) (fun hb33 => by skip; simp only [go_sem, nextIt_lt (of_decide_eq_true hc1), hc1, hc3, hb33]) ?_
      try simp only [go_sem, nextIt_lt (of_decide_eq_true hc1)]
      first | refine WGuard_splitN (fun hc7 => ?_) (fun hc8 => ?_) | refine WGuard_split (fun hc7 => ?_) (fun hc8 => ?_)
      · rw [if_pos (show (!r5) = true by first | exact hc7 | (rw [hc7]; rfl) | simpa using hc7)] at h
        try simp only [go_sem, nextIt_lt (of_decide_eq_true hc1), hc7]
        obtain ⟨r9, hr10, h⟩ := Option.bind_eq_some_iff.1 h
        replace hr10 := dec_some hr10
        first | refine WVal_pc hr10 ?_ | (simp only [eT2_eq, eT3_eq, eT4_eq, eT5_eq] at hr10; refine WVal_pc hr10 ?_)
        try simp only [go_sem, nextIt_lt (of_decide_eq_true hc1)]
        obtain ⟨r11, hr12, h⟩ := Option.bind_eq_some_iff.1 h
        replace hr12 := dec_some hr12
        first | refine WVal_pc hr12 ?_ | (simp only [eT2_eq, eT3_eq, eT4_eq, eT5_eq] at hr12; refine WVal_pc hr12 ?_)
        try simp only [go_sem, nextIt_lt (of_decide_eq_true hc1)]
        first | refine WGuard_splitN (fun hc13 => ?_) (fun hc14 => ?_) | refine WGuard_split (fun hc13 => ?_) (fun hc14 => ?_)
        · rw [if_pos (show r11 = true by first | exact hc13 | (rw [hc13]; rfl) | simpa using hc13)] at h
          try simp only [go_sem, nextIt_lt (of_decide_eq_true hc1), hc13]
          refine WVal_inl (fn := c15) rfl rfl ?_
          delta c15
          try simp only [go_sem, nextIt_lt (of_decide_eq_true hc1)]
          obtain ⟨r15, hr16, h⟩ := Option.bind_eq_some_iff.1 h
          replace hr16 := dec_some hr16
          first | refine WVal_pc hr16 ?_ | (simp only [eT2_eq, eT3_eq, eT4_eq, eT5_eq] at hr16; refine WVal_pc hr16 ?_)
          try simp only [go_sem, nextIt_lt (of_decide_eq_true hc1)]
          refine WGuard_pure (v := .d (.int .i32 ((dcr a0 x0).1 : Int))) (fun hb23 => by skip; simp only [go_sem, nextIt_lt (of_decide_eq_true hc1), hc1, hc3, hc7, hc13, hb23]) ?_
          try simp only [go_sem, nextIt_lt (of_decide_eq_true hc1)]
          first | refine WGuard_splitN (fun hc17 => ?_) (fun hc18 => ?_) | refine WGuard_split (fun hc17 => ?_) (fun hc18 => ?_)
          · rw [if_pos (show (!r15) = true by first | exact hc17 | (rw [hc17]; rfl) | simpa using hc17)] at h
            try simp only [go_sem, nextIt_lt (of_decide_eq_true hc1), hc17]
            obtain ⟨r19, hr20, h⟩ := Option.bind_eq_some_iff.1 h
            replace hr20 := dec_some hr20
            first | refine WVal_pc hr20 ?_ | (simp only [eT2_eq, eT3_eq, eT4_eq, eT5_eq] at hr20; refine WVal_pc hr20 ?_)
            try simp only [go_sem, nextIt_lt (of_decide_eq_true hc1)]
            first | refine WBr_splitN (fun hc21 => ?_) (fun hc22 => ?_) | refine WBr_split (fun hc21 => ?_) (fun hc22 => ?_)
            · rw [if_pos (show (!r19) = true by first | exact hc21 | (rw [hc21]; rfl) | simpa using hc21)] at h
              try simp only [go_sem, nextIt_lt (of_decide_eq_true hc1)]
              cases h
              exact ⟨rfl, by simp, Up.of (N := 7) (N' := 61) [] rfl rfl (by decide) (.set (.d _) RegsR.none) BlksR.at⟩
            · rw [if_neg (show ¬ (!r19) = true by first | (rw [hc22]; exact Bool.false_ne_true) | simpa using hc22 | (simp at hc22 ⊢; omega))] at h
              try simp only [go_sem, nextIt_lt (of_decide_eq_true hc1)]
              cases h
              exact ⟨rfl, Up.of (N := 7) (N' := 60) [] rfl rfl (by decide) (.set (.it'' rfl) (.set (.d _) (.set (.d _) (.set (.d _) RegsR.none)))) (.set BlkR.it BlksR.at)⟩
          · rw [if_neg (show ¬ (!r15) = true by first | (rw [hc18]; exact Bool.false_ne_true) | simpa using hc18 | (simp at hc18 ⊢; omega))] at h
            try simp only [go_sem, nextIt_lt (of_decide_eq_true hc1), hc18]
            cases h
            exact ⟨rfl, Up.of (N := 7) (N' := 60) [] rfl rfl (by decide) (.set (.it'' rfl) (.set (.d _) (.set (.d _) (.set (.d _) RegsR.none)))) (.set BlkR.it BlksR.at)⟩
        · rw [if_neg (show ¬ r11 = true by first | (rw [hc14]; exact Bool.false_ne_true) | simpa using hc14 | (simp at hc14 ⊢; omega))] at h
          try simp only [go_sem, nextIt_lt (of_decide_eq_true hc1), hc14]
          cases h
          exact ⟨rfl, by simp, Up.of (N := 7) (N' := 46) [] rfl rfl (by decide) (.set (.d _) RegsR.none) BlksR.at⟩
      · rw [if_neg (show ¬ (!r5) = true by first | (rw [hc8]; exact Bool.false_ne_true) | simpa using hc8 | (simp at hc8 ⊢; omega))] at h
        try simp only [go_sem, nextIt_lt (of_decide_eq_true hc1), hc8]
        refine WVal_inl (fn := c15) rfl rfl ?_
        delta c15
        try simp only [go_sem, nextIt_lt (of_decide_eq_true hc1)]
        obtain ⟨r24, hr25, h⟩ := Option.bind_eq_some_iff.1 h
        replace hr25 := dec_some hr25
        first | refine WVal_pc hr25 ?_ | (simp only [eT2_eq, eT3_eq, eT4_eq, eT5_eq] at hr25; refine WVal_pc hr25 ?_)
        try simp only [go_sem, nextIt_lt (of_decide_eq_true hc1)]
        refine WGuard_pure (v := .d (.int .i32 ((dcr a0 x0).1 : Int))) (fun hb32 => by skip; simp only [go_sem, nextIt_lt (of_decide_eq_true hc1), hc1, hc3, hc8, hb32]) ?_
        try simp only [go_sem, nextIt_lt (of_decide_eq_true hc1)]
        first | refine WGuard_splitN (fun hc26 => ?_) (fun hc27 => ?_) | refine WGuard_split (fun hc26 => ?_) (fun hc27 => ?_)
        · rw [if_pos (show (!r24) = true by first | exact hc26 | (rw [hc26]; rfl) | simpa using hc26)] at h
          try simp only [go_sem, nextIt_lt (of_decide_eq_true hc1), hc26]
          obtain ⟨r28, hr29, h⟩ := Option.bind_eq_some_iff.1 h
          replace hr29 := dec_some hr29
          first | refine WVal_pc hr29 ?_ | (simp only [eT2_eq, eT3_eq, eT4_eq, eT5_eq] at hr29; refine WVal_pc hr29 ?_)
          try simp only [go_sem, nextIt_lt (of_decide_eq_true hc1)]
          first | refine WBr_splitN (fun hc30 => ?_) (fun hc31 => ?_) | refine WBr_split (fun hc30 => ?_) (fun hc31 => ?_)
          · rw [if_pos (show (!r28) = true by first | exact hc30 | (rw [hc30]; rfl) | simpa using hc30)] at h
            try simp only [go_sem, nextIt_lt (of_decide_eq_true hc1)]
            cases h
            exact ⟨rfl, by simp, Up.of (N := 7) (N' := 61) [] rfl rfl (by decide) (.set (.d _) RegsR.none) BlksR.at⟩
          · rw [if_neg (show ¬ (!r28) = true by first | (rw [hc31]; exact Bool.false_ne_true) | simpa using hc31 | (simp at hc31 ⊢; omega))] at h
            try simp only [go_sem, nextIt_lt (of_decide_eq_true hc1)]
            cases h
            exact ⟨rfl, Up.of (N := 7) (N' := 60) [] rfl rfl (by decide) (.set (.it'' rfl) (.set (.d _) (.set (.d _) (.set (.d _) RegsR.none)))) (.set BlkR.it BlksR.at)⟩
        · rw [if_neg (show ¬ (!r24) = true by first | (rw [hc27]; exact Bool.false_ne_true) | simpa using hc27 | (simp at hc27 ⊢; omega))] at h
          try simp only [go_sem, nextIt_lt (of_decide_eq_true hc1), hc27]
          cases h
          exact ⟨rfl, Up.of (N := 7) (N' := 60) [] rfl rfl (by decide) (.set (.it'' rfl) (.set (.d _) (.set (.d _) (.set (.d _) RegsR.none)))) (.set BlkR.it BlksR.at)⟩
    · rw [if_neg (show ¬ (((x0 : Nat) : Int) == 0) = true by first | (rw [hc4]; exact Bool.false_ne_true) | simpa using hc4 | (simp at hc4 ⊢; omega))] at h
      try simp only [go_sem, nextIt_lt (of_decide_eq_true hc1), hc4]
      refine WVal_inl (fn := c15) rfl rfl ?_
      delta c15
      try simp only [go_sem, nextIt_lt (of_decide_eq_true hc1)]
      obtain ⟨r34, hr35, h⟩ := Option.bind_eq_some_iff.1 h
      replace hr35 := dec_some hr35
      first | refine WVal_pc hr35 ?_ | (simp only [eT2_eq, eT3_eq, eT4_eq, eT5_eq] at hr35; refine WVal_pc hr35 ?_)
      try simp only [go_sem, nextIt_lt (of_decide_eq_true hc1)]
      refine WGuard_pure (v := .d (.int .i32 ((dcr a0 x0).1 : Int))) (fun hb42 => by skip; simp only [go_sem, nextIt_lt (of_decide_eq_true hc1), hc1, hc4, hb42]) ?_
      try simp only [go_sem, nextIt_lt (of_decide_eq_true hc1)]
      first | refine WGuard_splitN (fun hc36 => ?_) (fun hc37 => ?_) | refine WGuard_split (fun hc36 => ?_) (fun hc37 => ?_)
      · rw [if_pos (show (!r34) = true by first | exact hc36 | (rw [hc36]; rfl) | simpa using hc36)] at h
        try simp only [go_sem, nextIt_lt (of_decide_eq_true hc1), hc36]
        obtain ⟨r38, hr39, h⟩ := Option.bind_eq_some_iff.1 h
        replace hr39 := dec_some hr39
        first | refine WVal_pc hr39 ?_ | (simp only [eT2_eq, eT3_eq, eT4_eq, eT5_eq] at hr39; refine WVal_pc hr39 ?_)
        try simp only [go_sem, nextIt_lt (of_decide_eq_true hc1)]
        first | refine WBr_splitN (fun hc40 => ?_) (fun hc41 => ?_) | refine WBr_split (fun hc40 => ?_) (fun hc41 => ?_)
        · rw [if_pos (show (!r38) = true by first | exact hc40 | (rw [hc40]; rfl) | simpa using hc40)] at h
          try simp only [go_sem, nextIt_lt (of_decide_eq_true hc1)]
          cases h
          exact ⟨rfl, by simp, Up.of (N := 7) (N' := 43) [] rfl rfl (by decide) (.set (.d _) RegsR.none) BlksR.at⟩
        · rw [if_neg (show ¬ (!r38) = true by first | (rw [hc41]; exact Bool.false_ne_true) | simpa using hc41 | (simp at hc41 ⊢; omega))] at h
          try simp only [go_sem, nextIt_lt (of_decide_eq_true hc1)]
          cases h
          exact ⟨rfl, Up.of (N := 7) (N' := 42) [] rfl rfl (by decide) (.set (.it'' rfl) (.set (.d _) (.set (.d _) (.set (.d _) RegsR.none)))) (.set BlkR.it BlksR.at)⟩
      · rw [if_neg (show ¬ (!r34) = true by first | (rw [hc37]; exact Bool.false_ne_true) | simpa using hc37 | (simp at hc37 ⊢; omega))] at h
        try simp only [go_sem, nextIt_lt (of_decide_eq_true hc1), hc37]
        cases h
        exact ⟨rfl, Up.of (N := 7) (N' := 42) [] rfl rfl (by decide) (.set (.it'' rfl) (.set (.d _) (.set (.d _) (.set (.d _) RegsR.none)))) (.set BlkR.it BlksR.at)⟩
  · rw [if_neg (show ¬ (decide (x0 < a0.length)) = true by first | (rw [hc2]; exact Bool.false_ne_true) | simpa using hc2 | (simp at hc2 ⊢; omega))] at h
    try simp only [go_sem, hc2]
    try simp only [go_sem, nextIt_ge (of_decide_eq_false hc2)]
    cases h
    exact ⟨rfl, by simp, Up.of (N := 7) (N' := 9) [] rfl rfl (by decide) (.set (.d _) RegsR.none) BlksR.at⟩
noncomputable def P18 (a0 : List UInt8) : Option (Bool) :=
  (loopV (L18_0_step a0) 0).bind fun r43 =>
  match r43 with
  | (.inl q45) =>
    if (!(a0 == [])) = true then
      (dec D.bool (pc prog 88 [.str a0])).bind fun r48 =>
      some r48
    else
      some false
  | (.inr q51) =>
    some false
theorem ok18 (a0 : List UInt8) (r : Bool) (h : P18 a0 = some r) : pc prog 18 [.str a0] = some (D.bool r) := by
  unfold P18 at h
  refine pc_of (fn := c18) rfl rfl ?_
  delta c18
  try simp only [go_sem]
  refine WVal_inl (fn := c55) rfl rfl ?_
  delta c55
  try simp only [go_sem]
  obtain ⟨r43, hl44, h⟩ := Option.bind_eq_some_iff.1 h
  refine Wp.loopR locs (n := 4) (a := c55B0) rfl (L18_0_S a0) (L18_0_F a0) (L18_0_ok a0) hl44 ?_ (by (repeat (first | refine Clo.block ?_ | refine Clo.seq locs rfl ?_)); refine Clo.inl locs (n' := 0) rfl rfl rfl ?_ ?_ (show 1 + 3 ≤ _ from by decide) (by decide) ?_; ((repeat (first | exact SelfR.no | exact SelfR.none | refine SelfR.set ?_ ?_ | refine SelfR.args ?_ | exact SelfL.nil | refine SelfL.cons ?_ ?_ | exact Self.d | exact Self.undef | exact Self.rp | exact Self.ptr (by decide) | exact Self.sl (by decide) | exact Self.mb (by decide) | exact Self.map (by decide) | exact Self.yld (by decide) | exact Self.it (by decide) | refine Self.clo ?_ ?_ | refine Self.ofCells ?_ | refine Self.agg ?_ | refine Self.tuple ?_ | refine Self.bif ?_ ?_)); (repeat (first | exact SelfR.no | exact SelfR.none | refine SelfR.set ?_ ?_ | refine SelfR.args ?_ | exact SelfL.nil | refine SelfL.cons ?_ ?_ | exact Self.d | exact Self.undef | exact Self.rp | exact Self.ptr (by decide) | exact Self.sl (by decide) | exact Self.mb (by decide) | exact Self.map (by decide) | exact Self.yld (by decide) | exact Self.it (by decide) | refine Self.clo ?_ ?_ | refine Self.ofCells ?_ | refine Self.agg ?_ | refine Self.tuple ?_ | refine Self.bif ?_ ?_))); (repeat (first | refine Clo.block ?_ | refine Clo.seq locs rfl ?_)); (first | exact Clo.ret | exact Clo.lpost | exact Clo.cpost)) ?_
  · show Up 4 (L18_0_S a0 0) _
    delta L18_0_S
    exact Up.of (N := 7) (N' := 7) [] rfl rfl (by decide) (.set (.it'' rfl) (.set (.d _) (.set (.d _) (.set (.d _) RegsR.none)))) (.set BlkR.it BlksR.at)
  · rcases r43 with (q45 | q51)
    · dsimp only at h
      dsimp only [L18_0_F]
      try simp only [go_sem]
      refine WGuard_pure (v := .d (.str a0)) (fun hb50 => by skip; simp only [go_sem, hb50]) ?_
      try simp only [go_sem]
      first | refine WGuard_splitN (fun hc46 => ?_) (fun hc47 => ?_) | refine WGuard_split (fun hc46 => ?_) (fun hc47 => ?_)
      · rw [if_pos (show (!(a0 == [])) = true by first | exact hc46 | (rw [hc46]; rfl) | simpa using hc46)] at h
        try simp only [go_sem, hc46]
        obtain ⟨r48, hr49, h⟩ := Option.bind_eq_some_iff.1 h
        replace hr49 := dec_some hr49
        first | refine WVal_pc hr49 ?_ | (simp only [eT2_eq, eT3_eq, eT4_eq, eT5_eq] at hr49; refine WVal_pc hr49 ?_)
        try simp only [go_sem]
        cases h
        first | rfl | (simp only [go_sem]; done) | (simp only [go_sem]; rfl) | (simp [eName, eRegistry, eDefinition, eForest, eCustom, enames_span, eNode, eforest_trait, eAttr, eforest_key, hc46]; done)
      · rw [if_neg (show ¬ (!(a0 == [])) = true by first | (rw [hc47]; exact Bool.false_ne_true) | simpa using hc47 | (simp at hc47 ⊢; omega))] at h
        try simp only [go_sem, hc47]
        cases h
        first | rfl | (simp only [go_sem]; done) | (simp only [go_sem]; rfl) | (simp [eName, eRegistry, eDefinition, eForest, eCustom, enames_span, eNode, eforest_trait, eAttr, eforest_key, hc47]; done)
    · dsimp only at h
      dsimp only [L18_0_F]
      try simp only [go_sem]
      cases h
      first | rfl | (simp only [go_sem]; done) | (simp only [go_sem]; rfl) | (simp [eName, eRegistry, eDefinition, eForest, eCustom, enames_span, eNode, eforest_trait, eAttr, eforest_key]; done)
noncomputable def P19 (a0 : List UInt8) : Option (Bool) :=
  (dec D.bool (pc prog 18 [.str a0])).bind fun r1 =>
  if r1 = true then
    (dec D.bool (pc prog 56 [.str a0, .str ([58])])).bind fun r5 =>
    some (!r5)
  else
    some false
theorem ok19 (a0 : List UInt8) (r : Bool) (h : P19 a0 = some r) : pc prog 19 [.str a0] = some (D.bool r) := by
  unfold P19 at h
  refine pc_of (fn := c19) rfl rfl ?_
  delta c19
  try simp only [go_sem]
  obtain ⟨r1, hr2, h⟩ := Option.bind_eq_some_iff.1 h
  replace hr2 := dec_some hr2
  first | refine WVal_pc hr2 ?_ | (simp only [eT2_eq, eT3_eq, eT4_eq, eT5_eq] at hr2; refine WVal_pc hr2 ?_)
  try simp only [go_sem]
  refine WGuard_pure (v := .d (.str a0)) (fun hb7 => by skip; simp only [go_sem, hb7]) ?_
  try simp only [go_sem]
  first | refine WGuard_splitN (fun hc3 => ?_) (fun hc4 => ?_) | refine WGuard_split (fun hc3 => ?_) (fun hc4 => ?_)
  · rw [if_pos (show r1 = true by first | exact hc3 | (rw [hc3]; rfl) | simpa using hc3)] at h
    try simp only [go_sem, hc3]
    obtain ⟨r5, hr6, h⟩ := Option.bind_eq_some_iff.1 h
    replace hr6 := dec_some hr6
    first | refine WVal_pc hr6 ?_ | (simp only [eT2_eq, eT3_eq, eT4_eq, eT5_eq] at hr6; refine WVal_pc hr6 ?_)
    try simp only [go_sem]
    cases h
    first | rfl | (simp only [go_sem]; done) | (simp only [go_sem]; rfl) | (simp [eName, eRegistry, eDefinition, eForest, eCustom, enames_span, eNode, eforest_trait, eAttr, eforest_key, hc3]; done)
  · rw [if_neg (show ¬ r1 = true by first | (rw [hc4]; exact Bool.false_ne_true) | simpa using hc4 | (simp at hc4 ⊢; omega))] at h
    try simp only [go_sem, hc4]
    cases h
    first | rfl | (simp only [go_sem]; done) | (simp only [go_sem]; rfl) | (simp [eName, eRegistry, eDefinition, eForest, eCustom, enames_span, eNode, eforest_trait, eAttr, eforest_key, hc4]; done)
noncomputable def P20 (a0 : List UInt8) : Option (List UInt8 × List UInt8) :=
  (dec (eT3 D.str D.str D.bool) (pc prog 57 [.str a0, .str ([58])])).bind fun r1 =>
  if r1.2.2 = true then
    (dec D.bool (pc prog 21 [.str a0])).bind fun r5 =>
    if (!r5) = true then
      some ([], a0)
    else
      some (r1.1, r1.2.1)
  else
    some ([], a0)
theorem ok20 (a0 : List UInt8) (r : List UInt8 × List UInt8) (h : P20 a0 = some r) : pc prog 20 [.str a0] = some ((eT2 D.str D.str) r) := by
  unfold P20 at h
  refine pc_of (fn := c20) rfl rfl ?_
  delta c20
  try simp only [go_sem]
  obtain ⟨r1, hr2, h⟩ := Option.bind_eq_some_iff.1 h
  replace hr2 := dec_some hr2
  first | refine WVal_pc hr2 ?_ | (simp only [eT2_eq, eT3_eq, eT4_eq, eT5_eq] at hr2; refine WVal_pc hr2 ?_)
  try simp only [go_sem]
  refine WGuard_pure (v := .d (.str a0)) (fun hb9 => by skip; simp only [go_sem, hb9]) ?_
  try simp only [go_sem]
  first | refine WGuard_splitN (fun hc3 => ?_) (fun hc4 => ?_) | refine WGuard_split (fun hc3 => ?_) (fun hc4 => ?_)
  · rw [if_pos (show r1.2.2 = true by first | exact hc3 | (rw [hc3]; rfl) | simpa using hc3)] at h
    try simp only [go_sem, hc3]
    obtain ⟨r5, hr6, h⟩ := Option.bind_eq_some_iff.1 h
    replace hr6 := dec_some hr6
    first | refine WVal_pc hr6 ?_ | (simp only [eT2_eq, eT3_eq, eT4_eq, eT5_eq] at hr6; refine WVal_pc hr6 ?_)
    try simp only [go_sem]
    first | refine WBr_splitN (fun hc7 => ?_) (fun hc8 => ?_) | refine WBr_split (fun hc7 => ?_) (fun hc8 => ?_)
    · rw [if_pos (show (!r5) = true by first | exact hc7 | (rw [hc7]; rfl) | simpa using hc7)] at h
      try simp only [go_sem]
      cases h
      first | rfl | (simp only [go_sem]; done) | (simp only [go_sem]; rfl) | (simp [eName, eRegistry, eDefinition, eForest, eCustom, enames_span, eNode, eforest_trait, eAttr, eforest_key, hc3, hc7]; done)
    · rw [if_neg (show ¬ (!r5) = true by first | (rw [hc8]; exact Bool.false_ne_true) | simpa using hc8 | (simp at hc8 ⊢; omega))] at h
      try simp only [go_sem]
      cases h
      first | rfl | (simp only [go_sem]; done) | (simp only [go_sem]; rfl) | (simp [eName, eRegistry, eDefinition, eForest, eCustom, enames_span, eNode, eforest_trait, eAttr, eforest_key, hc3, hc8]; done)
  · rw [if_neg (show ¬ r1.2.2 = true by first | (rw [hc4]; exact Bool.false_ne_true) | simpa using hc4 | (simp at hc4 ⊢; omega))] at h
    try simp only [go_sem, hc4]
    cases h
    first | rfl | (simp only [go_sem]; done) | (simp only [go_sem]; rfl) | (simp [eName, eRegistry, eDefinition, eForest, eCustom, enames_span, eNode, eforest_trait, eAttr, eforest_key, hc4]; done)
noncomputable def P21 (a0 : List UInt8) : Option (Bool) :=
  (dec (eT3 D.str D.str D.bool) (pc prog 57 [.str a0, .str ([58])])).bind fun r1 =>
  if (!r1.2.2) = true then
    (dec D.bool (pc prog 19 [.str a0])).bind fun r5 =>
    some r5
  else
    (dec D.bool (pc prog 19 [.str r1.1])).bind fun r7 =>
    if r7 = true then
      (dec D.bool (pc prog 19 [.str r1.2.1])).bind fun r11 =>
      some r11
    else
      some false
theorem ok21 (a0 : List UInt8) (r : Bool) (h : P21 a0 = some r) : pc prog 21 [.str a0] = some (D.bool r) := by
  unfold P21 at h
  refine pc_of (fn := c21) rfl rfl ?_
  delta c21
  try simp only [go_sem]
  obtain ⟨r1, hr2, h⟩ := Option.bind_eq_some_iff.1 h
  replace hr2 := dec_some hr2
  first | refine WVal_pc hr2 ?_ | (simp only [eT2_eq, eT3_eq, eT4_eq, eT5_eq] at hr2; refine WVal_pc hr2 ?_)
  try simp only [go_sem]
  first | refine WBr_splitN (fun hc3 => ?_) (fun hc4 => ?_) | refine WBr_split (fun hc3 => ?_) (fun hc4 => ?_)
  · rw [if_pos (show (!r1.2.2) = true by first | exact hc3 | (rw [hc3]; rfl) | simpa using hc3)] at h
    try simp only [go_sem]
    obtain ⟨r5, hr6, h⟩ := Option.bind_eq_some_iff.1 h
    replace hr6 := dec_some hr6
    first | refine WVal_pc hr6 ?_ | (simp only [eT2_eq, eT3_eq, eT4_eq, eT5_eq] at hr6; refine WVal_pc hr6 ?_)
    try simp only [go_sem]
    cases h
    first | rfl | (simp only [go_sem]; done) | (simp only [go_sem]; rfl) | (simp [eName, eRegistry, eDefinition, eForest, eCustom, enames_span, eNode, eforest_trait, eAttr, eforest_key, hc3]; done)
  · rw [if_neg (show ¬ (!r1.2.2) = true by first | (rw [hc4]; exact Bool.false_ne_true) | simpa using hc4 | (simp at hc4 ⊢; omega))] at h
    try simp only [go_sem]
    obtain ⟨r7, hr8, h⟩ := Option.bind_eq_some_iff.1 h
    replace hr8 := dec_some hr8
    first | refine WVal_pc hr8 ?_ | (simp only [eT2_eq, eT3_eq, eT4_eq, eT5_eq] at hr8; refine WVal_pc hr8 ?_)
    try simp only [go_sem]
    refine WGuard_pure (v := .d (.str r1.2.1)) (fun hb13 => by skip; simp only [go_sem, hc4, hb13]) ?_
    try simp only [go_sem]
    first | refine WGuard_splitN (fun hc9 => ?_) (fun hc10 => ?_) | refine WGuard_split (fun hc9 => ?_) (fun hc10 => ?_)
    · rw [if_pos (show r7 = true by first | exact hc9 | (rw [hc9]; rfl) | simpa using hc9)] at h
      try simp only [go_sem, hc9]
      obtain ⟨r11, hr12, h⟩ := Option.bind_eq_some_iff.1 h
      replace hr12 := dec_some hr12
      first | refine WVal_pc hr12 ?_ | (simp only [eT2_eq, eT3_eq, eT4_eq, eT5_eq] at hr12; refine WVal_pc hr12 ?_)
      try simp only [go_sem]
      cases h
      first | rfl | (simp only [go_sem]; done) | (simp only [go_sem]; rfl) | (simp [eName, eRegistry, eDefinition, eForest, eCustom, enames_span, eNode, eforest_trait, eAttr, eforest_key, hc4, hc9]; done)
    · rw [if_neg (show ¬ r7 = true by first | (rw [hc10]; exact Bool.false_ne_true) | simpa using hc10 | (simp at hc10 ⊢; omega))] at h
      try simp only [go_sem, hc10]
      cases h
      first | rfl | (simp only [go_sem]; done) | (simp only [go_sem]; rfl) | (simp [eName, eRegistry, eDefinition, eForest, eCustom, enames_span, eNode, eforest_trait, eAttr, eforest_key, hc4, hc10]; done)
def L22_0_S (a0 : List UInt8) (x0 : Int) : St := ⟨((Regs.none.set 0 (.d (.str a0))).set 3 (.d (.int .i64 x0))), (Heap.at 2)⟩
def L22_0_F (a0 : List UInt8) : ((Unit) ⊕ (Unit)) → Ex × St := fun r => match r with
  | (.inl r) => (.exit 0, ⟨Regs.none, (Heap.at 2)⟩)
  | (.inr r) => (.ret, ⟨(Regs.none.set 2 (.d (.bool true))), (Heap.at 2)⟩)
noncomputable def L22_0_step (a0 : List UInt8) (x0 : Int) : Option ((Int) ⊕ ((Unit) ⊕ (Unit))) :=
  if (decide (x0 < (a0.length : Int))) = true then
    (rd a0 x0).bind fun y3 =>
    if ((y3.toNat : Int) == 58) = true then
      some (.inr (.inr ()))
    else
      some (.inl (IntKind.wrap .i64 (x0 + 1)))
  else
    some (.inr (.inl ()))
theorem L22_0_ok (a0 : List UInt8) (x0 : Int) (o : (Int) ⊕ ((Unit) ⊕ (Unit))) (h : L22_0_step a0 x0 = some o) : Wp prog c22B0 (L22_0_S a0 x0) (LPost 0 (L22_0_S a0) (L22_0_F a0) o) := by
  unfold L22_0_step at h
  delta c22B0 L22_0_S
  try simp only [go_sem]
  first | refine WBr_splitN (fun hc1 => ?_) (fun hc2 => ?_) | refine WBr_split (fun hc1 => ?_) (fun hc2 => ?_)
  · rw [if_pos (show (decide (x0 < (a0.length : Int))) = true by first | exact hc1 | (rw [hc1]; rfl) | simpa using hc1)] at h
    try simp only [go_sem]
    obtain ⟨y3, hy4, h⟩ := Option.bind_eq_some_iff.1 h
    try simp only [go_sem, rd_pos hy4, rd_ge hy4, rd_get hy4]
    first | refine WBr_splitN (fun hc5 => ?_) (fun hc6 => ?_) | refine WBr_split (fun hc5 => ?_) (fun hc6 => ?_)
    · rw [if_pos (show ((y3.toNat : Int) == 58) = true by first | exact hc5 | (rw [hc5]; rfl) | simpa using hc5)] at h
      try simp only [go_sem, rd_pos hy4, rd_ge hy4, rd_get hy4]
      cases h
      exact ⟨rfl, by simp, Up.of (N := 2) (N' := 11) [] rfl rfl (by decide) (.set (.d _) RegsR.none) BlksR.at⟩
    · rw [if_neg (show ¬ ((y3.toNat : Int) == 58) = true by first | (rw [hc6]; exact Bool.false_ne_true) | simpa using hc6 | (simp at hc6 ⊢; omega))] at h
      try simp only [go_sem, rd_pos hy4, rd_ge hy4, rd_get hy4]
      cases h
      exact ⟨rfl, Up.of (N := 2) (N' := 13) [] rfl rfl (by decide) (.set (.d _) (.set (.d _) RegsR.none)) BlksR.at⟩
  · rw [if_neg (show ¬ (decide (x0 < (a0.length : Int))) = true by first | (rw [hc2]; exact Bool.false_ne_true) | simpa using hc2 | (simp at hc2 ⊢; omega))] at h
    try simp only [go_sem]
    cases h
    exact ⟨rfl, by simp, Up.of (N := 2) (N' := 6) [] rfl rfl (by decide) RegsR.none BlksR.at⟩
noncomputable def P22 (a0 : List UInt8) : Option (Bool) :=
  (loopV (L22_0_step a0) 0).bind fun r7 =>
  match r7 with
  | (.inl q9) =>
    some false
  | (.inr q10) =>
    some true
theorem ok22 (a0 : List UInt8) (r : Bool) (h : P22 a0 = some r) : pc prog 22 [.str a0] = some (D.bool r) := by
  unfold P22 at h
  refine pc_of (fn := c22) rfl rfl ?_
  delta c22
  try simp only [go_sem]
  obtain ⟨r7, hl8, h⟩ := Option.bind_eq_some_iff.1 h
  refine Wp.loopR locs (n := 0) (a := c22B0) rfl (L22_0_S a0) (L22_0_F a0) (L22_0_ok a0) hl8 ?_ (by (repeat (first | refine Clo.block ?_ | refine Clo.seq locs rfl ?_)); (first | exact Clo.ret | exact Clo.lpost | exact Clo.cpost)) ?_
  · show Up 0 (L22_0_S a0 0) _
    delta L22_0_S
    exact Up.of (N := 2) (N' := 2) [] rfl rfl (by decide) (.set (.d _) (.set (.d _) RegsR.none)) BlksR.at
  · rcases r7 with (q9 | q10)
    · dsimp only at h
      dsimp only [L22_0_F]
      try simp only [go_sem]
      cases h
      first | rfl | (simp only [go_sem]; done) | (simp only [go_sem]; rfl) | (simp [eName, eRegistry, eDefinition, eForest, eCustom, enames_span, eNode, eforest_trait, eAttr, eforest_key]; done)
    · dsimp only at h
      dsimp only [L22_0_F]
      try simp only [go_sem]
      cases h
      first | rfl | (simp only [go_sem]; done) | (simp only [go_sem]; rfl) | (simp [eName, eRegistry, eDefinition, eForest, eCustom, enames_span, eNode, eforest_trait, eAttr, eforest_key]; done)
def L26_0_S (a0 : List UInt8) (x0 : Nat) : St := ⟨((((Regs.none.set 0 (.d (.str a0))).set 1 (.d (.fn 60))).set 2 (.clo 61 [] [.ptr 3 0 0])).set 10 (.it 24)), ((((Heap.at 25).set 1 (some (.els 1 [.d (.str ([97, 110, 110, 111, 116, 97, 116, 105, 111, 110, 45, 120, 109, 108])), .d (.str ([99, 111, 108, 111, 114, 45, 112, 114, 111, 102, 105, 108, 101])), .d (.str ([102, 111, 110, 116, 45, 102, 97, 99, 101])), .d (.str ([102, 111, 110, 116, 45, 102, 97, 99, 101, 45, 115, 114, 99])), .d (.str ([102, 111, 110, 116, 45, 102, 97, 99, 101, 45, 117, 114, 105])), .d (.str ([102, 111, 110, 116, 45, 102, 97, 99, 101, 45, 102, 111, 114, 109, 97, 116])), .d (.str ([102, 111, 110, 116, 45, 102, 97, 99, 101, 45, 110, 97, 109, 101])), .d (.str ([109, 105, 115, 115, 105, 110, 103, 45, 103, 108, 121, 112, 104]))] 0))).set 3 (some (.els 1 [.d (.fn 60)] 0))).set 24 (some (.it a0 x0)))⟩
def L26_0_F (a0 : List UInt8) : ((Unit) ⊕ (Unit)) → Ex × St := fun r => match r with
  | (.inl r) => (.exit 0, ⟨(Regs.none.set 0 (.d (.str a0))), (((Heap.at 25).set 1 (some (.els 1 [.d (.str ([97, 110, 110, 111, 116, 97, 116, 105, 111, 110, 45, 120, 109, 108])), .d (.str ([99, 111, 108, 111, 114, 45, 112, 114, 111, 102, 105, 108, 101])), .d (.str ([102, 111, 110, 116, 45, 102, 97, 99, 101])), .d (.str ([102, 111, 110, 116, 45, 102, 97, 99, 101, 45, 115, 114, 99])), .d (.str ([102, 111, 110, 116, 45, 102, 97, 99, 101, 45, 117, 114, 105])), .d (.str ([102, 111, 110, 116, 45, 102, 97, 99, 101, 45, 102, 111, 114, 109, 97, 116])), .d (.str ([102, 111, 110, 116, 45, 102, 97, 99, 101, 45, 110, 97, 109, 101])), .d (.str ([109, 105, 115, 115, 105, 110, 103, 45, 103, 108, 121, 112, 104]))] 0))).set 3 (some (.els 1 [.d (.fn 60)] 0)))⟩)
  | (.inr r) => (.ret, ⟨(Regs.none.set 6 (.d (.bool false))), (((Heap.at 25).set 1 (some (.els 1 [.d (.str ([97, 110, 110, 111, 116, 97, 116, 105, 111, 110, 45, 120, 109, 108])), .d (.str ([99, 111, 108, 111, 114, 45, 112, 114, 111, 102, 105, 108, 101])), .d (.str ([102, 111, 110, 116, 45, 102, 97, 99, 101])), .d (.str ([102, 111, 110, 116, 45, 102, 97, 99, 101, 45, 115, 114, 99])), .d (.str ([102, 111, 110, 116, 45, 102, 97, 99, 101, 45, 117, 114, 105])), .d (.str ([102, 111, 110, 116, 45, 102, 97, 99, 101, 45, 102, 111, 114, 109, 97, 116])), .d (.str ([102, 111, 110, 116, 45, 102, 97, 99, 101, 45, 110, 97, 109, 101])), .d (.str ([109, 105, 115, 115, 105, 110, 103, 45, 103, 108, 121, 112, 104]))] 0))).set 3 (some (.els 1 [.d (.fn 60)] 0)))⟩)
noncomputable def L26_0_step (a0 : List UInt8) (x0 : Nat) : Option ((Nat) ⊕ ((Unit) ⊕ (Unit))) :=
  if (decide (x0 < a0.length)) = true then
    if (((x0 : Nat) : Int) == 0) = true then
      if (bif (decide (97 ≤ ((dcr a0 x0).1 : Int))) then (decide (((dcr a0 x0).1 : Int) ≤ 122)) else false) = true then
        some (.inl (x0 + (dcr a0 x0).2))
      else
        some (.inr (.inr ()))
    else
      if (!(bif (decide (97 ≤ ((dcr a0 x0).1 : Int))) then (decide (((dcr a0 x0).1 : Int) ≤ 122)) else false)) = true then
        (dec D.bool (pc prog 52 [.int .i32 ((dcr a0 x0).1 : Int), .list false (([(⟨45, 45⟩ : names_span), (⟨46, 46⟩ : names_span), (⟨95, 95⟩ : names_span), (⟨48, 57⟩ : names_span), (⟨183, 183⟩ : names_span), (⟨192, 214⟩ : names_span), (⟨216, 246⟩ : names_span), (⟨248, 893⟩ : names_span), (⟨8255, 8256⟩ : names_span)]).map enames_span)])).bind fun r13 =>
        if (!r13) = true then
          (dec (eSl enames_span) (pc prog 53 [])).bind fun r17 =>
          (dec D.bool (pc prog 52 [.int .i32 ((dcr a0 x0).1 : Int), .list r17.n (r17.l.map enames_span)])).bind fun r19 =>
          if (!r19) = true then
            some (.inr (.inr ()))
          else
            some (.inl (x0 + (dcr a0 x0).2))
        else
          some (.inl (x0 + (dcr a0 x0).2))
      else
        some (.inl (x0 + (dcr a0 x0).2))
  else
    some (.inr (.inl ()))
theorem L26_0_ok (a0 : List UInt8) (x0 : Nat) (o : (Nat) ⊕ ((Unit) ⊕ (Unit))) (h : L26_0_step a0 x0 = some o) : Wp prog c55B0 (L26_0_S a0 x0) (LPost 22 (L26_0_S a0) (L26_0_F a0) o) := by
  unfold L26_0_step at h
  delta c55B0 L26_0_S
  try simp only [go_sem]
  rcases Bool.eq_false_or_eq_true ((decide (x0 < a0.length))) with hc1 | hc2
  · rw [if_pos (show (decide (x0 < a0.length)) = true by first | exact hc1 | (rw [hc1]; rfl) | simpa using hc1)] at h
    try simp only [go_sem, hc1]
    try simp only [go_sem, nextIt_lt (of_decide_eq_true hc1)]
    first | refine WGuard_splitN (fun hc3 => ?_) (fun hc4 => ?_) | refine WGuard_split (fun hc3 => ?_) (fun hc4 => ?_)
    · rw [if_pos (show (((x0 : Nat) : Int) == 0) = true by first | exact hc3 | (rw [hc3]; rfl) | simpa using hc3)] at h
      try simp only [go_sem, nextIt_lt (of_decide_eq_true hc1), hc3]
      refine WVal_inl (fn := c60) rfl rfl ?_
      delta c60
      try simp only [go_sem, nextIt_lt (of_decide_eq_true hc1)]
      refine WGuard_pure (v := .d (.int .i32 ((dcr a0 x0).1 : Int))) (fun hb10 => by skip; simp only [go_sem, nextIt_lt (of_decide_eq_true hc1), hc1, hc3, hb10]) ?_
      try simp only [go_sem, nextIt_lt (of_decide_eq_true hc1)]
      refine WGuard_pure (v := .d (.bool (decide (((dcr a0 x0).1 : Int) ≤ 122)))) (fun hb9 => by skip; simp only [go_sem, nextIt_lt (of_decide_eq_true hc1), hc1, hc3, hb9]) ?_
      try simp only [go_sem, nextIt_lt (of_decide_eq_true hc1)]
      first | refine WGuard_splitN (fun hc5 => ?_) (fun hc6 => ?_) | refine WGuard_split (fun hc5 => ?_) (fun hc6 => ?_)
      · rw [if_pos (show (bif (decide (97 ≤ ((dcr a0 x0).1 : Int))) then (decide (((dcr a0 x0).1 : Int) ≤ 122)) else false) = true by first | exact hc5 | (rw [hc5]; rfl) | simpa using hc5)] at h
        try simp only [go_sem, nextIt_lt (of_decide_eq_true hc1), hc5]
        refine WVal_inlC (fn := c61) rfl rfl ?_
        delta c61
        try simp only [go_sem, nextIt_lt (of_decide_eq_true hc1)]
        refine WVal_inl (fn := c60) rfl rfl ?_
        delta c60
        try simp only [go_sem, nextIt_lt (of_decide_eq_true hc1)]
        refine WGuard_pure (v := .d (.int .i32 ((dcr a0 x0).1 : Int))) (fun hb8 => by skip; simp only [go_sem, nextIt_lt (of_decide_eq_true hc1), hc1, hc3, hc5, hb8]) ?_
        try simp only [go_sem, nextIt_lt (of_decide_eq_true hc1)]
        refine WGuard_pure (v := .d (.bool (decide (((dcr a0 x0).1 : Int) ≤ 122)))) (fun hb7 => by skip; simp only [go_sem, nextIt_lt (of_decide_eq_true hc1), hc1, hc3, hc5, hb7]) ?_
        try simp only [go_sem, nextIt_lt (of_decide_eq_true hc1)]
        try simp only [go_sem, nextIt_lt (of_decide_eq_true hc1), hc1, hc3, hc5]
        try simp only [go_sem, nextIt_lt (of_decide_eq_true hc1), hc1, hc3, hc5]
        try simp only [go_sem, nextIt_lt (of_decide_eq_true hc1), hc1, hc3, hc5]
        try simp only [go_sem, nextIt_lt (of_decide_eq_true hc1), hc1, hc3, hc5]
        try simp only [go_sem, nextIt_lt (of_decide_eq_true hc1), hc1, hc3, hc5]
        try simp only [go_sem, nextIt_lt (of_decide_eq_true hc1), hc1, hc3, hc5]
        try simp only [go_sem, nextIt_lt (of_decide_eq_true hc1), hc1, hc3, hc5]
        try simp only [go_sem, nextIt_lt (of_decide_eq_true hc1), hc1, hc3, hc5]
        try simp only [go_sem, nextIt_lt (of_decide_eq_true hc1), hc1, hc3, hc5]
        try simp only [go_sem, nextIt_lt (of_decide_eq_true hc1), hc1, hc3, hc5]
        try simp only [go_sem, nextIt_lt (of_decide_eq_true hc1), hc1, hc3, hc5]
        try simp only [go_sem, nextIt_lt (of_decide_eq_true hc1), hc1, hc3, hc5]
        try simp only [go_sem, nextIt_lt (of_decide_eq_true hc1), hc1, hc3, hc5]
        cases h
        exact ⟨rfl, Up.of (N := 25) (N' := 85) [] rfl rfl (by decide) (.set (.it'' rfl) (.set (.clo' .nil (.cons (.ptr' rfl) .nil)) (.set (.d _) (.set (.d _) RegsR.none)))) (.set BlkR.it (.set BlkR.refl_d (.set (BlkR.els (Nat.le_refl _) (.cons (.d _) (.cons (.d _) (.cons (.d _) (.cons (.d _) (.cons (.d _) (.cons (.d _) (.cons (.d _) (.cons (.d _) .nil))))))))) BlksR.at)))⟩
      · rw [if_neg (show ¬ (bif (decide (97 ≤ ((dcr a0 x0).1 : Int))) then (decide (((dcr a0 x0).1 : Int) ≤ 122)) else false) = true by first | (rw [hc6]; exact Bool.false_ne_true) | simpa using hc6 | (simp at hc6 ⊢; omega))] at h
        try simp only [go_sem, nextIt_lt (of_decide_eq_true hc1), hc6]
        cases h
        exact ⟨rfl, by simp, Up.of (N := 25) (N' := 54) [] rfl rfl (by decide) (.set (.d _) RegsR.none) (.set BlkR.refl_d (.set (BlkR.els (Nat.le_refl _) (.cons (.d _) (.cons (.d _) (.cons (.d _) (.cons (.d _) (.cons (.d _) (.cons (.d _) (.cons (.d _) (.cons (.d _) .nil))))))))) BlksR.at))⟩
    · rw [if_neg (show ¬ (((x0 : Nat) : Int) == 0) = true by first | (rw [hc4]; exact Bool.false_ne_true) | simpa using hc4 | (simp at hc4 ⊢; omega))] at h
      try simp only [go_sem, nextIt_lt (of_decide_eq_true hc1), hc4]
      refine WVal_inlC (fn := c61) rfl rfl ?_
      delta c61
      try simp only [go_sem, nextIt_lt (of_decide_eq_true hc1)]
      refine WVal_inl (fn := c60) rfl rfl ?_
      delta c60
      try simp only [go_sem, nextIt_lt (of_decide_eq_true hc1)]
      refine WGuard_pure (v := .d (.int .i32 ((dcr a0 x0).1 : Int))) (fun hb26 => by skip; simp only [go_sem, nextIt_lt (of_decide_eq_true hc1), hc1, hc4, hb26]) ?_
      try simp only [go_sem, nextIt_lt (of_decide_eq_true hc1)]
      refine WGuard_pure (v := .d (.bool (decide (((dcr a0 x0).1 : Int) ≤ 122)))) (fun hb25 => by skip; simp only [go_sem, nextIt_lt (of_decide_eq_true hc1), hc1, hc4, hb25]) ?_
      try simp only [go_sem, nextIt_lt (of_decide_eq_true hc1)]
      refine WGuard_pure (v := .d (.int .i32 ((dcr a0 x0).1 : Int))) (fun hb24 => by skip; simp only [go_sem, nextIt_lt (of_decide_eq_true hc1), hc1, hc4, hb24]) ?_
      try simp only [go_sem, nextIt_lt (of_decide_eq_true hc1)]
      first | refine WGuard_splitN (fun hc11 => ?_) (fun hc12 => ?_) | refine WGuard_split (fun hc11 => ?_) (fun hc12 => ?_)
      · rw [if_pos (show (!(bif (decide (97 ≤ ((dcr a0 x0).1 : Int))) then (decide (((dcr a0 x0).1 : Int) ≤ 122)) else false)) = true by first | exact hc11 | (rw [hc11]; rfl) | simpa using hc11)] at h
        try simp only [go_sem, nextIt_lt (of_decide_eq_true hc1), hc11]
        obtain ⟨r13, hr14, h⟩ := Option.bind_eq_some_iff.1 h
        replace hr14 := dec_some hr14
        first | refine WVal_pc hr14 ?_ | (simp only [eT2_eq, eT3_eq, eT4_eq, eT5_eq] at hr14; refine WVal_pc hr14 ?_)
        try simp only [go_sem, nextIt_lt (of_decide_eq_true hc1)]
        refine WGuard_pure (v := .d (.int .i32 ((dcr a0 x0).1 : Int))) (fun hb23 => by skip; simp only [go_sem, nextIt_lt (of_decide_eq_true hc1), hc1, hc4, hc11, hb23]) ?_
        try simp only [go_sem, nextIt_lt (of_decide_eq_true hc1)]
        first | refine WGuard_splitN (fun hc15 => ?_) (fun hc16 => ?_) | refine WGuard_split (fun hc15 => ?_) (fun hc16 => ?_)
        · rw [if_pos (show (!r13) = true by first | exact hc15 | (rw [hc15]; rfl) | simpa using hc15)] at h
          try simp only [go_sem, nextIt_lt (of_decide_eq_true hc1), hc15]
          obtain ⟨r17, hr18, h⟩ := Option.bind_eq_some_iff.1 h
          replace hr18 := dec_some hr18
          first | refine WVal_pc hr18 ?_ | (simp only [eT2_eq, eT3_eq, eT4_eq, eT5_eq] at hr18; refine WVal_pc hr18 ?_)
          try simp only [go_sem, nextIt_lt (of_decide_eq_true hc1)]
          obtain ⟨r19, hr20, h⟩ := Option.bind_eq_some_iff.1 h
          replace hr20 := dec_some hr20
          first | refine WVal_pc hr20 ?_ | (simp only [eT2_eq, eT3_eq, eT4_eq, eT5_eq] at hr20; refine WVal_pc hr20 ?_)
          try simp only [go_sem, nextIt_lt (of_decide_eq_true hc1)]
          first | refine WBr_splitN (fun hc21 => ?_) (fun hc22 => ?_) | refine WBr_split (fun hc21 => ?_) (fun hc22 => ?_)
          · rw [if_pos (show (!r19) = true by first | exact hc21 | (rw [hc21]; rfl) | simpa using hc21)] at h
            try simp only [go_sem, nextIt_lt (of_decide_eq_true hc1)]
            cases h
            exact ⟨rfl, by simp, Up.of (N := 25) (N' := 78) [] rfl rfl (by decide) (.set (.d _) RegsR.none) (.set BlkR.refl_d (.set (BlkR.els (Nat.le_refl _) (.cons (.d _) (.cons (.d _) (.cons (.d _) (.cons (.d _) (.cons (.d _) (.cons (.d _) (.cons (.d _) (.cons (.d _) .nil))))))))) BlksR.at))⟩
          · rw [if_neg (show ¬ (!r19) = true by first | (rw [hc22]; exact Bool.false_ne_true) | simpa using hc22 | (simp at hc22 ⊢; omega))] at h
            try simp only [go_sem, nextIt_lt (of_decide_eq_true hc1)]
            cases h
            exact ⟨rfl, Up.of (N := 25) (N' := 77) [] rfl rfl (by decide) (.set (.it'' rfl) (.set (.clo' .nil (.cons (.ptr' rfl) .nil)) (.set (.d _) (.set (.d _) RegsR.none)))) (.set BlkR.it (.set BlkR.refl_d (.set (BlkR.els (Nat.le_refl _) (.cons (.d _) (.cons (.d _) (.cons (.d _) (.cons (.d _) (.cons (.d _) (.cons (.d _) (.cons (.d _) (.cons (.d _) .nil))))))))) BlksR.at)))⟩
        · rw [if_neg (show ¬ (!r13) = true by first | (rw [hc16]; exact Bool.false_ne_true) | simpa using hc16 | (simp at hc16 ⊢; omega))] at h
          try simp only [go_sem, nextIt_lt (of_decide_eq_true hc1), hc16]
          cases h
          exact ⟨rfl, Up.of (N := 25) (N' := 77) [] rfl rfl (by decide) (.set (.it'' rfl) (.set (.clo' .nil (.cons (.ptr' rfl) .nil)) (.set (.d _) (.set (.d _) RegsR.none)))) (.set BlkR.it (.set BlkR.refl_d (.set (BlkR.els (Nat.le_refl _) (.cons (.d _) (.cons (.d _) (.cons (.d _) (.cons (.d _) (.cons (.d _) (.cons (.d _) (.cons (.d _) (.cons (.d _) .nil))))))))) BlksR.at)))⟩
      · rw [if_neg (show ¬ (!(bif (decide (97 ≤ ((dcr a0 x0).1 : Int))) then (decide (((dcr a0 x0).1 : Int) ≤ 122)) else false)) = true by first | (rw [hc12]; exact Bool.false_ne_true) | simpa using hc12 | (simp at hc12 ⊢; omega))] at h
        try simp only [go_sem, nextIt_lt (of_decide_eq_true hc1), hc12]
        cases h
        exact ⟨rfl, Up.of (N := 25) (N' := 77) [] rfl rfl (by decide) (.set (.it'' rfl) (.set (.clo' .nil (.cons (.ptr' rfl) .nil)) (.set (.d _) (.set (.d _) RegsR.none)))) (.set BlkR.it (.set BlkR.refl_d (.set (BlkR.els (Nat.le_refl _) (.cons (.d _) (.cons (.d _) (.cons (.d _) (.cons (.d _) (.cons (.d _) (.cons (.d _) (.cons (.d _) (.cons (.d _) .nil))))))))) BlksR.at)))⟩
  · rw [if_neg (show ¬ (decide (x0 < a0.length)) = true by first | (rw [hc2]; exact Bool.false_ne_true) | simpa using hc2 | (simp at hc2 ⊢; omega))] at h
    try simp only [go_sem, hc2]
    try simp only [go_sem, nextIt_ge (of_decide_eq_false hc2)]
    cases h
    exact ⟨rfl, by simp, Up.of (N := 25) (N' := 27) [] rfl rfl (by decide) (.set (.d _) RegsR.none) (.set BlkR.refl_d (.set (BlkR.els (Nat.le_refl _) (.cons (.d _) (.cons (.d _) (.cons (.d _) (.cons (.d _) (.cons (.d _) (.cons (.d _) (.cons (.d _) (.cons (.d _) .nil))))))))) BlksR.at))⟩
noncomputable def P26 (a0 : List UInt8) : Option (Bool) :=
  (loopV (L26_0_step a0) 0).bind fun r27 =>
  match r27 with
  | (.inl q29) =>
    if (!(a0 == [])) = true then
      (dec D.bool (pc prog 88 [.str a0])).bind fun r32 =>
      if r32 = true then
        (dec D.bool (pc prog 56 [.str a0, .str ([45])])).bind fun r36 =>
        if r36 = true then
          (dec D.bool (pc prog 62 [.list false (([[97, 110, 110, 111, 116, 97, 116, 105, 111, 110, 45, 120, 109, 108], [99, 111, 108, 111, 114, 45, 112, 114, 111, 102, 105, 108, 101], [102, 111, 110, 116, 45, 102, 97, 99, 101], [102, 111, 110, 116, 45, 102, 97, 99, 101, 45, 115, 114, 99], [102, 111, 110, 116, 45, 102, 97, 99, 101, 45, 117, 114, 105], [102, 111, 110, 116, 45, 102, 97, 99, 101, 45, 102, 111, 114, 109, 97, 116], [102, 111, 110, 116, 45, 102, 97, 99, 101, 45, 110, 97, 109, 101], [109, 105, 115, 115, 105, 110, 103, 45, 103, 108, 121, 112, 104]]).map D.str), .str a0])).bind fun r40 =>
          some (!r40)
        else
          some false
      else
        some false
    else
      some false
  | (.inr q44) =>
    some false
theorem ok26 (a0 : List UInt8) (r : Bool) (h : P26 a0 = some r) : pc prog 26 [.str a0] = some (D.bool r) := by
  unfold P26 at h
  refine pc_of (fn := c26) rfl rfl ?_
  delta c26
  try simp only [go_sem]
  refine WVal_inl (fn := c55) rfl rfl ?_
  delta c55
  try simp only [go_sem]
  obtain ⟨r27, hl28, h⟩ := Option.bind_eq_some_iff.1 h
  refine Wp.loopR locs (n := 22) (a := c55B0) rfl (L26_0_S a0) (L26_0_F a0) (L26_0_ok a0) hl28 ?_ (by (repeat (first | refine Clo.block ?_ | refine Clo.seq locs rfl ?_)); refine Clo.inl locs (n' := 0) rfl rfl rfl ?_ ?_ (show 7 + 15 ≤ _ from by decide) (by decide) ?_; ((repeat (first | exact SelfR.no | exact SelfR.none | refine SelfR.set ?_ ?_ | refine SelfR.args ?_ | exact SelfL.nil | refine SelfL.cons ?_ ?_ | exact Self.d | exact Self.undef | exact Self.rp | exact Self.ptr (by decide) | exact Self.sl (by decide) | exact Self.mb (by decide) | exact Self.map (by decide) | exact Self.yld (by decide) | exact Self.it (by decide) | refine Self.clo ?_ ?_ | refine Self.ofCells ?_ | refine Self.agg ?_ | refine Self.tuple ?_ | refine Self.bif ?_ ?_)); (repeat (first | exact SelfR.no | exact SelfR.none | refine SelfR.set ?_ ?_ | refine SelfR.args ?_ | exact SelfL.nil | refine SelfL.cons ?_ ?_ | exact Self.d | exact Self.undef | exact Self.rp | exact Self.ptr (by decide) | exact Self.sl (by decide) | exact Self.mb (by decide) | exact Self.map (by decide) | exact Self.yld (by decide) | exact Self.it (by decide) | refine Self.clo ?_ ?_ | refine Self.ofCells ?_ | refine Self.agg ?_ | refine Self.tuple ?_ | refine Self.bif ?_ ?_))); (repeat (first | refine Clo.block ?_ | refine Clo.seq locs rfl ?_)); (first | exact Clo.ret | exact Clo.lpost | exact Clo.cpost)) ?_
  · show Up 22 (L26_0_S a0 0) _
    delta L26_0_S
    exact Up.of (N := 25) (N' := 25) [] rfl rfl (by decide) (.set (.it'' rfl) (.set (.clo' .nil (.cons (.ptr' rfl) .nil)) (.set (.d _) (.set (.d _) RegsR.none)))) (.set BlkR.it (.set BlkR.refl_d (.set (BlkR.els (Nat.le_refl _) (.cons (.d _) (.cons (.d _) (.cons (.d _) (.cons (.d _) (.cons (.d _) (.cons (.d _) (.cons (.d _) (.cons (.d _) .nil))))))))) BlksR.at)))
  · rcases r27 with (q29 | q44)
    · dsimp only at h
      dsimp only [L26_0_F]
      try simp only [go_sem]
      refine WGuard_pure (v := .d (.str a0)) (fun hb43 => by skip; simp only [go_sem, hb43]) ?_
      try simp only [go_sem]
      first | refine WGuard_splitN (fun hc30 => ?_) (fun hc31 => ?_) | refine WGuard_split (fun hc30 => ?_) (fun hc31 => ?_)
      · rw [if_pos (show (!(a0 == [])) = true by first | exact hc30 | (rw [hc30]; rfl) | simpa using hc30)] at h
        try simp only [go_sem, hc30]
        obtain ⟨r32, hr33, h⟩ := Option.bind_eq_some_iff.1 h
        replace hr33 := dec_some hr33
        first | refine WVal_pc hr33 ?_ | (simp only [eT2_eq, eT3_eq, eT4_eq, eT5_eq] at hr33; refine WVal_pc hr33 ?_)
        try simp only [go_sem]
        refine WGuard_pure (v := .d (.str a0)) (fun hb42 => by skip; simp only [go_sem, hc30, hb42]) ?_
        try simp only [go_sem]
        first | refine WGuard_splitN (fun hc34 => ?_) (fun hc35 => ?_) | refine WGuard_split (fun hc34 => ?_) (fun hc35 => ?_)
        · rw [if_pos (show r32 = true by first | exact hc34 | (rw [hc34]; rfl) | simpa using hc34)] at h
          try simp only [go_sem, hc34]
          obtain ⟨r36, hr37, h⟩ := Option.bind_eq_some_iff.1 h
          replace hr37 := dec_some hr37
          first | refine WVal_pc hr37 ?_ | (simp only [eT2_eq, eT3_eq, eT4_eq, eT5_eq] at hr37; refine WVal_pc hr37 ?_)
          try simp only [go_sem]
          first | refine WGuard_splitN (fun hc38 => ?_) (fun hc39 => ?_) | refine WGuard_split (fun hc38 => ?_) (fun hc39 => ?_)
          · rw [if_pos (show r36 = true by first | exact hc38 | (rw [hc38]; rfl) | simpa using hc38)] at h
            try simp only [go_sem, hc38]
            obtain ⟨r40, hr41, h⟩ := Option.bind_eq_some_iff.1 h
            replace hr41 := dec_some hr41
            first | refine WVal_pc hr41 ?_ | (simp only [eT2_eq, eT3_eq, eT4_eq, eT5_eq] at hr41; refine WVal_pc hr41 ?_)
            try simp only [go_sem]
            cases h
            first | rfl | (simp only [go_sem]; done) | (simp only [go_sem]; rfl) | (simp [eName, eRegistry, eDefinition, eForest, eCustom, enames_span, eNode, eforest_trait, eAttr, eforest_key, hc30, hc34, hc38]; done)
          · rw [if_neg (show ¬ r36 = true by first | (rw [hc39]; exact Bool.false_ne_true) | simpa using hc39 | (simp at hc39 ⊢; omega))] at h
            try simp only [go_sem, hc39]
            cases h
            first | rfl | (simp only [go_sem]; done) | (simp only [go_sem]; rfl) | (simp [eName, eRegistry, eDefinition, eForest, eCustom, enames_span, eNode, eforest_trait, eAttr, eforest_key, hc30, hc34, hc39]; done)
        · rw [if_neg (show ¬ r32 = true by first | (rw [hc35]; exact Bool.false_ne_true) | simpa using hc35 | (simp at hc35 ⊢; omega))] at h
          try simp only [go_sem, hc35]
          cases h
          first | rfl | (simp only [go_sem]; done) | (simp only [go_sem]; rfl) | (simp [eName, eRegistry, eDefinition, eForest, eCustom, enames_span, eNode, eforest_trait, eAttr, eforest_key, hc30, hc35]; done)
      · rw [if_neg (show ¬ (!(a0 == [])) = true by first | (rw [hc31]; exact Bool.false_ne_true) | simpa using hc31 | (simp at hc31 ⊢; omega))] at h
        try simp only [go_sem, hc31]
        cases h
        first | rfl | (simp only [go_sem]; done) | (simp only [go_sem]; rfl) | (simp [eName, eRegistry, eDefinition, eForest, eCustom, enames_span, eNode, eforest_trait, eAttr, eforest_key, hc31]; done)
    · dsimp only at h
      dsimp only [L26_0_F]
      try simp only [go_sem]
      cases h
      first | rfl | (simp only [go_sem]; done) | (simp only [go_sem]; rfl) | (simp [eName, eRegistry, eDefinition, eForest, eCustom, enames_span, eNode, eforest_trait, eAttr, eforest_key]; done)
def L27_0_F (a0 : List UInt8) (r1 : Sl (Int) × Bool) : ((Bool) ⊕ (Unit)) → Ex × St := fun r => match r with
  | (.inl r) => (.exit 0, ⟨((Regs.none.set 0 (.d (.str a0))).set 5 (.d (.bool r))), (Heap.at 29)⟩)
  | (.inr r) => (.ret, ⟨(Regs.none.set 2 (.d (.bool false))), (Heap.at 29)⟩)
noncomputable def P28 (a0 : List UInt8) : Option (Bool) :=
  (dec D.bool (pc prog 26 [.str a0])).bind fun r1 =>
  if (!r1) = true then
    (dec D.bool (pc prog 62 [.list false (([[97, 114, 116, 105, 99, 108, 101], [97, 115, 105, 100, 101], [98, 108, 111, 99, 107, 113, 117, 111, 116, 101], [98, 111, 100, 121], [100, 105, 118], [102, 111, 111, 116, 101, 114], [104, 49], [104, 50], [104, 51], [104, 52], [104, 53], [104, 54], [104, 101, 97, 100, 101, 114], [109, 97, 105, 110], [110, 97, 118], [112], [115, 101, 99, 116, 105, 111, 110], [115, 112, 97, 110]]).map D.str), .str a0])).bind fun r5 =>
    some r5
  else
    some true
theorem ok28 (a0 : List UInt8) (r : Bool) (h : P28 a0 = some r) : pc prog 28 [.str a0] = some (D.bool r) := by
  unfold P28 at h
  refine pc_of (fn := c28) rfl rfl ?_
  delta c28
  try simp only [go_sem]
  obtain ⟨r1, hr2, h⟩ := Option.bind_eq_some_iff.1 h
  replace hr2 := dec_some hr2
  first | refine WVal_pc hr2 ?_ | (simp only [eT2_eq, eT3_eq, eT4_eq, eT5_eq] at hr2; refine WVal_pc hr2 ?_)
  try simp only [go_sem]
  first | refine WGuard_splitN (fun hc3 => ?_) (fun hc4 => ?_) | refine WGuard_split (fun hc3 => ?_) (fun hc4 => ?_)
  · rw [if_pos (show (!r1) = true by first | exact hc3 | (rw [hc3]; rfl) | simpa using hc3)] at h
    try simp only [go_sem, hc3]
    obtain ⟨r5, hr6, h⟩ := Option.bind_eq_some_iff.1 h
    replace hr6 := dec_some hr6
    first | refine WVal_pc hr6 ?_ | (simp only [eT2_eq, eT3_eq, eT4_eq, eT5_eq] at hr6; refine WVal_pc hr6 ?_)
    try simp only [go_sem]
    cases h
    first | rfl | (simp only [go_sem]; done) | (simp only [go_sem]; rfl) | (simp [eName, eRegistry, eDefinition, eForest, eCustom, enames_span, eNode, eforest_trait, eAttr, eforest_key, hc3]; done)
  · rw [if_neg (show ¬ (!r1) = true by first | (rw [hc4]; exact Bool.false_ne_true) | simpa using hc4 | (simp at hc4 ⊢; omega))] at h
    try simp only [go_sem, hc4]
    cases h
    first | rfl | (simp only [go_sem]; done) | (simp only [go_sem]; rfl) | (simp [eName, eRegistry, eDefinition, eForest, eCustom, enames_span, eNode, eforest_trait, eAttr, eforest_key, hc4]; done)
noncomputable def P31 (a0 : Name) : Option (List UInt8) :=
  if (a0.prefix_ == []) = true then
    some a0.local_
  else
    if a0.prefix_.length + ([58] : List UInt8).length ≤ maxStr then
      if (a0.prefix_ ++ [58]).length + a0.local_.length ≤ maxStr then
        some ((a0.prefix_ ++ [58]) ++ a0.local_)
      else none
    else none
theorem ok31 (a0 : Name) (r : List UInt8) (h : P31 a0 = some r) : pc prog 31 [eName a0] = some (D.str r) := by
  unfold P31 at h
  refine pc_of (fn := c31) rfl rfl ?_
  delta c31
  try simp only [go_sem]
  first | refine WBr_splitN (fun hc1 => ?_) (fun hc2 => ?_) | refine WBr_split (fun hc1 => ?_) (fun hc2 => ?_)
  · rw [if_pos (show (a0.prefix_ == []) = true by first | exact hc1 | (rw [hc1]; rfl) | simpa using hc1)] at h
    try simp only [go_sem]
    cases h
    first | rfl | (simp only [go_sem]; done) | (simp only [go_sem]; rfl) | (simp [eName, eRegistry, eDefinition, eForest, eCustom, enames_span, eNode, eforest_trait, eAttr, eforest_key, hc1]; done)
  · rw [if_neg (show ¬ (a0.prefix_ == []) = true by first | (rw [hc2]; exact Bool.false_ne_true) | simpa using hc2 | (simp at hc2 ⊢; omega))] at h
    try simp only [go_sem]
    obtain ⟨hm3, h⟩ := ite_some h
    try simp only [go_sem, strOp_add' hm3]
    obtain ⟨hm4, h⟩ := ite_some h
    try simp only [go_sem, strOp_add' hm3, strOp_add' hm4]
    cases h
    first | rfl | (simp only [go_sem, strOp_add' hm3, strOp_add' hm4]; done) | (simp only [go_sem, strOp_add' hm3, strOp_add' hm4]; rfl) | (simp [eName, eRegistry, eDefinition, eForest, eCustom, enames_span, eNode, eforest_trait, eAttr, eforest_key, hc2]; done)
noncomputable def P33 (a0 : List UInt8) : Option (Int) :=
  if (decide (1024 < (a0.length : Int))) = true then
    some (4)
  else
    (dec D.bool (pc prog 21 [.str a0])).bind fun r3 =>
    if (!r3) = true then
      some (12)
    else
      some (0)
theorem ok33 (a0 : List UInt8) (r : Int) (h : P33 a0 = some r) : pc prog 33 [.str a0] = some ((D.int .i64) r) := by
  unfold P33 at h
  refine pc_of (fn := c33) rfl rfl ?_
  delta c33
  try simp only [go_sem]
  first | refine WBr_splitN (fun hc1 => ?_) (fun hc2 => ?_) | refine WBr_split (fun hc1 => ?_) (fun hc2 => ?_)
  · rw [if_pos (show (decide (1024 < (a0.length : Int))) = true by first | exact hc1 | (rw [hc1]; rfl) | simpa using hc1)] at h
    try simp only [go_sem]
    cases h
    first | rfl | (simp only [go_sem]; done) | (simp only [go_sem]; rfl) | (simp [eName, eRegistry, eDefinition, eForest, eCustom, enames_span, eNode, eforest_trait, eAttr, eforest_key, hc1]; done)
  · rw [if_neg (show ¬ (decide (1024 < (a0.length : Int))) = true by first | (rw [hc2]; exact Bool.false_ne_true) | simpa using hc2 | (simp at hc2 ⊢; omega))] at h
    try simp only [go_sem]
    obtain ⟨r3, hr4, h⟩ := Option.bind_eq_some_iff.1 h
    replace hr4 := dec_some hr4
    first | refine WVal_pc hr4 ?_ | (simp only [eT2_eq, eT3_eq, eT4_eq, eT5_eq] at hr4; refine WVal_pc hr4 ?_)
    try simp only [go_sem]
    first | refine WBr_splitN (fun hc5 => ?_) (fun hc6 => ?_) | refine WBr_split (fun hc5 => ?_) (fun hc6 => ?_)
    · rw [if_pos (show (!r3) = true by first | exact hc5 | (rw [hc5]; rfl) | simpa using hc5)] at h
      try simp only [go_sem]
      cases h
      first | rfl | (simp only [go_sem]; done) | (simp only [go_sem]; rfl) | (simp [eName, eRegistry, eDefinition, eForest, eCustom, enames_span, eNode, eforest_trait, eAttr, eforest_key, hc2, hc5]; done)
    · rw [if_neg (show ¬ (!r3) = true by first | (rw [hc6]; exact Bool.false_ne_true) | simpa using hc6 | (simp at hc6 ⊢; omega))] at h
      try simp only [go_sem]
      cases h
      first | rfl | (simp only [go_sem]; done) | (simp only [go_sem]; rfl) | (simp [eName, eRegistry, eDefinition, eForest, eCustom, enames_span, eNode, eforest_trait, eAttr, eforest_key, hc2, hc6]; done)
noncomputable def P35 (a0 : List UInt8) (a1 : List UInt8) : Option (Name × Int) :=
  if (decide (1024 < (a0.length : Int))) = true then
    some ((⟨[], [], []⟩ : Name), 4)
  else
    (dec (D.int .i64) (pc prog 33 [.str a1])).bind fun r3 =>
    if (!(r3 == 0)) = true then
      some ((⟨[], [], []⟩ : Name), r3)
    else
      (dec (eT2 D.str D.str) (pc prog 20 [.str a1])).bind fun r7 =>
      if (!(bif (!(r7.1 == [])) then (a0 == []) else false)) = true then
        if (bif (bif (r7.1 == [120, 109, 108]) then (!(a0 == [104, 116, 116, 112, 58, 47, 47, 119, 119, 119, 46, 119, 51, 46, 111, 114, 103, 47, 88, 77, 76, 47, 49, 57, 57, 56, 47, 110, 97, 109, 101, 115, 112, 97, 99, 101])) else false) then true else (!((bif (a1 == [120, 109, 108, 110, 115]) then true else (r7.1 == [120, 109, 108, 110, 115])) == (a0 == [104, 116, 116, 112, 58, 47, 47, 119, 119, 119, 46, 119, 51, 46, 111, 114, 103, 47, 50, 48, 48, 48, 47, 120, 109, 108, 110, 115, 47])))) = true then
          some ((⟨[], [], []⟩ : Name), 13)
        else
          some ((⟨a0, r7.1, r7.2⟩ : Name), 0)
      else
        some ((⟨[], [], []⟩ : Name), 13)
theorem ok35 (a0 : List UInt8) (a1 : List UInt8) (r : Name × Int) (h : P35 a0 a1 = some r) : pc prog 35 [.str a0, .str a1] = some ((eT2 eName (D.int .i64)) r) := by
  unfold P35 at h
  refine pc_of (fn := c35) rfl rfl ?_
  delta c35
  try simp only [go_sem]
  first | refine WBr_splitN (fun hc1 => ?_) (fun hc2 => ?_) | refine WBr_split (fun hc1 => ?_) (fun hc2 => ?_)
  · rw [if_pos (show (decide (1024 < (a0.length : Int))) = true by first | exact hc1 | (rw [hc1]; rfl) | simpa using hc1)] at h
    try simp only [go_sem]
    cases h
    first | rfl | (simp only [go_sem]; done) | (simp only [go_sem]; rfl) | (simp [eName, eRegistry, eDefinition, eForest, eCustom, enames_span, eNode, eforest_trait, eAttr, eforest_key, hc1]; done)
  · rw [if_neg (show ¬ (decide (1024 < (a0.length : Int))) = true by first | (rw [hc2]; exact Bool.false_ne_true) | simpa using hc2 | (simp at hc2 ⊢; omega))] at h
    try simp only [go_sem]
    obtain ⟨r3, hr4, h⟩ := Option.bind_eq_some_iff.1 h
    replace hr4 := dec_some hr4
    first | refine WVal_pc hr4 ?_ | (simp only [eT2_eq, eT3_eq, eT4_eq, eT5_eq] at hr4; refine WVal_pc hr4 ?_)
    try simp only [go_sem]
    first | refine WBr_splitN (fun hc5 => ?_) (fun hc6 => ?_) | refine WBr_split (fun hc5 => ?_) (fun hc6 => ?_)
    · rw [if_pos (show (!(r3 == 0)) = true by first | exact hc5 | (rw [hc5]; rfl) | simpa using hc5)] at h
      try simp only [go_sem]
      cases h
      first | rfl | (simp only [go_sem]; done) | (simp only [go_sem]; rfl) | (simp [eName, eRegistry, eDefinition, eForest, eCustom, enames_span, eNode, eforest_trait, eAttr, eforest_key, hc2, hc5]; done)
    · rw [if_neg (show ¬ (!(r3 == 0)) = true by first | (rw [hc6]; exact Bool.false_ne_true) | simpa using hc6 | (simp at hc6 ⊢; omega))] at h
      try simp only [go_sem]
      obtain ⟨r7, hr8, h⟩ := Option.bind_eq_some_iff.1 h
      replace hr8 := dec_some hr8
      first | refine WVal_pc hr8 ?_ | (simp only [eT2_eq, eT3_eq, eT4_eq, eT5_eq] at hr8; refine WVal_pc hr8 ?_)
      try simp only [go_sem]
      refine WGuard_pure (v := .d (.str r7.1)) (fun hb29 => by skip; simp only [go_sem, hc2, hc6, hb29]) ?_
      try simp only [go_sem]
      refine WGuard_pure (v := .d (.bool (r7.1 == [120, 109, 108, 110, 115]))) (fun hb28 => by skip; simp only [go_sem, hc2, hc6, hb28]) ?_
      try simp only [go_sem]
      refine WGuard_pure (v := .d (.str a0)) (fun hb27 => by skip; simp only [go_sem, hc2, hc6, hb27]) ?_
      try simp only [go_sem]
      refine WGuard_pure (v := .d (.bool (a0 == []))) (fun hb26 => by skip; simp only [go_sem, hc2, hc6, hb26]) ?_
      try simp only [go_sem]
      refine WGuard_pure (v := .d (.str r7.1)) (fun hb25 => by skip; simp only [go_sem, hc2, hc6, hb25]) ?_
      try simp only [go_sem]
      refine WGuard_pure (v := .d (.bool (r7.1 == [120, 109, 108]))) (fun hb24 => by skip; simp only [go_sem, hc2, hc6, hb24]) ?_
      try simp only [go_sem]
      refine WGuard_pure (v := .d (.bool (r7.1 == [120, 109, 108]))) (fun hb23 => by skip; simp only [go_sem, hc2, hc6, hb23]) ?_
      try simp only [go_sem]
      refine WGuard_pure (v := .d (.str a0)) (fun hb20 => by ((obtain ⟨hb21, hb22⟩ := bif_true hb20)); simp only [go_sem, hc2, hc6, hb22, hb21]) ?_
      try simp only [go_sem]
      refine WGuard_pure (v := .d (.bool (!(a0 == [104, 116, 116, 112, 58, 47, 47, 119, 119, 119, 46, 119, 51, 46, 111, 114, 103, 47, 88, 77, 76, 47, 49, 57, 57, 56, 47, 110, 97, 109, 101, 115, 112, 97, 99, 101])))) (fun hb17 => by ((obtain ⟨hb18, hb19⟩ := bif_true hb17)); simp only [go_sem, hc2, hc6, hb19, hb18]) ?_
      try simp only [go_sem]
      first | refine WGuard_splitN (fun hc9 => ?_) (fun hc10 => ?_) | refine WGuard_split (fun hc9 => ?_) (fun hc10 => ?_)
      · rw [if_pos (show (!(bif (!(r7.1 == [])) then (a0 == []) else false)) = true by first | exact hc9 | (rw [hc9]; rfl) | simpa using hc9)] at h
        try simp only [go_sem, hc9]
        refine WGuard_pure (v := .d (.bool (bif (a1 == [120, 109, 108, 110, 115]) then true else (r7.1 == [120, 109, 108, 110, 115])))) (fun hb16 => by skip; simp only [go_sem, hc2, hc6, hc9, hb16]) ?_
        try simp only [go_sem]
        refine WGuard_pure (v := .d (.str a0)) (fun hb15 => by skip; simp only [go_sem, hc2, hc6, hc9, hb15]) ?_
        try simp only [go_sem]
        refine WGuard_pure (v := .d (.bool (a0 == [104, 116, 116, 112, 58, 47, 47, 119, 119, 119, 46, 119, 51, 46, 111, 114, 103, 47, 50, 48, 48, 48, 47, 120, 109, 108, 110, 115, 47]))) (fun hb14 => by skip; simp only [go_sem, hc2, hc6, hc9, hb14]) ?_
        try simp only [go_sem]
        refine WGuard_pure (v := .d (.bool (!((bif (a1 == [120, 109, 108, 110, 115]) then true else (r7.1 == [120, 109, 108, 110, 115])) == (a0 == [104, 116, 116, 112, 58, 47, 47, 119, 119, 119, 46, 119, 51, 46, 111, 114, 103, 47, 50, 48, 48, 48, 47, 120, 109, 108, 110, 115, 47]))))) (fun hb13 => by skip; simp only [go_sem, hc2, hc6, hc9, hb13]) ?_
        try simp only [go_sem]
        first | refine WBr_splitN (fun hc11 => ?_) (fun hc12 => ?_) | refine WBr_split (fun hc11 => ?_) (fun hc12 => ?_)
        · rw [if_pos (show (bif (bif (r7.1 == [120, 109, 108]) then (!(a0 == [104, 116, 116, 112, 58, 47, 47, 119, 119, 119, 46, 119, 51, 46, 111, 114, 103, 47, 88, 77, 76, 47, 49, 57, 57, 56, 47, 110, 97, 109, 101, 115, 112, 97, 99, 101])) else false) then true else (!((bif (a1 == [120, 109, 108, 110, 115]) then true else (r7.1 == [120, 109, 108, 110, 115])) == (a0 == [104, 116, 116, 112, 58, 47, 47, 119, 119, 119, 46, 119, 51, 46, 111, 114, 103, 47, 50, 48, 48, 48, 47, 120, 109, 108, 110, 115, 47])))) = true by first | exact hc11 | (rw [hc11]; rfl) | simpa using hc11)] at h
          try simp only [go_sem]
          cases h
          first | rfl | (simp only [go_sem]; done) | (simp only [go_sem]; rfl) | (simp [eName, eRegistry, eDefinition, eForest, eCustom, enames_span, eNode, eforest_trait, eAttr, eforest_key, hc2, hc6, hc9, hc11]; done)
        · rw [if_neg (show ¬ (bif (bif (r7.1 == [120, 109, 108]) then (!(a0 == [104, 116, 116, 112, 58, 47, 47, 119, 119, 119, 46, 119, 51, 46, 111, 114, 103, 47, 88, 77, 76, 47, 49, 57, 57, 56, 47, 110, 97, 109, 101, 115, 112, 97, 99, 101])) else false) then true else (!((bif (a1 == [120, 109, 108, 110, 115]) then true else (r7.1 == [120, 109, 108, 110, 115])) == (a0 == [104, 116, 116, 112, 58, 47, 47, 119, 119, 119, 46, 119, 51, 46, 111, 114, 103, 47, 50, 48, 48, 48, 47, 120, 109, 108, 110, 115, 47])))) = true by first | (rw [hc12]; exact Bool.false_ne_true) | simpa using hc12 | (simp at hc12 ⊢; omega))] at h
          try simp only [go_sem]
          cases h
          first | rfl | (simp only [go_sem]; done) | (simp only [go_sem]; rfl) | (simp [eName, eRegistry, eDefinition, eForest, eCustom, enames_span, eNode, eforest_trait, eAttr, eforest_key, hc2, hc6, hc9, hc12]; done)
      · rw [if_neg (show ¬ (!(bif (!(r7.1 == [])) then (a0 == []) else false)) = true by first | (rw [hc10]; exact Bool.false_ne_true) | simpa using hc10 | (simp at hc10 ⊢; omega))] at h
        try simp only [go_sem, hc10]
        cases h
        first | rfl | (simp only [go_sem]; done) | (simp only [go_sem]; rfl) | (simp [eName, eRegistry, eDefinition, eForest, eCustom, enames_span, eNode, eforest_trait, eAttr, eforest_key, hc2, hc6, hc10]; done)
noncomputable def P37 (a0 : Name) : Option (Bool) :=
  (dec D.str (pc prog 31 [eName a0])).bind fun r1 =>
  (dec (eT2 eName (D.int .i64)) (pc prog 35 [.str a0.space, .str r1])).bind fun r3 =>
  some (bif (r3.2 == 0) then (decide (r3.1 = a0)) else false)
theorem ok37 (a0 : Name) (r : Bool) (h : P37 a0 = some r) : pc prog 37 [eName a0] = some (D.bool r) := by
  unfold P37 at h
  refine pc_of (fn := c37) rfl rfl ?_
  delta c37
  try simp only [go_sem]
  obtain ⟨r1, hr2, h⟩ := Option.bind_eq_some_iff.1 h
  replace hr2 := dec_some hr2
  first | refine WVal_pc hr2 ?_ | (simp only [eT2_eq, eT3_eq, eT4_eq, eT5_eq] at hr2; refine WVal_pc hr2 ?_)
  try simp only [go_sem]
  obtain ⟨r3, hr4, h⟩ := Option.bind_eq_some_iff.1 h
  replace hr4 := dec_some hr4
  first | refine WVal_pc hr4 ?_ | (simp only [eT2_eq, eT3_eq, eT4_eq, eT5_eq] at hr4; refine WVal_pc hr4 ?_)
  try simp only [go_sem]
  refine WGuard_pure (v := .d (eName r3.1)) (fun hb7 => by skip; simp only [go_sem, hb7]) ?_
  try simp only [go_sem]
  refine WGuard_pure (v := .d (eName a0)) (fun hb6 => by skip; simp only [go_sem, hb6]) ?_
  try simp only [go_sem]
  refine WGuard_pure (v := .d (.bool (decide (r3.1 = a0)))) (fun hb5 => by skip; simp only [go_sem, hb5]) ?_
  try simp only [go_sem]
  cases h
  first | rfl | (simp only [go_sem]; done) | (simp only [go_sem]; rfl) | (simp [eName, eRegistry, eDefinition, eForest, eCustom, enames_span, eNode, eforest_trait, eAttr, eforest_key]; done)
def L52_0_S (a0 : Int) (a1 : Sl (names_span)) (x0 : Int) : St := ⟨((((Regs.none.set 0 (.d (.list a1.n (a1.l.map enames_span)))).set 1 (.clo 87 [] [.ptr 0 0 0])).set 7 (.d (.int .i64 (a1.l.length : Int)))).set 8 (.d (.int .i64 x0))), ((Heap.at 16).set 0 (some (.els 1 [.d (.int .i32 a0)] 0)))⟩
def L52_0_F (a0 : Int) (a1 : Sl (names_span)) : ((Unit) ⊕ (Int)) → Ex × St := fun r => match r with
  | (.inl r) => (.exit 0, ⟨Regs.none, ((Heap.at 16).set 0 (some (.els 1 [.d (.int .i32 a0)] 0)))⟩)
  | (.inr r) => (.ret, ⟨(Regs.none.set 4 (.d (.int .i64 r))), ((Heap.at 16).set 0 (some (.els 1 [.d (.int .i32 a0)] 0)))⟩)
noncomputable def L52_0_step (a0 : Int) (a1 : Sl (names_span)) (x0 : Int) : Option ((Int) ⊕ ((Unit) ⊕ (Int))) :=
  if (decide (x0 < (a1.l.length : Int))) = true then
    (rd a1.l x0).bind fun y3 =>
    if (bif (decide (y3.from_ ≤ a0)) then (decide (a0 ≤ y3.to)) else false) = true then
      some (.inr (.inr x0))
    else
      some (.inl (IntKind.wrap .i64 (x0 + 1)))
  else
    some (.inr (.inl ()))
theorem L52_0_ok (a0 : Int) (a1 : Sl (names_span)) (x0 : Int) (o : (Int) ⊕ ((Unit) ⊕ (Int))) (h : L52_0_step a0 a1 x0 = some o) : Wp prog c108B0 (L52_0_S a0 a1 x0) (LPost 12 (L52_0_S a0 a1) (L52_0_F a0 a1) o) := by
  unfold L52_0_step at h
  delta c108B0 L52_0_S
  try simp only [go_sem]
  first | refine WBr_splitN (fun hc1 => ?_) (fun hc2 => ?_) | refine WBr_split (fun hc1 => ?_) (fun hc2 => ?_)
  · rw [if_pos (show (decide (x0 < (a1.l.length : Int))) = true by first | exact hc1 | (rw [hc1]; rfl) | simpa using hc1)] at h
    try simp only [go_sem]
    obtain ⟨y3, hy4, h⟩ := Option.bind_eq_some_iff.1 h
    try simp only [go_sem, rd_pos hy4, rd_ge hy4, rd_map enames_span hy4]
    refine WVal_inlC (fn := c87) rfl rfl ?_
    delta c87
    try simp only [go_sem, rd_pos hy4, rd_ge hy4, rd_map enames_span hy4]
    refine WGuard_pure (v := .d (.int .i32 a0)) (fun hb10 => by skip; simp only [go_sem, rd_pos hy4, rd_ge hy4, rd_map enames_span hy4, hc1, hb10]) ?_
    try simp only [go_sem, rd_pos hy4, rd_ge hy4, rd_map enames_span hy4]
    refine WGuard_pure (v := .ptr 25 0 1) (fun hb9 => by skip; simp only [go_sem, rd_pos hy4, rd_ge hy4, rd_map enames_span hy4, hc1, hb9]) ?_
    try simp only [go_sem, rd_pos hy4, rd_ge hy4, rd_map enames_span hy4]
    refine WGuard_pure (v := .d (.int .i32 y3.to)) (fun hb8 => by skip; simp only [go_sem, rd_pos hy4, rd_ge hy4, rd_map enames_span hy4, hc1, hb8]) ?_
    try simp only [go_sem, rd_pos hy4, rd_ge hy4, rd_map enames_span hy4]
    refine WGuard_pure (v := .d (.bool (decide (a0 ≤ y3.to)))) (fun hb7 => by skip; simp only [go_sem, rd_pos hy4, rd_ge hy4, rd_map enames_span hy4, hc1, hb7]) ?_
    try simp only [go_sem, rd_pos hy4, rd_ge hy4, rd_map enames_span hy4]
    first | refine WBr_splitN (fun hc5 => ?_) (fun hc6 => ?_) | refine WBr_split (fun hc5 => ?_) (fun hc6 => ?_)
    · rw [if_pos (show (bif (decide (y3.from_ ≤ a0)) then (decide (a0 ≤ y3.to)) else false) = true by first | exact hc5 | (rw [hc5]; rfl) | simpa using hc5)] at h
      try simp only [go_sem, rd_pos hy4, rd_ge hy4, rd_map enames_span hy4]
      cases h
      exact ⟨rfl, by simp, Up.of (N := 16) (N' := 40) [] rfl rfl (by decide) (.set (.d _) RegsR.none) (.set BlkR.refl_d BlksR.at)⟩
    · rw [if_neg (show ¬ (bif (decide (y3.from_ ≤ a0)) then (decide (a0 ≤ y3.to)) else false) = true by first | (rw [hc6]; exact Bool.false_ne_true) | simpa using hc6 | (simp at hc6 ⊢; omega))] at h
      try simp only [go_sem, rd_pos hy4, rd_ge hy4, rd_map enames_span hy4]
      cases h
      exact ⟨rfl, Up.of (N := 16) (N' := 40) [] rfl rfl (by decide) (.set (.d _) (.set (.d _) (.set (.clo' .nil (.cons (.ptr' rfl) .nil)) (.set (.d _) RegsR.none)))) (.set BlkR.refl_d BlksR.at)⟩
  · rw [if_neg (show ¬ (decide (x0 < (a1.l.length : Int))) = true by first | (rw [hc2]; exact Bool.false_ne_true) | simpa using hc2 | (simp at hc2 ⊢; omega))] at h
    try simp only [go_sem]
    cases h
    exact ⟨rfl, by simp, Up.of (N := 16) (N' := 17) [] rfl rfl (by decide) RegsR.none (.set BlkR.refl_d BlksR.at)⟩
noncomputable def P52 (a0 : Int) (a1 : Sl (names_span)) : Option (Bool) :=
  (loopV (L52_0_step a0 a1) 0).bind fun r11 =>
  match r11 with
  | (.inl q13) =>
    some false
  | (.inr q14) =>
    some (decide (0 ≤ q14))
theorem ok52 (a0 : Int) (a1 : Sl (names_span)) (r : Bool) (h : P52 a0 a1 = some r) : pc prog 52 [.int .i32 a0, .list a1.n (a1.l.map enames_span)] = some (D.bool r) := by
  unfold P52 at h
  refine pc_of (fn := c52) rfl rfl ?_
  delta c52
  try simp only [go_sem]
  refine WVal_inl (fn := c86) rfl rfl ?_
  delta c86
  try simp only [go_sem]
  refine WVal_inl (fn := c108) rfl rfl ?_
  delta c108
  try simp only [go_sem]
  obtain ⟨r11, hl12, h⟩ := Option.bind_eq_some_iff.1 h
  refine Wp.loopR locs (n := 12) (a := c108B0) rfl (L52_0_S a0 a1) (L52_0_F a0 a1) (L52_0_ok a0 a1) hl12 ?_ (by (repeat (first | refine Clo.block ?_ | refine Clo.seq locs rfl ?_)); refine Clo.inl locs (n' := 6) rfl rfl rfl ?_ ?_ (show 7 + 5 ≤ _ from by decide) (by decide) ?_; ((repeat (first | exact SelfR.no | exact SelfR.none | refine SelfR.set ?_ ?_ | refine SelfR.args ?_ | exact SelfL.nil | refine SelfL.cons ?_ ?_ | exact Self.d | exact Self.undef | exact Self.rp | exact Self.ptr (by decide) | exact Self.sl (by decide) | exact Self.mb (by decide) | exact Self.map (by decide) | exact Self.yld (by decide) | exact Self.it (by decide) | refine Self.clo ?_ ?_ | refine Self.ofCells ?_ | refine Self.agg ?_ | refine Self.tuple ?_ | refine Self.bif ?_ ?_)); (repeat (first | exact SelfR.no | exact SelfR.none | refine SelfR.set ?_ ?_ | refine SelfR.args ?_ | exact SelfL.nil | refine SelfL.cons ?_ ?_ | exact Self.d | exact Self.undef | exact Self.rp | exact Self.ptr (by decide) | exact Self.sl (by decide) | exact Self.mb (by decide) | exact Self.map (by decide) | exact Self.yld (by decide) | exact Self.it (by decide) | refine Self.clo ?_ ?_ | refine Self.ofCells ?_ | refine Self.agg ?_ | refine Self.tuple ?_ | refine Self.bif ?_ ?_))); (repeat (first | refine Clo.block ?_ | refine Clo.seq locs rfl ?_)); refine Clo.inl locs (n' := 0) rfl rfl rfl ?_ ?_ (show 2 + 4 ≤ _ from by decide) (by decide) ?_; ((repeat (first | exact SelfR.no | exact SelfR.none | refine SelfR.set ?_ ?_ | refine SelfR.args ?_ | exact SelfL.nil | refine SelfL.cons ?_ ?_ | exact Self.d | exact Self.undef | exact Self.rp | exact Self.ptr (by decide) | exact Self.sl (by decide) | exact Self.mb (by decide) | exact Self.map (by decide) | exact Self.yld (by decide) | exact Self.it (by decide) | refine Self.clo ?_ ?_ | refine Self.ofCells ?_ | refine Self.agg ?_ | refine Self.tuple ?_ | refine Self.bif ?_ ?_)); (repeat (first | exact SelfR.no | exact SelfR.none | refine SelfR.set ?_ ?_ | refine SelfR.args ?_ | exact SelfL.nil | refine SelfL.cons ?_ ?_ | exact Self.d | exact Self.undef | exact Self.rp | exact Self.ptr (by decide) | exact Self.sl (by decide) | exact Self.mb (by decide) | exact Self.map (by decide) | exact Self.yld (by decide) | exact Self.it (by decide) | refine Self.clo ?_ ?_ | refine Self.ofCells ?_ | refine Self.agg ?_ | refine Self.tuple ?_ | refine Self.bif ?_ ?_))); (repeat (first | refine Clo.block ?_ | refine Clo.seq locs rfl ?_)); (first | exact Clo.ret | exact Clo.lpost | exact Clo.cpost)) ?_
  · show Up 12 (L52_0_S a0 a1 0) _
    delta L52_0_S
    exact Up.of (N := 16) (N' := 16) [] rfl rfl (by decide) (.set (.d _) (.set (.d _) (.set (.clo' .nil (.cons (.ptr' rfl) .nil)) (.set (.d _) RegsR.none)))) (.set BlkR.refl_d BlksR.at)
  · rcases r11 with (q13 | q14)
    · dsimp only at h
      dsimp only [L52_0_F]
      try simp only [go_sem]
      cases h
      first | rfl | (simp only [go_sem]; done) | (simp only [go_sem]; rfl) | (simp [eName, eRegistry, eDefinition, eForest, eCustom, enames_span, eNode, eforest_trait, eAttr, eforest_key]; done)
    · dsimp only at h
      dsimp only [L52_0_F]
      try simp only [go_sem]
      cases h
      first | rfl | (simp only [go_sem]; done) | (simp only [go_sem]; rfl) | (simp [eName, eRegistry, eDefinition, eForest, eCustom, enames_span, eNode, eforest_trait, eAttr, eforest_key]; done)
noncomputable def P56 (a0 : List UInt8) (a1 : List UInt8) : Option (Bool) :=
  (dec (D.int .i64) (pc prog 89 [.str a0, .str a1])).bind fun r1 =>
  some (decide (0 ≤ r1))
theorem ok56 (a0 : List UInt8) (a1 : List UInt8) (r : Bool) (h : P56 a0 a1 = some r) : pc prog 56 [.str a0, .str a1] = some (D.bool r) := by
  unfold P56 at h
  refine pc_of (fn := c56) rfl rfl ?_
  delta c56
  try simp only [go_sem]
  obtain ⟨r1, hr2, h⟩ := Option.bind_eq_some_iff.1 h
  replace hr2 := dec_some hr2
  first | refine WVal_pc hr2 ?_ | (simp only [eT2_eq, eT3_eq, eT4_eq, eT5_eq] at hr2; refine WVal_pc hr2 ?_)
  try simp only [go_sem]
  cases h
  first | rfl | (simp only [go_sem]; done) | (simp only [go_sem]; rfl) | (simp [eName, eRegistry, eDefinition, eForest, eCustom, enames_span, eNode, eforest_trait, eAttr, eforest_key]; done)
noncomputable def P57 (a0 : List UInt8) (a1 : List UInt8) : Option (List UInt8 × List UInt8 × Bool) :=
  (dec (eT3 D.str D.str D.bool) (pc prog 90 [.str a0, .str a1])).bind fun r1 =>
  some (r1.1, r1.2.1, r1.2.2)
theorem ok57 (a0 : List UInt8) (a1 : List UInt8) (r : List UInt8 × List UInt8 × Bool) (h : P57 a0 a1 = some r) : pc prog 57 [.str a0, .str a1] = some ((eT3 D.str D.str D.bool) r) := by
  unfold P57 at h
  refine pc_of (fn := c57) rfl rfl ?_
  delta c57
  try simp only [go_sem]
  obtain ⟨r1, hr2, h⟩ := Option.bind_eq_some_iff.1 h
  replace hr2 := dec_some hr2
  first | refine WVal_pc hr2 ?_ | (simp only [eT2_eq, eT3_eq, eT4_eq, eT5_eq] at hr2; refine WVal_pc hr2 ?_)
  try simp only [go_sem]
  cases h
  first | rfl | (simp only [go_sem]; done) | (simp only [go_sem]; rfl) | (simp [eName, eRegistry, eDefinition, eForest, eCustom, enames_span, eNode, eforest_trait, eAttr, eforest_key]; done)
def L58_0_S (a0 : List UInt8) (x0 : List (Int) × Int) : St := ⟨(((Regs.none.set 0 (.d (.str a0))).set 4 (mb 3 (x0.1.map fun z => V.d ((D.int .i32) z)))).set 5 (.d (.int .i64 x0.2))), ((Heap.at 4).set 3 (mbB 1 x0.1.length (x0.1.map fun z => V.d ((D.int .i32) z))))⟩
def L58_0_F (a0 : List UInt8) : ((List (Int)) ⊕ (Unit)) → Ex × St := fun r => match r with
  | (.inl r) => (.exit 0, ⟨(Regs.none.set 4 (mb 3 (r.map fun z => V.d ((D.int .i32) z)))), ((Heap.at 4).set 3 (mbB 1 r.length (r.map fun z => V.d ((D.int .i32) z))))⟩)
  | (.inr r) => (.ret, ⟨((Regs.none.set 2 (.d (.list true []))).set 3 (.d (.bool false))), (Heap.at 4)⟩)
noncomputable def L58_0_step (a0 : List UInt8) (x0 : List (Int) × Int) : Option ((List (Int) × Int) ⊕ ((List (Int)) ⊕ (Unit))) :=
  if (decide (x0.2 < (a0.length : Int))) = true then
    (dec (eT2 (D.int .i32) (D.int .i64)) (pc prog 91 [.str a0, .int .i64 x0.2])).bind fun r3 =>
    if (r3.2 == 0) = true then
      some (.inr (.inr ()))
    else
      if (x0.1.length + 1) * 4 ≤ AI.roomBytes then
        some (.inl ((x0.1 ++ [r3.1]), (IntKind.wrap .i64 (x0.2 + r3.2))))
      else none
  else
    some (.inr (.inl x0.1))
theorem L58_0_ok (a0 : List UInt8) (x0 : List (Int) × Int) (o : (List (Int) × Int) ⊕ ((List (Int)) ⊕ (Unit))) (h : L58_0_step a0 x0 = some o) : Wp prog c58B0 (L58_0_S a0 x0) (LPost 0 (L58_0_S a0) (L58_0_F a0) o) := by
  unfold L58_0_step at h
  delta c58B0 L58_0_S
  try simp only [go_sem]
  first | refine WBr_splitN (fun hc1 => ?_) (fun hc2 => ?_) | refine WBr_split (fun hc1 => ?_) (fun hc2 => ?_)
  · rw [if_pos (show (decide (x0.2 < (a0.length : Int))) = true by first | exact hc1 | (rw [hc1]; rfl) | simpa using hc1)] at h
    try simp only [go_sem]
    obtain ⟨r3, hr4, h⟩ := Option.bind_eq_some_iff.1 h
    replace hr4 := dec_some hr4
    first | refine WVal_pc hr4 ?_ | (simp only [eT2_eq, eT3_eq, eT4_eq, eT5_eq] at hr4; refine WVal_pc hr4 ?_)
    try simp only [go_sem]
    first | refine WBr_splitN (fun hc5 => ?_) (fun hc6 => ?_) | refine WBr_split (fun hc5 => ?_) (fun hc6 => ?_)
    · rw [if_pos (show (r3.2 == 0) = true by first | exact hc5 | (rw [hc5]; rfl) | simpa using hc5)] at h
      try simp only [go_sem]
      cases h
      exact ⟨rfl, by simp, Up.of (N := 4) (N' := 20) [] rfl rfl (by decide) (.set (.d _) (.set (.d _) RegsR.none)) BlksR.at⟩
    · rw [if_neg (show ¬ (r3.2 == 0) = true by first | (rw [hc6]; exact Bool.false_ne_true) | simpa using hc6 | (simp at hc6 ⊢; omega))] at h
      try simp only [go_sem]
      obtain ⟨hm7, h⟩ := ite_some h
      refine WVal_appM (l := x0.1.map fun z => V.d ((D.int .i32) z)) (new := [V.d (.int .i32 r3.1)]) (sz := 1) (fz := x0.1.length) (by simp only [go_sem, List.map_append, List.map_cons, List.map_nil]) (by intro h; simpa using h) (by simp only [go_sem, elsOf_sl, elsB_all, elsB_one, elsOf_list, mapVd]) (by simp) (by simp only [go_sem]) (by simpa using hm7) ?_
      try simp only [go_sem, hm7]
      cases h
      refine ⟨rfl, Up.of (N := 4) (N' := 27) [(3, 21)] rfl rfl (by decide) ?_ ?_⟩
      · refine RegsR.set ?_ (RegsR.set ?_ (RegsR.set ?_ RegsR.none))
        all_goals (try simp only [go_sem, List.map_append, List.map_cons, List.map_nil, hm7])
        all_goals (first | exact VR.d _ | exact VR.mb_sl (by simp) rfl (by simp) | (simp only [eName, eRegistry, eDefinition, eForest, eCustom, enames_span, eNode, eforest_trait, eAttr, eforest_key, hc1, hc6]; exact VR.d _))
      · refine BlksR.set (show BlkR _ _ (Heap.get _ 21) from ?_) (BlksR.at)
        all_goals (try simp only [go_sem, List.map_append, List.map_cons, List.map_nil, hm7])
        all_goals (first | ((repeat' first | trivial | exact BlkR.refl_d | exact BlkR.map_d | exact BlkR.map_0 | exact BlkR.it | exact BR.map .nil | refine BlkR.els (by simp) ?_ | refine BlkR.mb_els (by simp) ?_ | refine BlkR.mb (by simp) ?_ | exact VR.d _ | exact VR.ptr' rfl | exact VR.mb rfl | exact VR.sl'' rfl (by simp) | exact VR.mb_sl (by simp) rfl (by simp) | exact VR.undef _ | refine VR.clo' ?_ ?_ | exact VRL.nil | exact VRL.refl_d _ _ | refine VRL.append ?_ ?_ | refine VRL.cons ?_ ?_ | refine VRL.ofC ?_ | refine VRL.ofCa ?_ rfl | refine VRL.ofCells ?_ | refine VRL.tuple ?_ | refine VRL.agg ?_); done) | (simp only [eName, eRegistry, eDefinition, eForest, eCustom, enames_span, eNode, eforest_trait, eAttr, eforest_key, hc1, hc6]; exact BlkR.refl_d))
  · rw [if_neg (show ¬ (decide (x0.2 < (a0.length : Int))) = true by first | (rw [hc2]; exact Bool.false_ne_true) | simpa using hc2 | (simp at hc2 ⊢; omega))] at h
    try simp only [go_sem]
    cases h
    refine ⟨rfl, by simp, Up.of (N := 4) (N' := 8) [] rfl rfl (by decide) ?_ ?_⟩
    · refine RegsR.set ?_ RegsR.none
      all_goals (try simp only [go_sem, List.map_append, List.map_cons, List.map_nil])
      all_goals (first | exact VR.d _ | exact VR.mb rfl | (simp only [eName, eRegistry, eDefinition, eForest, eCustom, enames_span, eNode, eforest_trait, eAttr, eforest_key, hc2]; exact VR.d _))
    · refine BlksR.set (show BlkR _ _ (Heap.get _ 3) from ?_) (BlksR.at)
      all_goals (try simp only [go_sem, List.map_append, List.map_cons, List.map_nil])
      all_goals (first | ((repeat' first | trivial | exact BlkR.refl_d | exact BlkR.map_d | exact BlkR.map_0 | exact BlkR.it | exact BR.map .nil | refine BlkR.els (by simp) ?_ | refine BlkR.mb_els (by simp) ?_ | refine BlkR.mb (by simp) ?_ | exact VR.d _ | exact VR.ptr' rfl | exact VR.mb rfl | exact VR.sl'' rfl (by simp) | exact VR.mb_sl (by simp) rfl (by simp) | exact VR.undef _ | refine VR.clo' ?_ ?_ | exact VRL.nil | exact VRL.refl_d _ _ | refine VRL.append ?_ ?_ | refine VRL.cons ?_ ?_ | refine VRL.ofC ?_ | refine VRL.ofCa ?_ rfl | refine VRL.ofCells ?_ | refine VRL.tuple ?_ | refine VRL.agg ?_); done) | (simp only [eName, eRegistry, eDefinition, eForest, eCustom, enames_span, eNode, eforest_trait, eAttr, eforest_key, hc2]; exact BlkR.refl_d))
noncomputable def P58 (a0 : List UInt8) : Option (Sl (Int) × Bool) :=
  (loopV (L58_0_step a0) ([], 0)).bind fun r8 =>
  match r8 with
  | (.inl q10) =>
    some (⟨q10.isEmpty, q10⟩, true)
  | (.inr q11) =>
    some (⟨true, []⟩, false)
theorem ok58 (a0 : List UInt8) (r : Sl (Int) × Bool) (h : P58 a0 = some r) : pc prog 58 [.str a0] = some ((eT2 (eSl (D.int .i32)) D.bool) r) := by
  unfold P58 at h
  refine pc_of (fn := c58) rfl rfl ?_
  delta c58
  try simp only [go_sem]
  obtain ⟨r8, hl9, h⟩ := Option.bind_eq_some_iff.1 h
  refine Wp.loopR locs (n := 0) (a := c58B0) rfl (L58_0_S a0) (L58_0_F a0) (L58_0_ok a0) hl9 ?_ (by (repeat (first | refine Clo.block ?_ | refine Clo.seq locs rfl ?_)); (first | exact Clo.ret | exact Clo.lpost | exact Clo.cpost)) ?_
  · show Up 0 (L58_0_S a0 ([], 0)) _
    delta L58_0_S
    refine Up.of (N := 4) (N' := 4) [] rfl rfl (by decide) ?_ ?_
    · refine RegsR.set ?_ (RegsR.set ?_ (RegsR.set ?_ RegsR.none))
      all_goals (try simp only [go_sem, List.map_append, List.map_cons, List.map_nil])
      all_goals (first | exact VR.d _ | exact VR.mb rfl)
    · refine BlksR.set (show BlkR _ _ (Heap.get _ 3) from ?_) (BlksR.at)
      all_goals (try simp only [go_sem, List.map_append, List.map_cons, List.map_nil])
      all_goals (first | ((repeat' first | trivial | exact BlkR.refl_d | exact BlkR.map_d | exact BlkR.map_0 | exact BlkR.it | exact BR.map .nil | refine BlkR.els (by simp) ?_ | refine BlkR.mb_els (by simp) ?_ | refine BlkR.mb (by simp) ?_ | exact VR.d _ | exact VR.ptr' rfl | exact VR.mb rfl | exact VR.sl'' rfl (by simp) | exact VR.mb_sl (by simp) rfl (by simp) | exact VR.undef _ | refine VR.clo' ?_ ?_ | exact VRL.nil | exact VRL.refl_d _ _ | refine VRL.append ?_ ?_ | refine VRL.cons ?_ ?_ | refine VRL.ofC ?_ | refine VRL.ofCa ?_ rfl | refine VRL.ofCells ?_ | refine VRL.tuple ?_ | refine VRL.agg ?_); done) | (simp only [eName, eRegistry, eDefinition, eForest, eCustom, enames_span, eNode, eforest_trait, eAttr, eforest_key]; exact BlkR.refl_d))
  · rcases r8 with (q10 | q11)
    · dsimp only at h
      dsimp only [L58_0_F]
      try simp only [go_sem]
      cases h
      refine Reads.ofv (v' := V.ofTuple [mb 3 (q10.map fun z => V.d ((D.int .i32) z)), .d (.bool true)]) (by first | rfl | simp only [go_sem, List.map_append, List.map_cons, List.map_nil]) (Rd.tuple (RdL.cons (Rd.mb (e := (D.int .i32)) (l := q10) (sz := 1) (fz := q10.length) (by simp only [go_sem, List.map_append, List.map_cons, List.map_nil])) (RdL.cons Rd.d RdL.nil))) rfl
    · dsimp only at h
      dsimp only [L58_0_F]
      try simp only [go_sem]
      cases h
      first | rfl | (simp only [go_sem]; done) | (simp only [go_sem]; rfl) | (simp [eName, eRegistry, eDefinition, eForest, eCustom, enames_span, eNode, eforest_trait, eAttr, eforest_key]; done)
noncomputable def P62 (a0 : Sl (List UInt8)) (a1 : List UInt8) : Option (Bool) :=
  (dec (D.int .i64) (pc prog 92 [.list a0.n (a0.l.map D.str), .str a1])).bind fun r1 =>
  some (decide (0 ≤ r1))
theorem ok62 (a0 : Sl (List UInt8)) (a1 : List UInt8) (r : Bool) (h : P62 a0 a1 = some r) : pc prog 62 [.list a0.n (a0.l.map D.str), .str a1] = some (D.bool r) := by
  unfold P62 at h
  refine pc_of (fn := c62) rfl rfl ?_
  delta c62
  try simp only [go_sem]
  obtain ⟨r1, hr2, h⟩ := Option.bind_eq_some_iff.1 h
  replace hr2 := dec_some hr2
  first | refine WVal_pc hr2 ?_ | (simp only [eT2_eq, eT3_eq, eT4_eq, eT5_eq] at hr2; refine WVal_pc hr2 ?_)
  try simp only [go_sem]
  cases h
  first | rfl | (simp only [go_sem]; done) | (simp only [go_sem]; rfl) | (simp [eName, eRegistry, eDefinition, eForest, eCustom, enames_span, eNode, eforest_trait, eAttr, eforest_key]; done)
noncomputable def P89 (a0 : List UInt8) (a1 : List UInt8) : Option (Int) :=
  (dec (D.int .i64) (pc prog 110 [.str a0, .str a1])).bind fun r1 =>
  some r1
theorem ok89 (a0 : List UInt8) (a1 : List UInt8) (r : Int) (h : P89 a0 a1 = some r) : pc prog 89 [.str a0, .str a1] = some ((D.int .i64) r) := by
  unfold P89 at h
  refine pc_of (fn := c89) rfl rfl ?_
  delta c89
  try simp only [go_sem]
  obtain ⟨r1, hr2, h⟩ := Option.bind_eq_some_iff.1 h
  replace hr2 := dec_some hr2
  first | refine WVal_pc hr2 ?_ | (simp only [eT2_eq, eT3_eq, eT4_eq, eT5_eq] at hr2; refine WVal_pc hr2 ?_)
  try simp only [go_sem]
  cases h
  first | rfl | (simp only [go_sem]; done) | (simp only [go_sem]; rfl) | (simp [eName, eRegistry, eDefinition, eForest, eCustom, enames_span, eNode, eforest_trait, eAttr, eforest_key]; done)
noncomputable def P90 (a0 : List UInt8) (a1 : List UInt8) : Option (List UInt8 × List UInt8 × Bool) :=
  (dec (D.int .i64) (pc prog 110 [.str a0, .str a1])).bind fun r1 =>
  if (decide (0 ≤ r1)) = true then
    (cut a0 (0) r1).bind fun y5 =>
    (cut a0 (IntKind.wrap .i64 (r1 + (a1.length : Int))) (a0.length : Int)).bind fun y7 =>
    some (y5, y7, true)
  else
    some (a0, [], false)
theorem ok90 (a0 : List UInt8) (a1 : List UInt8) (r : List UInt8 × List UInt8 × Bool) (h : P90 a0 a1 = some r) : pc prog 90 [.str a0, .str a1] = some ((eT3 D.str D.str D.bool) r) := by
  unfold P90 at h
  refine pc_of (fn := c90) rfl rfl ?_
  delta c90
  try simp only [go_sem]
  obtain ⟨r1, hr2, h⟩ := Option.bind_eq_some_iff.1 h
  replace hr2 := dec_some hr2
  first | refine WVal_pc hr2 ?_ | (simp only [eT2_eq, eT3_eq, eT4_eq, eT5_eq] at hr2; refine WVal_pc hr2 ?_)
  try simp only [go_sem]
  first | refine WBr_splitN (fun hc3 => ?_) (fun hc4 => ?_) | refine WBr_split (fun hc3 => ?_) (fun hc4 => ?_)
  · rw [if_pos (show (decide (0 ≤ r1)) = true by first | exact hc3 | (rw [hc3]; rfl) | simpa using hc3)] at h
    try simp only [go_sem]
    obtain ⟨y5, hy6, h⟩ := Option.bind_eq_some_iff.1 h
    refine WVal_sliceS (l := a0) (lo := none) (hi := (some r1)) (by simp only [go_sem, optI]; first | done | rfl | (split <;> rfl) | (split <;> split <;> rfl)) hy6 ?_
    try simp only [go_sem]
    obtain ⟨y7, hy8, h⟩ := Option.bind_eq_some_iff.1 h
    refine WVal_sliceS (l := a0) (lo := (some (IntKind.wrap .i64 (r1 + (a1.length : Int))))) (hi := none) (by simp only [go_sem, optI]; first | done | rfl | (split <;> rfl) | (split <;> split <;> rfl)) hy8 ?_
    try simp only [go_sem]
    cases h
    first | rfl | (simp only [go_sem]; done) | (simp only [go_sem]; rfl) | (simp [eName, eRegistry, eDefinition, eForest, eCustom, enames_span, eNode, eforest_trait, eAttr, eforest_key, hc3]; done)
  · rw [if_neg (show ¬ (decide (0 ≤ r1)) = true by first | (rw [hc4]; exact Bool.false_ne_true) | simpa using hc4 | (simp at hc4 ⊢; omega))] at h
    try simp only [go_sem]
    cases h
    first | rfl | (simp only [go_sem]; done) | (simp only [go_sem]; rfl) | (simp [eName, eRegistry, eDefinition, eForest, eCustom, enames_span, eNode, eforest_trait, eAttr, eforest_key, hc4]; done)
def L91_0_S (a0 : List UInt8) (a1 : Int) (q21 : Int × Int × Int) (x0 : Int × Int) : St := ⟨((((((Regs.none.set 0 (.d (.str a0))).set 1 (.d (.int .i64 a1))).set 7 (.d (.int .i64 q21.1))).set 8 (.d (.int .i64 x0.2))).set 9 (.d (.int .i64 q21.2.2))).set 10 (.d (.int .i64 x0.1))), (Heap.at 26)⟩
def L91_0_F (a0 : List UInt8) (a1 : Int) (q21 : Int × Int × Int) : ((Int) ⊕ (Unit)) → Ex × St := fun r => match r with
  | (.inl r) => (.exit 1, ⟨(((Regs.none.set 7 (.d (.int .i64 q21.1))).set 8 (.d (.int .i64 r))).set 9 (.d (.int .i64 q21.2.2))), (Heap.at 26)⟩)
  | (.inr r) => (.ret, ⟨((Regs.none.set 4 (.d (.int .i32 (0)))).set 5 (.d (.int .i64 (0)))), (Heap.at 26)⟩)
noncomputable def L91_0_step (a0 : List UInt8) (a1 : Int) (q21 : Int × Int × Int) (x0 : Int × Int) : Option ((Int × Int) ⊕ ((Int) ⊕ (Unit))) :=
  if (decide (x0.1 < q21.1)) = true then
    (rd a0 (IntKind.wrap .i64 (a1 + x0.1))).bind fun y26 =>
    if (bif (decide ((IntKind.wrap .i64 (y26.toNat : Int)) < 128)) then true else (decide (192 ≤ (IntKind.wrap .i64 (y26.toNat : Int))))) = true then
      some (.inr (.inr ()))
    else
      some (.inl ((IntKind.wrap .i64 (x0.1 + 1)), (IntKind.wrap .i64 ((IntKind.wrap .i64 ((IntKind.wrap .i64 (64 * x0.2)) + (IntKind.wrap .i64 (y26.toNat : Int)))) - 128))))
  else
    some (.inr (.inl x0.2))
theorem L91_0_ok (a0 : List UInt8) (a1 : Int) (q21 : Int × Int × Int) (x0 : Int × Int) (o : (Int × Int) ⊕ ((Int) ⊕ (Unit))) (h : L91_0_step a0 a1 q21 x0 = some o) : Wp prog c91B0 (L91_0_S a0 a1 q21 x0) (LPost 0 (L91_0_S a0 a1 q21) (L91_0_F a0 a1 q21) o) := by
  unfold L91_0_step at h
  delta c91B0 L91_0_S
  try simp only [go_sem]
  first | refine WBr_splitN (fun hc24 => ?_) (fun hc25 => ?_) | refine WBr_split (fun hc24 => ?_) (fun hc25 => ?_)
  · rw [if_pos (show (decide (x0.1 < q21.1)) = true by first | exact hc24 | (rw [hc24]; rfl) | simpa using hc24)] at h
    try simp only [go_sem]
    obtain ⟨y26, hy27, h⟩ := Option.bind_eq_some_iff.1 h
    try simp only [go_sem, rd_pos hy27, rd_ge hy27, rd_get hy27]
    refine WGuard_pure (v := .d (.int .i64 (IntKind.wrap .i64 (y26.toNat : Int)))) (fun hb31 => by skip; simp only [go_sem, rd_pos hy27, rd_ge hy27, rd_get hy27, hc24, hb31]) ?_
    try simp only [go_sem, rd_pos hy27, rd_ge hy27, rd_get hy27]
    refine WGuard_pure (v := .d (.bool (decide (192 ≤ (IntKind.wrap .i64 (y26.toNat : Int)))))) (fun hb30 => by skip; simp only [go_sem, rd_pos hy27, rd_ge hy27, rd_get hy27, hc24, hb30]) ?_
    try simp only [go_sem, rd_pos hy27, rd_ge hy27, rd_get hy27]
    first | refine WBr_splitN (fun hc28 => ?_) (fun hc29 => ?_) | refine WBr_split (fun hc28 => ?_) (fun hc29 => ?_)
    · rw [if_pos (show (bif (decide ((IntKind.wrap .i64 (y26.toNat : Int)) < 128)) then true else (decide (192 ≤ (IntKind.wrap .i64 (y26.toNat : Int))))) = true by first | exact hc28 | (rw [hc28]; rfl) | simpa using hc28)] at h
      try simp only [go_sem, rd_pos hy27, rd_ge hy27, rd_get hy27]
      cases h
      exact ⟨rfl, by simp, Up.of (N := 26) (N' := 44) [] rfl rfl (by decide) (.set (.d _) (.set (.d _) RegsR.none)) BlksR.at⟩
    · rw [if_neg (show ¬ (bif (decide ((IntKind.wrap .i64 (y26.toNat : Int)) < 128)) then true else (decide (192 ≤ (IntKind.wrap .i64 (y26.toNat : Int))))) = true by first | (rw [hc29]; exact Bool.false_ne_true) | simpa using hc29 | (simp at hc29 ⊢; omega))] at h
      try simp only [go_sem, rd_pos hy27, rd_ge hy27, rd_get hy27]
      cases h
      exact ⟨rfl, Up.of (N := 26) (N' := 51) [] rfl rfl (by decide) (.set (.d _) (.set (.d _) (.set (.d _) (.set (.d _) (.set (.d _) (.set (.d _) RegsR.none)))))) BlksR.at⟩
  · rw [if_neg (show ¬ (decide (x0.1 < q21.1)) = true by first | (rw [hc25]; exact Bool.false_ne_true) | simpa using hc25 | (simp at hc25 ⊢; omega))] at h
    try simp only [go_sem]
    cases h
    exact ⟨rfl, by simp, Up.of (N := 26) (N' := 29) [] rfl rfl (by decide) (.set (.d _) (.set (.d _) (.set (.d _) RegsR.none))) BlksR.at⟩
noncomputable def P91 (a0 : List UInt8) (a1 : Int) : Option (Int × Int) :=
  (rd a0 a1).bind fun y1 =>
  if (decide ((IntKind.wrap .i64 (y1.toNat : Int)) < 128)) = true then
    some ((IntKind.wrap .i32 (IntKind.wrap .i64 (y1.toNat : Int))), 1)
  else
    (if (bif (decide (194 ≤ (IntKind.wrap .i64 (y1.toNat : Int)))) then (decide ((IntKind.wrap .i64 (y1.toNat : Int)) < 224)) else false) = true then
      some (.inl (2, (IntKind.wrap .i64 ((IntKind.wrap .i64 (y1.toNat : Int)) - 192)), 128))
    else
      (if (bif (decide (224 ≤ (IntKind.wrap .i64 (y1.toNat : Int)))) then (decide ((IntKind.wrap .i64 (y1.toNat : Int)) < 240)) else false) = true then
        some (.inl (3, (IntKind.wrap .i64 ((IntKind.wrap .i64 (y1.toNat : Int)) - 224)), 2048))
      else
        if (bif (decide (240 ≤ (IntKind.wrap .i64 (y1.toNat : Int)))) then (decide ((IntKind.wrap .i64 (y1.toNat : Int)) < 245)) else false) = true then
          some (.inl (4, (IntKind.wrap .i64 ((IntKind.wrap .i64 (y1.toNat : Int)) - 240)), 65536))
        else
          some (.inr ()) : Option ((Int × Int × Int) ⊕ (Unit))).bind fun r13 =>
      match r13 with
      | (.inl q15) =>
        some (.inl (q15.1, q15.2.1, q15.2.2))
      | (.inr q16) =>
        some (.inr ()) : Option ((Int × Int × Int) ⊕ (Unit))).bind fun r19 =>
    match r19 with
    | (.inl q21) =>
      if (decide ((a0.length : Int) < (IntKind.wrap .i64 (a1 + q21.1)))) = true then
        some (0, 0)
      else
        (loopV (L91_0_step a0 a1 q21) (1, q21.2.1)).bind fun r32 =>
        match r32 with
        | (.inl q34) =>
          if (!(bif (decide (q34 < q21.2.2)) then true else (decide (1114111 < q34)))) = true then
            if (bif (decide (55296 ≤ q34)) then (decide (q34 ≤ 57343)) else false) = true then
              some (0, 0)
            else
              some ((IntKind.wrap .i32 q34), q21.1)
          else
            some (0, 0)
        | (.inr q50) =>
          some (0, 0)
    | (.inr q51) =>
      some (0, 0)
theorem ok91 (a0 : List UInt8) (a1 : Int) (r : Int × Int) (h : P91 a0 a1 = some r) : pc prog 91 [.str a0, .int .i64 a1] = some ((eT2 (D.int .i32) (D.int .i64)) r) := by
  unfold P91 at h
  refine pc_of (fn := c91) rfl rfl ?_
  delta c91
  try simp only [go_sem]
  obtain ⟨y1, hy2, h⟩ := Option.bind_eq_some_iff.1 h
  try simp only [go_sem, rd_pos hy2, rd_ge hy2, rd_get hy2]
  first | refine WBr_splitN (fun hc3 => ?_) (fun hc4 => ?_) | refine WBr_split (fun hc3 => ?_) (fun hc4 => ?_)
  · rw [if_pos (show (decide ((IntKind.wrap .i64 (y1.toNat : Int)) < 128)) = true by first | exact hc3 | (rw [hc3]; rfl) | simpa using hc3)] at h
    try simp only [go_sem, rd_pos hy2, rd_ge hy2, rd_get hy2]
    cases h
    first | rfl | (simp only [go_sem, rd_pos hy2, rd_ge hy2, rd_get hy2]; done) | (simp only [go_sem, rd_pos hy2, rd_ge hy2, rd_get hy2]; rfl) | (simp [eName, eRegistry, eDefinition, eForest, eCustom, enames_span, eNode, eforest_trait, eAttr, eforest_key, hc3]; done)
  · rw [if_neg (show ¬ (decide ((IntKind.wrap .i64 (y1.toNat : Int)) < 128)) = true by first | (rw [hc4]; exact Bool.false_ne_true) | simpa using hc4 | (simp at hc4 ⊢; omega))] at h
    try simp only [go_sem, rd_pos hy2, rd_ge hy2, rd_get hy2]
    refine WGuard_pure (v := .d (.int .i64 (IntKind.wrap .i64 (y1.toNat : Int)))) (fun hb53 => by skip; simp only [go_sem, rd_pos hy2, rd_ge hy2, rd_get hy2, hc4, hb53]) ?_
    try simp only [go_sem, rd_pos hy2, rd_ge hy2, rd_get hy2]
    refine WGuard_pure (v := .d (.bool (decide ((IntKind.wrap .i64 (y1.toNat : Int)) < 224)))) (fun hb52 => by skip; simp only [go_sem, rd_pos hy2, rd_ge hy2, rd_get hy2, hc4, hb52]) ?_
    try simp only [go_sem, rd_pos hy2, rd_ge hy2, rd_get hy2]
    obtain ⟨r19, hl20, h⟩ := Option.bind_eq_some_iff.1 h
    refine WBr.cut (n := 0) ((fun r => match r with   | (.inl r) => (.normal, ⟨(((((Regs.none.set 0 (.d (.str a0))).set 1 (.d (.int .i64 a1))).set 7 (.d (.int .i64 r.1))).set 8 (.d (.int .i64 r.2.1))).set 9 (.d (.int .i64 r.2.2))), (Heap.at 19)⟩)   | (.inr r) => (.ret, ⟨((Regs.none.set 4 (.d (.int .i32 (0)))).set 5 (.d (.int .i64 (0)))), (Heap.at 19)⟩) : ((Int × Int × Int) ⊕ (Unit)) → Ex × St) r19).1 ((fun r => match r with   | (.inl r) => (.normal, ⟨(((((Regs.none.set 0 (.d (.str a0))).set 1 (.d (.int .i64 a1))).set 7 (.d (.int .i64 r.1))).set 8 (.d (.int .i64 r.2.1))).set 9 (.d (.int .i64 r.2.2))), (Heap.at 19)⟩)   | (.inr r) => (.ret, ⟨((Regs.none.set 4 (.d (.int .i32 (0)))).set 5 (.d (.int .i64 (0)))), (Heap.at 19)⟩) : ((Int × Int × Int) ⊕ (Unit)) → Ex × St) r19).2 ?_ (by (repeat (first | refine Clo.block ?_ | refine Clo.seq locs rfl ?_)); (first | exact Clo.ret | exact Clo.lpost | exact Clo.cpost)) ?_
    · replace h := hl20
      first | refine WBr_splitN (fun hc5 => ?_) (fun hc6 => ?_) | refine WBr_split (fun hc5 => ?_) (fun hc6 => ?_)
      · rw [if_pos (show (bif (decide (194 ≤ (IntKind.wrap .i64 (y1.toNat : Int)))) then (decide ((IntKind.wrap .i64 (y1.toNat : Int)) < 224)) else false) = true by first | exact hc5 | (rw [hc5]; rfl) | simpa using hc5)] at h
        try simp only [go_sem, rd_pos hy2, rd_ge hy2, rd_get hy2]
        cases h
        exact ⟨rfl, Up.of (N := 19) (N' := 24) [] rfl rfl (by decide) (.set (.d _) (.set (.d _) (.set (.d _) (.set (.d _) (.set (.d _) RegsR.none))))) BlksR.at⟩
      · rw [if_neg (show ¬ (bif (decide (194 ≤ (IntKind.wrap .i64 (y1.toNat : Int)))) then (decide ((IntKind.wrap .i64 (y1.toNat : Int)) < 224)) else false) = true by first | (rw [hc6]; exact Bool.false_ne_true) | simpa using hc6 | (simp at hc6 ⊢; omega))] at h
        try simp only [go_sem, rd_pos hy2, rd_ge hy2, rd_get hy2]
        refine WGuard_pure (v := .d (.int .i64 (IntKind.wrap .i64 (y1.toNat : Int)))) (fun hb18 => by skip; simp only [go_sem, rd_pos hy2, rd_ge hy2, rd_get hy2, hc4, hc6, hb18]) ?_
        try simp only [go_sem, rd_pos hy2, rd_ge hy2, rd_get hy2]
        refine WGuard_pure (v := .d (.bool (decide ((IntKind.wrap .i64 (y1.toNat : Int)) < 240)))) (fun hb17 => by skip; simp only [go_sem, rd_pos hy2, rd_ge hy2, rd_get hy2, hc4, hc6, hb17]) ?_
        try simp only [go_sem, rd_pos hy2, rd_ge hy2, rd_get hy2]
        obtain ⟨r13, hl14, h⟩ := Option.bind_eq_some_iff.1 h
        refine WBr.cut (n := 0) ((fun r => match r with   | (.inl r) => (.normal, ⟨(((((Regs.none.set 0 (.d (.str a0))).set 1 (.d (.int .i64 a1))).set 7 (.d (.int .i64 r.1))).set 8 (.d (.int .i64 r.2.1))).set 9 (.d (.int .i64 r.2.2))), (Heap.at 26)⟩)   | (.inr r) => (.ret, ⟨((Regs.none.set 4 (.d (.int .i32 (0)))).set 5 (.d (.int .i64 (0)))), (Heap.at 26)⟩) : ((Int × Int × Int) ⊕ (Unit)) → Ex × St) r13).1 ((fun r => match r with   | (.inl r) => (.normal, ⟨(((((Regs.none.set 0 (.d (.str a0))).set 1 (.d (.int .i64 a1))).set 7 (.d (.int .i64 r.1))).set 8 (.d (.int .i64 r.2.1))).set 9 (.d (.int .i64 r.2.2))), (Heap.at 26)⟩)   | (.inr r) => (.ret, ⟨((Regs.none.set 4 (.d (.int .i32 (0)))).set 5 (.d (.int .i64 (0)))), (Heap.at 26)⟩) : ((Int × Int × Int) ⊕ (Unit)) → Ex × St) r13).2 ?_ (by (repeat (first | refine Clo.block ?_ | refine Clo.seq locs rfl ?_)); (first | exact Clo.ret | exact Clo.lpost | exact Clo.cpost)) ?_
        · replace h := hl14
          first | refine WBr_splitN (fun hc7 => ?_) (fun hc8 => ?_) | refine WBr_split (fun hc7 => ?_) (fun hc8 => ?_)
          · rw [if_pos (show (bif (decide (224 ≤ (IntKind.wrap .i64 (y1.toNat : Int)))) then (decide ((IntKind.wrap .i64 (y1.toNat : Int)) < 240)) else false) = true by first | exact hc7 | (rw [hc7]; rfl) | simpa using hc7)] at h
            try simp only [go_sem, rd_pos hy2, rd_ge hy2, rd_get hy2]
            cases h
            exact ⟨rfl, Up.of (N := 26) (N' := 31) [] rfl rfl (by decide) (.set (.d _) (.set (.d _) (.set (.d _) (.set (.d _) (.set (.d _) RegsR.none))))) BlksR.at⟩
          · rw [if_neg (show ¬ (bif (decide (224 ≤ (IntKind.wrap .i64 (y1.toNat : Int)))) then (decide ((IntKind.wrap .i64 (y1.toNat : Int)) < 240)) else false) = true by first | (rw [hc8]; exact Bool.false_ne_true) | simpa using hc8 | (simp at hc8 ⊢; omega))] at h
            try simp only [go_sem, rd_pos hy2, rd_ge hy2, rd_get hy2]
            refine WGuard_pure (v := .d (.int .i64 (IntKind.wrap .i64 (y1.toNat : Int)))) (fun hb12 => by skip; simp only [go_sem, rd_pos hy2, rd_ge hy2, rd_get hy2, hc4, hc6, hc8, hb12]) ?_
            try simp only [go_sem, rd_pos hy2, rd_ge hy2, rd_get hy2]
            refine WGuard_pure (v := .d (.bool (decide ((IntKind.wrap .i64 (y1.toNat : Int)) < 245)))) (fun hb11 => by skip; simp only [go_sem, rd_pos hy2, rd_ge hy2, rd_get hy2, hc4, hc6, hc8, hb11]) ?_
            try simp only [go_sem, rd_pos hy2, rd_ge hy2, rd_get hy2]
            first | refine WBr_splitN (fun hc9 => ?_) (fun hc10 => ?_) | refine WBr_split (fun hc9 => ?_) (fun hc10 => ?_)
            · rw [if_pos (show (bif (decide (240 ≤ (IntKind.wrap .i64 (y1.toNat : Int)))) then (decide ((IntKind.wrap .i64 (y1.toNat : Int)) < 245)) else false) = true by first | exact hc9 | (rw [hc9]; rfl) | simpa using hc9)] at h
              try simp only [go_sem, rd_pos hy2, rd_ge hy2, rd_get hy2]
              cases h
              exact ⟨rfl, Up.of (N := 26) (N' := 38) [] rfl rfl (by decide) (.set (.d _) (.set (.d _) (.set (.d _) (.set (.d _) (.set (.d _) RegsR.none))))) BlksR.at⟩
            · rw [if_neg (show ¬ (bif (decide (240 ≤ (IntKind.wrap .i64 (y1.toNat : Int)))) then (decide ((IntKind.wrap .i64 (y1.toNat : Int)) < 245)) else false) = true by first | (rw [hc10]; exact Bool.false_ne_true) | simpa using hc10 | (simp at hc10 ⊢; omega))] at h
              try simp only [go_sem, rd_pos hy2, rd_ge hy2, rd_get hy2]
              cases h
              exact ⟨rfl, Up.of (N := 26) (N' := 35) [] rfl rfl (by decide) (.set (.d _) (.set (.d _) RegsR.none)) BlksR.at⟩
        · rcases r13 with (q15 | q16)
          · dsimp only at h ⊢
            try simp only [go_sem, rd_pos hy2, rd_ge hy2, rd_get hy2]
            cases h
            exact ⟨rfl, Up.of (N := 19) (N' := 26) [] rfl rfl (by decide) (.set (.d _) (.set (.d _) (.set (.d _) (.set (.d _) (.set (.d _) RegsR.none))))) BlksR.at⟩
          · dsimp only at h ⊢
            try simp only [go_sem, rd_pos hy2, rd_ge hy2, rd_get hy2]
            cases h
            exact ⟨rfl, Up.of (N := 19) (N' := 26) [] rfl rfl (by decide) (.set (.d _) (.set (.d _) RegsR.none)) BlksR.at⟩
    · rcases r19 with (q21 | q51)
      · dsimp only at h ⊢
        try simp only [go_sem, rd_pos hy2, rd_ge hy2, rd_get hy2]
        first | refine WBr_splitN (fun hc22 => ?_) (fun hc23 => ?_) | refine WBr_split (fun hc22 => ?_) (fun hc23 => ?_)
        · rw [if_pos (show (decide ((a0.length : Int) < (IntKind.wrap .i64 (a1 + q21.1)))) = true by first | exact hc22 | (rw [hc22]; rfl) | simpa using hc22)] at h
          try simp only [go_sem, rd_pos hy2, rd_ge hy2, rd_get hy2]
          cases h
          first | rfl | (simp only [go_sem, rd_pos hy2, rd_ge hy2, rd_get hy2]; done) | (simp only [go_sem, rd_pos hy2, rd_ge hy2, rd_get hy2]; rfl) | (simp [eName, eRegistry, eDefinition, eForest, eCustom, enames_span, eNode, eforest_trait, eAttr, eforest_key, hc4, hc22]; done)
        · rw [if_neg (show ¬ (decide ((a0.length : Int) < (IntKind.wrap .i64 (a1 + q21.1)))) = true by first | (rw [hc23]; exact Bool.false_ne_true) | simpa using hc23 | (simp at hc23 ⊢; omega))] at h
          try simp only [go_sem, rd_pos hy2, rd_ge hy2, rd_get hy2]
          obtain ⟨r32, hl33, h⟩ := Option.bind_eq_some_iff.1 h
          refine Wp.loopR locs (n := 0) (a := c91B0) rfl (L91_0_S a0 a1 q21) (L91_0_F a0 a1 q21) (L91_0_ok a0 a1 q21) hl33 ?_ (by (repeat (first | refine Clo.block ?_ | refine Clo.seq locs rfl ?_)); (first | exact Clo.ret | exact Clo.lpost | exact Clo.cpost)) ?_
          · show Up 0 (L91_0_S a0 a1 q21 (1, q21.2.1)) _
            delta L91_0_S
            exact Up.of (N := 26) (N' := 26) [] rfl rfl (by decide) (.set (.d _) (.set (.d _) (.set (.d _) (.set (.d _) (.set (.d _) (.set (.d _) RegsR.none)))))) BlksR.at
          · rcases r32 with (q34 | q50)
            · dsimp only at h
              dsimp only [L91_0_F]
              try simp only [go_sem, rd_pos hy2, rd_ge hy2, rd_get hy2]
              refine WGuard_pure (v := .d (.int .i64 q34)) (fun hb49 => by skip; simp only [go_sem, rd_pos hy2, rd_ge hy2, rd_get hy2, hc4, hc23, hb49]) ?_
              try simp only [go_sem, rd_pos hy2, rd_ge hy2, rd_get hy2]
              refine WGuard_pure (v := .d (.bool (decide (1114111 < q34)))) (fun hb48 => by skip; simp only [go_sem, rd_pos hy2, rd_ge hy2, rd_get hy2, hc4, hc23, hb48]) ?_
              try simp only [go_sem, rd_pos hy2, rd_ge hy2, rd_get hy2]
              refine WGuard_pure (v := .d (.int .i64 q34)) (fun hb47 => by skip; simp only [go_sem, rd_pos hy2, rd_ge hy2, rd_get hy2, hc4, hc23, hb47]) ?_
              try simp only [go_sem, rd_pos hy2, rd_ge hy2, rd_get hy2]
              refine WGuard_pure (v := .d (.bool (decide (55296 ≤ q34)))) (fun hb46 => by skip; simp only [go_sem, rd_pos hy2, rd_ge hy2, rd_get hy2, hc4, hc23, hb46]) ?_
              try simp only [go_sem, rd_pos hy2, rd_ge hy2, rd_get hy2]
              refine WGuard_pure (v := .d (.bool (decide (55296 ≤ q34)))) (fun hb45 => by skip; simp only [go_sem, rd_pos hy2, rd_ge hy2, rd_get hy2, hc4, hc23, hb45]) ?_
              try simp only [go_sem, rd_pos hy2, rd_ge hy2, rd_get hy2]
              refine WGuard_pure (v := .d (.int .i64 q34)) (fun hb42 => by ((obtain ⟨hb43, hb44⟩ := bif_true hb42)); simp only [go_sem, rd_pos hy2, rd_ge hy2, rd_get hy2, hc4, hc23, hb44, hb43]) ?_
              try simp only [go_sem, rd_pos hy2, rd_ge hy2, rd_get hy2]
              refine WGuard_pure (v := .d (.bool (decide (q34 ≤ 57343)))) (fun hb39 => by ((obtain ⟨hb40, hb41⟩ := bif_true hb39)); simp only [go_sem, rd_pos hy2, rd_ge hy2, rd_get hy2, hc4, hc23, hb41, hb40]) ?_
              try simp only [go_sem, rd_pos hy2, rd_ge hy2, rd_get hy2]
              first | refine WGuard_splitN (fun hc35 => ?_) (fun hc36 => ?_) | refine WGuard_split (fun hc35 => ?_) (fun hc36 => ?_)
              · rw [if_pos (show (!(bif (decide (q34 < q21.2.2)) then true else (decide (1114111 < q34)))) = true by first | exact hc35 | (rw [hc35]; rfl) | simpa using hc35)] at h
                try simp only [go_sem, rd_pos hy2, rd_ge hy2, rd_get hy2, hc35]
                first | refine WBr_splitN (fun hc37 => ?_) (fun hc38 => ?_) | refine WBr_split (fun hc37 => ?_) (fun hc38 => ?_)
                · rw [if_pos (show (bif (decide (55296 ≤ q34)) then (decide (q34 ≤ 57343)) else false) = true by first | exact hc37 | (rw [hc37]; rfl) | simpa using hc37)] at h
                  try simp only [go_sem, rd_pos hy2, rd_ge hy2, rd_get hy2]
                  cases h
                  first | rfl | (simp only [go_sem, rd_pos hy2, rd_ge hy2, rd_get hy2]; done) | (simp only [go_sem, rd_pos hy2, rd_ge hy2, rd_get hy2]; rfl) | (simp [eName, eRegistry, eDefinition, eForest, eCustom, enames_span, eNode, eforest_trait, eAttr, eforest_key, hc4, hc23, hc35, hc37]; done)
                · rw [if_neg (show ¬ (bif (decide (55296 ≤ q34)) then (decide (q34 ≤ 57343)) else false) = true by first | (rw [hc38]; exact Bool.false_ne_true) | simpa using hc38 | (simp at hc38 ⊢; omega))] at h
                  try simp only [go_sem, rd_pos hy2, rd_ge hy2, rd_get hy2]
                  cases h
                  first | rfl | (simp only [go_sem, rd_pos hy2, rd_ge hy2, rd_get hy2]; done) | (simp only [go_sem, rd_pos hy2, rd_ge hy2, rd_get hy2]; rfl) | (simp [eName, eRegistry, eDefinition, eForest, eCustom, enames_span, eNode, eforest_trait, eAttr, eforest_key, hc4, hc23, hc35, hc38]; done)
              · rw [if_neg (show ¬ (!(bif (decide (q34 < q21.2.2)) then true else (decide (1114111 < q34)))) = true by first | (rw [hc36]; exact Bool.false_ne_true) | simpa using hc36 | (simp at hc36 ⊢; omega))] at h
                try simp only [go_sem, rd_pos hy2, rd_ge hy2, rd_get hy2, hc36]
                cases h
                first | rfl | (simp only [go_sem, rd_pos hy2, rd_ge hy2, rd_get hy2]; done) | (simp only [go_sem, rd_pos hy2, rd_ge hy2, rd_get hy2]; rfl) | (simp [eName, eRegistry, eDefinition, eForest, eCustom, enames_span, eNode, eforest_trait, eAttr, eforest_key, hc4, hc23, hc36]; done)
            · dsimp only at h
              dsimp only [L91_0_F]
              try simp only [go_sem, rd_pos hy2, rd_ge hy2, rd_get hy2]
              cases h
              first | rfl | (simp only [go_sem, rd_pos hy2, rd_ge hy2, rd_get hy2]; done) | (simp only [go_sem, rd_pos hy2, rd_ge hy2, rd_get hy2]; rfl) | (simp [eName, eRegistry, eDefinition, eForest, eCustom, enames_span, eNode, eforest_trait, eAttr, eforest_key, hc4, hc23]; done)
      · dsimp only at h ⊢
        try simp only [go_sem, rd_pos hy2, rd_ge hy2, rd_get hy2]
        cases h
        first | rfl | (simp only [go_sem, rd_pos hy2, rd_ge hy2, rd_get hy2]; done) | (simp only [go_sem, rd_pos hy2, rd_ge hy2, rd_get hy2]; rfl) | (simp [eName, eRegistry, eDefinition, eForest, eCustom, enames_span, eNode, eforest_trait, eAttr, eforest_key, hc4]; done)
def L92_0_S (a0 : Sl (List UInt8)) (a1 : List UInt8) (x0 : Int) : St := ⟨((((Regs.none.set 0 (.d (.list a0.n (a0.l.map D.str)))).set 1 (.d (.str a1))).set 7 (.d (.int .i64 (a0.l.length : Int)))).set 8 (.d (.int .i64 x0))), (Heap.at 4)⟩
def L92_0_F (a0 : Sl (List UInt8)) (a1 : List UInt8) : ((Unit) ⊕ (Int)) → Ex × St := fun r => match r with
  | (.inl r) => (.exit 0, ⟨Regs.none, (Heap.at 4)⟩)
  | (.inr r) => (.ret, ⟨(Regs.none.set 4 (.d (.int .i64 r))), (Heap.at 4)⟩)
noncomputable def L92_0_step (a0 : Sl (List UInt8)) (a1 : List UInt8) (x0 : Int) : Option ((Int) ⊕ ((Unit) ⊕ (Int))) :=
  if (decide (x0 < (a0.l.length : Int))) = true then
    (rd a0.l x0).bind fun y3 =>
    if (a1 == y3) = true then
      some (.inr (.inr x0))
    else
      some (.inl (IntKind.wrap .i64 (x0 + 1)))
  else
    some (.inr (.inl ()))
theorem L92_0_ok (a0 : Sl (List UInt8)) (a1 : List UInt8) (x0 : Int) (o : (Int) ⊕ ((Unit) ⊕ (Int))) (h : L92_0_step a0 a1 x0 = some o) : Wp prog c92B0 (L92_0_S a0 a1 x0) (LPost 0 (L92_0_S a0 a1) (L92_0_F a0 a1) o) := by
  unfold L92_0_step at h
  delta c92B0 L92_0_S
  try simp only [go_sem]
  first | refine WBr_splitN (fun hc1 => ?_) (fun hc2 => ?_) | refine WBr_split (fun hc1 => ?_) (fun hc2 => ?_)
  · rw [if_pos (show (decide (x0 < (a0.l.length : Int))) = true by first | exact hc1 | (rw [hc1]; rfl) | simpa using hc1)] at h
    try simp only [go_sem]
    obtain ⟨y3, hy4, h⟩ := Option.bind_eq_some_iff.1 h
    try simp only [go_sem, rd_pos hy4, rd_ge hy4, rd_map D.str hy4]
    first | refine WBr_splitN (fun hc5 => ?_) (fun hc6 => ?_) | refine WBr_split (fun hc5 => ?_) (fun hc6 => ?_)
    · rw [if_pos (show (a1 == y3) = true by first | exact hc5 | (rw [hc5]; rfl) | simpa using hc5)] at h
      try simp only [go_sem, rd_pos hy4, rd_ge hy4, rd_map D.str hy4]
      cases h
      exact ⟨rfl, by simp, Up.of (N := 4) (N' := 15) [] rfl rfl (by decide) (.set (.d _) RegsR.none) BlksR.at⟩
    · rw [if_neg (show ¬ (a1 == y3) = true by first | (rw [hc6]; exact Bool.false_ne_true) | simpa using hc6 | (simp at hc6 ⊢; omega))] at h
      try simp only [go_sem, rd_pos hy4, rd_ge hy4, rd_map D.str hy4]
      cases h
      exact ⟨rfl, Up.of (N := 4) (N' := 15) [] rfl rfl (by decide) (.set (.d _) (.set (.d _) (.set (.d _) (.set (.d _) RegsR.none)))) BlksR.at⟩
  · rw [if_neg (show ¬ (decide (x0 < (a0.l.length : Int))) = true by first | (rw [hc2]; exact Bool.false_ne_true) | simpa using hc2 | (simp at hc2 ⊢; omega))] at h
    try simp only [go_sem]
    cases h
    exact ⟨rfl, by simp, Up.of (N := 4) (N' := 5) [] rfl rfl (by decide) RegsR.none BlksR.at⟩
noncomputable def P92 (a0 : Sl (List UInt8)) (a1 : List UInt8) : Option (Int) :=
  (loopV (L92_0_step a0 a1) 0).bind fun r7 =>
  match r7 with
  | (.inl q9) =>
    some (-1)
  | (.inr q10) =>
    some q10
theorem ok92 (a0 : Sl (List UInt8)) (a1 : List UInt8) (r : Int) (h : P92 a0 a1 = some r) : pc prog 92 [.list a0.n (a0.l.map D.str), .str a1] = some ((D.int .i64) r) := by
  unfold P92 at h
  refine pc_of (fn := c92) rfl rfl ?_
  delta c92
  try simp only [go_sem]
  obtain ⟨r7, hl8, h⟩ := Option.bind_eq_some_iff.1 h
  refine Wp.loopR locs (n := 0) (a := c92B0) rfl (L92_0_S a0 a1) (L92_0_F a0 a1) (L92_0_ok a0 a1) hl8 ?_ (by (repeat (first | refine Clo.block ?_ | refine Clo.seq locs rfl ?_)); (first | exact Clo.ret | exact Clo.lpost | exact Clo.cpost)) ?_
  · show Up 0 (L92_0_S a0 a1 0) _
    delta L92_0_S
    exact Up.of (N := 4) (N' := 4) [] rfl rfl (by decide) (.set (.d _) (.set (.d _) (.set (.d _) (.set (.d _) RegsR.none)))) BlksR.at
  · rcases r7 with (q9 | q10)
    · dsimp only at h
      dsimp only [L92_0_F]
      try simp only [go_sem]
      cases h
      first | rfl | (simp only [go_sem]; done) | (simp only [go_sem]; rfl) | (simp [eName, eRegistry, eDefinition, eForest, eCustom, enames_span, eNode, eforest_trait, eAttr, eforest_key]; done)
    · dsimp only at h
      dsimp only [L92_0_F]
      try simp only [go_sem]
      cases h
      first | rfl | (simp only [go_sem]; done) | (simp only [go_sem]; rfl) | (simp [eName, eRegistry, eDefinition, eForest, eCustom, enames_span, eNode, eforest_trait, eAttr, eforest_key]; done)
end Go.Proofs.YtejglgffianhgaaDoor.N
