/- Shaken copy of a longer text: what one law needs. Its conditions: none. -/
import Derived.Test.YtfleilibjdgcjaaZAiE
set_option linter.unusedSimpArgs false
set_option linter.unusedVariables false
namespace Go.Proofs.Ytfleilibjdgcjaa.O
open Go.AI
structure Name where
  space : List UInt8
  prefix_ : List UInt8
  local_ : List UInt8
  deriving DecidableEq, Inhabited
def Name.zero : Name := ⟨[], [], []⟩
def eName (x : Name) : D := .agg [.str x.space, .str x.prefix_, .str x.local_]
def tyName : Ty := .agg [.str, .str, .str]
def Name.ok (x : Name) : Prop := x.space.length ≤ maxLen ∧ x.prefix_.length ≤ maxLen ∧ x.local_.length ≤ maxLen
theorem eName_len (x : Name) : (eName x).cells.length = 3 := Eq.trans rfl rfl
theorem eName_all (x : Name) : D.sub (eName x) 0 (some 3) = some (eName x) := rfl
theorem eName_space (x : Name) : D.sub (eName x) 0 none = some (.str x.space) := rfl
theorem eName_prefix_ (x : Name) : D.sub (eName x) 1 none = some (.str x.prefix_) := rfl
theorem eName_local_ (x : Name) : D.sub (eName x) 2 none = some (.str x.local_) := rfl
theorem eName_eql (x y : Name) : binV .eql (.agg [.str, .str, .str]) (.d (eName x)) (.d (eName y)) = some (.d (.bool (decide (x = y)))) := by
  refine eql_of ?_
  simp only [eqV, eName, cellsEq, cellEq, if_true, Option.bind_some, Option.map_some]
  congr 1
  rw [Bool.eq_iff_iff]; rcases x with ⟨a1, a2, a3⟩; rcases y with ⟨b1, b2, b3⟩; simp [and_assoc]
theorem eName_eqlR (x : Name) (y0 : List UInt8) (y1 : List UInt8) (y2 : List UInt8) : binV .eql (.agg [.str, .str, .str]) (.d (eName x)) (.d (.agg [.str y0, .str y1, .str y2])) = some (.d (.bool (decide (x = ⟨y0, y1, y2⟩)))) := eName_eql x ⟨y0, y1, y2⟩
attribute [go_sem] eName_len eName_all eName_space eName_prefix_ eName_local_ eName_eql eName_eqlR
theorem Name.of {d : D} (h : HasTy tyName d) : ∃ x : Name, d = eName x ∧ Name.ok x := by
  obtain ⟨xs, rfl, hl, hx⟩ := h.agg_inv
  match xs, hl with
  | [x0, x1, x2], _ =>
    obtain ⟨y0, rfl, k0⟩ := HasTy.str_inv (hx 0 _ _ rfl rfl)
    obtain ⟨y1, rfl, k1⟩ := HasTy.str_inv (hx 1 _ _ rfl rfl)
    obtain ⟨y2, rfl, k2⟩ := HasTy.str_inv (hx 2 _ _ rfl rfl)
    exact ⟨⟨y0, y1, y2⟩, rfl, ⟨k0, k1, k2⟩⟩
structure Attr where
  name : Name
  value : List UInt8
  deriving DecidableEq, Inhabited
def Attr.zero : Attr := ⟨Name.zero, []⟩
def eAttr (x : Attr) : D := .agg [.str x.name.space, .str x.name.prefix_, .str x.name.local_, .str x.value]
def tyAttr : Ty := .agg [.str, .str, .str, .str]
def Attr.ok (x : Attr) : Prop := Name.ok x.name ∧ x.value.length ≤ maxLen
theorem eAttr_len (x : Attr) : (eAttr x).cells.length = 4 := Eq.trans rfl rfl
theorem eAttr_all (x : Attr) : D.sub (eAttr x) 0 (some 4) = some (eAttr x) := rfl
theorem eAttr_updall (x : Attr) (cs : List D) (h : cs.length = 4) : V.upd (.d (.agg cs)) 0 4 (.d (eAttr x)) = some (.d (eAttr x)) := upd_all (by simpa using h) rfl (by decide) rfl
theorem eAttr_name (x : Attr) : D.sub (eAttr x) 0 (some 3) = some (eName x.name) := rfl
theorem eAttr_name_space (x : Attr) : D.sub (eAttr x) 0 none = some (.str x.name.space) := rfl
theorem eAttr_name_prefix_ (x : Attr) : D.sub (eAttr x) 1 none = some (.str x.name.prefix_) := rfl
theorem eAttr_name_local_ (x : Attr) : D.sub (eAttr x) 2 none = some (.str x.name.local_) := rfl
theorem eAttr_value (x : Attr) : D.sub (eAttr x) 3 none = some (.str x.value) := rfl
attribute [go_sem] eAttr_len eAttr_all eAttr_updall eAttr_name eAttr_name_space eAttr_name_prefix_ eAttr_name_local_ eAttr_value
theorem Attr.of {d : D} (h : HasTy tyAttr d) : ∃ x : Attr, d = eAttr x ∧ Attr.ok x := by
  obtain ⟨xs, rfl, hl, hx⟩ := h.agg_inv
  match xs, hl with
  | [x0, x1, x2, x3], _ =>
    obtain ⟨y0, rfl, k0⟩ := HasTy.str_inv (hx 0 _ _ rfl rfl)
    obtain ⟨y1, rfl, k1⟩ := HasTy.str_inv (hx 1 _ _ rfl rfl)
    obtain ⟨y2, rfl, k2⟩ := HasTy.str_inv (hx 2 _ _ rfl rfl)
    obtain ⟨y3, rfl, k3⟩ := HasTy.str_inv (hx 3 _ _ rfl rfl)
    exact ⟨⟨⟨y0, y1, y2⟩, y3⟩, rfl, ⟨⟨k0, k1, k2⟩, k3⟩⟩
structure Node where
  kind : Int
  name : Name
  public_ : List UInt8
  system : List UInt8
  data : Sl (Int)
  attrs : Sl (Attr)
  parent : Int
  kids : Sl (Int)
  doc : Int
  host : Int
  shadow : Int
  mode : Int
  manual : Bool
  hTML : Bool
  deriving DecidableEq, Inhabited
def Node.zero : Node := ⟨0, Name.zero, [], [], ⟨true, []⟩, ⟨true, []⟩, 0, ⟨true, []⟩, 0, 0, 0, 0, false, false⟩
def eNode (x : Node) : D := .agg [.int .u8 x.kind, .str x.name.space, .str x.name.prefix_, .str x.name.local_, .str x.public_, .str x.system, .list x.data.n (x.data.l.map (D.int .u16)), .list x.attrs.n (x.attrs.l.map eAttr), .int .i64 x.parent, .list x.kids.n (x.kids.l.map (D.int .i64)), .int .i64 x.doc, .int .i64 x.host, .int .i64 x.shadow, .int .u8 x.mode, .bool x.manual, .bool x.hTML]
def tyNode : Ty := .agg [.int .u8, .str, .str, .str, .str, .str, .list (.int .u16), .list (tyAttr), .int .i64, .list (.int .i64), .int .i64, .int .i64, .int .i64, .int .u8, .bool, .bool]
def Node.ok (x : Node) : Prop := (IntKind.u8.min ≤ x.kind ∧ x.kind ≤ IntKind.u8.max) ∧ Name.ok x.name ∧ x.public_.length ≤ maxLen ∧ x.system.length ≤ maxLen ∧ Sl.ok (fun y => (IntKind.u16.min ≤ y ∧ y ≤ IntKind.u16.max)) x.data ∧ Sl.ok (fun y => Attr.ok y) x.attrs ∧ (IntKind.i64.min ≤ x.parent ∧ x.parent ≤ IntKind.i64.max) ∧ Sl.ok (fun y => (IntKind.i64.min ≤ y ∧ y ≤ IntKind.i64.max)) x.kids ∧ (IntKind.i64.min ≤ x.doc ∧ x.doc ≤ IntKind.i64.max) ∧ (IntKind.i64.min ≤ x.host ∧ x.host ≤ IntKind.i64.max) ∧ (IntKind.i64.min ≤ x.shadow ∧ x.shadow ≤ IntKind.i64.max) ∧ (IntKind.u8.min ≤ x.mode ∧ x.mode ≤ IntKind.u8.max) ∧ True ∧ True
theorem eNode_len (x : Node) : (eNode x).cells.length = 16 := Eq.trans rfl rfl
theorem eNode_all (x : Node) : D.sub (eNode x) 0 (some 16) = some (eNode x) := rfl
theorem eNode_fld (x : Node) (i : Nat) (m : Option Nat) : V.fld i m (.d (eNode x)) = (D.sub (eNode x) i m).map .d := sub_d _ _ _
theorem eNode_updall (x : Node) (cs : List D) (h : cs.length = 16) : V.upd (.d (.agg cs)) 0 16 (.d (eNode x)) = some (.d (eNode x)) := upd_all (by simpa using h) rfl (by decide) rfl
theorem eNode_kind (x : Node) : D.sub (eNode x) 0 none = some (.int .u8 x.kind) := rfl
theorem eNode_name (x : Node) : D.sub (eNode x) 1 (some 3) = some (eName x.name) := rfl
theorem eNode_name_space (x : Node) : D.sub (eNode x) 1 none = some (.str x.name.space) := rfl
theorem eNode_name_prefix_ (x : Node) : D.sub (eNode x) 2 none = some (.str x.name.prefix_) := rfl
theorem eNode_name_local_ (x : Node) : D.sub (eNode x) 3 none = some (.str x.name.local_) := rfl
theorem eNode_public_ (x : Node) : D.sub (eNode x) 4 none = some (.str x.public_) := rfl
theorem eNode_system (x : Node) : D.sub (eNode x) 5 none = some (.str x.system) := rfl
theorem eNode_data (x : Node) : D.sub (eNode x) 6 none = some (.list x.data.n (x.data.l.map (D.int .u16))) := rfl
theorem eNode_attrs (x : Node) : D.sub (eNode x) 7 none = some (.list x.attrs.n (x.attrs.l.map eAttr)) := rfl
theorem eNode_parent (x : Node) : D.sub (eNode x) 8 none = some (.int .i64 x.parent) := rfl
theorem eNode_kids (x : Node) : D.sub (eNode x) 9 none = some (.list x.kids.n (x.kids.l.map (D.int .i64))) := rfl
theorem eNode_doc (x : Node) : D.sub (eNode x) 10 none = some (.int .i64 x.doc) := rfl
theorem eNode_host (x : Node) : D.sub (eNode x) 11 none = some (.int .i64 x.host) := rfl
theorem eNode_shadow (x : Node) : D.sub (eNode x) 12 none = some (.int .i64 x.shadow) := rfl
theorem eNode_mode (x : Node) : D.sub (eNode x) 13 none = some (.int .u8 x.mode) := rfl
theorem eNode_manual (x : Node) : D.sub (eNode x) 14 none = some (.bool x.manual) := rfl
theorem eNode_hTML (x : Node) : D.sub (eNode x) 15 none = some (.bool x.hTML) := rfl
attribute [go_sem] eNode_len eNode_all eNode_fld eNode_updall eNode_kind eNode_name eNode_name_space eNode_name_prefix_ eNode_name_local_ eNode_public_ eNode_system eNode_data eNode_attrs eNode_parent eNode_kids eNode_doc eNode_host eNode_shadow eNode_mode eNode_manual eNode_hTML
theorem Node.of {d : D} (h : HasTy tyNode d) : ∃ x : Node, d = eNode x ∧ Node.ok x := by
  obtain ⟨xs, rfl, hl, hx⟩ := h.agg_inv
  match xs, hl with
  | [x0, x1, x2, x3, x4, x5, x6, x7, x8, x9, x10, x11, x12, x13, x14, x15], _ =>
    obtain ⟨y0, rfl, k0⟩ := HasTy.int_inv (hx 0 _ _ rfl rfl)
    obtain ⟨y1, rfl, k1⟩ := HasTy.str_inv (hx 1 _ _ rfl rfl)
    obtain ⟨y2, rfl, k2⟩ := HasTy.str_inv (hx 2 _ _ rfl rfl)
    obtain ⟨y3, rfl, k3⟩ := HasTy.str_inv (hx 3 _ _ rfl rfl)
    obtain ⟨y4, rfl, k4⟩ := HasTy.str_inv (hx 4 _ _ rfl rfl)
    obtain ⟨y5, rfl, k5⟩ := HasTy.str_inv (hx 5 _ _ rfl rfl)
    obtain ⟨y6, rfl, k6⟩ := (HasTy.sl_inv (fun _ h => HasTy.int_inv h)) (hx 6 _ _ rfl rfl)
    obtain ⟨y7, rfl, k7⟩ := (HasTy.sl_inv (fun _ h => Attr.of h)) (hx 7 _ _ rfl rfl)
    obtain ⟨y8, rfl, k8⟩ := HasTy.int_inv (hx 8 _ _ rfl rfl)
    obtain ⟨y9, rfl, k9⟩ := (HasTy.sl_inv (fun _ h => HasTy.int_inv h)) (hx 9 _ _ rfl rfl)
    obtain ⟨y10, rfl, k10⟩ := HasTy.int_inv (hx 10 _ _ rfl rfl)
    obtain ⟨y11, rfl, k11⟩ := HasTy.int_inv (hx 11 _ _ rfl rfl)
    obtain ⟨y12, rfl, k12⟩ := HasTy.int_inv (hx 12 _ _ rfl rfl)
    obtain ⟨y13, rfl, k13⟩ := HasTy.int_inv (hx 13 _ _ rfl rfl)
    obtain ⟨y14, rfl, k14⟩ := HasTy.bool_inv (hx 14 _ _ rfl rfl)
    obtain ⟨y15, rfl, k15⟩ := HasTy.bool_inv (hx 15 _ _ rfl rfl)
    exact ⟨⟨y0, ⟨y1, y2, y3⟩, y4, y5, y6, y7, y8, y9, y10, y11, y12, y13, y14, y15⟩, rfl, ⟨k0, ⟨k1, k2, k3⟩, k4, k5, k6, k7, k8, k9, k10, k11, k12, k13, k14, k15⟩⟩
structure Forest where
  nodes : Sl (Node)
  deriving DecidableEq, Inhabited
def Forest.zero : Forest := ⟨⟨true, []⟩⟩
def eForest (x : Forest) : D := .agg [.list x.nodes.n (x.nodes.l.map eNode)]
def tyForest : Ty := .agg [.list (tyNode)]
def Forest.ok (x : Forest) : Prop := Sl.ok (fun y => Node.ok y) x.nodes
theorem eForest_len (x : Forest) : (eForest x).cells.length = 1 := Eq.trans rfl rfl
theorem eForest_all (x : Forest) : D.sub (eForest x) 0 (some 1) = some (eForest x) := rfl
theorem eForest_nodes (x : Forest) : D.sub (eForest x) 0 none = some (.list x.nodes.n (x.nodes.l.map eNode)) := rfl
attribute [go_sem] eForest_len eForest_all eForest_nodes
theorem Forest.of {d : D} (h : HasTy tyForest d) : ∃ x : Forest, d = eForest x ∧ Forest.ok x := by
  obtain ⟨xs, rfl, hl, hx⟩ := h.agg_inv
  match xs, hl with
  | [x0], _ =>
    obtain ⟨y0, rfl, k0⟩ := (HasTy.sl_inv (fun _ h => Node.of h)) (hx 0 _ _ rfl rfl)
    exact ⟨⟨y0⟩, rfl, k0⟩
structure Change where
  kind : Int
  node : Int
  parent : Int
  index : Int
  other : Int
  doc : Int
  offset : Int
  count : Int
  data : Sl (Int)
  name : Name
  old : List UInt8
  value : List UInt8
  had : Bool
  has : Bool
  made : Node
  added : Sl (Int)
  removed : Sl (Int)
  prev : Int
  next : Int
  deriving DecidableEq, Inhabited
def Change.zero : Change := ⟨0, 0, 0, 0, 0, 0, 0, 0, ⟨true, []⟩, Name.zero, [], [], false, false, Node.zero, ⟨true, []⟩, ⟨true, []⟩, 0, 0⟩
def eChange (x : Change) : D := .agg [.int .u8 x.kind, .int .i64 x.node, .int .i64 x.parent, .int .i64 x.index, .int .i64 x.other, .int .i64 x.doc, .int .i64 x.offset, .int .i64 x.count, .list x.data.n (x.data.l.map (D.int .u16)), .str x.name.space, .str x.name.prefix_, .str x.name.local_, .str x.old, .str x.value, .bool x.had, .bool x.has, .int .u8 x.made.kind, .str x.made.name.space, .str x.made.name.prefix_, .str x.made.name.local_, .str x.made.public_, .str x.made.system, .list x.made.data.n (x.made.data.l.map (D.int .u16)), .list x.made.attrs.n (x.made.attrs.l.map eAttr), .int .i64 x.made.parent, .list x.made.kids.n (x.made.kids.l.map (D.int .i64)), .int .i64 x.made.doc, .int .i64 x.made.host, .int .i64 x.made.shadow, .int .u8 x.made.mode, .bool x.made.manual, .bool x.made.hTML, .list x.added.n (x.added.l.map (D.int .i64)), .list x.removed.n (x.removed.l.map (D.int .i64)), .int .i64 x.prev, .int .i64 x.next]
def Change.ok (x : Change) : Prop := (IntKind.u8.min ≤ x.kind ∧ x.kind ≤ IntKind.u8.max) ∧ (IntKind.i64.min ≤ x.node ∧ x.node ≤ IntKind.i64.max) ∧ (IntKind.i64.min ≤ x.parent ∧ x.parent ≤ IntKind.i64.max) ∧ (IntKind.i64.min ≤ x.index ∧ x.index ≤ IntKind.i64.max) ∧ (IntKind.i64.min ≤ x.other ∧ x.other ≤ IntKind.i64.max) ∧ (IntKind.i64.min ≤ x.doc ∧ x.doc ≤ IntKind.i64.max) ∧ (IntKind.i64.min ≤ x.offset ∧ x.offset ≤ IntKind.i64.max) ∧ (IntKind.i64.min ≤ x.count ∧ x.count ≤ IntKind.i64.max) ∧ Sl.ok (fun y => (IntKind.u16.min ≤ y ∧ y ≤ IntKind.u16.max)) x.data ∧ Name.ok x.name ∧ x.old.length ≤ maxLen ∧ x.value.length ≤ maxLen ∧ True ∧ True ∧ Node.ok x.made ∧ Sl.ok (fun y => (IntKind.i64.min ≤ y ∧ y ≤ IntKind.i64.max)) x.added ∧ Sl.ok (fun y => (IntKind.i64.min ≤ y ∧ y ≤ IntKind.i64.max)) x.removed ∧ (IntKind.i64.min ≤ x.prev ∧ x.prev ≤ IntKind.i64.max) ∧ (IntKind.i64.min ≤ x.next ∧ x.next ≤ IntKind.i64.max)
theorem eChange_all (x : Change) : D.sub (eChange x) 0 (some 36) = some (eChange x) := rfl
theorem eChange_kind (x : Change) : D.sub (eChange x) 0 none = some (.int .u8 x.kind) := rfl
theorem eChange_node (x : Change) : D.sub (eChange x) 1 none = some (.int .i64 x.node) := rfl
theorem eChange_parent (x : Change) : D.sub (eChange x) 2 none = some (.int .i64 x.parent) := rfl
theorem eChange_index (x : Change) : D.sub (eChange x) 3 none = some (.int .i64 x.index) := rfl
theorem eChange_other (x : Change) : D.sub (eChange x) 4 none = some (.int .i64 x.other) := rfl
theorem eChange_doc (x : Change) : D.sub (eChange x) 5 none = some (.int .i64 x.doc) := rfl
theorem eChange_offset (x : Change) : D.sub (eChange x) 6 none = some (.int .i64 x.offset) := rfl
theorem eChange_count (x : Change) : D.sub (eChange x) 7 none = some (.int .i64 x.count) := rfl
theorem eChange_data (x : Change) : D.sub (eChange x) 8 none = some (.list x.data.n (x.data.l.map (D.int .u16))) := rfl
theorem eChange_name (x : Change) : D.sub (eChange x) 9 (some 3) = some (eName x.name) := rfl
theorem eChange_name_space (x : Change) : D.sub (eChange x) 9 none = some (.str x.name.space) := rfl
theorem eChange_name_prefix_ (x : Change) : D.sub (eChange x) 10 none = some (.str x.name.prefix_) := rfl
theorem eChange_name_local_ (x : Change) : D.sub (eChange x) 11 none = some (.str x.name.local_) := rfl
theorem eChange_old (x : Change) : D.sub (eChange x) 12 none = some (.str x.old) := rfl
theorem eChange_value (x : Change) : D.sub (eChange x) 13 none = some (.str x.value) := rfl
theorem eChange_had (x : Change) : D.sub (eChange x) 14 none = some (.bool x.had) := rfl
theorem eChange_has (x : Change) : D.sub (eChange x) 15 none = some (.bool x.has) := rfl
theorem eChange_made (x : Change) : D.sub (eChange x) 16 (some 16) = some (eNode x.made) := rfl
theorem eChange_made_kind (x : Change) : D.sub (eChange x) 16 none = some (.int .u8 x.made.kind) := rfl
theorem eChange_made_name (x : Change) : D.sub (eChange x) 17 (some 3) = some (eName x.made.name) := rfl
theorem eChange_made_name_space (x : Change) : D.sub (eChange x) 17 none = some (.str x.made.name.space) := rfl
theorem eChange_made_name_prefix_ (x : Change) : D.sub (eChange x) 18 none = some (.str x.made.name.prefix_) := rfl
theorem eChange_made_name_local_ (x : Change) : D.sub (eChange x) 19 none = some (.str x.made.name.local_) := rfl
theorem eChange_made_public_ (x : Change) : D.sub (eChange x) 20 none = some (.str x.made.public_) := rfl
theorem eChange_made_system (x : Change) : D.sub (eChange x) 21 none = some (.str x.made.system) := rfl
theorem eChange_made_data (x : Change) : D.sub (eChange x) 22 none = some (.list x.made.data.n (x.made.data.l.map (D.int .u16))) := rfl
theorem eChange_made_attrs (x : Change) : D.sub (eChange x) 23 none = some (.list x.made.attrs.n (x.made.attrs.l.map eAttr)) := rfl
theorem eChange_made_parent (x : Change) : D.sub (eChange x) 24 none = some (.int .i64 x.made.parent) := rfl
theorem eChange_made_kids (x : Change) : D.sub (eChange x) 25 none = some (.list x.made.kids.n (x.made.kids.l.map (D.int .i64))) := rfl
theorem eChange_made_doc (x : Change) : D.sub (eChange x) 26 none = some (.int .i64 x.made.doc) := rfl
theorem eChange_made_host (x : Change) : D.sub (eChange x) 27 none = some (.int .i64 x.made.host) := rfl
theorem eChange_made_shadow (x : Change) : D.sub (eChange x) 28 none = some (.int .i64 x.made.shadow) := rfl
theorem eChange_made_mode (x : Change) : D.sub (eChange x) 29 none = some (.int .u8 x.made.mode) := rfl
theorem eChange_made_manual (x : Change) : D.sub (eChange x) 30 none = some (.bool x.made.manual) := rfl
theorem eChange_made_hTML (x : Change) : D.sub (eChange x) 31 none = some (.bool x.made.hTML) := rfl
theorem eChange_added (x : Change) : D.sub (eChange x) 32 none = some (.list x.added.n (x.added.l.map (D.int .i64))) := rfl
theorem eChange_removed (x : Change) : D.sub (eChange x) 33 none = some (.list x.removed.n (x.removed.l.map (D.int .i64))) := rfl
theorem eChange_prev (x : Change) : D.sub (eChange x) 34 none = some (.int .i64 x.prev) := rfl
theorem eChange_next (x : Change) : D.sub (eChange x) 35 none = some (.int .i64 x.next) := rfl
attribute [go_sem] eChange_all eChange_kind eChange_node eChange_parent eChange_index eChange_other eChange_doc eChange_offset eChange_count eChange_data eChange_name eChange_name_space eChange_name_prefix_ eChange_name_local_ eChange_old eChange_value eChange_had eChange_has eChange_made eChange_made_kind eChange_made_name eChange_made_name_space eChange_made_name_prefix_ eChange_made_name_local_ eChange_made_public_ eChange_made_system eChange_made_data eChange_made_attrs eChange_made_parent eChange_made_kids eChange_made_doc eChange_made_host eChange_made_shadow eChange_made_mode eChange_made_manual eChange_made_hTML eChange_added eChange_removed eChange_prev eChange_next
structure Bound where
  node : Int
  offset : Int
  deriving DecidableEq, Inhabited
def Bound.zero : Bound := ⟨0, 0⟩
def eBound (x : Bound) : D := .agg [.int .i64 x.node, .int .i64 x.offset]
def tyBound : Ty := .agg [.int .i64, .int .i64]
def Bound.ok (x : Bound) : Prop := (IntKind.i64.min ≤ x.node ∧ x.node ≤ IntKind.i64.max) ∧ (IntKind.i64.min ≤ x.offset ∧ x.offset ≤ IntKind.i64.max)
theorem eBound_all (x : Bound) : D.sub (eBound x) 0 (some 2) = some (eBound x) := rfl
theorem eBound_node (x : Bound) : D.sub (eBound x) 0 none = some (.int .i64 x.node) := rfl
theorem eBound_offset (x : Bound) : D.sub (eBound x) 1 none = some (.int .i64 x.offset) := rfl
attribute [go_sem] eBound_all eBound_node eBound_offset
theorem Bound.of {d : D} (h : HasTy tyBound d) : ∃ x : Bound, d = eBound x ∧ Bound.ok x := by
  obtain ⟨xs, rfl, hl, hx⟩ := h.agg_inv
  match xs, hl with
  | [x0, x1], _ =>
    obtain ⟨y0, rfl, k0⟩ := HasTy.int_inv (hx 0 _ _ rfl rfl)
    obtain ⟨y1, rfl, k1⟩ := HasTy.int_inv (hx 1 _ _ rfl rfl)
    exact ⟨⟨y0, y1⟩, rfl, ⟨k0, k1⟩⟩
structure Range where
  start : Bound
  end_ : Bound
  deriving DecidableEq, Inhabited
def Range.zero : Range := ⟨Bound.zero, Bound.zero⟩
def eRange (x : Range) : D := .agg [.int .i64 x.start.node, .int .i64 x.start.offset, .int .i64 x.end_.node, .int .i64 x.end_.offset]
def tyRange : Ty := .agg [.int .i64, .int .i64, .int .i64, .int .i64]
def Range.ok (x : Range) : Prop := Bound.ok x.start ∧ Bound.ok x.end_
theorem eRange_all (x : Range) : D.sub (eRange x) 0 (some 4) = some (eRange x) := rfl
theorem eRange_start (x : Range) : D.sub (eRange x) 0 (some 2) = some (eBound x.start) := rfl
theorem eRange_start_node (x : Range) : D.sub (eRange x) 0 none = some (.int .i64 x.start.node) := rfl
theorem eRange_start_offset (x : Range) : D.sub (eRange x) 1 none = some (.int .i64 x.start.offset) := rfl
theorem eRange_end_ (x : Range) : D.sub (eRange x) 2 (some 2) = some (eBound x.end_) := rfl
theorem eRange_end__node (x : Range) : D.sub (eRange x) 2 none = some (.int .i64 x.end_.node) := rfl
theorem eRange_end__offset (x : Range) : D.sub (eRange x) 3 none = some (.int .i64 x.end_.offset) := rfl
attribute [go_sem] eRange_all eRange_start eRange_start_node eRange_start_offset eRange_end_ eRange_end__node eRange_end__offset
theorem Range.of {d : D} (h : HasTy tyRange d) : ∃ x : Range, d = eRange x ∧ Range.ok x := by
  obtain ⟨xs, rfl, hl, hx⟩ := h.agg_inv
  match xs, hl with
  | [x0, x1, x2, x3], _ =>
    obtain ⟨y0, rfl, k0⟩ := HasTy.int_inv (hx 0 _ _ rfl rfl)
    obtain ⟨y1, rfl, k1⟩ := HasTy.int_inv (hx 1 _ _ rfl rfl)
    obtain ⟨y2, rfl, k2⟩ := HasTy.int_inv (hx 2 _ _ rfl rfl)
    obtain ⟨y3, rfl, k3⟩ := HasTy.int_inv (hx 3 _ _ rfl rfl)
    exact ⟨⟨⟨y0, y1⟩, ⟨y2, y3⟩⟩, rfl, ⟨⟨k0, k1⟩, ⟨k2, k3⟩⟩⟩
structure valid_ask where
  f : Forest
  parent : Int
  child : Int
  replace : Bool
  deriving DecidableEq, Inhabited
def valid_ask.zero : valid_ask := ⟨Forest.zero, 0, 0, false⟩
def evalid_ask (x : valid_ask) : D := .agg [.list x.f.nodes.n (x.f.nodes.l.map eNode), .int .i64 x.parent, .int .i64 x.child, .bool x.replace]
def tyvalid_ask : Ty := .agg [.list (tyNode), .int .i64, .int .i64, .bool]
def valid_ask.ok (x : valid_ask) : Prop := Forest.ok x.f ∧ (IntKind.i64.min ≤ x.parent ∧ x.parent ≤ IntKind.i64.max) ∧ (IntKind.i64.min ≤ x.child ∧ x.child ≤ IntKind.i64.max) ∧ True
theorem evalid_ask_all (x : valid_ask) : D.sub (evalid_ask x) 0 (some 4) = some (evalid_ask x) := rfl
theorem evalid_ask_f (x : valid_ask) : D.sub (evalid_ask x) 0 (some 1) = some (eForest x.f) := rfl
theorem evalid_ask_f_nodes (x : valid_ask) : D.sub (evalid_ask x) 0 none = some (.list x.f.nodes.n (x.f.nodes.l.map eNode)) := rfl
theorem evalid_ask_parent (x : valid_ask) : D.sub (evalid_ask x) 1 none = some (.int .i64 x.parent) := rfl
theorem evalid_ask_child (x : valid_ask) : D.sub (evalid_ask x) 2 none = some (.int .i64 x.child) := rfl
theorem evalid_ask_replace (x : valid_ask) : D.sub (evalid_ask x) 3 none = some (.bool x.replace) := rfl
attribute [go_sem] evalid_ask_all evalid_ask_f evalid_ask_f_nodes evalid_ask_parent evalid_ask_child evalid_ask_replace
theorem valid_ask.of {d : D} (h : HasTy tyvalid_ask d) : ∃ x : valid_ask, d = evalid_ask x ∧ valid_ask.ok x := by
  obtain ⟨xs, rfl, hl, hx⟩ := h.agg_inv
  match xs, hl with
  | [x0, x1, x2, x3], _ =>
    obtain ⟨y0, rfl, k0⟩ := (HasTy.sl_inv (fun _ h => Node.of h)) (hx 0 _ _ rfl rfl)
    obtain ⟨y1, rfl, k1⟩ := HasTy.int_inv (hx 1 _ _ rfl rfl)
    obtain ⟨y2, rfl, k2⟩ := HasTy.int_inv (hx 2 _ _ rfl rfl)
    obtain ⟨y3, rfl, k3⟩ := HasTy.bool_inv (hx 3 _ _ rfl rfl)
    exact ⟨⟨⟨y0⟩, y1, y2, y3⟩, rfl, ⟨k0, k1, k2, k3⟩⟩
structure forest_trait where
  known : Bool
  data : Bool
  kids : Bool
  hung : Bool
  full : Bool
  local_ : Bool
  deriving DecidableEq, Inhabited
def forest_trait.zero : forest_trait := ⟨false, false, false, false, false, false⟩
def eforest_trait (x : forest_trait) : D := .agg [.bool x.known, .bool x.data, .bool x.kids, .bool x.hung, .bool x.full, .bool x.local_]
def tyforest_trait : Ty := .agg [.bool, .bool, .bool, .bool, .bool, .bool]
def forest_trait.ok (x : forest_trait) : Prop := True ∧ True ∧ True ∧ True ∧ True ∧ True
theorem eforest_trait_len (x : forest_trait) : (eforest_trait x).cells.length = 6 := Eq.trans rfl rfl
theorem eforest_trait_all (x : forest_trait) : D.sub (eforest_trait x) 0 (some 6) = some (eforest_trait x) := rfl
theorem eforest_trait_updall (x : forest_trait) (cs : List D) (h : cs.length = 6) : V.upd (.d (.agg cs)) 0 6 (.d (eforest_trait x)) = some (.d (eforest_trait x)) := upd_all (by simpa using h) rfl (by decide) rfl
theorem eforest_trait_known (x : forest_trait) : D.sub (eforest_trait x) 0 none = some (.bool x.known) := rfl
theorem eforest_trait_data (x : forest_trait) : D.sub (eforest_trait x) 1 none = some (.bool x.data) := rfl
theorem eforest_trait_kids (x : forest_trait) : D.sub (eforest_trait x) 2 none = some (.bool x.kids) := rfl
theorem eforest_trait_hung (x : forest_trait) : D.sub (eforest_trait x) 3 none = some (.bool x.hung) := rfl
theorem eforest_trait_full (x : forest_trait) : D.sub (eforest_trait x) 4 none = some (.bool x.full) := rfl
theorem eforest_trait_local_ (x : forest_trait) : D.sub (eforest_trait x) 5 none = some (.bool x.local_) := rfl
attribute [go_sem] eforest_trait_len eforest_trait_all eforest_trait_updall eforest_trait_known eforest_trait_data eforest_trait_kids eforest_trait_hung eforest_trait_full eforest_trait_local_
theorem forest_trait.of {d : D} (h : HasTy tyforest_trait d) : ∃ x : forest_trait, d = eforest_trait x ∧ forest_trait.ok x := by
  obtain ⟨xs, rfl, hl, hx⟩ := h.agg_inv
  match xs, hl with
  | [x0, x1, x2, x3, x4, x5], _ =>
    obtain ⟨y0, rfl, k0⟩ := HasTy.bool_inv (hx 0 _ _ rfl rfl)
    obtain ⟨y1, rfl, k1⟩ := HasTy.bool_inv (hx 1 _ _ rfl rfl)
    obtain ⟨y2, rfl, k2⟩ := HasTy.bool_inv (hx 2 _ _ rfl rfl)
    obtain ⟨y3, rfl, k3⟩ := HasTy.bool_inv (hx 3 _ _ rfl rfl)
    obtain ⟨y4, rfl, k4⟩ := HasTy.bool_inv (hx 4 _ _ rfl rfl)
    obtain ⟨y5, rfl, k5⟩ := HasTy.bool_inv (hx 5 _ _ rfl rfl)
    exact ⟨⟨y0, y1, y2, y3, y4, y5⟩, rfl, ⟨k0, k1, k2, k3, k4, k5⟩⟩
structure forest_key where
  space : List UInt8
  local_ : List UInt8
  deriving DecidableEq, Inhabited
def forest_key.zero : forest_key := ⟨[], []⟩
def eforest_key (x : forest_key) : D := .agg [.str x.space, .str x.local_]
def tyforest_key : Ty := .agg [.str, .str]
def forest_key.ok (x : forest_key) : Prop := x.space.length ≤ maxLen ∧ x.local_.length ≤ maxLen
theorem eforest_key_all (x : forest_key) : D.sub (eforest_key x) 0 (some 2) = some (eforest_key x) := rfl
theorem eforest_key_updall (x : forest_key) (cs : List D) (h : cs.length = 2) : V.upd (.d (.agg cs)) 0 2 (.d (eforest_key x)) = some (.d (eforest_key x)) := upd_all (by simpa using h) rfl (by decide) rfl
theorem eforest_key_space (x : forest_key) : D.sub (eforest_key x) 0 none = some (.str x.space) := rfl
theorem eforest_key_local_ (x : forest_key) : D.sub (eforest_key x) 1 none = some (.str x.local_) := rfl
theorem eforest_key_key : Keyed [.str, .str] eforest_key := by
  intro x y
  simp only [keyEq, eforest_key, D.isAgg, D.cells, cellsEq, cellEq, if_true, Option.bind_some, Option.map_some]
  rw [if_pos ⟨rfl, rfl⟩]
  congr 1
  rw [Bool.eq_iff_iff]; rcases x with ⟨a1, a2⟩; rcases y with ⟨b1, b2⟩; simp [and_assoc]
attribute [go_sem] eforest_key_all eforest_key_updall eforest_key_space eforest_key_local_
theorem forest_key.of {d : D} (h : HasTy tyforest_key d) : ∃ x : forest_key, d = eforest_key x ∧ forest_key.ok x := by
  obtain ⟨xs, rfl, hl, hx⟩ := h.agg_inv
  match xs, hl with
  | [x0, x1], _ =>
    obtain ⟨y0, rfl, k0⟩ := HasTy.str_inv (hx 0 _ _ rfl rfl)
    obtain ⟨y1, rfl, k1⟩ := HasTy.str_inv (hx 1 _ _ rfl rfl)
    exact ⟨⟨y0, y1⟩, rfl, ⟨k0, k1⟩⟩
end Go.Proofs.Ytfleilibjdgcjaa.O
