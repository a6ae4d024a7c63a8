/- Shaken copy of a longer text: what one law needs. Its conditions: none. -/
import Derived.Test.YtejglgffianhgaaDoorZAiE
set_option linter.unusedSimpArgs false
set_option linter.unusedVariables false
namespace Go.Proofs.YtejglgffianhgaaDoor.N
open Go.AI
structure Name where
  space : List UInt8
  prefix_ : List UInt8
  local_ : List UInt8
  deriving DecidableEq, Inhabited
def Name.zero : Name := ⟨[], [], []⟩
def eName (x : Name) : D := .agg [.str x.space, .str x.prefix_, .str x.local_]
def tyName : Ty := .agg [.str, .str, .str]
def Name.ok (x : Name) : Prop := x.space.length ≤ maxLen ∧ x.prefix_.length ≤ maxLen ∧ x.local_.length ≤ maxLen
theorem eName_len (x : Name) : (eName x).cells.length = 3 := Eq.trans rfl rfl
theorem eName_all (x : Name) : D.sub (eName x) 0 (some 3) = some (eName x) := rfl
theorem eName_updall (x : Name) (cs : List D) (h : cs.length = 3) : V.upd (.d (.agg cs)) 0 3 (.d (eName x)) = some (.d (eName x)) := upd_all (by simpa using h) rfl (by decide) rfl
theorem eName_updself (x y : Name) : V.upd (.d (eName y)) 0 3 (.d (eName x)) = some (.d (eName x)) := upd_all rfl rfl (by decide) rfl
theorem eName_space (x : Name) : D.sub (eName x) 0 none = some (.str x.space) := rfl
theorem eName_prefix_ (x : Name) : D.sub (eName x) 1 none = some (.str x.prefix_) := rfl
theorem eName_local_ (x : Name) : D.sub (eName x) 2 none = some (.str x.local_) := rfl
theorem eName_eql (x y : Name) : binV .eql (.agg [.str, .str, .str]) (.d (eName x)) (.d (eName y)) = some (.d (.bool (decide (x = y)))) := by
  refine eql_of ?_
  simp only [eqV, eName, cellsEq, cellEq, if_true, Option.bind_some, Option.map_some]
  congr 1
  rw [Bool.eq_iff_iff]; rcases x with ⟨a1, a2, a3⟩; rcases y with ⟨b1, b2, b3⟩; simp [and_assoc]
theorem eName_neq (x y : Name) : binV .neq (.agg [.str, .str, .str]) (.d (eName x)) (.d (eName y)) = some (.d (.bool (!decide (x = y)))) := by
  refine neq_of ?_
  simp only [eqV, eName, cellsEq, cellEq, if_true, Option.bind_some, Option.map_some]
  congr 1
  rw [Bool.eq_iff_iff]; rcases x with ⟨a1, a2, a3⟩; rcases y with ⟨b1, b2, b3⟩; simp [and_assoc]
theorem eName_neqR (x : Name) (y0 : List UInt8) (y1 : List UInt8) (y2 : List UInt8) : binV .neq (.agg [.str, .str, .str]) (.d (eName x)) (.d (.agg [.str y0, .str y1, .str y2])) = some (.d (.bool (!decide (x = ⟨y0, y1, y2⟩)))) := eName_neq x ⟨y0, y1, y2⟩
attribute [go_sem] eName_len eName_all eName_updall eName_updself eName_space eName_prefix_ eName_local_ eName_eql eName_neq eName_neqR
theorem Name.of {d : D} (h : HasTy tyName d) : ∃ x : Name, d = eName x ∧ Name.ok x := by
  obtain ⟨xs, rfl, hl, hx⟩ := h.agg_inv
  match xs, hl with
  | [x0, x1, x2], _ =>
    obtain ⟨y0, rfl, k0⟩ := HasTy.str_inv (hx 0 _ _ rfl rfl)
    obtain ⟨y1, rfl, k1⟩ := HasTy.str_inv (hx 1 _ _ rfl rfl)
    obtain ⟨y2, rfl, k2⟩ := HasTy.str_inv (hx 2 _ _ rfl rfl)
    exact ⟨⟨y0, y1, y2⟩, rfl, ⟨k0, k1, k2⟩⟩
structure Definition where
  name : List UInt8
  local_ : List UInt8
  constructor : Int
  connected : Int
  disconnected : Int
  adopted : Int
  changed : Int
  observed : Sl (List UInt8)
  deriving DecidableEq, Inhabited
def Definition.zero : Definition := ⟨[], [], 0, 0, 0, 0, 0, ⟨true, []⟩⟩
def eDefinition (x : Definition) : D := .agg [.str x.name, .str x.local_, .int .i64 x.constructor, .int .i64 x.connected, .int .i64 x.disconnected, .int .i64 x.adopted, .int .i64 x.changed, .list x.observed.n (x.observed.l.map D.str)]
def tyDefinition : Ty := .agg [.str, .str, .int .i64, .int .i64, .int .i64, .int .i64, .int .i64, .list (.str)]
def Definition.ok (x : Definition) : Prop := x.name.length ≤ maxLen ∧ x.local_.length ≤ maxLen ∧ (IntKind.i64.min ≤ x.constructor ∧ x.constructor ≤ IntKind.i64.max) ∧ (IntKind.i64.min ≤ x.connected ∧ x.connected ≤ IntKind.i64.max) ∧ (IntKind.i64.min ≤ x.disconnected ∧ x.disconnected ≤ IntKind.i64.max) ∧ (IntKind.i64.min ≤ x.adopted ∧ x.adopted ≤ IntKind.i64.max) ∧ (IntKind.i64.min ≤ x.changed ∧ x.changed ≤ IntKind.i64.max) ∧ Sl.ok (fun y => y.length ≤ maxLen) x.observed
theorem eDefinition_all (x : Definition) : D.sub (eDefinition x) 0 (some 8) = some (eDefinition x) := rfl
theorem eDefinition_name (x : Definition) : D.sub (eDefinition x) 0 none = some (.str x.name) := rfl
theorem eDefinition_local_ (x : Definition) : D.sub (eDefinition x) 1 none = some (.str x.local_) := rfl
theorem eDefinition_constructor (x : Definition) : D.sub (eDefinition x) 2 none = some (.int .i64 x.constructor) := rfl
theorem eDefinition_connected (x : Definition) : D.sub (eDefinition x) 3 none = some (.int .i64 x.connected) := rfl
theorem eDefinition_disconnected (x : Definition) : D.sub (eDefinition x) 4 none = some (.int .i64 x.disconnected) := rfl
theorem eDefinition_adopted (x : Definition) : D.sub (eDefinition x) 5 none = some (.int .i64 x.adopted) := rfl
theorem eDefinition_changed (x : Definition) : D.sub (eDefinition x) 6 none = some (.int .i64 x.changed) := rfl
theorem eDefinition_observed (x : Definition) : D.sub (eDefinition x) 7 none = some (.list x.observed.n (x.observed.l.map D.str)) := rfl
attribute [go_sem] eDefinition_all eDefinition_name eDefinition_local_ eDefinition_constructor eDefinition_connected eDefinition_disconnected eDefinition_adopted eDefinition_changed eDefinition_observed
theorem Definition.of {d : D} (h : HasTy tyDefinition d) : ∃ x : Definition, d = eDefinition x ∧ Definition.ok x := by
  obtain ⟨xs, rfl, hl, hx⟩ := h.agg_inv
  match xs, hl with
  | [x0, x1, x2, x3, x4, x5, x6, x7], _ =>
    obtain ⟨y0, rfl, k0⟩ := HasTy.str_inv (hx 0 _ _ rfl rfl)
    obtain ⟨y1, rfl, k1⟩ := HasTy.str_inv (hx 1 _ _ rfl rfl)
    obtain ⟨y2, rfl, k2⟩ := HasTy.int_inv (hx 2 _ _ rfl rfl)
    obtain ⟨y3, rfl, k3⟩ := HasTy.int_inv (hx 3 _ _ rfl rfl)
    obtain ⟨y4, rfl, k4⟩ := HasTy.int_inv (hx 4 _ _ rfl rfl)
    obtain ⟨y5, rfl, k5⟩ := HasTy.int_inv (hx 5 _ _ rfl rfl)
    obtain ⟨y6, rfl, k6⟩ := HasTy.int_inv (hx 6 _ _ rfl rfl)
    obtain ⟨y7, rfl, k7⟩ := (HasTy.sl_inv (fun _ h => HasTy.str_inv h)) (hx 7 _ _ rfl rfl)
    exact ⟨⟨y0, y1, y2, y3, y4, y5, y6, y7⟩, rfl, ⟨k0, k1, k2, k3, k4, k5, k6, k7⟩⟩
structure Custom where
  node : Int
  state : Int
  is : List UInt8
  definition : List UInt8
  deriving DecidableEq, Inhabited
def Custom.zero : Custom := ⟨0, 0, [], []⟩
def eCustom (x : Custom) : D := .agg [.int .i64 x.node, .int .u8 x.state, .str x.is, .str x.definition]
def tyCustom : Ty := .agg [.int .i64, .int .u8, .str, .str]
def Custom.ok (x : Custom) : Prop := (IntKind.i64.min ≤ x.node ∧ x.node ≤ IntKind.i64.max) ∧ (IntKind.u8.min ≤ x.state ∧ x.state ≤ IntKind.u8.max) ∧ x.is.length ≤ maxLen ∧ x.definition.length ≤ maxLen
theorem eCustom_all (x : Custom) : D.sub (eCustom x) 0 (some 4) = some (eCustom x) := rfl
theorem eCustom_node (x : Custom) : D.sub (eCustom x) 0 none = some (.int .i64 x.node) := rfl
theorem eCustom_state (x : Custom) : D.sub (eCustom x) 1 none = some (.int .u8 x.state) := rfl
theorem eCustom_is (x : Custom) : D.sub (eCustom x) 2 none = some (.str x.is) := rfl
theorem eCustom_definition (x : Custom) : D.sub (eCustom x) 3 none = some (.str x.definition) := rfl
attribute [go_sem] eCustom_all eCustom_node eCustom_state eCustom_is eCustom_definition
theorem Custom.of {d : D} (h : HasTy tyCustom d) : ∃ x : Custom, d = eCustom x ∧ Custom.ok x := by
  obtain ⟨xs, rfl, hl, hx⟩ := h.agg_inv
  match xs, hl with
  | [x0, x1, x2, x3], _ =>
    obtain ⟨y0, rfl, k0⟩ := HasTy.int_inv (hx 0 _ _ rfl rfl)
    obtain ⟨y1, rfl, k1⟩ := HasTy.int_inv (hx 1 _ _ rfl rfl)
    obtain ⟨y2, rfl, k2⟩ := HasTy.str_inv (hx 2 _ _ rfl rfl)
    obtain ⟨y3, rfl, k3⟩ := HasTy.str_inv (hx 3 _ _ rfl rfl)
    exact ⟨⟨y0, y1, y2, y3⟩, rfl, ⟨k0, k1, k2, k3⟩⟩
structure Registry where
  definitions : Sl (Definition)
  elements : Sl (Custom)
  deriving DecidableEq, Inhabited
def Registry.zero : Registry := ⟨⟨true, []⟩, ⟨true, []⟩⟩
def eRegistry (x : Registry) : D := .agg [.list x.definitions.n (x.definitions.l.map eDefinition), .list x.elements.n (x.elements.l.map eCustom)]
def tyRegistry : Ty := .agg [.list (tyDefinition), .list (tyCustom)]
def Registry.ok (x : Registry) : Prop := Sl.ok (fun y => Definition.ok y) x.definitions ∧ Sl.ok (fun y => Custom.ok y) x.elements
theorem eRegistry_all (x : Registry) : D.sub (eRegistry x) 0 (some 2) = some (eRegistry x) := rfl
theorem eRegistry_definitions (x : Registry) : D.sub (eRegistry x) 0 none = some (.list x.definitions.n (x.definitions.l.map eDefinition)) := rfl
theorem eRegistry_elements (x : Registry) : D.sub (eRegistry x) 1 none = some (.list x.elements.n (x.elements.l.map eCustom)) := rfl
attribute [go_sem] eRegistry_all eRegistry_definitions eRegistry_elements
theorem Registry.of {d : D} (h : HasTy tyRegistry d) : ∃ x : Registry, d = eRegistry x ∧ Registry.ok x := by
  obtain ⟨xs, rfl, hl, hx⟩ := h.agg_inv
  match xs, hl with
  | [x0, x1], _ =>
    obtain ⟨y0, rfl, k0⟩ := (HasTy.sl_inv (fun _ h => Definition.of h)) (hx 0 _ _ rfl rfl)
    obtain ⟨y1, rfl, k1⟩ := (HasTy.sl_inv (fun _ h => Custom.of h)) (hx 1 _ _ rfl rfl)
    exact ⟨⟨y0, y1⟩, rfl, ⟨k0, k1⟩⟩
structure Attr where
  name : Name
  value : List UInt8
  deriving DecidableEq, Inhabited
def Attr.zero : Attr := ⟨Name.zero, []⟩
def eAttr (x : Attr) : D := .agg [.str x.name.space, .str x.name.prefix_, .str x.name.local_, .str x.value]
def tyAttr : Ty := .agg [.str, .str, .str, .str]
def Attr.ok (x : Attr) : Prop := Name.ok x.name ∧ x.value.length ≤ maxLen
theorem eAttr_all (x : Attr) : D.sub (eAttr x) 0 (some 4) = some (eAttr x) := rfl
theorem eAttr_name (x : Attr) : D.sub (eAttr x) 0 (some 3) = some (eName x.name) := rfl
theorem eAttr_name_space (x : Attr) : D.sub (eAttr x) 0 none = some (.str x.name.space) := rfl
theorem eAttr_name_prefix_ (x : Attr) : D.sub (eAttr x) 1 none = some (.str x.name.prefix_) := rfl
theorem eAttr_name_local_ (x : Attr) : D.sub (eAttr x) 2 none = some (.str x.name.local_) := rfl
theorem eAttr_value (x : Attr) : D.sub (eAttr x) 3 none = some (.str x.value) := rfl
attribute [go_sem] eAttr_all eAttr_name eAttr_name_space eAttr_name_prefix_ eAttr_name_local_ eAttr_value
theorem Attr.of {d : D} (h : HasTy tyAttr d) : ∃ x : Attr, d = eAttr x ∧ Attr.ok x := by
  obtain ⟨xs, rfl, hl, hx⟩ := h.agg_inv
  match xs, hl with
  | [x0, x1, x2, x3], _ =>
    obtain ⟨y0, rfl, k0⟩ := HasTy.str_inv (hx 0 _ _ rfl rfl)
    obtain ⟨y1, rfl, k1⟩ := HasTy.str_inv (hx 1 _ _ rfl rfl)
    obtain ⟨y2, rfl, k2⟩ := HasTy.str_inv (hx 2 _ _ rfl rfl)
    obtain ⟨y3, rfl, k3⟩ := HasTy.str_inv (hx 3 _ _ rfl rfl)
    exact ⟨⟨⟨y0, y1, y2⟩, y3⟩, rfl, ⟨⟨k0, k1, k2⟩, k3⟩⟩
structure Node where
  kind : Int
  name : Name
  public_ : List UInt8
  system : List UInt8
  data : Sl (Int)
  attrs : Sl (Attr)
  parent : Int
  kids : Sl (Int)
  doc : Int
  host : Int
  shadow : Int
  mode : Int
  manual : Bool
  hTML : Bool
  deriving DecidableEq, Inhabited
def Node.zero : Node := ⟨0, Name.zero, [], [], ⟨true, []⟩, ⟨true, []⟩, 0, ⟨true, []⟩, 0, 0, 0, 0, false, false⟩
def eNode (x : Node) : D := .agg [.int .u8 x.kind, .str x.name.space, .str x.name.prefix_, .str x.name.local_, .str x.public_, .str x.system, .list x.data.n (x.data.l.map (D.int .u16)), .list x.attrs.n (x.attrs.l.map eAttr), .int .i64 x.parent, .list x.kids.n (x.kids.l.map (D.int .i64)), .int .i64 x.doc, .int .i64 x.host, .int .i64 x.shadow, .int .u8 x.mode, .bool x.manual, .bool x.hTML]
def tyNode : Ty := .agg [.int .u8, .str, .str, .str, .str, .str, .list (.int .u16), .list (tyAttr), .int .i64, .list (.int .i64), .int .i64, .int .i64, .int .i64, .int .u8, .bool, .bool]
def Node.ok (x : Node) : Prop := (IntKind.u8.min ≤ x.kind ∧ x.kind ≤ IntKind.u8.max) ∧ Name.ok x.name ∧ x.public_.length ≤ maxLen ∧ x.system.length ≤ maxLen ∧ Sl.ok (fun y => (IntKind.u16.min ≤ y ∧ y ≤ IntKind.u16.max)) x.data ∧ Sl.ok (fun y => Attr.ok y) x.attrs ∧ (IntKind.i64.min ≤ x.parent ∧ x.parent ≤ IntKind.i64.max) ∧ Sl.ok (fun y => (IntKind.i64.min ≤ y ∧ y ≤ IntKind.i64.max)) x.kids ∧ (IntKind.i64.min ≤ x.doc ∧ x.doc ≤ IntKind.i64.max) ∧ (IntKind.i64.min ≤ x.host ∧ x.host ≤ IntKind.i64.max) ∧ (IntKind.i64.min ≤ x.shadow ∧ x.shadow ≤ IntKind.i64.max) ∧ (IntKind.u8.min ≤ x.mode ∧ x.mode ≤ IntKind.u8.max) ∧ True ∧ True
theorem eNode_all (x : Node) : D.sub (eNode x) 0 (some 16) = some (eNode x) := rfl
theorem eNode_kind (x : Node) : D.sub (eNode x) 0 none = some (.int .u8 x.kind) := rfl
theorem eNode_name (x : Node) : D.sub (eNode x) 1 (some 3) = some (eName x.name) := rfl
theorem eNode_name_space (x : Node) : D.sub (eNode x) 1 none = some (.str x.name.space) := rfl
theorem eNode_name_prefix_ (x : Node) : D.sub (eNode x) 2 none = some (.str x.name.prefix_) := rfl
theorem eNode_name_local_ (x : Node) : D.sub (eNode x) 3 none = some (.str x.name.local_) := rfl
theorem eNode_public_ (x : Node) : D.sub (eNode x) 4 none = some (.str x.public_) := rfl
theorem eNode_system (x : Node) : D.sub (eNode x) 5 none = some (.str x.system) := rfl
theorem eNode_data (x : Node) : D.sub (eNode x) 6 none = some (.list x.data.n (x.data.l.map (D.int .u16))) := rfl
theorem eNode_attrs (x : Node) : D.sub (eNode x) 7 none = some (.list x.attrs.n (x.attrs.l.map eAttr)) := rfl
theorem eNode_parent (x : Node) : D.sub (eNode x) 8 none = some (.int .i64 x.parent) := rfl
theorem eNode_kids (x : Node) : D.sub (eNode x) 9 none = some (.list x.kids.n (x.kids.l.map (D.int .i64))) := rfl
theorem eNode_doc (x : Node) : D.sub (eNode x) 10 none = some (.int .i64 x.doc) := rfl
theorem eNode_host (x : Node) : D.sub (eNode x) 11 none = some (.int .i64 x.host) := rfl
theorem eNode_shadow (x : Node) : D.sub (eNode x) 12 none = some (.int .i64 x.shadow) := rfl
theorem eNode_mode (x : Node) : D.sub (eNode x) 13 none = some (.int .u8 x.mode) := rfl
theorem eNode_manual (x : Node) : D.sub (eNode x) 14 none = some (.bool x.manual) := rfl
theorem eNode_hTML (x : Node) : D.sub (eNode x) 15 none = some (.bool x.hTML) := rfl
attribute [go_sem] eNode_all eNode_kind eNode_name eNode_name_space eNode_name_prefix_ eNode_name_local_ eNode_public_ eNode_system eNode_data eNode_attrs eNode_parent eNode_kids eNode_doc eNode_host eNode_shadow eNode_mode eNode_manual eNode_hTML
theorem Node.of {d : D} (h : HasTy tyNode d) : ∃ x : Node, d = eNode x ∧ Node.ok x := by
  obtain ⟨xs, rfl, hl, hx⟩ := h.agg_inv
  match xs, hl with
  | [x0, x1, x2, x3, x4, x5, x6, x7, x8, x9, x10, x11, x12, x13, x14, x15], _ =>
    obtain ⟨y0, rfl, k0⟩ := HasTy.int_inv (hx 0 _ _ rfl rfl)
    obtain ⟨y1, rfl, k1⟩ := HasTy.str_inv (hx 1 _ _ rfl rfl)
    obtain ⟨y2, rfl, k2⟩ := HasTy.str_inv (hx 2 _ _ rfl rfl)
    obtain ⟨y3, rfl, k3⟩ := HasTy.str_inv (hx 3 _ _ rfl rfl)
    obtain ⟨y4, rfl, k4⟩ := HasTy.str_inv (hx 4 _ _ rfl rfl)
    obtain ⟨y5, rfl, k5⟩ := HasTy.str_inv (hx 5 _ _ rfl rfl)
    obtain ⟨y6, rfl, k6⟩ := (HasTy.sl_inv (fun _ h => HasTy.int_inv h)) (hx 6 _ _ rfl rfl)
    obtain ⟨y7, rfl, k7⟩ := (HasTy.sl_inv (fun _ h => Attr.of h)) (hx 7 _ _ rfl rfl)
    obtain ⟨y8, rfl, k8⟩ := HasTy.int_inv (hx 8 _ _ rfl rfl)
    obtain ⟨y9, rfl, k9⟩ := (HasTy.sl_inv (fun _ h => HasTy.int_inv h)) (hx 9 _ _ rfl rfl)
    obtain ⟨y10, rfl, k10⟩ := HasTy.int_inv (hx 10 _ _ rfl rfl)
    obtain ⟨y11, rfl, k11⟩ := HasTy.int_inv (hx 11 _ _ rfl rfl)
    obtain ⟨y12, rfl, k12⟩ := HasTy.int_inv (hx 12 _ _ rfl rfl)
    obtain ⟨y13, rfl, k13⟩ := HasTy.int_inv (hx 13 _ _ rfl rfl)
    obtain ⟨y14, rfl, k14⟩ := HasTy.bool_inv (hx 14 _ _ rfl rfl)
    obtain ⟨y15, rfl, k15⟩ := HasTy.bool_inv (hx 15 _ _ rfl rfl)
    exact ⟨⟨y0, ⟨y1, y2, y3⟩, y4, y5, y6, y7, y8, y9, y10, y11, y12, y13, y14, y15⟩, rfl, ⟨k0, ⟨k1, k2, k3⟩, k4, k5, k6, k7, k8, k9, k10, k11, k12, k13, k14, k15⟩⟩
structure Forest where
  nodes : Sl (Node)
  deriving DecidableEq, Inhabited
def Forest.zero : Forest := ⟨⟨true, []⟩⟩
def eForest (x : Forest) : D := .agg [.list x.nodes.n (x.nodes.l.map eNode)]
def tyForest : Ty := .agg [.list (tyNode)]
def Forest.ok (x : Forest) : Prop := Sl.ok (fun y => Node.ok y) x.nodes
theorem eForest_all (x : Forest) : D.sub (eForest x) 0 (some 1) = some (eForest x) := rfl
theorem eForest_nodes (x : Forest) : D.sub (eForest x) 0 none = some (.list x.nodes.n (x.nodes.l.map eNode)) := rfl
attribute [go_sem] eForest_all eForest_nodes
theorem Forest.of {d : D} (h : HasTy tyForest d) : ∃ x : Forest, d = eForest x ∧ Forest.ok x := by
  obtain ⟨xs, rfl, hl, hx⟩ := h.agg_inv
  match xs, hl with
  | [x0], _ =>
    obtain ⟨y0, rfl, k0⟩ := (HasTy.sl_inv (fun _ h => Node.of h)) (hx 0 _ _ rfl rfl)
    exact ⟨⟨y0⟩, rfl, k0⟩
structure names_span where
  from_ : Int
  to : Int
  deriving DecidableEq, Inhabited
def names_span.zero : names_span := ⟨0, 0⟩
def enames_span (x : names_span) : D := .agg [.int .i32 x.from_, .int .i32 x.to]
def tynames_span : Ty := .agg [.int .i32, .int .i32]
def names_span.ok (x : names_span) : Prop := (IntKind.i32.min ≤ x.from_ ∧ x.from_ ≤ IntKind.i32.max) ∧ (IntKind.i32.min ≤ x.to ∧ x.to ≤ IntKind.i32.max)
theorem enames_span_len (x : names_span) : (enames_span x).cells.length = 2 := Eq.trans rfl rfl
theorem enames_span_all (x : names_span) : D.sub (enames_span x) 0 (some 2) = some (enames_span x) := rfl
theorem enames_span_from_ (x : names_span) : D.sub (enames_span x) 0 none = some (.int .i32 x.from_) := rfl
theorem enames_span_to (x : names_span) : D.sub (enames_span x) 1 none = some (.int .i32 x.to) := rfl
attribute [go_sem] enames_span_len enames_span_all enames_span_from_ enames_span_to
theorem names_span.of {d : D} (h : HasTy tynames_span d) : ∃ x : names_span, d = enames_span x ∧ names_span.ok x := by
  obtain ⟨xs, rfl, hl, hx⟩ := h.agg_inv
  match xs, hl with
  | [x0, x1], _ =>
    obtain ⟨y0, rfl, k0⟩ := HasTy.int_inv (hx 0 _ _ rfl rfl)
    obtain ⟨y1, rfl, k1⟩ := HasTy.int_inv (hx 1 _ _ rfl rfl)
    exact ⟨⟨y0, y1⟩, rfl, ⟨k0, k1⟩⟩
structure forest_trait where
  known : Bool
  data : Bool
  kids : Bool
  hung : Bool
  full : Bool
  local_ : Bool
  deriving DecidableEq, Inhabited
def forest_trait.zero : forest_trait := ⟨false, false, false, false, false, false⟩
def eforest_trait (x : forest_trait) : D := .agg [.bool x.known, .bool x.data, .bool x.kids, .bool x.hung, .bool x.full, .bool x.local_]
def tyforest_trait : Ty := .agg [.bool, .bool, .bool, .bool, .bool, .bool]
def forest_trait.ok (x : forest_trait) : Prop := True ∧ True ∧ True ∧ True ∧ True ∧ True
theorem eforest_trait_all (x : forest_trait) : D.sub (eforest_trait x) 0 (some 6) = some (eforest_trait x) := rfl
theorem eforest_trait_known (x : forest_trait) : D.sub (eforest_trait x) 0 none = some (.bool x.known) := rfl
theorem eforest_trait_data (x : forest_trait) : D.sub (eforest_trait x) 1 none = some (.bool x.data) := rfl
theorem eforest_trait_kids (x : forest_trait) : D.sub (eforest_trait x) 2 none = some (.bool x.kids) := rfl
theorem eforest_trait_hung (x : forest_trait) : D.sub (eforest_trait x) 3 none = some (.bool x.hung) := rfl
theorem eforest_trait_full (x : forest_trait) : D.sub (eforest_trait x) 4 none = some (.bool x.full) := rfl
theorem eforest_trait_local_ (x : forest_trait) : D.sub (eforest_trait x) 5 none = some (.bool x.local_) := rfl
attribute [go_sem] eforest_trait_all eforest_trait_known eforest_trait_data eforest_trait_kids eforest_trait_hung eforest_trait_full eforest_trait_local_
theorem forest_trait.of {d : D} (h : HasTy tyforest_trait d) : ∃ x : forest_trait, d = eforest_trait x ∧ forest_trait.ok x := by
  obtain ⟨xs, rfl, hl, hx⟩ := h.agg_inv
  match xs, hl with
  | [x0, x1, x2, x3, x4, x5], _ =>
    obtain ⟨y0, rfl, k0⟩ := HasTy.bool_inv (hx 0 _ _ rfl rfl)
    obtain ⟨y1, rfl, k1⟩ := HasTy.bool_inv (hx 1 _ _ rfl rfl)
    obtain ⟨y2, rfl, k2⟩ := HasTy.bool_inv (hx 2 _ _ rfl rfl)
    obtain ⟨y3, rfl, k3⟩ := HasTy.bool_inv (hx 3 _ _ rfl rfl)
    obtain ⟨y4, rfl, k4⟩ := HasTy.bool_inv (hx 4 _ _ rfl rfl)
    obtain ⟨y5, rfl, k5⟩ := HasTy.bool_inv (hx 5 _ _ rfl rfl)
    exact ⟨⟨y0, y1, y2, y3, y4, y5⟩, rfl, ⟨k0, k1, k2, k3, k4, k5⟩⟩
structure forest_key where
  space : List UInt8
  local_ : List UInt8
  deriving DecidableEq, Inhabited
def forest_key.zero : forest_key := ⟨[], []⟩
def eforest_key (x : forest_key) : D := .agg [.str x.space, .str x.local_]
def tyforest_key : Ty := .agg [.str, .str]
def forest_key.ok (x : forest_key) : Prop := x.space.length ≤ maxLen ∧ x.local_.length ≤ maxLen
theorem eforest_key_all (x : forest_key) : D.sub (eforest_key x) 0 (some 2) = some (eforest_key x) := rfl
theorem eforest_key_space (x : forest_key) : D.sub (eforest_key x) 0 none = some (.str x.space) := rfl
theorem eforest_key_local_ (x : forest_key) : D.sub (eforest_key x) 1 none = some (.str x.local_) := rfl
attribute [go_sem] eforest_key_all eforest_key_space eforest_key_local_
theorem forest_key.of {d : D} (h : HasTy tyforest_key d) : ∃ x : forest_key, d = eforest_key x ∧ forest_key.ok x := by
  obtain ⟨xs, rfl, hl, hx⟩ := h.agg_inv
  match xs, hl with
  | [x0, x1], _ =>
    obtain ⟨y0, rfl, k0⟩ := HasTy.str_inv (hx 0 _ _ rfl rfl)
    obtain ⟨y1, rfl, k1⟩ := HasTy.str_inv (hx 1 _ _ rfl rfl)
    exact ⟨⟨y0, y1⟩, rfl, ⟨k0, k1⟩⟩
end Go.Proofs.YtejglgffianhgaaDoor.N
