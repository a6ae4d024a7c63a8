/- Shaken copy of a longer text: what one law needs. Its conditions: none. -/
import Derived.Test.YtnijbejobbajfaaZAiE
set_option linter.unusedSimpArgs false
set_option linter.unusedVariables false
namespace Go.Proofs.Ytnijbejobbajfaa.D
open Go.AI
structure Listener where
  id : Int
  node : Int
  type_ : List UInt8
  callback : Int
  capture : Bool
  once : Bool
  passive : Int
  signal : Int
  deriving DecidableEq, Inhabited
def Listener.zero : Listener := ⟨0, 0, [], 0, false, false, 0, 0⟩
def eListener (x : Listener) : D := .agg [.int .i64 x.id, .int .i64 x.node, .str x.type_, .int .i64 x.callback, .bool x.capture, .bool x.once, .int .u8 x.passive, .int .i64 x.signal]
def tyListener : Ty := .agg [.int .i64, .int .i64, .str, .int .i64, .bool, .bool, .int .u8, .int .i64]
def Listener.ok (x : Listener) : Prop := (IntKind.i64.min ≤ x.id ∧ x.id ≤ IntKind.i64.max) ∧ (IntKind.i64.min ≤ x.node ∧ x.node ≤ IntKind.i64.max) ∧ x.type_.length ≤ maxLen ∧ (IntKind.i64.min ≤ x.callback ∧ x.callback ≤ IntKind.i64.max) ∧ True ∧ True ∧ (IntKind.u8.min ≤ x.passive ∧ x.passive ≤ IntKind.u8.max) ∧ (IntKind.i64.min ≤ x.signal ∧ x.signal ≤ IntKind.i64.max)
theorem eListener_len (x : Listener) : (eListener x).cells.length = 8 := Eq.trans rfl rfl
theorem eListener_vlen (x : Listener) : (V.d (eListener x)).cells.length = 8 := Eq.trans rfl rfl
theorem eListener_all (x : Listener) : D.sub (eListener x) 0 (some 8) = some (eListener x) := rfl
theorem eListener_updall (x : Listener) (cs : List D) (h : cs.length = 8) : V.upd (.d (.agg cs)) 0 8 (.d (eListener x)) = some (.d (eListener x)) := upd_all (by simpa using h) rfl (by decide) rfl
theorem eListener_sized (x : Listener) : sized 8 [V.d (eListener x)] = true := sized_one rfl rfl
theorem eListener_sizeds (l : List Listener) : sized 8 (l.map fun x => V.d (eListener x)) = true := sized_map (f := fun x => V.d (eListener x)) (fun _ => rfl) (fun _ => rfl) l
theorem eListener_sizedm (l : List Listener) : sized 8 ((l.map eListener).map V.d) = true := by rw [List.map_map]; exact eListener_sizeds l
theorem eListener_id (x : Listener) : D.sub (eListener x) 0 none = some (.int .i64 x.id) := rfl
theorem eListener_node (x : Listener) : D.sub (eListener x) 1 none = some (.int .i64 x.node) := rfl
theorem eListener_type_ (x : Listener) : D.sub (eListener x) 2 none = some (.str x.type_) := rfl
theorem eListener_callback (x : Listener) : D.sub (eListener x) 3 none = some (.int .i64 x.callback) := rfl
theorem eListener_capture (x : Listener) : D.sub (eListener x) 4 none = some (.bool x.capture) := rfl
theorem eListener_once (x : Listener) : D.sub (eListener x) 5 none = some (.bool x.once) := rfl
theorem eListener_passive (x : Listener) : D.sub (eListener x) 6 none = some (.int .u8 x.passive) := rfl
theorem eListener_signal (x : Listener) : D.sub (eListener x) 7 none = some (.int .i64 x.signal) := rfl
attribute [go_sem] eListener_sized eListener_sizeds eListener_sizedm eListener_len eListener_vlen eListener_all eListener_updall eListener_id eListener_node eListener_type_ eListener_callback eListener_capture eListener_once eListener_passive eListener_signal
theorem Listener.of {d : D} (h : HasTy tyListener d) : ∃ x : Listener, d = eListener x ∧ Listener.ok x := by
  obtain ⟨xs, rfl, hl, hx⟩ := h.agg_inv
  match xs, hl with
  | [x0, x1, x2, x3, x4, x5, x6, x7], _ =>
    obtain ⟨y0, rfl, k0⟩ := HasTy.int_inv (hx 0 _ _ rfl rfl)
    obtain ⟨y1, rfl, k1⟩ := HasTy.int_inv (hx 1 _ _ rfl rfl)
    obtain ⟨y2, rfl, k2⟩ := HasTy.str_inv (hx 2 _ _ rfl rfl)
    obtain ⟨y3, rfl, k3⟩ := HasTy.int_inv (hx 3 _ _ rfl rfl)
    obtain ⟨y4, rfl, k4⟩ := HasTy.bool_inv (hx 4 _ _ rfl rfl)
    obtain ⟨y5, rfl, k5⟩ := HasTy.bool_inv (hx 5 _ _ rfl rfl)
    obtain ⟨y6, rfl, k6⟩ := HasTy.int_inv (hx 6 _ _ rfl rfl)
    obtain ⟨y7, rfl, k7⟩ := HasTy.int_inv (hx 7 _ _ rfl rfl)
    exact ⟨⟨y0, y1, y2, y3, y4, y5, y6, y7⟩, rfl, ⟨k0, k1, k2, k3, k4, k5, k6, k7⟩⟩
structure Listeners where
  list : Sl (Listener)
  next : Int
  deriving DecidableEq, Inhabited
def Listeners.zero : Listeners := ⟨⟨true, []⟩, 0⟩
def eListeners (x : Listeners) : D := .agg [.list x.list.n (x.list.l.map eListener), .int .i64 x.next]
def tyListeners : Ty := .agg [.list (tyListener), .int .i64]
def Listeners.ok (x : Listeners) : Prop := Sl.ok (fun y => Listener.ok y) x.list ∧ (IntKind.i64.min ≤ x.next ∧ x.next ≤ IntKind.i64.max)
theorem eListeners_len (x : Listeners) : (eListeners x).cells.length = 2 := Eq.trans rfl rfl
theorem eListeners_all (x : Listeners) : D.sub (eListeners x) 0 (some 2) = some (eListeners x) := rfl
theorem eListeners_updall (x : Listeners) (cs : List D) (h : cs.length = 2) : V.upd (.d (.agg cs)) 0 2 (.d (eListeners x)) = some (.d (eListeners x)) := upd_all (by simpa using h) rfl (by decide) rfl
theorem eListeners_updself (x y : Listeners) : V.upd (.d (eListeners y)) 0 2 (.d (eListeners x)) = some (.d (eListeners x)) := upd_all rfl rfl (by decide) rfl
theorem eListeners_list (x : Listeners) : D.sub (eListeners x) 0 none = some (.list x.list.n (x.list.l.map eListener)) := rfl
theorem eListeners_list_upd (x : Listeners) (b : Bool) (l : List (Listener)) : V.upd (.d (eListeners x)) 0 1 (.d (.list b (l.map eListener))) = some (.d (eListeners { x with list := ⟨b, l⟩ })) := upd_part rfl rfl rfl rfl rfl rfl
theorem eListeners_next (x : Listeners) : D.sub (eListeners x) 1 none = some (.int .i64 x.next) := rfl
attribute [go_sem] eListeners_len eListeners_all eListeners_updall eListeners_updself eListeners_list eListeners_list_upd eListeners_next
theorem Listeners.of {d : D} (h : HasTy tyListeners d) : ∃ x : Listeners, d = eListeners x ∧ Listeners.ok x := by
  obtain ⟨xs, rfl, hl, hx⟩ := h.agg_inv
  match xs, hl with
  | [x0, x1], _ =>
    obtain ⟨y0, rfl, k0⟩ := (HasTy.sl_inv (fun _ h => Listener.of h)) (hx 0 _ _ rfl rfl)
    obtain ⟨y1, rfl, k1⟩ := HasTy.int_inv (hx 1 _ _ rfl rfl)
    exact ⟨⟨y0, y1⟩, rfl, ⟨k0, k1⟩⟩
structure Event where
  type_ : List UInt8
  bubbles : Bool
  cancelable : Bool
  composed : Bool
  canceled : Bool
  stop : Bool
  stopNow : Bool
  passive : Bool
  dispatching : Bool
  phase : Int
  target : Int
  related : Int
  current : Int
  deriving DecidableEq, Inhabited
def Event.zero : Event := ⟨[], false, false, false, false, false, false, false, false, 0, 0, 0, 0⟩
def eEvent (x : Event) : D := .agg [.str x.type_, .bool x.bubbles, .bool x.cancelable, .bool x.composed, .bool x.canceled, .bool x.stop, .bool x.stopNow, .bool x.passive, .bool x.dispatching, .int .u8 x.phase, .int .i64 x.target, .int .i64 x.related, .int .i64 x.current]
def tyEvent : Ty := .agg [.str, .bool, .bool, .bool, .bool, .bool, .bool, .bool, .bool, .int .u8, .int .i64, .int .i64, .int .i64]
def Event.ok (x : Event) : Prop := x.type_.length ≤ maxLen ∧ True ∧ True ∧ True ∧ True ∧ True ∧ True ∧ True ∧ True ∧ (IntKind.u8.min ≤ x.phase ∧ x.phase ≤ IntKind.u8.max) ∧ (IntKind.i64.min ≤ x.target ∧ x.target ≤ IntKind.i64.max) ∧ (IntKind.i64.min ≤ x.related ∧ x.related ≤ IntKind.i64.max) ∧ (IntKind.i64.min ≤ x.current ∧ x.current ≤ IntKind.i64.max)
theorem eEvent_len (x : Event) : (eEvent x).cells.length = 13 := Eq.trans rfl rfl
theorem eEvent_all (x : Event) : D.sub (eEvent x) 0 (some 13) = some (eEvent x) := rfl
theorem eEvent_updall (x : Event) (cs : List D) (h : cs.length = 13) : V.upd (.d (.agg cs)) 0 13 (.d (eEvent x)) = some (.d (eEvent x)) := upd_all (by simpa using h) rfl (by decide) rfl
theorem eEvent_fill {cs : List V} {off : Nat} {r : List (Nat × Nat × V)} (x : Event) (h : off + 13 ≤ cs.length) : fillV cs ((off, 13, .d (eEvent x)) :: r) = fillV (splice cs off [.d (.str x.type_), .d (.bool x.bubbles), .d (.bool x.cancelable), .d (.bool x.composed), .d (.bool x.canceled), .d (.bool x.stop), .d (.bool x.stopNow), .d (.bool x.passive), .d (.bool x.dispatching), .d (.int .u8 x.phase), .d (.int .i64 x.target), .d (.int .i64 x.related), .d (.int .i64 x.current)]) r := fillV_agg rfl (by decide) h
theorem eEvent_type_ (x : Event) : D.sub (eEvent x) 0 none = some (.str x.type_) := rfl
theorem eEvent_bubbles (x : Event) : D.sub (eEvent x) 1 none = some (.bool x.bubbles) := rfl
theorem eEvent_cancelable (x : Event) : D.sub (eEvent x) 2 none = some (.bool x.cancelable) := rfl
theorem eEvent_composed (x : Event) : D.sub (eEvent x) 3 none = some (.bool x.composed) := rfl
theorem eEvent_canceled (x : Event) : D.sub (eEvent x) 4 none = some (.bool x.canceled) := rfl
theorem eEvent_stop (x : Event) : D.sub (eEvent x) 5 none = some (.bool x.stop) := rfl
theorem eEvent_stop_upd (x : Event) (v : Bool) : V.upd (.d (eEvent x)) 5 1 (.d (.bool v)) = some (.d (eEvent { x with stop := v })) := upd_part rfl rfl rfl rfl rfl rfl
theorem eEvent_stopNow (x : Event) : D.sub (eEvent x) 6 none = some (.bool x.stopNow) := rfl
theorem eEvent_stopNow_upd (x : Event) (v : Bool) : V.upd (.d (eEvent x)) 6 1 (.d (.bool v)) = some (.d (eEvent { x with stopNow := v })) := upd_part rfl rfl rfl rfl rfl rfl
theorem eEvent_passive (x : Event) : D.sub (eEvent x) 7 none = some (.bool x.passive) := rfl
theorem eEvent_passive_upd (x : Event) (v : Bool) : V.upd (.d (eEvent x)) 7 1 (.d (.bool v)) = some (.d (eEvent { x with passive := v })) := upd_part rfl rfl rfl rfl rfl rfl
theorem eEvent_dispatching (x : Event) : D.sub (eEvent x) 8 none = some (.bool x.dispatching) := rfl
theorem eEvent_dispatching_upd (x : Event) (v : Bool) : V.upd (.d (eEvent x)) 8 1 (.d (.bool v)) = some (.d (eEvent { x with dispatching := v })) := upd_part rfl rfl rfl rfl rfl rfl
theorem eEvent_phase (x : Event) : D.sub (eEvent x) 9 none = some (.int .u8 x.phase) := rfl
theorem eEvent_phase_upd (x : Event) (v : Int) : V.upd (.d (eEvent x)) 9 1 (.d (.int .u8 v)) = some (.d (eEvent { x with phase := v })) := upd_part rfl rfl rfl rfl rfl rfl
theorem eEvent_target (x : Event) : D.sub (eEvent x) 10 none = some (.int .i64 x.target) := rfl
theorem eEvent_target_upd (x : Event) (v : Int) : V.upd (.d (eEvent x)) 10 1 (.d (.int .i64 v)) = some (.d (eEvent { x with target := v })) := upd_part rfl rfl rfl rfl rfl rfl
theorem eEvent_related (x : Event) : D.sub (eEvent x) 11 none = some (.int .i64 x.related) := rfl
theorem eEvent_related_upd (x : Event) (v : Int) : V.upd (.d (eEvent x)) 11 1 (.d (.int .i64 v)) = some (.d (eEvent { x with related := v })) := upd_part rfl rfl rfl rfl rfl rfl
theorem eEvent_current (x : Event) : D.sub (eEvent x) 12 none = some (.int .i64 x.current) := rfl
theorem eEvent_current_upd (x : Event) (v : Int) : V.upd (.d (eEvent x)) 12 1 (.d (.int .i64 v)) = some (.d (eEvent { x with current := v })) := upd_part rfl rfl rfl rfl rfl rfl
attribute [go_sem] eEvent_fill eEvent_len eEvent_all eEvent_updall eEvent_type_ eEvent_bubbles eEvent_cancelable eEvent_composed eEvent_canceled eEvent_stop eEvent_stop_upd eEvent_stopNow eEvent_stopNow_upd eEvent_passive eEvent_passive_upd eEvent_dispatching eEvent_dispatching_upd eEvent_phase eEvent_phase_upd eEvent_target eEvent_target_upd eEvent_related eEvent_related_upd eEvent_current eEvent_current_upd
theorem Event.of {d : D} (h : HasTy tyEvent d) : ∃ x : Event, d = eEvent x ∧ Event.ok x := by
  obtain ⟨xs, rfl, hl, hx⟩ := h.agg_inv
  match xs, hl with
  | [x0, x1, x2, x3, x4, x5, x6, x7, x8, x9, x10, x11, x12], _ =>
    obtain ⟨y0, rfl, k0⟩ := HasTy.str_inv (hx 0 _ _ rfl rfl)
    obtain ⟨y1, rfl, k1⟩ := HasTy.bool_inv (hx 1 _ _ rfl rfl)
    obtain ⟨y2, rfl, k2⟩ := HasTy.bool_inv (hx 2 _ _ rfl rfl)
    obtain ⟨y3, rfl, k3⟩ := HasTy.bool_inv (hx 3 _ _ rfl rfl)
    obtain ⟨y4, rfl, k4⟩ := HasTy.bool_inv (hx 4 _ _ rfl rfl)
    obtain ⟨y5, rfl, k5⟩ := HasTy.bool_inv (hx 5 _ _ rfl rfl)
    obtain ⟨y6, rfl, k6⟩ := HasTy.bool_inv (hx 6 _ _ rfl rfl)
    obtain ⟨y7, rfl, k7⟩ := HasTy.bool_inv (hx 7 _ _ rfl rfl)
    obtain ⟨y8, rfl, k8⟩ := HasTy.bool_inv (hx 8 _ _ rfl rfl)
    obtain ⟨y9, rfl, k9⟩ := HasTy.int_inv (hx 9 _ _ rfl rfl)
    obtain ⟨y10, rfl, k10⟩ := HasTy.int_inv (hx 10 _ _ rfl rfl)
    obtain ⟨y11, rfl, k11⟩ := HasTy.int_inv (hx 11 _ _ rfl rfl)
    obtain ⟨y12, rfl, k12⟩ := HasTy.int_inv (hx 12 _ _ rfl rfl)
    exact ⟨⟨y0, y1, y2, y3, y4, y5, y6, y7, y8, y9, y10, y11, y12⟩, rfl, ⟨k0, k1, k2, k3, k4, k5, k6, k7, k8, k9, k10, k11, k12⟩⟩
structure Step where
  item : Int
  inShadow : Bool
  target : Int
  related : Int
  closed : Bool
  slot : Bool
  deriving DecidableEq, Inhabited
def Step.zero : Step := ⟨0, false, 0, 0, false, false⟩
def eStep (x : Step) : D := .agg [.int .i64 x.item, .bool x.inShadow, .int .i64 x.target, .int .i64 x.related, .bool x.closed, .bool x.slot]
def tyStep : Ty := .agg [.int .i64, .bool, .int .i64, .int .i64, .bool, .bool]
def Step.ok (x : Step) : Prop := (IntKind.i64.min ≤ x.item ∧ x.item ≤ IntKind.i64.max) ∧ True ∧ (IntKind.i64.min ≤ x.target ∧ x.target ≤ IntKind.i64.max) ∧ (IntKind.i64.min ≤ x.related ∧ x.related ≤ IntKind.i64.max) ∧ True ∧ True
theorem eStep_len (x : Step) : (eStep x).cells.length = 6 := Eq.trans rfl rfl
theorem eStep_all (x : Step) : D.sub (eStep x) 0 (some 6) = some (eStep x) := rfl
theorem eStep_updall (x : Step) (cs : List D) (h : cs.length = 6) : V.upd (.d (.agg cs)) 0 6 (.d (eStep x)) = some (.d (eStep x)) := upd_all (by simpa using h) rfl (by decide) rfl
theorem eStep_sizeds (l : List Step) : sized 6 (l.map fun x => V.d (eStep x)) = true := sized_map (f := fun x => V.d (eStep x)) (fun _ => rfl) (fun _ => rfl) l
theorem eStep_sizedm (l : List Step) : sized 6 ((l.map eStep).map V.d) = true := by rw [List.map_map]; exact eStep_sizeds l
theorem eStep_item (x : Step) : D.sub (eStep x) 0 none = some (.int .i64 x.item) := rfl
theorem eStep_inShadow (x : Step) : D.sub (eStep x) 1 none = some (.bool x.inShadow) := rfl
theorem eStep_target (x : Step) : D.sub (eStep x) 2 none = some (.int .i64 x.target) := rfl
theorem eStep_related (x : Step) : D.sub (eStep x) 3 none = some (.int .i64 x.related) := rfl
theorem eStep_closed (x : Step) : D.sub (eStep x) 4 none = some (.bool x.closed) := rfl
theorem eStep_slot (x : Step) : D.sub (eStep x) 5 none = some (.bool x.slot) := rfl
attribute [go_sem] eStep_sizeds eStep_sizedm eStep_len eStep_all eStep_updall eStep_item eStep_inShadow eStep_target eStep_related eStep_closed eStep_slot
theorem Step.of {d : D} (h : HasTy tyStep d) : ∃ x : Step, d = eStep x ∧ Step.ok x := by
  obtain ⟨xs, rfl, hl, hx⟩ := h.agg_inv
  match xs, hl with
  | [x0, x1, x2, x3, x4, x5], _ =>
    obtain ⟨y0, rfl, k0⟩ := HasTy.int_inv (hx 0 _ _ rfl rfl)
    obtain ⟨y1, rfl, k1⟩ := HasTy.bool_inv (hx 1 _ _ rfl rfl)
    obtain ⟨y2, rfl, k2⟩ := HasTy.int_inv (hx 2 _ _ rfl rfl)
    obtain ⟨y3, rfl, k3⟩ := HasTy.int_inv (hx 3 _ _ rfl rfl)
    obtain ⟨y4, rfl, k4⟩ := HasTy.bool_inv (hx 4 _ _ rfl rfl)
    obtain ⟨y5, rfl, k5⟩ := HasTy.bool_inv (hx 5 _ _ rfl rfl)
    exact ⟨⟨y0, y1, y2, y3, y4, y5⟩, rfl, ⟨k0, k1, k2, k3, k4, k5⟩⟩
structure Run where
  event : Event
  path : Sl (Step)
  turn : Int
  due : Sl (Int)
  clears : Bool
  deriving DecidableEq, Inhabited
def Run.zero : Run := ⟨Event.zero, ⟨true, []⟩, 0, ⟨true, []⟩, false⟩
def eRun (x : Run) : D := .agg [.str x.event.type_, .bool x.event.bubbles, .bool x.event.cancelable, .bool x.event.composed, .bool x.event.canceled, .bool x.event.stop, .bool x.event.stopNow, .bool x.event.passive, .bool x.event.dispatching, .int .u8 x.event.phase, .int .i64 x.event.target, .int .i64 x.event.related, .int .i64 x.event.current, .list x.path.n (x.path.l.map eStep), .int .i64 x.turn, .list x.due.n (x.due.l.map (D.int .i64)), .bool x.clears]
def tyRun : Ty := .agg [.str, .bool, .bool, .bool, .bool, .bool, .bool, .bool, .bool, .int .u8, .int .i64, .int .i64, .int .i64, .list (tyStep), .int .i64, .list (.int .i64), .bool]
def Run.ok (x : Run) : Prop := Event.ok x.event ∧ Sl.ok (fun y => Step.ok y) x.path ∧ (IntKind.i64.min ≤ x.turn ∧ x.turn ≤ IntKind.i64.max) ∧ Sl.ok (fun y => (IntKind.i64.min ≤ y ∧ y ≤ IntKind.i64.max)) x.due ∧ True
theorem eRun_len (x : Run) : (eRun x).cells.length = 17 := Eq.trans rfl rfl
theorem eRun_all (x : Run) : D.sub (eRun x) 0 (some 17) = some (eRun x) := rfl
theorem eRun_updall (x : Run) (cs : List D) (h : cs.length = 17) : V.upd (.d (.agg cs)) 0 17 (.d (eRun x)) = some (.d (eRun x)) := upd_all (by simpa using h) rfl (by decide) rfl
theorem eRun_updself (x y : Run) : V.upd (.d (eRun y)) 0 17 (.d (eRun x)) = some (.d (eRun x)) := upd_all rfl rfl (by decide) rfl
theorem eRun_event (x : Run) : D.sub (eRun x) 0 (some 13) = some (eEvent x.event) := rfl
theorem eRun_event_type_ (x : Run) : D.sub (eRun x) 0 none = some (.str x.event.type_) := rfl
theorem eRun_event_bubbles (x : Run) : D.sub (eRun x) 1 none = some (.bool x.event.bubbles) := rfl
theorem eRun_event_cancelable (x : Run) : D.sub (eRun x) 2 none = some (.bool x.event.cancelable) := rfl
theorem eRun_event_composed (x : Run) : D.sub (eRun x) 3 none = some (.bool x.event.composed) := rfl
theorem eRun_event_canceled (x : Run) : D.sub (eRun x) 4 none = some (.bool x.event.canceled) := rfl
theorem eRun_event_canceled_upd (x : Run) (v : Bool) : V.upd (.d (eRun x)) 4 1 (.d (.bool v)) = some (.d (eRun { x with event := { x.event with canceled := v } })) := upd_part rfl rfl rfl rfl rfl rfl
theorem eRun_event_stop (x : Run) : D.sub (eRun x) 5 none = some (.bool x.event.stop) := rfl
theorem eRun_event_stop_upd (x : Run) (v : Bool) : V.upd (.d (eRun x)) 5 1 (.d (.bool v)) = some (.d (eRun { x with event := { x.event with stop := v } })) := upd_part rfl rfl rfl rfl rfl rfl
theorem eRun_event_stopNow (x : Run) : D.sub (eRun x) 6 none = some (.bool x.event.stopNow) := rfl
theorem eRun_event_stopNow_upd (x : Run) (v : Bool) : V.upd (.d (eRun x)) 6 1 (.d (.bool v)) = some (.d (eRun { x with event := { x.event with stopNow := v } })) := upd_part rfl rfl rfl rfl rfl rfl
theorem eRun_event_passive (x : Run) : D.sub (eRun x) 7 none = some (.bool x.event.passive) := rfl
theorem eRun_event_passive_upd (x : Run) (v : Bool) : V.upd (.d (eRun x)) 7 1 (.d (.bool v)) = some (.d (eRun { x with event := { x.event with passive := v } })) := upd_part rfl rfl rfl rfl rfl rfl
theorem eRun_event_dispatching (x : Run) : D.sub (eRun x) 8 none = some (.bool x.event.dispatching) := rfl
theorem eRun_event_phase (x : Run) : D.sub (eRun x) 9 none = some (.int .u8 x.event.phase) := rfl
theorem eRun_event_phase_upd (x : Run) (v : Int) : V.upd (.d (eRun x)) 9 1 (.d (.int .u8 v)) = some (.d (eRun { x with event := { x.event with phase := v } })) := upd_part rfl rfl rfl rfl rfl rfl
theorem eRun_event_target (x : Run) : D.sub (eRun x) 10 none = some (.int .i64 x.event.target) := rfl
theorem eRun_event_target_upd (x : Run) (v : Int) : V.upd (.d (eRun x)) 10 1 (.d (.int .i64 v)) = some (.d (eRun { x with event := { x.event with target := v } })) := upd_part rfl rfl rfl rfl rfl rfl
theorem eRun_event_related (x : Run) : D.sub (eRun x) 11 none = some (.int .i64 x.event.related) := rfl
theorem eRun_event_related_upd (x : Run) (v : Int) : V.upd (.d (eRun x)) 11 1 (.d (.int .i64 v)) = some (.d (eRun { x with event := { x.event with related := v } })) := upd_part rfl rfl rfl rfl rfl rfl
theorem eRun_event_current (x : Run) : D.sub (eRun x) 12 none = some (.int .i64 x.event.current) := rfl
theorem eRun_event_current_upd (x : Run) (v : Int) : V.upd (.d (eRun x)) 12 1 (.d (.int .i64 v)) = some (.d (eRun { x with event := { x.event with current := v } })) := upd_part rfl rfl rfl rfl rfl rfl
theorem eRun_path (x : Run) : D.sub (eRun x) 13 none = some (.list x.path.n (x.path.l.map eStep)) := rfl
theorem eRun_path_upd (x : Run) (b : Bool) (l : List (Step)) : V.upd (.d (eRun x)) 13 1 (.d (.list b (l.map eStep))) = some (.d (eRun { x with path := ⟨b, l⟩ })) := upd_part rfl rfl rfl rfl rfl rfl
theorem eRun_turn (x : Run) : D.sub (eRun x) 14 none = some (.int .i64 x.turn) := rfl
theorem eRun_turn_upd (x : Run) (v : Int) : V.upd (.d (eRun x)) 14 1 (.d (.int .i64 v)) = some (.d (eRun { x with turn := v })) := upd_part rfl rfl rfl rfl rfl rfl
theorem eRun_due (x : Run) : D.sub (eRun x) 15 none = some (.list x.due.n (x.due.l.map (D.int .i64))) := rfl
theorem eRun_due_upd (x : Run) (b : Bool) (l : List (Int)) : V.upd (.d (eRun x)) 15 1 (.d (.list b (l.map (D.int .i64)))) = some (.d (eRun { x with due := ⟨b, l⟩ })) := upd_part rfl rfl rfl rfl rfl rfl
theorem eRun_due_upd0 (x : Run) (b : Bool) : V.upd (.d (eRun x)) 15 1 (.d (.list b [])) = some (.d (eRun { x with due := ⟨b, []⟩ })) := upd_part rfl rfl rfl rfl rfl rfl
theorem eRun_clears (x : Run) : D.sub (eRun x) 16 none = some (.bool x.clears) := rfl
attribute [go_sem] eRun_len eRun_all eRun_updall eRun_updself eRun_event eRun_event_type_ eRun_event_bubbles eRun_event_cancelable eRun_event_composed eRun_event_canceled eRun_event_canceled_upd eRun_event_stop eRun_event_stop_upd eRun_event_stopNow eRun_event_stopNow_upd eRun_event_passive eRun_event_passive_upd eRun_event_dispatching eRun_event_phase eRun_event_phase_upd eRun_event_target eRun_event_target_upd eRun_event_related eRun_event_related_upd eRun_event_current eRun_event_current_upd eRun_path eRun_path_upd eRun_turn eRun_turn_upd eRun_due eRun_due_upd eRun_due_upd0 eRun_clears
theorem Run.of {d : D} (h : HasTy tyRun d) : ∃ x : Run, d = eRun x ∧ Run.ok x := by
  obtain ⟨xs, rfl, hl, hx⟩ := h.agg_inv
  match xs, hl with
  | [x0, x1, x2, x3, x4, x5, x6, x7, x8, x9, x10, x11, x12, x13, x14, x15, x16], _ =>
    obtain ⟨y0, rfl, k0⟩ := HasTy.str_inv (hx 0 _ _ rfl rfl)
    obtain ⟨y1, rfl, k1⟩ := HasTy.bool_inv (hx 1 _ _ rfl rfl)
    obtain ⟨y2, rfl, k2⟩ := HasTy.bool_inv (hx 2 _ _ rfl rfl)
    obtain ⟨y3, rfl, k3⟩ := HasTy.bool_inv (hx 3 _ _ rfl rfl)
    obtain ⟨y4, rfl, k4⟩ := HasTy.bool_inv (hx 4 _ _ rfl rfl)
    obtain ⟨y5, rfl, k5⟩ := HasTy.bool_inv (hx 5 _ _ rfl rfl)
    obtain ⟨y6, rfl, k6⟩ := HasTy.bool_inv (hx 6 _ _ rfl rfl)
    obtain ⟨y7, rfl, k7⟩ := HasTy.bool_inv (hx 7 _ _ rfl rfl)
    obtain ⟨y8, rfl, k8⟩ := HasTy.bool_inv (hx 8 _ _ rfl rfl)
    obtain ⟨y9, rfl, k9⟩ := HasTy.int_inv (hx 9 _ _ rfl rfl)
    obtain ⟨y10, rfl, k10⟩ := HasTy.int_inv (hx 10 _ _ rfl rfl)
    obtain ⟨y11, rfl, k11⟩ := HasTy.int_inv (hx 11 _ _ rfl rfl)
    obtain ⟨y12, rfl, k12⟩ := HasTy.int_inv (hx 12 _ _ rfl rfl)
    obtain ⟨y13, rfl, k13⟩ := (HasTy.sl_inv (fun _ h => Step.of h)) (hx 13 _ _ rfl rfl)
    obtain ⟨y14, rfl, k14⟩ := HasTy.int_inv (hx 14 _ _ rfl rfl)
    obtain ⟨y15, rfl, k15⟩ := (HasTy.sl_inv (fun _ h => HasTy.int_inv h)) (hx 15 _ _ rfl rfl)
    obtain ⟨y16, rfl, k16⟩ := HasTy.bool_inv (hx 16 _ _ rfl rfl)
    exact ⟨⟨⟨y0, y1, y2, y3, y4, y5, y6, y7, y8, y9, y10, y11, y12⟩, y13, y14, y15, y16⟩, rfl, ⟨⟨k0, k1, k2, k3, k4, k5, k6, k7, k8, k9, k10, k11, k12⟩, k13, k14, k15, k16⟩⟩
structure Call where
  id : Int
  callback : Int
  step : Int
  deriving DecidableEq, Inhabited
def Call.zero : Call := ⟨0, 0, 0⟩
def eCall (x : Call) : D := .agg [.int .i64 x.id, .int .i64 x.callback, .int .i64 x.step]
def tyCall : Ty := .agg [.int .i64, .int .i64, .int .i64]
def Call.ok (x : Call) : Prop := (IntKind.i64.min ≤ x.id ∧ x.id ≤ IntKind.i64.max) ∧ (IntKind.i64.min ≤ x.callback ∧ x.callback ≤ IntKind.i64.max) ∧ (IntKind.i64.min ≤ x.step ∧ x.step ≤ IntKind.i64.max)
theorem eCall_len (x : Call) : (eCall x).cells.length = 3 := Eq.trans rfl rfl
theorem eCall_vlen (x : Call) : (V.d (eCall x)).cells.length = 3 := Eq.trans rfl rfl
theorem eCall_all (x : Call) : D.sub (eCall x) 0 (some 3) = some (eCall x) := rfl
theorem eCall_updall (x : Call) (cs : List D) (h : cs.length = 3) : V.upd (.d (.agg cs)) 0 3 (.d (eCall x)) = some (.d (eCall x)) := upd_all (by simpa using h) rfl (by decide) rfl
theorem eCall_sized (x : Call) : sized 3 [V.d (eCall x)] = true := sized_one rfl rfl
theorem eCall_id (x : Call) : D.sub (eCall x) 0 none = some (.int .i64 x.id) := rfl
theorem eCall_callback (x : Call) : D.sub (eCall x) 1 none = some (.int .i64 x.callback) := rfl
theorem eCall_step (x : Call) : D.sub (eCall x) 2 none = some (.int .i64 x.step) := rfl
attribute [go_sem] eCall_sized eCall_len eCall_vlen eCall_all eCall_updall eCall_id eCall_callback eCall_step
theorem Call.of {d : D} (h : HasTy tyCall d) : ∃ x : Call, d = eCall x ∧ Call.ok x := by
  obtain ⟨xs, rfl, hl, hx⟩ := h.agg_inv
  match xs, hl with
  | [x0, x1, x2], _ =>
    obtain ⟨y0, rfl, k0⟩ := HasTy.int_inv (hx 0 _ _ rfl rfl)
    obtain ⟨y1, rfl, k1⟩ := HasTy.int_inv (hx 1 _ _ rfl rfl)
    obtain ⟨y2, rfl, k2⟩ := HasTy.int_inv (hx 2 _ _ rfl rfl)
    exact ⟨⟨y0, y1, y2⟩, rfl, ⟨k0, k1, k2⟩⟩
structure Effects where
  callback : Int
  does : Sl (Int)
  gone : Sl (Int)
  deriving DecidableEq, Inhabited
def Effects.zero : Effects := ⟨0, ⟨true, []⟩, ⟨true, []⟩⟩
def eEffects (x : Effects) : D := .agg [.int .i64 x.callback, .list x.does.n (x.does.l.map (D.int .u8)), .list x.gone.n (x.gone.l.map (D.int .i64))]
def tyEffects : Ty := .agg [.int .i64, .list (.int .u8), .list (.int .i64)]
def Effects.ok (x : Effects) : Prop := (IntKind.i64.min ≤ x.callback ∧ x.callback ≤ IntKind.i64.max) ∧ Sl.ok (fun y => (IntKind.u8.min ≤ y ∧ y ≤ IntKind.u8.max)) x.does ∧ Sl.ok (fun y => (IntKind.i64.min ≤ y ∧ y ≤ IntKind.i64.max)) x.gone
theorem eEffects_len (x : Effects) : (eEffects x).cells.length = 3 := Eq.trans rfl rfl
theorem eEffects_all (x : Effects) : D.sub (eEffects x) 0 (some 3) = some (eEffects x) := rfl
theorem eEffects_updall (x : Effects) (cs : List D) (h : cs.length = 3) : V.upd (.d (.agg cs)) 0 3 (.d (eEffects x)) = some (.d (eEffects x)) := upd_all (by simpa using h) rfl (by decide) rfl
theorem eEffects_callback (x : Effects) : D.sub (eEffects x) 0 none = some (.int .i64 x.callback) := rfl
theorem eEffects_does (x : Effects) : D.sub (eEffects x) 1 none = some (.list x.does.n (x.does.l.map (D.int .u8))) := rfl
theorem eEffects_gone (x : Effects) : D.sub (eEffects x) 2 none = some (.list x.gone.n (x.gone.l.map (D.int .i64))) := rfl
attribute [go_sem] eEffects_len eEffects_all eEffects_updall eEffects_callback eEffects_does eEffects_gone
theorem Effects.of {d : D} (h : HasTy tyEffects d) : ∃ x : Effects, d = eEffects x ∧ Effects.ok x := by
  obtain ⟨xs, rfl, hl, hx⟩ := h.agg_inv
  match xs, hl with
  | [x0, x1, x2], _ =>
    obtain ⟨y0, rfl, k0⟩ := HasTy.int_inv (hx 0 _ _ rfl rfl)
    obtain ⟨y1, rfl, k1⟩ := (HasTy.sl_inv (fun _ h => HasTy.int_inv h)) (hx 1 _ _ rfl rfl)
    obtain ⟨y2, rfl, k2⟩ := (HasTy.sl_inv (fun _ h => HasTy.int_inv h)) (hx 2 _ _ rfl rfl)
    exact ⟨⟨y0, y1, y2⟩, rfl, ⟨k0, k1, k2⟩⟩
structure listen_place where
  node : Int
  kind : List UInt8
  callback : Int
  capture : Bool
  deriving DecidableEq, Inhabited
def listen_place.zero : listen_place := ⟨0, [], 0, false⟩
def elisten_place (x : listen_place) : D := .agg [.int .i64 x.node, .str x.kind, .int .i64 x.callback, .bool x.capture]
def tylisten_place : Ty := .agg [.int .i64, .str, .int .i64, .bool]
def listen_place.ok (x : listen_place) : Prop := (IntKind.i64.min ≤ x.node ∧ x.node ≤ IntKind.i64.max) ∧ x.kind.length ≤ maxLen ∧ (IntKind.i64.min ≤ x.callback ∧ x.callback ≤ IntKind.i64.max) ∧ True
theorem elisten_place_all (x : listen_place) : D.sub (elisten_place x) 0 (some 4) = some (elisten_place x) := rfl
theorem elisten_place_updall (x : listen_place) (cs : List D) (h : cs.length = 4) : V.upd (.d (.agg cs)) 0 4 (.d (elisten_place x)) = some (.d (elisten_place x)) := upd_all (by simpa using h) rfl (by decide) rfl
theorem elisten_place_node (x : listen_place) : D.sub (elisten_place x) 0 none = some (.int .i64 x.node) := rfl
theorem elisten_place_kind (x : listen_place) : D.sub (elisten_place x) 1 none = some (.str x.kind) := rfl
theorem elisten_place_callback (x : listen_place) : D.sub (elisten_place x) 2 none = some (.int .i64 x.callback) := rfl
theorem elisten_place_capture (x : listen_place) : D.sub (elisten_place x) 3 none = some (.bool x.capture) := rfl
theorem elisten_place_key : Keyed [.int, .str, .int, .bool] elisten_place := by
  intro x y
  simp only [keyEq, elisten_place, D.isAgg, D.cells, cellsEq, cellEq, if_true, Option.bind_some, Option.map_some]
  rw [if_pos ⟨rfl, rfl⟩]
  congr 1
  rw [Bool.eq_iff_iff]; cases x; cases y; simp [and_assoc]
attribute [go_sem] elisten_place_all elisten_place_updall elisten_place_node elisten_place_kind elisten_place_callback elisten_place_capture
theorem listen_place.of {d : D} (h : HasTy tylisten_place d) : ∃ x : listen_place, d = elisten_place x ∧ listen_place.ok x := by
  obtain ⟨xs, rfl, hl, hx⟩ := h.agg_inv
  match xs, hl with
  | [x0, x1, x2, x3], _ =>
    obtain ⟨y0, rfl, k0⟩ := HasTy.int_inv (hx 0 _ _ rfl rfl)
    obtain ⟨y1, rfl, k1⟩ := HasTy.str_inv (hx 1 _ _ rfl rfl)
    obtain ⟨y2, rfl, k2⟩ := HasTy.int_inv (hx 2 _ _ rfl rfl)
    obtain ⟨y3, rfl, k3⟩ := HasTy.bool_inv (hx 3 _ _ rfl rfl)
    exact ⟨⟨y0, y1, y2, y3⟩, rfl, ⟨k0, k1, k2, k3⟩⟩
end Go.Proofs.Ytnijbejobbajfaa.D
