import Derived.WalkKit
import Derived.Orders
import Derived.OrdersHeld
set_option linter.all false
namespace Go.Ax
structure Job where
  Id:Int
  User:Int
  Width:Int
  Limit:Int
  Prio:Int
  State:Int
  Start:Int
  End:Int
  Plan:Int
  Nodes:Int
structure Req where
  Kind:Int
  Id:Int
  User:Int
  Width:Int
  Limit:Int
  Prio:Int
  Held:Bool
  Node:Int
  By:Int
structure Reply where
  Err:Int
  Id:Int
  State:Int
  Start:Int
  End:Int
  Plan:Int
  A:Int
  B:Int
  C:Int
structure Step where
  At:Int
  Free:Int
structure Span where
  From:Int
  To:Int
  Width:Int
structure Item where
  Id:Int
  Width:Int
  Limit:Int
  Plan:Int
structure Choice where
  Id:Int
  At:Int
structure Event where
  Step:Int
  Kind:Int
  Task:Int
  Req:Req
  Reply:Reply
  Choice:Choice
  OK:Bool
structure Deed where
  Commit:Bool
  R:Req
  X:Choice
structure SDeed where
  Req:Req
  Choice:Choice
  Commit:Bool
structure Change where
  Id:Int
  From:Int
  To:Int
  Plan:Bool
structure Answer where
  Task:Int
  Reply:Reply
structure Told37 where
  Id:Int
  Start:Int
  End:Int
structure Entry where
  At:Int
  Run:Int
  Limit:Int
  Width:Int
  User:Int
  Prio:Int
structure Arr7 where
  a0:Int
  a1:Int
  a2:Int
  a3:Int
  a4:Int
  a5:Int
  a6:Int
structure Lane where
  a0:Bool
  a1:Bool
  a2:Bool
structure RAct where
  Kind:Int
  Data:List Int
  N:Int
structure CAct where
  Kind:Int
  R:Req
  Raw:List Int
  N:Int
structure PAct where
  Kind:Int
  Client:Int
  N:Int
  R:Req
  Raw:List Int
inductive EK where
  |i64
  |u8
  |u64
  |bool
  |str
  |job
  |req
  |reply
  |step
  |span
  |item
  |choice
  |event
  |deed
  |sdeed
  |change
  |answer
  |told37
  |entry
  |arr7
  |lane
  |ract
  |cact
  |pact
@[reducible] def EK.T:EK→Type
  | .i64 | .u8 | .u64=>Int
  | .bool=>Bool
  | .str=>ByteArray
  | .job=>Job
  | .req=>Req
  | .reply=>Reply
  | .step=>Step
  | .span=>Span
  | .item=>Item
  | .choice=>Choice
  | .event=>Event
  | .deed=>Deed
  | .sdeed=>SDeed
  | .change=>Change
  | .answer=>Answer
  | .told37=>Told37
  | .entry=>Entry
  | .arr7=>Arr7
  | .lane=>Lane
  | .ract=>RAct
  | .cact=>CAct
  | .pact=>PAct
def EK.esz:EK→Nat
  | .i64 | .u8 | .u64 | .bool | .str=>1
  | .job=>10
  | .req=>9
  | .reply=>9
  | .step=>2
  | .span=>3
  | .item=>4
  | .choice=>2
  | .event=>24
  | .deed=>12
  | .sdeed=>12
  | .change=>4
  | .answer=>10
  | .told37=>3
  | .entry=>6
  | .arr7=>7
  | .lane=>3
  | .ract=>3
  | .cact=>12
  | .pact=>13
def EK.num:EK→Nat
  | .i64=>0
  | .u8=>1
  | .u64=>2
  | .bool=>3
  | .str=>4
  | .job=>5
  | .req=>6
  | .reply=>7
  | .step=>8
  | .span=>9
  | .item=>10
  | .choice=>11
  | .event=>12
  | .deed=>13
  | .sdeed=>14
  | .change=>15
  | .answer=>16
  | .told37=>17
  | .entry=>18
  | .arr7=>19
  | .lane=>20
  | .ract=>21
  | .cact=>22
  | .pact=>23
theorem EK.num_inj {a b:EK} (h:a.num=b.num):a=b:=by cases a<;>cases b<;>first |rfl |(exact absurd h (by decide))
instance:DecidableEq EK:=fun a b=>match Nat.decEq a.num b.num with |isTrue h=>isTrue (EK.num_inj h) |isFalse h=>isFalse (fun e=>h (congrArg EK.num e))
def EK.def:(k:EK)→k.T
  | .i64 | .u8 | .u64=>(0:Int)
  | .bool=>false
  | .str=>ByteArray.empty
  | .job=>⟨0,0,0,0,0,0,0,0,0,0⟩
  | .req=>⟨0,0,0,0,0,0,false,0,0⟩
  | .reply=>⟨0,0,0,0,0,0,0,0,0⟩
  | .step=>⟨0,0⟩
  | .span=>⟨0,0,0⟩
  | .item=>⟨0,0,0,0⟩
  | .choice=>⟨0,0⟩
  | .event=>⟨0,0,0,⟨0,0,0,0,0,0,false,0,0⟩,⟨0,0,0,0,0,0,0,0,0⟩,⟨0,0⟩,false⟩
  | .deed=>⟨false,⟨0,0,0,0,0,0,false,0,0⟩,⟨0,0⟩⟩
  | .sdeed=>⟨⟨0,0,0,0,0,0,false,0,0⟩,⟨0,0⟩,false⟩
  | .change=>⟨0,0,0,false⟩
  | .answer=>⟨0,⟨0,0,0,0,0,0,0,0,0⟩⟩
  | .told37=>⟨0,0,0⟩
  | .entry=>⟨0,0,0,0,0,0⟩
  | .arr7=>⟨0,0,0,0,0,0,0⟩
  | .lane=>⟨false,false,false⟩
  | .ract=>⟨0,[],0⟩
  | .cact=>⟨0,⟨0,0,0,0,0,0,false,0,0⟩,[],0⟩
  | .pact=>⟨0,0,0,⟨0,0,0,0,0,0,false,0,0⟩,[]⟩
structure Root where
  blk:Option Nat
  off:Nat
  tot:Nat
structure Ref where
  lab:Nat
  idx:Nat
  esz:Nat
  off:Nat
inductive AV where
  |bool (b:Bool)
  |int (k:IntKind) (n:Int)
  |str (s:ByteArray)
  |imm (k:EK) (xs:List k.T)
  |ptr (r:Ref)
  |nilp
  |sl (lab esz base len:Nat)
  |nils
  |fn (f:FuncId) (cap:List AV)
  |fnb (f:FuncId) (first:List AV)
  |nilf
  |nilm
  |mp (lab:Nat)
  |ifc (t:TypeId) (v:AV)
  |nili
  |agg (vs:List AV)
  |tup (vs:List AV)
  |cptr (cells:List AV) (off:Nat)
  |capi (lab base:Nat) (c:Int)
def EK.enc:(k:EK)→k.T→List AV
  | .i64,x=>[.int .i64 x]
  | .u8,x=>[.int .u8 x]
  | .u64,x=>[.int .u64 x]
  | .bool,x=>[.bool x]
  | .str,x=>[.str x]
  | .job,x=>[.int .i64 x.Id,.int .i64 x.User,.int .i64 x.Width,.int .i64 x.Limit,.int .i64 x.Prio,.int .i64 x.State,.int .i64 x.Start,.int .i64 x.End,.int .i64 x.Plan,.int .u64 x.Nodes]
  | .req,x=>[.int .i64 x.Kind,.int .i64 x.Id,.int .i64 x.User,.int .i64 x.Width,.int .i64 x.Limit,.int .i64 x.Prio,.bool x.Held,.int .i64 x.Node,.int .i64 x.By]
  | .reply,x=>[.int .i64 x.Err,.int .i64 x.Id,.int .i64 x.State,.int .i64 x.Start,.int .i64 x.End,.int .i64 x.Plan,.int .i64 x.A,.int .i64 x.B,.int .i64 x.C]
  | .step,x=>[.int .i64 x.At,.int .i64 x.Free]
  | .span,x=>[.int .i64 x.From,.int .i64 x.To,.int .i64 x.Width]
  | .item,x=>[.int .i64 x.Id,.int .i64 x.Width,.int .i64 x.Limit,.int .i64 x.Plan]
  | .choice,x=>[.int .i64 x.Id,.int .i64 x.At]
  | .event,x=>[.int .i64 x.Step,.int .i64 x.Kind,.int .i64 x.Task,.int .i64 x.Req.Kind,.int .i64 x.Req.Id,.int .i64 x.Req.User,.int .i64 x.Req.Width,.int .i64 x.Req.Limit,.int .i64 x.Req.Prio,.bool x.Req.Held,.int .i64 x.Req.Node,.int .i64 x.Req.By,.int .i64 x.Reply.Err,.int .i64 x.Reply.Id,.int .i64 x.Reply.State,.int .i64 x.Reply.Start,.int .i64 x.Reply.End,.int .i64 x.Reply.Plan,.int .i64 x.Reply.A,.int .i64 x.Reply.B,.int .i64 x.Reply.C,.int .i64 x.Choice.Id,.int .i64 x.Choice.At,.bool x.OK]
  | .deed,x=>[.bool x.Commit,.int .i64 x.R.Kind,.int .i64 x.R.Id,.int .i64 x.R.User,.int .i64 x.R.Width,.int .i64 x.R.Limit,.int .i64 x.R.Prio,.bool x.R.Held,.int .i64 x.R.Node,.int .i64 x.R.By,.int .i64 x.X.Id,.int .i64 x.X.At]
  | .sdeed,x=>[.int .i64 x.Req.Kind,.int .i64 x.Req.Id,.int .i64 x.Req.User,.int .i64 x.Req.Width,.int .i64 x.Req.Limit,.int .i64 x.Req.Prio,.bool x.Req.Held,.int .i64 x.Req.Node,.int .i64 x.Req.By,.int .i64 x.Choice.Id,.int .i64 x.Choice.At,.bool x.Commit]
  | .change,x=>[.int .i64 x.Id,.int .i64 x.From,.int .i64 x.To,.bool x.Plan]
  | .answer,x=>[.int .i64 x.Task,.int .i64 x.Reply.Err,.int .i64 x.Reply.Id,.int .i64 x.Reply.State,.int .i64 x.Reply.Start,.int .i64 x.Reply.End,.int .i64 x.Reply.Plan,.int .i64 x.Reply.A,.int .i64 x.Reply.B,.int .i64 x.Reply.C]
  | .told37,x=>[.int .i64 x.Id,.int .i64 x.Start,.int .i64 x.End]
  | .entry,x=>[.int .i64 x.At,.int .i64 x.Run,.int .i64 x.Limit,.int .i64 x.Width,.int .i64 x.User,.int .i64 x.Prio]
  | .arr7,x=>[.int .i64 x.a0,.int .i64 x.a1,.int .i64 x.a2,.int .i64 x.a3,.int .i64 x.a4,.int .i64 x.a5,.int .i64 x.a6]
  | .lane,x=>[.bool x.a0,.bool x.a1,.bool x.a2]
  | .ract,x=>[.int .i64 x.Kind,.imm .u8 x.Data,.int .i64 x.N]
  | .cact,x=>[.int .i64 x.Kind,.int .i64 x.R.Kind,.int .i64 x.R.Id,.int .i64 x.R.User,.int .i64 x.R.Width,.int .i64 x.R.Limit,.int .i64 x.R.Prio,.bool x.R.Held,.int .i64 x.R.Node,.int .i64 x.R.By,.imm .u8 x.Raw,.int .i64 x.N]
  | .pact,x=>[.int .i64 x.Kind,.int .i64 x.Client,.int .i64 x.N,.int .i64 x.R.Kind,.int .i64 x.R.Id,.int .i64 x.R.User,.int .i64 x.R.Width,.int .i64 x.R.Limit,.int .i64 x.R.Prio,.bool x.R.Held,.int .i64 x.R.Node,.int .i64 x.R.By,.imm .u8 x.Raw]
def dec_i64:List AV→Option Int
  | [.int .i64 x]=>some x
  |_=>none
def dec_u8:List AV→Option Int
  | [.int .u8 x]=>some x
  |_=>none
def dec_u64:List AV→Option Int
  | [.int .u64 x]=>some x
  |_=>none
def dec_bool:List AV→Option Bool
  | [.bool x]=>some x
  |_=>none
def dec_str:List AV→Option ByteArray
  | [.str x]=>some x
  |_=>none
def dec_job:List AV→Option Job
  | .int .i64 x_Id:: .int .i64 x_User:: .int .i64 x_Width:: .int .i64 x_Limit:: .int .i64 x_Prio:: .int .i64 x_State:: .int .i64 x_Start:: .int .i64 x_End:: .int .i64 x_Plan:: .int .u64 x_Nodes::[]=>some ⟨x_Id,x_User,x_Width,x_Limit,x_Prio,x_State,x_Start,x_End,x_Plan,x_Nodes⟩
  |_=>none
def dec_req:List AV→Option Req
  | .int .i64 x_Kind:: .int .i64 x_Id:: .int .i64 x_User:: .int .i64 x_Width:: .int .i64 x_Limit:: .int .i64 x_Prio:: .bool x_Held:: .int .i64 x_Node:: .int .i64 x_By::[]=>some ⟨x_Kind,x_Id,x_User,x_Width,x_Limit,x_Prio,x_Held,x_Node,x_By⟩
  |_=>none
def dec_reply:List AV→Option Reply
  | .int .i64 x_Err:: .int .i64 x_Id:: .int .i64 x_State:: .int .i64 x_Start:: .int .i64 x_End:: .int .i64 x_Plan:: .int .i64 x_A:: .int .i64 x_B:: .int .i64 x_C::[]=>some ⟨x_Err,x_Id,x_State,x_Start,x_End,x_Plan,x_A,x_B,x_C⟩
  |_=>none
def dec_step:List AV→Option Step
  | .int .i64 x_At:: .int .i64 x_Free::[]=>some ⟨x_At,x_Free⟩
  |_=>none
def dec_span:List AV→Option Span
  | .int .i64 x_From:: .int .i64 x_To:: .int .i64 x_Width::[]=>some ⟨x_From,x_To,x_Width⟩
  |_=>none
def dec_item:List AV→Option Item
  | .int .i64 x_Id:: .int .i64 x_Width:: .int .i64 x_Limit:: .int .i64 x_Plan::[]=>some ⟨x_Id,x_Width,x_Limit,x_Plan⟩
  |_=>none
def dec_choice:List AV→Option Choice
  | .int .i64 x_Id:: .int .i64 x_At::[]=>some ⟨x_Id,x_At⟩
  |_=>none
def dec_event:List AV→Option Event
  | .int .i64 x_Step:: .int .i64 x_Kind:: .int .i64 x_Task:: .int .i64 x_Req_Kind:: .int .i64 x_Req_Id:: .int .i64 x_Req_User:: .int .i64 x_Req_Width:: .int .i64 x_Req_Limit:: .int .i64 x_Req_Prio:: .bool x_Req_Held:: .int .i64 x_Req_Node:: .int .i64 x_Req_By:: .int .i64 x_Reply_Err:: .int .i64 x_Reply_Id:: .int .i64 x_Reply_State:: .int .i64 x_Reply_Start:: .int .i64 x_Reply_End:: .int .i64 x_Reply_Plan:: .int .i64 x_Reply_A:: .int .i64 x_Reply_B:: .int .i64 x_Reply_C:: .int .i64 x_Choice_Id:: .int .i64 x_Choice_At:: .bool x_OK::[]=>some ⟨x_Step,x_Kind,x_Task,⟨x_Req_Kind,x_Req_Id,x_Req_User,x_Req_Width,x_Req_Limit,x_Req_Prio,x_Req_Held,x_Req_Node,x_Req_By⟩,⟨x_Reply_Err,x_Reply_Id,x_Reply_State,x_Reply_Start,x_Reply_End,x_Reply_Plan,x_Reply_A,x_Reply_B,x_Reply_C⟩,⟨x_Choice_Id,x_Choice_At⟩,x_OK⟩
  |_=>none
def dec_deed:List AV→Option Deed
  | .bool x_Commit:: .int .i64 x_R_Kind:: .int .i64 x_R_Id:: .int .i64 x_R_User:: .int .i64 x_R_Width:: .int .i64 x_R_Limit:: .int .i64 x_R_Prio:: .bool x_R_Held:: .int .i64 x_R_Node:: .int .i64 x_R_By:: .int .i64 x_X_Id:: .int .i64 x_X_At::[]=>some ⟨x_Commit,⟨x_R_Kind,x_R_Id,x_R_User,x_R_Width,x_R_Limit,x_R_Prio,x_R_Held,x_R_Node,x_R_By⟩,⟨x_X_Id,x_X_At⟩⟩
  |_=>none
def dec_sdeed:List AV→Option SDeed
  | .int .i64 x_Req_Kind:: .int .i64 x_Req_Id:: .int .i64 x_Req_User:: .int .i64 x_Req_Width:: .int .i64 x_Req_Limit:: .int .i64 x_Req_Prio:: .bool x_Req_Held:: .int .i64 x_Req_Node:: .int .i64 x_Req_By:: .int .i64 x_Choice_Id:: .int .i64 x_Choice_At:: .bool x_Commit::[]=>some ⟨⟨x_Req_Kind,x_Req_Id,x_Req_User,x_Req_Width,x_Req_Limit,x_Req_Prio,x_Req_Held,x_Req_Node,x_Req_By⟩,⟨x_Choice_Id,x_Choice_At⟩,x_Commit⟩
  |_=>none
def dec_change:List AV→Option Change
  | .int .i64 x_Id:: .int .i64 x_From:: .int .i64 x_To:: .bool x_Plan::[]=>some ⟨x_Id,x_From,x_To,x_Plan⟩
  |_=>none
def dec_answer:List AV→Option Answer
  | .int .i64 x_Task:: .int .i64 x_Reply_Err:: .int .i64 x_Reply_Id:: .int .i64 x_Reply_State:: .int .i64 x_Reply_Start:: .int .i64 x_Reply_End:: .int .i64 x_Reply_Plan:: .int .i64 x_Reply_A:: .int .i64 x_Reply_B:: .int .i64 x_Reply_C::[]=>some ⟨x_Task,⟨x_Reply_Err,x_Reply_Id,x_Reply_State,x_Reply_Start,x_Reply_End,x_Reply_Plan,x_Reply_A,x_Reply_B,x_Reply_C⟩⟩
  |_=>none
def dec_told37:List AV→Option Told37
  | .int .i64 x_Id:: .int .i64 x_Start:: .int .i64 x_End::[]=>some ⟨x_Id,x_Start,x_End⟩
  |_=>none
def dec_entry:List AV→Option Entry
  | .int .i64 x_At:: .int .i64 x_Run:: .int .i64 x_Limit:: .int .i64 x_Width:: .int .i64 x_User:: .int .i64 x_Prio::[]=>some ⟨x_At,x_Run,x_Limit,x_Width,x_User,x_Prio⟩
  |_=>none
def dec_arr7:List AV→Option Arr7
  | .int .i64 x_a0:: .int .i64 x_a1:: .int .i64 x_a2:: .int .i64 x_a3:: .int .i64 x_a4:: .int .i64 x_a5:: .int .i64 x_a6::[]=>some ⟨x_a0,x_a1,x_a2,x_a3,x_a4,x_a5,x_a6⟩
  |_=>none
def dec_lane:List AV→Option Lane
  | .bool x_a0:: .bool x_a1:: .bool x_a2::[]=>some ⟨x_a0,x_a1,x_a2⟩
  |_=>none
def dec_ract:List AV→Option RAct
  | .int .i64 x_Kind:: .imm .u8 x_Data:: .int .i64 x_N::[]=>some ⟨x_Kind,x_Data,x_N⟩
  |_=>none
def dec_cact:List AV→Option CAct
  | .int .i64 x_Kind:: .int .i64 x_R_Kind:: .int .i64 x_R_Id:: .int .i64 x_R_User:: .int .i64 x_R_Width:: .int .i64 x_R_Limit:: .int .i64 x_R_Prio:: .bool x_R_Held:: .int .i64 x_R_Node:: .int .i64 x_R_By:: .imm .u8 x_Raw:: .int .i64 x_N::[]=>some ⟨x_Kind,⟨x_R_Kind,x_R_Id,x_R_User,x_R_Width,x_R_Limit,x_R_Prio,x_R_Held,x_R_Node,x_R_By⟩,x_Raw,x_N⟩
  |_=>none
def dec_pact:List AV→Option PAct
  | .int .i64 x_Kind:: .int .i64 x_Client:: .int .i64 x_N:: .int .i64 x_R_Kind:: .int .i64 x_R_Id:: .int .i64 x_R_User:: .int .i64 x_R_Width:: .int .i64 x_R_Limit:: .int .i64 x_R_Prio:: .bool x_R_Held:: .int .i64 x_R_Node:: .int .i64 x_R_By:: .imm .u8 x_Raw::[]=>some ⟨x_Kind,x_Client,x_N,⟨x_R_Kind,x_R_Id,x_R_User,x_R_Width,x_R_Limit,x_R_Prio,x_R_Held,x_R_Node,x_R_By⟩,x_Raw⟩
  |_=>none
def EK.dec:(k:EK)→List AV→Option k.T
  | .i64=>dec_i64
  | .u8=>dec_u8
  | .u64=>dec_u64
  | .bool=>dec_bool
  | .str=>dec_str
  | .job=>dec_job
  | .req=>dec_req
  | .reply=>dec_reply
  | .step=>dec_step
  | .span=>dec_span
  | .item=>dec_item
  | .choice=>dec_choice
  | .event=>dec_event
  | .deed=>dec_deed
  | .sdeed=>dec_sdeed
  | .change=>dec_change
  | .answer=>dec_answer
  | .told37=>dec_told37
  | .entry=>dec_entry
  | .arr7=>dec_arr7
  | .lane=>dec_lane
  | .ract=>dec_ract
  | .cact=>dec_cact
  | .pact=>dec_pact
theorem enc_dec_i64 (cs:List AV) (x:EK.T .i64) (h:dec_i64 cs=some x):EK.enc .i64 x=cs:=by
  unfold dec_i64 at h;split at h
  · cases h;rfl
  · cases h
theorem enc_dec_u8 (cs:List AV) (x:EK.T .u8) (h:dec_u8 cs=some x):EK.enc .u8 x=cs:=by
  unfold dec_u8 at h;split at h
  · cases h;rfl
  · cases h
theorem enc_dec_u64 (cs:List AV) (x:EK.T .u64) (h:dec_u64 cs=some x):EK.enc .u64 x=cs:=by
  unfold dec_u64 at h;split at h
  · cases h;rfl
  · cases h
theorem enc_dec_bool (cs:List AV) (x:EK.T .bool) (h:dec_bool cs=some x):EK.enc .bool x=cs:=by
  unfold dec_bool at h;split at h
  · cases h;rfl
  · cases h
theorem enc_dec_str (cs:List AV) (x:EK.T .str) (h:dec_str cs=some x):EK.enc .str x=cs:=by
  unfold dec_str at h;split at h
  · cases h;rfl
  · cases h
theorem enc_dec_job (cs:List AV) (x:EK.T .job) (h:dec_job cs=some x):EK.enc .job x=cs:=by
  unfold dec_job at h;split at h
  · cases h;rfl
  · cases h
theorem enc_dec_req (cs:List AV) (x:EK.T .req) (h:dec_req cs=some x):EK.enc .req x=cs:=by
  unfold dec_req at h;split at h
  · cases h;rfl
  · cases h
theorem enc_dec_reply (cs:List AV) (x:EK.T .reply) (h:dec_reply cs=some x):EK.enc .reply x=cs:=by
  unfold dec_reply at h;split at h
  · cases h;rfl
  · cases h
theorem enc_dec_step (cs:List AV) (x:EK.T .step) (h:dec_step cs=some x):EK.enc .step x=cs:=by
  unfold dec_step at h;split at h
  · cases h;rfl
  · cases h
theorem enc_dec_span (cs:List AV) (x:EK.T .span) (h:dec_span cs=some x):EK.enc .span x=cs:=by
  unfold dec_span at h;split at h
  · cases h;rfl
  · cases h
theorem enc_dec_item (cs:List AV) (x:EK.T .item) (h:dec_item cs=some x):EK.enc .item x=cs:=by
  unfold dec_item at h;split at h
  · cases h;rfl
  · cases h
theorem enc_dec_choice (cs:List AV) (x:EK.T .choice) (h:dec_choice cs=some x):EK.enc .choice x=cs:=by
  unfold dec_choice at h;split at h
  · cases h;rfl
  · cases h
theorem enc_dec_event (cs:List AV) (x:EK.T .event) (h:dec_event cs=some x):EK.enc .event x=cs:=by
  unfold dec_event at h;split at h
  · cases h;rfl
  · cases h
theorem enc_dec_deed (cs:List AV) (x:EK.T .deed) (h:dec_deed cs=some x):EK.enc .deed x=cs:=by
  unfold dec_deed at h;split at h
  · cases h;rfl
  · cases h
theorem enc_dec_sdeed (cs:List AV) (x:EK.T .sdeed) (h:dec_sdeed cs=some x):EK.enc .sdeed x=cs:=by
  unfold dec_sdeed at h;split at h
  · cases h;rfl
  · cases h
theorem enc_dec_change (cs:List AV) (x:EK.T .change) (h:dec_change cs=some x):EK.enc .change x=cs:=by
  unfold dec_change at h;split at h
  · cases h;rfl
  · cases h
theorem enc_dec_answer (cs:List AV) (x:EK.T .answer) (h:dec_answer cs=some x):EK.enc .answer x=cs:=by
  unfold dec_answer at h;split at h
  · cases h;rfl
  · cases h
theorem enc_dec_told37 (cs:List AV) (x:EK.T .told37) (h:dec_told37 cs=some x):EK.enc .told37 x=cs:=by
  unfold dec_told37 at h;split at h
  · cases h;rfl
  · cases h
theorem enc_dec_entry (cs:List AV) (x:EK.T .entry) (h:dec_entry cs=some x):EK.enc .entry x=cs:=by
  unfold dec_entry at h;split at h
  · cases h;rfl
  · cases h
theorem enc_dec_arr7 (cs:List AV) (x:EK.T .arr7) (h:dec_arr7 cs=some x):EK.enc .arr7 x=cs:=by
  unfold dec_arr7 at h;split at h
  · cases h;rfl
  · cases h
theorem enc_dec_lane (cs:List AV) (x:EK.T .lane) (h:dec_lane cs=some x):EK.enc .lane x=cs:=by
  unfold dec_lane at h;split at h
  · cases h;rfl
  · cases h
theorem enc_dec_ract (cs:List AV) (x:EK.T .ract) (h:dec_ract cs=some x):EK.enc .ract x=cs:=by
  unfold dec_ract at h;split at h
  · cases h;rfl
  · cases h
theorem enc_dec_cact (cs:List AV) (x:EK.T .cact) (h:dec_cact cs=some x):EK.enc .cact x=cs:=by
  unfold dec_cact at h;split at h
  · cases h;rfl
  · cases h
theorem enc_dec_pact (cs:List AV) (x:EK.T .pact) (h:dec_pact cs=some x):EK.enc .pact x=cs:=by
  unfold dec_pact at h;split at h
  · cases h;rfl
  · cases h
theorem enc_dec (k:EK) (cs:List AV) (x:k.T) (h:k.dec cs=some x):k.enc x=cs:=by
  cases k
  · exact enc_dec_i64 cs x h
  · exact enc_dec_u8 cs x h
  · exact enc_dec_u64 cs x h
  · exact enc_dec_bool cs x h
  · exact enc_dec_str cs x h
  · exact enc_dec_job cs x h
  · exact enc_dec_req cs x h
  · exact enc_dec_reply cs x h
  · exact enc_dec_step cs x h
  · exact enc_dec_span cs x h
  · exact enc_dec_item cs x h
  · exact enc_dec_choice cs x h
  · exact enc_dec_event cs x h
  · exact enc_dec_deed cs x h
  · exact enc_dec_sdeed cs x h
  · exact enc_dec_change cs x h
  · exact enc_dec_answer cs x h
  · exact enc_dec_told37 cs x h
  · exact enc_dec_entry cs x h
  · exact enc_dec_arr7 cs x h
  · exact enc_dec_lane cs x h
  · exact enc_dec_ract cs x h
  · exact enc_dec_cact cs x h
  · exact enc_dec_pact cs x h
def AV.flat:AV→Bool
  | .int _ _ | .bool _ | .str _=>true
  | .imm k _=>Nat.beq k.num 1
  |_=>false
theorem enc_flat (k:EK) (x:k.T):(k.enc x).all AV.flat=true:=by cases k<;>rfl
theorem EK.enc_len (k:EK) (x:k.T):(k.enc x).length=k.esz:=by cases k<;>rfl
theorem EK.dec_enc (k:EK) (x:k.T):k.dec (k.enc x)=some x:=by cases k<;>rfl
theorem EK.esz_pos (k:EK):0<k.esz:=by cases k<;>decide
structure Prof where
  steps:List Step
  ver:Int
structure Jobs where
  jobs:List Job
  live:Int
  made:Bool
structure Nodes where
  all:Int
  used:Int
  drain:Int
structure Core where
  J:Jobs
  N:Nodes
  P:Prof
  closed:Bool
structure Work where
  req:Req
  choice:Choice
  commit:Bool
  reply:Reply
  part:Int
  done:Bool
  ok:Bool
  job:Job
  back:Int
  to:Int
structure Sched where
  C:Core
structure Told where
  S:Sched
  answers:List Answer
  bad:Int
structure Model where
  Now:Int
  Drain:List Bool
  L:List Job
  Closed:Bool
structure Planner where
  P:Prof
  items:List Item
  pos:Int
  out:List Choice
structure LockSet where
  o0:Int
  o1:Int
  o2:Int
  taken:Int
structure Hand where
  W:Work
  who:Int
  l0:Bool
  l1:Bool
  l2:Bool
  next:Int
  stage:Int
structure OpD where
  H:Hand
  req:Req
structure Fill where
  P:Option Planner
  who:Int
  some:Int
  depth:Int
  stage:Int
  items:List Item
  version:Int
  choices:List Choice
  pos:Int
  hand:Option Hand
  taken:Int
  stale:Bool
structure Log where
  events:List Event
  step:Int
structure Diary where
  S:Option Sched
  nodes:Int
  deeds:List SDeed
structure Plain28 where
  S:Sched
  depth:Int
  l:List Entry
  pos:Int
  run:List Int
  entry:List Int
  lost:Int
structure Reader where
  b:List Int
  e:Int
structure Sim where
  S:Sched
  depth:Int
  load:List Entry
  pos:Int
  run:List Int
  tjobs:List Job
  tentry:List Int
  lost:Int
  endd:Int
inductive OK where
  |prof
  |jobs
  |nodes
  |core
  |work
  |sched
  |told
  |model
  |planner
  |lockSet
  |hand
  |opD
  |fill
  |log
  |diary
  |plain28
  |reader
  |sim
@[reducible] def OK.T:OK→Type
  | .prof=>Prof
  | .jobs=>Jobs
  | .nodes=>Nodes
  | .core=>Core
  | .work=>Work
  | .sched=>Sched
  | .told=>Told
  | .model=>Model
  | .planner=>Planner
  | .lockSet=>LockSet
  | .hand=>Hand
  | .opD=>OpD
  | .fill=>Fill
  | .log=>Log
  | .diary=>Diary
  | .plain28=>Plain28
  | .reader=>Reader
  | .sim=>Sim
def OK.num:OK→Nat
  | .prof=>0
  | .jobs=>1
  | .nodes=>2
  | .core=>3
  | .work=>4
  | .sched=>5
  | .told=>6
  | .model=>7
  | .planner=>8
  | .lockSet=>9
  | .hand=>10
  | .opD=>11
  | .fill=>12
  | .log=>13
  | .diary=>14
  | .plain28=>15
  | .reader=>16
  | .sim=>17
theorem OK.num_inj {a b:OK} (h:a.num=b.num):a=b:=by cases a<;>cases b<;>first |rfl |(exact absurd h (by decide))
instance:DecidableEq OK:=fun a b=>match Nat.decEq a.num b.num with |isTrue h=>isTrue (OK.num_inj h) |isFalse h=>isFalse (fun e=>h (congrArg OK.num e))
inductive Fld where
  |av (v:AV)
  |own (k:OK) (d:k.T)
  |ownr (k:EK) (xs:List k.T)
def OK.unf:(k:OK)→k.T→List Fld
  | .prof,x=>[.ownr .step x.steps,.av (.int .i64 x.ver)]
  | .jobs,x=>[.ownr .job x.jobs,.av (.int .i64 x.live),.av (.bool x.made)]
  | .nodes,x=>[.av (.int .u64 x.all),.av (.int .u64 x.used),.av (.int .u64 x.drain)]
  | .core,x=>[.own .jobs x.J,.own .nodes x.N,.own .prof x.P,.av (.bool x.closed)]
  | .work,x=>[.av (.int .i64 x.req.Kind),.av (.int .i64 x.req.Id),.av (.int .i64 x.req.User),.av (.int .i64 x.req.Width),.av (.int .i64 x.req.Limit),.av (.int .i64 x.req.Prio),.av (.bool x.req.Held),.av (.int .i64 x.req.Node),.av (.int .i64 x.req.By),.av (.int .i64 x.choice.Id),.av (.int .i64 x.choice.At),.av (.bool x.commit),.av (.int .i64 x.reply.Err),.av (.int .i64 x.reply.Id),.av (.int .i64 x.reply.State),.av (.int .i64 x.reply.Start),.av (.int .i64 x.reply.End),.av (.int .i64 x.reply.Plan),.av (.int .i64 x.reply.A),.av (.int .i64 x.reply.B),.av (.int .i64 x.reply.C),.av (.int .i64 x.part),.av (.bool x.done),.av (.bool x.ok),.av (.int .i64 x.job.Id),.av (.int .i64 x.job.User),.av (.int .i64 x.job.Width),.av (.int .i64 x.job.Limit),.av (.int .i64 x.job.Prio),.av (.int .i64 x.job.State),.av (.int .i64 x.job.Start),.av (.int .i64 x.job.End),.av (.int .i64 x.job.Plan),.av (.int .u64 x.job.Nodes),.av (.int .i64 x.back),.av (.int .i64 x.to)]
  | .sched,x=>[.own .core x.C]
  | .told,x=>[.own .sched x.S,.ownr .answer x.answers,.av (.int .i64 x.bad)]
  | .model,x=>[.av (.int .i64 x.Now),.ownr .bool x.Drain,.ownr .job x.L,.av (.bool x.Closed)]
  | .planner,x=>[.own .prof x.P,.ownr .item x.items,.av (.int .i64 x.pos),.ownr .choice x.out]
  | .lockSet,x=>[.av (.int .i64 x.o0),.av (.int .i64 x.o1),.av (.int .i64 x.o2),.av (.int .i64 x.taken)]
  | .hand,x=>[.own .work x.W,.av (.int .i64 x.who),.av (.bool x.l0),.av (.bool x.l1),.av (.bool x.l2),.av (.int .i64 x.next),.av (.int .i64 x.stage)]
  | .opD,x=>[.own .hand x.H,.av (.int .i64 x.req.Kind),.av (.int .i64 x.req.Id),.av (.int .i64 x.req.User),.av (.int .i64 x.req.Width),.av (.int .i64 x.req.Limit),.av (.int .i64 x.req.Prio),.av (.bool x.req.Held),.av (.int .i64 x.req.Node),.av (.int .i64 x.req.By)]
  | .fill,x=>[(match x.P with |some d=> .own .planner d |none=> .av .nilp),.av (.int .i64 x.who),.av (.int .i64 x.some),.av (.int .i64 x.depth),.av (.int .i64 x.stage),.ownr .item x.items,.av (.int .i64 x.version),.ownr .choice x.choices,.av (.int .i64 x.pos),(match x.hand with |some d=> .own .hand d |none=> .av .nilp),.av (.int .i64 x.taken),.av (.bool x.stale)]
  | .log,x=>[.ownr .event x.events,.av (.int .i64 x.step)]
  | .diary,x=>[(match x.S with |some d=> .own .sched d |none=> .av .nilp),.av (.int .i64 x.nodes),.ownr .sdeed x.deeds]
  | .plain28,x=>[.own .sched x.S,.av (.int .i64 x.depth),.ownr .entry x.l,.av (.int .i64 x.pos),.ownr .i64 x.run,.ownr .i64 x.entry,.av (.int .i64 x.lost)]
  | .reader,x=>[.av (.imm .u8 x.b),.av (.int .i64 x.e)]
  | .sim,x=>[.own .sched x.S,.av (.int .i64 x.depth),.ownr .entry x.load,.av (.int .i64 x.pos),.ownr .i64 x.run,.ownr .job x.tjobs,.ownr .i64 x.tentry,.av (.int .i64 x.lost),.av (.int .i64 x.endd)]
inductive Shp where
  |av
  |own (k:OK)
  |opt (k:OK)
  |ownr (k:EK)
def OK.shape:OK→List Shp
  | .prof=>[.ownr .step,.av]
  | .jobs=>[.ownr .job,.av,.av]
  | .nodes=>[.av,.av,.av]
  | .core=>[.own .jobs,.own .nodes,.own .prof,.av]
  | .work=>[.av,.av,.av,.av,.av,.av,.av,.av,.av,.av,.av,.av,.av,.av,.av,.av,.av,.av,.av,.av,.av,.av,.av,.av,.av,.av,.av,.av,.av,.av,.av,.av,.av,.av,.av,.av]
  | .sched=>[.own .core]
  | .told=>[.own .sched,.ownr .answer,.av]
  | .model=>[.av,.ownr .bool,.ownr .job,.av]
  | .planner=>[.own .prof,.ownr .item,.av,.ownr .choice]
  | .lockSet=>[.av,.av,.av,.av]
  | .hand=>[.own .work,.av,.av,.av,.av,.av,.av]
  | .opD=>[.own .hand,.av,.av,.av,.av,.av,.av,.av,.av,.av]
  | .fill=>[.opt .planner,.av,.av,.av,.av,.ownr .item,.av,.ownr .choice,.av,.opt .hand,.av,.av]
  | .log=>[.ownr .event,.av]
  | .diary=>[.opt .sched,.av,.ownr .sdeed]
  | .plain28=>[.own .sched,.av,.ownr .entry,.av,.ownr .i64,.ownr .i64,.av]
  | .reader=>[.av,.av]
  | .sim=>[.own .sched,.av,.ownr .entry,.av,.ownr .i64,.ownr .job,.ownr .i64,.av,.av]
def fold_prof:List Fld→Option Prof
  | .ownr .step v_steps:: .av (.int .i64 v_ver)::[]=>some ⟨v_steps,v_ver⟩
  |_=>none
def fold_jobs:List Fld→Option Jobs
  | .ownr .job v_jobs:: .av (.int .i64 v_live):: .av (.bool v_made)::[]=>some ⟨v_jobs,v_live,v_made⟩
  |_=>none
def fold_nodes:List Fld→Option Nodes
  | .av (.int .u64 v_all):: .av (.int .u64 v_used):: .av (.int .u64 v_drain)::[]=>some ⟨v_all,v_used,v_drain⟩
  |_=>none
def fold_core:List Fld→Option Core
  | .own .jobs v_J:: .own .nodes v_N:: .own .prof v_P:: .av (.bool v_closed)::[]=>some ⟨v_J,v_N,v_P,v_closed⟩
  |_=>none
def fold_work:List Fld→Option Work
  | .av (.int .i64 v_req_Kind):: .av (.int .i64 v_req_Id):: .av (.int .i64 v_req_User):: .av (.int .i64 v_req_Width):: .av (.int .i64 v_req_Limit):: .av (.int .i64 v_req_Prio):: .av (.bool v_req_Held):: .av (.int .i64 v_req_Node):: .av (.int .i64 v_req_By):: .av (.int .i64 v_choice_Id):: .av (.int .i64 v_choice_At):: .av (.bool v_commit):: .av (.int .i64 v_reply_Err):: .av (.int .i64 v_reply_Id):: .av (.int .i64 v_reply_State):: .av (.int .i64 v_reply_Start):: .av (.int .i64 v_reply_End):: .av (.int .i64 v_reply_Plan):: .av (.int .i64 v_reply_A):: .av (.int .i64 v_reply_B):: .av (.int .i64 v_reply_C):: .av (.int .i64 v_part):: .av (.bool v_done):: .av (.bool v_ok):: .av (.int .i64 v_job_Id):: .av (.int .i64 v_job_User):: .av (.int .i64 v_job_Width):: .av (.int .i64 v_job_Limit):: .av (.int .i64 v_job_Prio):: .av (.int .i64 v_job_State):: .av (.int .i64 v_job_Start):: .av (.int .i64 v_job_End):: .av (.int .i64 v_job_Plan):: .av (.int .u64 v_job_Nodes):: .av (.int .i64 v_back):: .av (.int .i64 v_to)::[]=>some ⟨⟨v_req_Kind,v_req_Id,v_req_User,v_req_Width,v_req_Limit,v_req_Prio,v_req_Held,v_req_Node,v_req_By⟩,⟨v_choice_Id,v_choice_At⟩,v_commit,⟨v_reply_Err,v_reply_Id,v_reply_State,v_reply_Start,v_reply_End,v_reply_Plan,v_reply_A,v_reply_B,v_reply_C⟩,v_part,v_done,v_ok,⟨v_job_Id,v_job_User,v_job_Width,v_job_Limit,v_job_Prio,v_job_State,v_job_Start,v_job_End,v_job_Plan,v_job_Nodes⟩,v_back,v_to⟩
  |_=>none
def fold_sched:List Fld→Option Sched
  | .own .core v_C::[]=>some ⟨v_C⟩
  |_=>none
def fold_told:List Fld→Option Told
  | .own .sched v_S:: .ownr .answer v_answers:: .av (.int .i64 v_bad)::[]=>some ⟨v_S,v_answers,v_bad⟩
  |_=>none
def fold_model:List Fld→Option Model
  | .av (.int .i64 v_Now):: .ownr .bool v_Drain:: .ownr .job v_L:: .av (.bool v_Closed)::[]=>some ⟨v_Now,v_Drain,v_L,v_Closed⟩
  |_=>none
def fold_planner:List Fld→Option Planner
  | .own .prof v_P:: .ownr .item v_items:: .av (.int .i64 v_pos):: .ownr .choice v_out::[]=>some ⟨v_P,v_items,v_pos,v_out⟩
  |_=>none
def fold_lockSet:List Fld→Option LockSet
  | .av (.int .i64 v_o0):: .av (.int .i64 v_o1):: .av (.int .i64 v_o2):: .av (.int .i64 v_taken)::[]=>some ⟨v_o0,v_o1,v_o2,v_taken⟩
  |_=>none
def fold_hand:List Fld→Option Hand
  | .own .work v_W:: .av (.int .i64 v_who):: .av (.bool v_l0):: .av (.bool v_l1):: .av (.bool v_l2):: .av (.int .i64 v_next):: .av (.int .i64 v_stage)::[]=>some ⟨v_W,v_who,v_l0,v_l1,v_l2,v_next,v_stage⟩
  |_=>none
def fold_opD:List Fld→Option OpD
  | .own .hand v_H:: .av (.int .i64 v_req_Kind):: .av (.int .i64 v_req_Id):: .av (.int .i64 v_req_User):: .av (.int .i64 v_req_Width):: .av (.int .i64 v_req_Limit):: .av (.int .i64 v_req_Prio):: .av (.bool v_req_Held):: .av (.int .i64 v_req_Node):: .av (.int .i64 v_req_By)::[]=>some ⟨v_H,⟨v_req_Kind,v_req_Id,v_req_User,v_req_Width,v_req_Limit,v_req_Prio,v_req_Held,v_req_Node,v_req_By⟩⟩
  |_=>none
def fold_fill:List Fld→Option Fill
  |v_P:: .av (.int .i64 v_who):: .av (.int .i64 v_some):: .av (.int .i64 v_depth):: .av (.int .i64 v_stage):: .ownr .item v_items:: .av (.int .i64 v_version):: .ownr .choice v_choices:: .av (.int .i64 v_pos)::v_hand:: .av (.int .i64 v_taken):: .av (.bool v_stale)::[]=>((match v_P with | .own .planner d=>some (some d) | .av .nilp=>some none |_=>none)).bind fun d_v_P=>((match v_hand with | .own .hand d=>some (some d) | .av .nilp=>some none |_=>none)).bind fun d_v_hand=>some ⟨d_v_P,v_who,v_some,v_depth,v_stage,v_items,v_version,v_choices,v_pos,d_v_hand,v_taken,v_stale⟩
  |_=>none
def fold_log:List Fld→Option Log
  | .ownr .event v_events:: .av (.int .i64 v_step)::[]=>some ⟨v_events,v_step⟩
  |_=>none
def fold_diary:List Fld→Option Diary
  |v_S:: .av (.int .i64 v_nodes):: .ownr .sdeed v_deeds::[]=>((match v_S with | .own .sched d=>some (some d) | .av .nilp=>some none |_=>none)).bind fun d_v_S=>some ⟨d_v_S,v_nodes,v_deeds⟩
  |_=>none
def fold_plain28:List Fld→Option Plain28
  | .own .sched v_S:: .av (.int .i64 v_depth):: .ownr .entry v_l:: .av (.int .i64 v_pos):: .ownr .i64 v_run:: .ownr .i64 v_entry:: .av (.int .i64 v_lost)::[]=>some ⟨v_S,v_depth,v_l,v_pos,v_run,v_entry,v_lost⟩
  |_=>none
def fold_reader:List Fld→Option Reader
  | .av (.imm .u8 v_b):: .av (.int .i64 v_e)::[]=>some ⟨v_b,v_e⟩
  |_=>none
def fold_sim:List Fld→Option Sim
  | .own .sched v_S:: .av (.int .i64 v_depth):: .ownr .entry v_load:: .av (.int .i64 v_pos):: .ownr .i64 v_run:: .ownr .job v_tjobs:: .ownr .i64 v_tentry:: .av (.int .i64 v_lost):: .av (.int .i64 v_endd)::[]=>some ⟨v_S,v_depth,v_load,v_pos,v_run,v_tjobs,v_tentry,v_lost,v_endd⟩
  |_=>none
def OK.fold:(k:OK)→List Fld→Option k.T
  | .prof=>fold_prof
  | .jobs=>fold_jobs
  | .nodes=>fold_nodes
  | .core=>fold_core
  | .work=>fold_work
  | .sched=>fold_sched
  | .told=>fold_told
  | .model=>fold_model
  | .planner=>fold_planner
  | .lockSet=>fold_lockSet
  | .hand=>fold_hand
  | .opD=>fold_opD
  | .fill=>fold_fill
  | .log=>fold_log
  | .diary=>fold_diary
  | .plain28=>fold_plain28
  | .reader=>fold_reader
  | .sim=>fold_sim
theorem fold_unf_prof (fs:List Fld) (d:OK.T .prof) (h:fold_prof fs=some d):OK.unf .prof d=fs:=by
  unfold fold_prof at h;split at h
  · cases h;rfl
  · cases h
theorem fold_unf_jobs (fs:List Fld) (d:OK.T .jobs) (h:fold_jobs fs=some d):OK.unf .jobs d=fs:=by
  unfold fold_jobs at h;split at h
  · cases h;rfl
  · cases h
theorem fold_unf_nodes (fs:List Fld) (d:OK.T .nodes) (h:fold_nodes fs=some d):OK.unf .nodes d=fs:=by
  unfold fold_nodes at h;split at h
  · cases h;rfl
  · cases h
theorem fold_unf_core (fs:List Fld) (d:OK.T .core) (h:fold_core fs=some d):OK.unf .core d=fs:=by
  unfold fold_core at h;split at h
  · cases h;rfl
  · cases h
theorem fold_unf_work (fs:List Fld) (d:OK.T .work) (h:fold_work fs=some d):OK.unf .work d=fs:=by
  unfold fold_work at h;split at h
  · cases h;rfl
  · cases h
theorem fold_unf_sched (fs:List Fld) (d:OK.T .sched) (h:fold_sched fs=some d):OK.unf .sched d=fs:=by
  unfold fold_sched at h;split at h
  · cases h;rfl
  · cases h
theorem fold_unf_told (fs:List Fld) (d:OK.T .told) (h:fold_told fs=some d):OK.unf .told d=fs:=by
  unfold fold_told at h;split at h
  · cases h;rfl
  · cases h
theorem fold_unf_model (fs:List Fld) (d:OK.T .model) (h:fold_model fs=some d):OK.unf .model d=fs:=by
  unfold fold_model at h;split at h
  · cases h;rfl
  · cases h
theorem fold_unf_planner (fs:List Fld) (d:OK.T .planner) (h:fold_planner fs=some d):OK.unf .planner d=fs:=by
  unfold fold_planner at h;split at h
  · cases h;rfl
  · cases h
theorem fold_unf_lockSet (fs:List Fld) (d:OK.T .lockSet) (h:fold_lockSet fs=some d):OK.unf .lockSet d=fs:=by
  unfold fold_lockSet at h;split at h
  · cases h;rfl
  · cases h
theorem fold_unf_hand (fs:List Fld) (d:OK.T .hand) (h:fold_hand fs=some d):OK.unf .hand d=fs:=by
  unfold fold_hand at h;split at h
  · cases h;rfl
  · cases h
theorem fold_unf_opD (fs:List Fld) (d:OK.T .opD) (h:fold_opD fs=some d):OK.unf .opD d=fs:=by
  unfold fold_opD at h;split at h
  · cases h;rfl
  · cases h
theorem fold_unf_fill (fs:List Fld) (d:OK.T .fill) (h:fold_fill fs=some d):OK.unf .fill d=fs:=by
  unfold fold_fill at h;split at h
  · simp only [Option.bind_eq_some_iff] at h
    obtain ⟨d0,h0,⟨d1,h1,h⟩⟩:=h
    split at h0<;>split at h1<;>first |(cases h0;done) |(cases h1;done) |(cases h0;cases h1;cases h;rfl)
  · cases h
theorem fold_unf_log (fs:List Fld) (d:OK.T .log) (h:fold_log fs=some d):OK.unf .log d=fs:=by
  unfold fold_log at h;split at h
  · cases h;rfl
  · cases h
theorem fold_unf_diary (fs:List Fld) (d:OK.T .diary) (h:fold_diary fs=some d):OK.unf .diary d=fs:=by
  unfold fold_diary at h;split at h
  · simp only [Option.bind_eq_some_iff] at h
    obtain ⟨d0,h0,h⟩:=h
    split at h0<;>first |(cases h0;done) |(cases h0;cases h;rfl)
  · cases h
theorem fold_unf_plain28 (fs:List Fld) (d:OK.T .plain28) (h:fold_plain28 fs=some d):OK.unf .plain28 d=fs:=by
  unfold fold_plain28 at h;split at h
  · cases h;rfl
  · cases h
theorem fold_unf_reader (fs:List Fld) (d:OK.T .reader) (h:fold_reader fs=some d):OK.unf .reader d=fs:=by
  unfold fold_reader at h;split at h
  · cases h;rfl
  · cases h
theorem fold_unf_sim (fs:List Fld) (d:OK.T .sim) (h:fold_sim fs=some d):OK.unf .sim d=fs:=by
  unfold fold_sim at h;split at h
  · cases h;rfl
  · cases h
def oc {α:Type} (o:Option α) (n:Prop) (s:α→Prop):Prop:=match o with |none=>n |some d=>s d
def OK.split:(k:OK)→k.T→(k.T→Prop)→Prop
  | .fill,x,K=>oc x.P (oc x.hand (K ⟨none,x.who,x.some,x.depth,x.stage,x.items,x.version,x.choices,x.pos,none,x.taken,x.stale⟩) fun dhand=>K ⟨none,x.who,x.some,x.depth,x.stage,x.items,x.version,x.choices,x.pos,(.some dhand),x.taken,x.stale⟩) fun dP=>oc x.hand (K ⟨(.some dP),x.who,x.some,x.depth,x.stage,x.items,x.version,x.choices,x.pos,none,x.taken,x.stale⟩) fun dhand=>K ⟨(.some dP),x.who,x.some,x.depth,x.stage,x.items,x.version,x.choices,x.pos,(.some dhand),x.taken,x.stale⟩
  | .diary,x,K=>oc x.S (K ⟨none,x.nodes,x.deeds⟩) fun dS=>K ⟨(.some dS),x.nodes,x.deeds⟩
  |_,x,K=>K x
theorem split_elim {k:OK} {d:k.T} {K:k.T→Prop} (h:k.split d K):K d:=by
  cases k
  · exact h
  · exact h
  · exact h
  · exact h
  · exact h
  · exact h
  · exact h
  · exact h
  · exact h
  · exact h
  · exact h
  · exact h
  · obtain ⟨p_P,p_who,p_some,p_depth,p_stage,p_items,p_version,p_choices,p_pos,p_hand,p_taken,p_stale⟩:=d
    cases p_P<;>cases p_hand<;>exact h
  · exact h
  · obtain ⟨p_S,p_nodes,p_deeds⟩:=d
    cases p_S<;>exact h
  · exact h
  · exact h
  · exact h
theorem fold_unf {k:OK} {fs:List Fld} {d:k.T} (h:k.fold fs=some d):k.unf d=fs:=by
  cases k
  · exact fold_unf_prof fs d h
  · exact fold_unf_jobs fs d h
  · exact fold_unf_nodes fs d h
  · exact fold_unf_core fs d h
  · exact fold_unf_work fs d h
  · exact fold_unf_sched fs d h
  · exact fold_unf_told fs d h
  · exact fold_unf_model fs d h
  · exact fold_unf_planner fs d h
  · exact fold_unf_lockSet fs d h
  · exact fold_unf_hand fs d h
  · exact fold_unf_opD fs d h
  · exact fold_unf_fill fs d h
  · exact fold_unf_log fs d h
  · exact fold_unf_diary fs d h
  · exact fold_unf_plain28 fs d h
  · exact fold_unf_reader fs d h
  · exact fold_unf_sim fs d h
class Surr where
  dr:Prop
  tabs:List (Nat × List Value)
variable [Surr]
structure Gam where
  w0:World
  prot:Nat→Prop
  imm:Nat→Prop
  sub: ∀b,imm b→prot b
  tab: ∀(b:Nat) (cs:List Value),(b,cs)∈Surr.tabs→imm b∧ ∀(j:Nat) (v:Value),cs[j]? =some v→w0.cell? ⟨b,j,none⟩=some v
def Gam.cell (G:Gam) (b o:Nat) (v:Value):Prop:=G.imm b∧G.w0.cell? ⟨b,o,none⟩=some v
def SameOs (w w':World):Prop:=w'.os=w.os∧(Surr.dr→w.drawn≤w'.drawn)
theorem SameOs.rfl {w:World}:SameOs w w:=⟨Eq.refl _,fun _=>Nat.le_refl _⟩
theorem SameOs.trans {a b c:World} (h1:SameOs a b) (h2:SameOs b c):SameOs a c:=⟨h2.1.trans h1.1,fun h=>Nat.le_trans (h1.2 h) (h2.2 h)⟩
structure WOK (G:Gam) (w:World):Prop where
  prot: ∀b,G.prot b→b<G.w0.heap.size∧w.heap[b]? =G.w0.heap[b]?
  size:G.w0.heap.size≤w.heap.size
  os:SameOs G.w0 w
  tape:w.tape=G.w0.tape
  output:w.output=G.w0.output
def RV0:AV→Value→Prop
  | .bool b,v=>v= .bool b
  | .int k n,v=>v= .int k n
  | .str s,v=>v= .string s
  |_,_=>False
def immOK (G:Gam) (R:AV→Value→Prop) (k:EK) (xs:List k.T) (v:Value):Prop:=
  ∃a cap,v= .slice a xs.length cap∧xs.length≤cap∧
    (0<xs.length→ ∃b o,a=some ⟨b,o,none⟩∧ ∀i x,xs[i]? =some x→ ∀j y,(k.enc x)[j]? =some y→ ∃u,G.cell b (o+i*k.esz+j) u∧R y u)
def RV1 (G:Gam):AV→Value→Prop
  | .imm k xs,v=>immOK G RV0 k xs v
  |x,v=>RV0 x v
mutual
def RC (G:Gam):AV→Value→Prop
  | .cptr cells off,v=> ∃b o,v= .pointer (some ⟨b,o+off,none⟩)∧RCs G cells b o
  | .imm k xs,v=>immOK G (RV1 G) k xs v
  | .nilp,v=>v= .pointer none
  | .bool b,v=>v= .bool b
  | .int k n,v=>v= .int k n
  | .str s,v=>v= .string s
  |_,_=>False
def RCs (G:Gam):List AV→Nat→Nat→Prop
  | [],_,_=>True
  |x::xs,b,o=>(∃u,G.cell b o u∧RC G x u)∧RCs G xs b (o+1)
end
theorem RCs.get {G:Gam} {b:Nat}: ∀{cells:List AV} {o:Nat},RCs G cells b o→ ∀(j:Nat) (y:AV),cells[j]? =some y→ ∃u,G.cell b (o+j) u∧RC G y u
  | [],_,_,j,y,hj=>by simp at hj
  |_::_,_,h,0,y,hj=>by
    simp at hj;subst hj
    simp only [RCs] at h
    exact h.1
  |_::xs,o,h,j+1,y,hj=>by
    simp only [RCs] at h
    have:=RCs.get h.2 j y (by simpa using hj)
    rwa [show o+1+j=o+(j+1) by omega] at this
theorem RCs.of {G:Gam} {b:Nat}: ∀{cells:List AV} {o:Nat},(∀(j:Nat) (y:AV),cells[j]? =some y→ ∃u,G.cell b (o+j) u∧RC G y u)→RCs G cells b o
  | [],_,_=>by simp only [RCs]
  |x::xs,o,h=>by
    simp only [RCs]
    refine ⟨by simpa using h 0 x (by simp),RCs.of fun j y hj=>?_⟩
    have:=h (j+1) y (by simpa using hj)
    rwa [show o+(j+1)=o+1+j by omega] at this
mutual
def RV (G:Gam) (ρ:List Root):AV→Value→Prop
  | .bool b,v=>v= .bool b
  | .int k n,v=>v= .int k n
  | .str s,v=>v= .string s
  | .imm k xs,v=>immOK G (RV1 G) k xs v
  | .ptr r,v=> ∃t b,ρ[r.lab]? =some t∧t.blk=some b∧v= .pointer (some ⟨b,t.off+r.idx*r.esz+r.off,none⟩)
  | .nilp,v=>v= .pointer none
  | .sl l e base n,v=> ∃t,ρ[l]? =some t∧base+n≤t.tot∧
      ((∃b,t.blk=some b∧v= .slice (some ⟨b,t.off+base*e,none⟩) n (t.tot-base))∨(n=0∧t.tot=base∧ ∃a,v= .slice a 0 0))
  | .nils,v=>v= .slice none 0 0
  | .fn f xs,v=> ∃vs,v= .func (.func f) #[] vs∧RVs G ρ xs vs.toList
  | .fnb f xs,v=> ∃vs,v= .func (.func f) vs #[]∧RVs G ρ xs vs.toList
  | .nilf,v=>v= .nilFunc
  | .nilm,v=>v= .map none
  | .mp l,v=> ∃t b,ρ[l]? =some t∧t.blk=some b∧v= .map (some b)
  | .capi l base c,v=>v= .int .i64 c∧ ∃t,ρ[l]? =some t∧((t.tot-base:Nat):Int)=c
  | .ifc t x,v=> ∃u,v= .iface t u∧RV G ρ x u
  | .nili,v=>v= .nilIface
  | .agg xs,v=> ∃vs,v= .agg vs∧RVs G ρ xs vs.toList
  | .tup xs,v=> ∃vs,v= .tuple vs∧RVs G ρ xs vs.toList
  | .cptr cells off,v=> ∃b o,v= .pointer (some ⟨b,o+off,none⟩)∧RCs G cells b o
def RVs (G:Gam) (ρ:List Root):List AV→List Value→Prop
  | [],vs=>vs=[]
  |x::xs,vs=> ∃v ws,vs=v::ws∧RV G ρ x v∧RVs G ρ xs ws
end
theorem getElem?_ext {α:Type} {l e:List α} {i:Nat} {x:α} (h:l[i]? =some x):(l++e)[i]? =some x:=by
  rw [List.getElem?_append_left (List.getElem?_eq_some_iff.1 h).1];exact h
mutual
theorem RV.ext {G:Gam} {ρ e:List Root}: ∀{x:AV} {v:Value},RV G ρ x v→RV G (ρ++e) x v
  | .bool _,_,h | .int _ _,_,h | .str _,_,h | .imm _ _,_,h | .nilp,_,h | .nils,_,h | .nilf,_,h | .nilm,_,h | .nili,_,h | .cptr _ _,_,h=>by
    first |exact h |(simp only [RV] at h ⊢ <;>exact h)
  | .mp _,_,h=>by
    simp only [RV] at h ⊢
    obtain ⟨t,b,h1,h2⟩:=h
    exact ⟨t,b,getElem?_ext h1,h2⟩
  | .capi _ _ _,_,h=>by
    simp only [RV] at h ⊢
    obtain ⟨h0,t,h1,h2⟩:=h
    exact ⟨h0,t,getElem?_ext h1,h2⟩
  | .ptr _,_,h=>by
    simp only [RV] at h ⊢
    obtain ⟨t,b,h1,h2⟩:=h
    exact ⟨t,b,getElem?_ext h1,h2⟩
  | .sl _ _ _ _,_,h=>by
    simp only [RV] at h ⊢
    obtain ⟨t,h1,h2⟩:=h
    exact ⟨t,getElem?_ext h1,h2⟩
  | .fn _ _,_,h=>by
    simp only [RV] at h ⊢
    obtain ⟨vs,h1,h2⟩:=h
    exact ⟨vs,h1,RVs.ext h2⟩
  | .fnb _ _,_,h=>by
    simp only [RV] at h ⊢
    obtain ⟨vs,h1,h2⟩:=h
    exact ⟨vs,h1,RVs.ext h2⟩
  | .agg _,_,h=>by
    simp only [RV] at h ⊢
    obtain ⟨vs,h1,h2⟩:=h
    exact ⟨vs,h1,RVs.ext h2⟩
  | .tup _,_,h=>by
    simp only [RV] at h ⊢
    obtain ⟨vs,h1,h2⟩:=h
    exact ⟨vs,h1,RVs.ext h2⟩
  | .ifc _ _,_,h=>by
    simp only [RV] at h ⊢
    obtain ⟨vs,h1,h2⟩:=h
    exact ⟨vs,h1,RV.ext h2⟩
theorem RVs.ext {G:Gam} {ρ e:List Root}: ∀{xs:List AV} {vs:List Value},RVs G ρ xs vs→RVs G (ρ++e) xs vs
  | [],_,h=>by simp only [RVs] at h ⊢;exact h
  |_::_,_,h=>by
    simp only [RVs] at h ⊢
    obtain ⟨v,ws,h1,h2,h3⟩:=h
    exact ⟨v,ws,h1,RV.ext h2,RVs.ext h3⟩
end
theorem RV0.rv {G:Gam} {ρ:List Root} {x:AV} {v:Value} (h:RV0 x v):RV G ρ x v:=by
  cases x<;>simp only [RV0] at h<;>first |exact h.elim |(simp only [RV];exact h)
theorem immOK.mono {G:Gam} {R R':AV→Value→Prop} (hr: ∀x v,R x v→R' x v) {k:EK} {xs:List k.T} {v:Value} (h:immOK G R k xs v):immOK G R' k xs v:=by
  obtain ⟨a,cap,h1,h2,h4⟩:=h
  refine ⟨a,cap,h1,h2,fun hn=>?_⟩
  obtain ⟨b,o,h5,h6⟩:=h4 hn
  exact ⟨b,o,h5,fun i x hi j y hj=>let ⟨u,g,r⟩:=h6 i x hi j y hj;⟨u,g,hr _ _ r⟩⟩
theorem RV0.rv1 {G:Gam} {x:AV} {v:Value} (h:RV0 x v):RV1 G x v:=by
  cases x<;>simp only [RV0] at h<;>first |exact h.elim |(simp only [RV1,RV0];exact h)
theorem RV1.rv {G:Gam} {ρ:List Root} {x:AV} {v:Value} (h:RV1 G x v):RV G ρ x v:=by
  cases x<;>simp only [RV1,RV0] at h<;>first |exact h.elim |(simp only [RV];first |exact h |exact h.mono fun _ _ h=>h.rv1)
theorem RC.rv {G:Gam} {ρ:List Root} {x:AV} {v:Value} (h:RC G x v):RV G ρ x v:=by
  cases x<;>simp only [RC] at h<;>first |exact h.elim |(simp only [RV];exact h)
theorem RV1.rc {G:Gam} {x:AV} {v:Value} (h:RV1 G x v):RC G x v:=by
  cases x<;>simp only [RV1,RV0] at h<;>first |exact h.elim |(simp only [RC];first |exact h |exact h.mono fun _ _ h=>h.rv1)
theorem RVs.len {G:Gam} {ρ:List Root}: ∀{xs:List AV} {vs:List Value},RVs G ρ xs vs→vs.length=xs.length
  | [],_,h=>by simp only [RVs] at h;simp [h]
  |_::_,_,h=>by
    simp only [RVs] at h
    obtain ⟨v,ws,h1,_,h3⟩:=h
    simp [h1,RVs.len h3]
theorem RVs.get {G:Gam} {ρ:List Root}: ∀{xs:List AV} {vs:List Value},RVs G ρ xs vs→ ∀{j:Nat} {x:AV},xs[j]? =some x→ ∃v,vs[j]? =some v∧RV G ρ x v
  | [],_,_,_,_,hj=>by simp at hj
  |_::_,_,h,0,x,hj=>by
    simp only [RVs] at h
    obtain ⟨v,ws,h1,h2,_⟩:=h
    simp at hj;subst hj
    exact ⟨v,by simp [h1],h2⟩
  |_::_,_,h,j+1,x,hj=>by
    simp only [RVs] at h
    obtain ⟨v,ws,h1,_,h3⟩:=h
    simp at hj
    obtain ⟨u,hu,r⟩:=RVs.get h3 hj
    exact ⟨u,by simp [h1,hu],r⟩
theorem RVs.of_get {G:Gam} {ρ:List Root}: ∀{xs:List AV} {vs:List Value},vs.length=xs.length→(∀(j:Nat) (x:AV),xs[j]? =some x→ ∃v,vs[j]? =some v∧RV G ρ x v)→RVs G ρ xs vs
  | [],vs,hl,_=>by simp only [RVs];exact List.eq_nil_of_length_eq_zero hl
  |x::xs,[],hl,_=>by simp at hl
  |x::xs,v::ws,hl,h=>by
    simp only [RVs]
    obtain ⟨u,hu,r⟩:=h 0 x (by simp)
    simp at hu;subst hu
    exact ⟨v,ws,rfl,r,RVs.of_get (by simpa using hl) fun j y hj=>by simpa using h (j+1) y (by simpa using hj)⟩
inductive AObj where
  |raw (cs:List AV)
  |row (k:EK) (xs:List k.T)
  |obj (k:OK) (d:k.T)
  |map (k:EK) (m:List (Int × k.T))
def EK.prim:EK→Bool
  | .i64 | .u8 | .u64 | .bool | .str=>true
  |_=>false
def EK.val (k:EK) (x:k.T):AV:=match k,x with
  | .i64,x=> .int .i64 x
  | .u8,x=> .int .u8 x
  | .u64,x=> .int .u64 x
  | .bool,x=> .bool x
  | .str,x=> .str x
  |k,x=> .agg (k.enc x)
def EK.unval (k:EK) (v:AV):Option k.T:=match k.prim,v with
  |true,.agg _=>none
  |true,v=>k.dec [v]
  |false,.agg cs=>k.dec cs
  |false,_=>none
theorem EK.unval_agg {k:EK} {cs:List AV} (hp:k.prim=false):k.unval (.agg cs)=k.dec cs:=by unfold EK.unval;rw [hp]
theorem EK.unval_one {k:EK} {v:AV} {x:k.T} (hp:k.prim=true) (h:k.unval v=some x):k.dec [v]=some x:=by
  unfold EK.unval at h;rw [hp] at h;cases v<;>first |exact h |cases h
theorem EK.val_unval {k:EK} {v:AV} {x:k.T} (h:k.unval v=some x):k.val x=v:=by
  cases hp:k.prim with
  |true=>
    have:=enc_dec _ _ _ (EK.unval_one hp h)
    cases k<;>simp [EK.prim] at hp<;>simp [EK.enc] at this<;>exact this
  |false=>
    have ha: ∃cs,v= .agg cs:=by
      unfold EK.unval at h;rw [hp] at h;cases v<;>first |exact ⟨_,rfl⟩ |cases h
    obtain ⟨cs,rfl⟩:=ha
    rw [EK.unval_agg hp] at h
    have:=enc_dec _ _ _ h
    rw [←this]
    cases k<;>simp [EK.prim] at hp<;>rfl
def ValR (G:Gam) (k:EK) (x:k.T) (v:Value):Prop:= ∃ρ,RV G ρ (k.val x) v
def MapR (G:Gam) (k:EK):List (Int × k.T)→List MapEntry→Prop
  | [],es=>es=[]
  |p::m,es=> ∃e r,es=e::r∧e.key= .int .i64 p.1∧ValR G k p.2 e.val∧MapR G k m r
def slAt (r:Root) (n:Nat) (v:Value):Prop:=
  n≤r.tot∧((∃b,r.blk=some b∧v= .slice (some ⟨b,r.off,none⟩) n r.tot)∨(n=0∧r.tot=0∧ ∃a,v= .slice a 0 0))
mutual
inductive Sat (G:Gam) (ρ:List Root) (w:World):AObj→Root→List Nat→Prop
  |raw {cs:List AV} {r:Root} {b:Nat} {c:Array Value} {ty:TypeId} (hb:r.blk=some b) (hw:w.heap[b]? =some (.cells c ty (0,0)))
      (h: ∀j x,cs[j]? =some x→ ∃u,c[r.off+j]? =some u∧RV G ρ x u):Sat G ρ w (.raw cs) r [b]
  |row {k:EK} {xs sp:List k.T} {r:Root} {b:Nat} {c:Array Value} {ty:TypeId} {fz:Nat × Nat} (hb:r.blk=some b) (hw:w.heap[b]? =some (.cells c ty fz))
      (ht:xs.length+sp.length=r.tot) (hc:r.off+r.tot*k.esz≤c.size)
      (h: ∀i x,(xs++sp)[i]? =some x→ ∀j y,(k.enc x)[j]? =some y→ ∃u,c[r.off+i*k.esz+j]? =some u∧RV1 G y u) (hz:fz=(0,0)∨(k.num=1∧c.size≤fz.1)):Sat G ρ w (.row k xs) r [b]
  |rownil {k:EK} {r:Root} (hb:r.blk=none) (ht:r.tot=0):Sat G ρ w (.row k []) r []
  |obj {k:OK} {d:k.T} {r:Root} {b:Nat} {c:Array Value} {ty:TypeId} {F:List Nat} (hb:r.blk=some b) (hw:w.heap[b]? =some (.cells c ty (0,0)))
      (h:SatF G ρ w (k.unf d) c r.off F) (hn:b∉F):Sat G ρ w (.obj k d) r (b::F)
  |map {k:EK} {m:List (Int × k.T)} {r:Root} {b:Nat} {es:Array MapEntry} {ck:Nat} (hb:r.blk=some b) (hw:w.heap[b]? =some (.map es ck)) (h:MapR G k m es.toList):Sat G ρ w (.map k m) r [b]
inductive SatF (G:Gam) (ρ:List Root) (w:World):List Fld→Array Value→Nat→List Nat→Prop
  |nil {c:Array Value} {o:Nat}:SatF G ρ w [] c o []
  |av {x:AV} {fs:List Fld} {c:Array Value} {o:Nat} {u:Value} {F:List Nat} (hu:c[o]? =some u) (hr:RV1 G x u∨(x= .nilp∧u= .pointer none)) (h:SatF G ρ w fs c (o+1) F):
      SatF G ρ w (.av x::fs) c o F
  |own {k:OK} {d:k.T} {fs:List Fld} {c:Array Value} {o b' o':Nat} {F1 F2:List Nat} (hu:c[o]? =some (.pointer (some ⟨b',o',none⟩)))
      (h1:Sat G ρ w (.obj k d) ⟨some b',o',1⟩ F1) (h:SatF G ρ w fs c (o+1) F2) (hd: ∀b,b∈F1→b∉F2):SatF G ρ w (.own k d::fs) c o (F1++F2)
  |ownr {k:EK} {xs:List k.T} {fs:List Fld} {c:Array Value} {o:Nat} {v:Value} {r:Root} {F1 F2:List Nat} (hu:c[o]? =some v) (hv:slAt r xs.length v)
      (h1:Sat G ρ w (.row k xs) r F1) (h:SatF G ρ w fs c (o+1) F2) (hd: ∀b,b∈F1→b∉F2):SatF G ρ w (.ownr k xs::fs) c o (F1++F2)
end
theorem Sat.mono_both {G:Gam} {ρ e:List Root} {w w':World}:
    (∀{o:AObj} {r:Root} {F:List Nat},Sat G ρ w o r F→(∀b,b∈F→w'.heap[b]? =w.heap[b]?)→Sat G (ρ++e) w' o r F)∧
    (∀{fs:List Fld} {c:Array Value} {o:Nat} {F:List Nat},SatF G ρ w fs c o F→(∀b,b∈F→w'.heap[b]? =w.heap[b]?)→SatF G (ρ++e) w' fs c o F):=by
  constructor
  · intro o r F h
    refine Sat.rec (motive_1:=fun o r F _=>(∀b,b∈F→w'.heap[b]? =w.heap[b]?)→Sat G (ρ++e) w' o r F)
      (motive_2:=fun fs c o F _=>(∀b,b∈F→w'.heap[b]? =w.heap[b]?)→SatF G (ρ++e) w' fs c o F) ?_ ?_ ?_ ?_ ?_ ?_ ?_ ?_ ?_ h
    · intro cs r b c ty hb h1 h2 hw
      refine .raw hb ((hw _ (by simp)).trans h1) fun j x hj=>?_
      obtain ⟨u,hu,hr⟩:=h2 j x hj
      exact ⟨u,hu,hr.ext⟩
    · intro k xs sp r b c ty fz hb h1 h2 h3 h5 hz hw;exact .row hb ((hw _ (by simp)).trans h1) h2 h3 h5 hz
    · intro k r hb ht hw;exact .rownil hb ht
    · intro k d r b c ty F hb h1 h2 hn ih hw;exact .obj hb ((hw _ (by simp)).trans h1) (ih fun b hb=>hw b (by simp [hb])) hn
    · intro k m r b es ck hb h1 h2 hw;exact .map hb ((hw _ (by simp)).trans h1) h2
    · intro c o hw;exact .nil
    · intro x fs c o u F hu hr h ih hw;exact .av hu hr (ih hw)
    · intro k d fs c o b' o' F1 F2 hu h1 h hd ih1 ih2 hw;exact .own hu (ih1 fun b hb=>hw b (by simp [hb])) (ih2 fun b hb=>hw b (by simp [hb])) hd
    · intro k xs fs c o v r F1 F2 hu hv h1 h hd ih1 ih2 hw;exact .ownr hu hv (ih1 fun b hb=>hw b (by simp [hb])) (ih2 fun b hb=>hw b (by simp [hb])) hd
  · intro fs c o F h
    refine SatF.rec (motive_1:=fun o r F _=>(∀b,b∈F→w'.heap[b]? =w.heap[b]?)→Sat G (ρ++e) w' o r F)
      (motive_2:=fun fs c o F _=>(∀b,b∈F→w'.heap[b]? =w.heap[b]?)→SatF G (ρ++e) w' fs c o F) ?_ ?_ ?_ ?_ ?_ ?_ ?_ ?_ ?_ h
    · intro cs r b c ty hb h1 h2 hw
      refine .raw hb ((hw _ (by simp)).trans h1) fun j x hj=>?_
      obtain ⟨u,hu,hr⟩:=h2 j x hj
      exact ⟨u,hu,hr.ext⟩
    · intro k xs sp r b c ty fz hb h1 h2 h3 h5 hz hw;exact .row hb ((hw _ (by simp)).trans h1) h2 h3 h5 hz
    · intro k r hb ht hw;exact .rownil hb ht
    · intro k d r b c ty F hb h1 h2 hn ih hw;exact .obj hb ((hw _ (by simp)).trans h1) (ih fun b hb=>hw b (by simp [hb])) hn
    · intro k m r b es ck hb h1 h2 hw;exact .map hb ((hw _ (by simp)).trans h1) h2
    · intro c o hw;exact .nil
    · intro x fs c o u F hu hr h ih hw;exact .av hu hr (ih hw)
    · intro k d fs c o b' o' F1 F2 hu h1 h hd ih1 ih2 hw;exact .own hu (ih1 fun b hb=>hw b (by simp [hb])) (ih2 fun b hb=>hw b (by simp [hb])) hd
    · intro k xs fs c o v r F1 F2 hu hv h1 h hd ih1 ih2 hw;exact .ownr hu hv (ih1 fun b hb=>hw b (by simp [hb])) (ih2 fun b hb=>hw b (by simp [hb])) hd
theorem Sat.mono {G:Gam} {ρ e:List Root} {w w':World} {o:AObj} {r:Root} {F:List Nat} (h:Sat G ρ w o r F) (hw: ∀b,b∈F→w'.heap[b]? =w.heap[b]?):Sat G (ρ++e) w' o r F:=
  Sat.mono_both.1 h hw
theorem SatF.mono {G:Gam} {ρ e:List Root} {w w':World} {fs:List Fld} {c:Array Value} {o:Nat} {F:List Nat} (h:SatF G ρ w fs c o F) (hw: ∀b,b∈F→w'.heap[b]? =w.heap[b]?):SatF G (ρ++e) w' fs c o F:=
  Sat.mono_both.2 h hw
abbrev AHeap:=List (Option AObj)
structure SatHF (G:Gam) (ρ:List Root) (w:World) (H:AHeap) (Fs:Nat→List Nat):Prop where
  len:H.length=ρ.length
  sat: ∀l o,H[l]? =some (some o)→ ∃r,ρ[l]? =some r∧Sat G ρ w o r (Fs l)
  apart: ∀l o l' o' b,H[l]? =some (some o)→H[l']? =some (some o')→b∈Fs l→b∈Fs l'→l=l'
  free: ∀l o b,H[l]? =some (some o)→b∈Fs l→ ¬ G.prot b∧b<w.heap.size
  wok:WOK G w
def SatH (G:Gam) (ρ:List Root) (w:World) (H:AHeap):Prop:= ∃Fs,SatHF G ρ w H Fs
theorem SatHF.step {G:Gam} {ρ e:List Root} {w w':World} {H H':AHeap} {Fs Fs':Nat→List Nat} (h:SatHF G ρ w H Fs) (D:List Nat) (T:Nat→Prop)
    (hD: ∀b,b∈D→ ∃l o,T l∧H[l]? =some (some o)∧b∈Fs l)
    (hsz:w.heap.size≤w'.heap.size) (hkeep: ∀b,b<w.heap.size→b∉D→w'.heap[b]? =w.heap[b]?)
    (hos:SameOs w w') (htape:w'.tape=w.tape) (hout:w'.output=w.output)
    (hlen:H'.length=(ρ++e).length)
    (hold: ∀l o,¬ T l→H'[l]? =some (some o)→H[l]? =some (some o)∧Fs' l=Fs l)
    (hnew: ∀l o,T l→H'[l]? =some (some o)→(∃r,(ρ++e)[l]? =some r∧Sat G (ρ++e) w' o r (Fs' l))∧ ∀b,b∈Fs' l→(b∈D∨w.heap.size≤b)∧b<w'.heap.size)
    (hap: ∀l o l' o' b,T l→T l'→H'[l]? =some (some o)→H'[l']? =some (some o')→b∈Fs' l→b∈Fs' l'→l=l'):
    SatHF G (ρ++e) w' H' Fs':=by
  have hsep: ∀l o b,¬ T l→H[l]? =some (some o)→b∈Fs l→b∉D∧b<w.heap.size:=by
    intro l o b hT hl hb
    refine ⟨fun hbD=>?_,(h.free l o b hl hb).2⟩
    obtain ⟨l2,o2,hT2,hl2,hb2⟩:=hD b hbD
    have:=h.apart l o l2 o2 b hl hl2 hb hb2
    subst this
    exact hT hT2
  have hDfree: ∀b,b∈D→ ¬ G.prot b:=by
    intro b hb
    obtain ⟨l2,o2,_,hl2,hb2⟩:=hD b hb
    exact (h.free l2 o2 b hl2 hb2).1
  refine ⟨hlen,?_,?_,?_,?_⟩
  · intro l o hl
    by_cases hT:T l
    · exact (hnew l o hT hl).1
    · obtain ⟨h1,h2⟩:=hold l o hT hl
      obtain ⟨r,hr,hs⟩:=h.sat l o h1
      refine ⟨r,getElem?_ext hr,?_⟩
      rw [h2]
      exact hs.mono fun b hb=>let ⟨x,y⟩:=hsep l o b hT h1 hb;hkeep b y x
  · intro l o l' o' b hl hl' hb hb'
    by_cases hT:T l<;>by_cases hT':T l'
    · exact hap l o l' o' b hT hT' hl hl' hb hb'
    · obtain ⟨h1,h2⟩:=hold l' o' hT' hl'
      rw [h2] at hb'
      obtain ⟨x,y⟩:=hsep l' o' b hT' h1 hb'
      rcases ((hnew l o hT hl).2 b hb).1 with hx |hx
      · exact absurd hx x
      · omega
    · obtain ⟨h1,h2⟩:=hold l o hT hl
      rw [h2] at hb
      obtain ⟨x,y⟩:=hsep l o b hT h1 hb
      rcases ((hnew l' o' hT' hl').2 b hb').1 with hx |hx
      · exact absurd hx x
      · omega
    · obtain ⟨h1,h2⟩:=hold l o hT hl
      obtain ⟨h1',h2'⟩:=hold l' o' hT' hl'
      rw [h2] at hb;rw [h2'] at hb'
      exact h.apart l o l' o' b h1 h1' hb hb'
  · intro l o b hl hb
    by_cases hT:T l
    · obtain ⟨hx,hy⟩:=(hnew l o hT hl).2 b hb
      refine ⟨?_,hy⟩
      rcases hx with hx |hx
      · exact hDfree b hx
      · intro hp
        have:=(h.wok.prot b hp).1
        have:=h.wok.size
        omega
    · obtain ⟨h1,h2⟩:=hold l o hT hl
      rw [h2] at hb
      have:=h.free l o b h1 hb
      exact ⟨this.1,by omega⟩
  · refine ⟨fun b hb=>?_,by have:=h.wok.size;omega,h.wok.os.trans hos,htape.trans h.wok.tape,hout.trans h.wok.output⟩
    obtain ⟨h1,h2⟩:=h.wok.prot b hb
    refine ⟨h1,?_⟩
    rw [←h2]
    exact hkeep b (by have:=h.wok.size;omega) (fun hx=>hDfree b hx hb)
theorem SatHF.lab {G:Gam} {ρ:List Root} {w:World} {H:AHeap} {Fs:Nat→List Nat} (h:SatHF G ρ w H Fs) {l:Nat} {o:AObj} (hl:H[l]? =some (some o)):l<H.length:=
  (List.getElem?_eq_some_iff.1 hl).1
theorem SatH.same {G:Gam} {ρ:List Root} {w w':World} {H:AHeap} (h:SatH G ρ w H) (hh:w'.heap=w.heap) (hos:SameOs w w') (htape:w'.tape=w.tape) (hout:w'.output=w.output):SatH G ρ w' H:=by
  obtain ⟨Fs,h⟩:=h
  have:=h.step (e:=[]) (w':=w') (H':=H) (Fs':=Fs) [] (fun _=>False) (by simp) (by rw [hh];exact Nat.le_refl _) (fun b _ _=>by rw [hh]) hos htape hout (by simpa using h.len)
    (fun l o _ hl=>⟨hl,rfl⟩) (fun l o hT=>hT.elim) (fun l o l' o' b hT=>hT.elim)
  exact ⟨Fs,by simpa using this⟩
theorem SatH.set {G:Gam} {ρ:List Root} {w w':World} {H:AHeap} {Fs:Nat→List Nat} (h:SatHF G ρ w H Fs) {l:Nat} {o:AObj} (hl:H[l]? =some (some o)) (o':AObj) (F':List Nat)
    (hsz:w.heap.size≤w'.heap.size) (hkeep: ∀b,b<w.heap.size→b∉Fs l→w'.heap[b]? =w.heap[b]?) (hos:SameOs w w') (htape:w'.tape=w.tape) (hout:w'.output=w.output)
    (hs: ∀r,ρ[l]? =some r→Sat G ρ w' o' r F') (hF: ∀b,b∈F'→(b∈Fs l∨w.heap.size≤b)∧b<w'.heap.size):
    SatHF G ρ w' (H.set l (some o')) (fun x=>if x=l then F' else Fs x):=by
  have hlt:=h.lab hl
  have:=h.step (e:=[]) (w':=w') (H':=H.set l (some o')) (Fs':=fun x=>if x=l then F' else Fs x) (Fs l) (fun x=>x=l) (fun b hb=>⟨l,o,rfl,hl,hb⟩) hsz hkeep hos htape hout (by simpa using h.len)
    (fun l' o2 hT hl'=>by
      have hne:l'≠l:=hT
      rw [List.getElem?_set_ne (Ne.symm hne)] at hl'
      exact ⟨hl',by simp [hne]⟩)
    (fun l' o2 hT hl'=>by
      subst hT
      rw [List.getElem?_set_self hlt] at hl'
      simp at hl';subst hl'
      obtain ⟨r,hr,_⟩:=h.sat _ o hl
      exact ⟨⟨r,by simpa using hr,by simpa using hs r hr⟩,by simpa using hF⟩)
    (fun l1 o1 l2 o2 b h1 h2 _ _ _ _=>h1.trans h2.symm)
  simpa using this
theorem SatH.push {G:Gam} {ρ:List Root} {w w':World} {H:AHeap} {Fs:Nat→List Nat} (h:SatHF G ρ w H Fs) (o':AObj) (r:Root) (F':List Nat)
    (hsz:w.heap.size≤w'.heap.size) (hkeep: ∀b,b<w.heap.size→w'.heap[b]? =w.heap[b]?) (hos:SameOs w w') (htape:w'.tape=w.tape) (hout:w'.output=w.output)
    (hs:Sat G (ρ++[r]) w' o' r F') (hF: ∀b,b∈F'→w.heap.size≤b∧b<w'.heap.size):
    SatHF G (ρ++[r]) w' (H++[some o']) (fun x=>if x=H.length then F' else Fs x):=by
  have hlen:=h.len
  refine h.step (e:=[r]) (w':=w') (H':=H++[some o']) (Fs':=fun x=>if x=H.length then F' else Fs x) [] (fun x=>x=H.length) (by simp) hsz (fun b hb _=>hkeep b hb) hos htape hout (by simp [hlen])
    (fun l' o2 hT hl'=>by
      have hne:l'≠H.length:=hT
      have hlt:l'<H.length:=by
        have:=(List.getElem?_eq_some_iff.1 hl').1
        simp at this;omega
      rw [List.getElem?_append_left hlt] at hl'
      exact ⟨hl',by simp [hne]⟩)
    (fun l' o2 hT hl'=>by
      subst hT
      simp at hl';subst hl'
      exact ⟨⟨r,by simp [hlen],by simpa using hs⟩,fun b hb=>by
        have:=hF b (by simpa using hb)
        exact ⟨.inr this.1,this.2⟩⟩)
    (fun l1 o1 l2 o2 b h1 h2 _ _ _ _=>h1.trans h2.symm)
theorem SatH.drop {G:Gam} {ρ:List Root} {w:World} {H:AHeap} (h:SatH G ρ w H) (l:Nat):SatH G ρ w (H.set l none):=by
  obtain ⟨Fs,h⟩:=h
  have:=h.step (e:=[]) (w':=w) (H':=H.set l none) (Fs':=Fs) [] (fun _=>False) (by simp) (Nat.le_refl _) (fun b _ _=>rfl) .rfl rfl rfl (by simpa using h.len)
    (fun l' o _ hl=>by
      by_cases hne:l'=l
      · subst hne
        by_cases hlt:l'<H.length
        · rw [List.getElem?_set_self hlt] at hl;simp at hl
        · rw [List.getElem?_eq_none (by simp;omega)] at hl;simp at hl
      · rw [List.getElem?_set_ne (Ne.symm hne)] at hl
        exact ⟨hl,rfl⟩) (fun l o hT=>hT.elim) (fun l o l' o' b hT=>hT.elim)
  exact ⟨Fs,by simpa using this⟩
theorem SatH.move {G:Gam} {ρ:List Root} {w w':World} {H:AHeap} {Fs:Nat→List Nat} (h:SatHF G ρ w H Fs) {l:Nat} {o:AObj} (hl:H[l]? =some (some o)) (o':AObj) (r:Root) (F':List Nat)
    (hsz:w.heap.size≤w'.heap.size) (hkeep: ∀b,b<w.heap.size→b∉Fs l→w'.heap[b]? =w.heap[b]?) (hos:SameOs w w') (htape:w'.tape=w.tape) (hout:w'.output=w.output)
    (hs:Sat G (ρ++[r]) w' o' r F') (hF: ∀b,b∈F'→(b∈Fs l∨w.heap.size≤b)∧b<w'.heap.size):
    SatHF G (ρ++[r]) w' (H.set l none++[some o']) (fun x=>if x=H.length then F' else Fs x):=by
  have hlen:=h.len
  have hlt:=h.lab hl
  refine h.step (e:=[r]) (w':=w') (H':=H.set l none++[some o']) (Fs':=fun x=>if x=H.length then F' else Fs x) (Fs l) (fun x=>x=l∨x=H.length) (fun b hb=>⟨l,o,.inl rfl,hl,hb⟩) hsz hkeep hos htape hout (by simp [hlen])
    (fun l' o2 hT hl'=>by
      have hne:l'≠H.length:=fun h=>hT (.inr h)
      have hne2:l'≠l:=fun h=>hT (.inl h)
      have hlt':l'<H.length:=by
        have:=(List.getElem?_eq_some_iff.1 hl').1
        simp at this;omega
      rw [List.getElem?_append_left (by simpa using hlt'),List.getElem?_set_ne (Ne.symm hne2)] at hl'
      exact ⟨hl',by simp [hne]⟩)
    (fun l' o2 hT hl'=>by
      rcases hT with hT |hT
      · subst hT
        rw [List.getElem?_append_left (by simpa using hlt),List.getElem?_set_self hlt] at hl'
        simp at hl'
      · subst hT
        simp at hl';subst hl'
        exact ⟨⟨r,by simp [hlen],by simpa using hs⟩,fun b hb=>by
          have:=hF b (by simpa using hb)
          exact this⟩)
    (fun l1 o1 l2 o2 b h1 h2 hl1 hl2 _ _=>by
      rcases h1 with h1 |h1
      · subst h1
        rw [List.getElem?_append_left (by simpa using hlt),List.getElem?_set_self hlt] at hl1
        simp at hl1
      · rcases h2 with h2 |h2
        · subst h2
          rw [List.getElem?_append_left (by simpa using hlt),List.getElem?_set_self hlt] at hl2
          simp at hl2
        · exact h1.trans h2.symm)
end Go.Ax
