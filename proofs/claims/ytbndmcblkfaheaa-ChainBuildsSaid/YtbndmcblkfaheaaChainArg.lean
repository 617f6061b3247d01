/- Proved: the law ChainBuilds of package scutagelaw08 over any arguments that read as data. -/
import Derived.Test.YtbndmcblkfaheaaChainBuilds
namespace Go.Proofs.Ytbndmcblkfaheaa.ChainArg
open Go.RowKit Go.Proofs.Ytbndmcblkfaheaa.H Go.Proofs.Ytbndmcblkfaheaa.Words

theorem builds_law {w : World} (words : Int) (_h1 : (Lit.int .i64 words).wf = true) (p : Int) (_h2 : (Lit.int .i64 p).wf = true) (k : Int) (_h3 : (Lit.int .i64 k).wf = true) (fill : Int) (_h4 : (Lit.int .i64 fill).wf = true) :
    Calls Try.prog 4 #[.int .i64 words, .int .i64 p, .int .i64 k, .int .i64 fill] w (Same w (.bool true)) := Chain.builds_any words p k fill w

end Go.Proofs.Ytbndmcblkfaheaa.ChainArg
